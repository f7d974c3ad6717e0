/- Marks that leave all other rows as they were. -/
import Derived.Test.YtdhnpmjoajaeiaaH3
namespace Go.Proofs.Ytdhnpmjoajaeiaa
open Go Go.RowKit

open Classical in
/-- u, where u is w but for one row of the call's own (rb, from block B on), and what came later; else w. -/
noncomputable def aftG (B : Nat) (rb : Option Nat) (w u : World) : World := if w.grownBy u rb ∧ (∀ k, rb = some k → B ≤ k) then u else w
theorem aftG_spec (B : Nat) (rb : Option Nat) (w u : World) : w.grownBy (aftG B rb w u) rb ∧ ((∀ k, rb = some k → B ≤ k) ∨ aftG B rb w u = w) := by
  unfold aftG; split
  · rename_i h; exact ⟨h.1, .inl h.2⟩
  · exact ⟨grownBy_refl _ _, .inr rfl⟩
theorem aftG_ex {B : Nat} {rb : Option Nat} {w w' : World} (h : w.grownBy w' rb) (hb : ∀ k, rb = some k → B ≤ k) : ∃ u, w' = aftG B rb w u := ⟨w', by unfold aftG; rw [if_pos ⟨h, hb⟩]⟩
theorem size_aftG (B : Nat) (rb : Option Nat) (w u : World) : w.heap.size ≤ (aftG B rb w u).heap.size := (aftG_spec B rb w u).1.size
theorem le_aftG {B b : Nat} {rb : Option Nat} {w u : World} (h : b ≤ w.heap.size) : b ≤ (aftG B rb w u).heap.size := Nat.le_trans h (size_aftG _ _ _ _)
theorem below_aftG (B : Nat) (rb : Option Nat) (w u : World) (hB : B ≤ w.heap.size) : Below B w (aftG B rb w u) := by
  rcases aftG_spec B rb w u with ⟨h, h1 | h1⟩
  · exact Below.grown (Below.refl _ _) h hB h1
  · rw [h1]; exact Below.refl _ _
noncomputable def nwCG (B : Nat) (rb : Option Nat) (w u : World) (b o : Nat) : Option Value := (aftG B rb w u).cell? ⟨b, o, none⟩
noncomputable def nwFG (B : Nat) (rb : Option Nat) (w u : World) (b o : Nat) : Bool := (aftG B rb w u).frozen? ⟨b, o, none⟩
theorem aftG_cell (B : Nat) (rb : Option Nat) (w u : World) (b o : Nat) : (aftG B rb w u).cell? ⟨b, o, none⟩ = if b < B ∧ B ≤ w.heap.size then w.cell? ⟨b, o, none⟩ else nwCG B rb w u b o := by
  split
  · rename_i h; exact (below_aftG B rb w u h.2).cell (p := ⟨b, o, none⟩) h.1
  · rfl
theorem aftG_frozen (B : Nat) (rb : Option Nat) (w u : World) (b o : Nat) : (aftG B rb w u).frozen? ⟨b, o, none⟩ = if b < B ∧ B ≤ w.heap.size then w.frozen? ⟨b, o, none⟩ else nwFG B rb w u b o := by
  split
  · rename_i h; exact (below_aftG B rb w u h.2).frozen (p := ⟨b, o, none⟩) h.1
  · rfl
attribute [go_sem] aftG_cell aftG_frozen
theorem Ext.aftG {B0 B : Nat} {w W : World} (h : Ext B0 w W) (rb : Option Nat) (u : World) (hB : B0 ≤ B) (hs : B ≤ W.heap.size) : Ext B0 w (aftG B rb W u) := ⟨h.1.trans ((below_aftG B rb W u hs).mono hB), Nat.le_trans h.2 (size_aftG _ _ _ _)⟩

/-- v's row is another one. -/
def rowNe (v : Value) (rb : Option Nat) : Prop := ∀ k, v.ownBlock = some k → rb ≠ some k
theorem rowNe_lt {L L' : Nat} {v r : Value} (h : rowLt L v) (h2 : ∀ k, r.ownBlock = some k → L' ≤ k) (hl : L ≤ L') : rowNe v r.ownBlock := fun k hk e => by
  have := h k hk; have := h2 k e; omega
theorem rowNe_gt {L L' : Nat} {v r : Value} (h : rowLt L r) (h2 : ∀ k, v.ownBlock = some k → L' ≤ k) (hl : L ≤ L') : rowNe v r.ownBlock := fun k hk e => by
  have := h k e; have := h2 k hk; omega
theorem rdI.aftG {B : Nat} {rb : Option Nat} {w : World} {v : Value} {xs : List Int} (h : rdI w v xs) (u : World) (hn : rowNe v rb) : rdI (Go.Proofs.Ytdhnpmjoajaeiaa.aftG B rb w u) v xs := by
  obtain ⟨a, cap, rfl, hm, hc⟩ := h
  refine ⟨a, cap, rfl, hm, fun hne => ?_⟩
  obtain ⟨b, o, rfl, hcell⟩ := hc hne
  refine ⟨b, o, rfl, fun i hi => ?_⟩
  have h1 := hcell i hi
  have hb := World.block_lt_of_cell? w _ h1
  have hk := (aftG_spec B rb w u).1.block b hb (fun e => (hn b rfl) e.symm)
  rw [← h1]
  unfold World.cell?
  rw [hk]
theorem ownR.aftG {B0 B : Nat} {rb : Option Nat} {w : World} {v : Value} {xs : List Int} (h : ownR B0 w v xs) (u : World) (hn : rowNe v rb) : ownR B0 (Go.Proofs.Ytdhnpmjoajaeiaa.aftG B rb w u) v xs :=
  h.kept fun k hk e => (aftG_spec B rb w u).1.block k hk (fun e2 => (hn k e) e2.symm)

set_option maxHeartbeats 1000000 in
theorem l_markG (B : Nat) (r : Value) (xs : List Int) (k : Int) (w : World) (h : ownR B w r xs) (hk : 0 ≤ k ∧ k ≤ 1000000000000000) (hl : xs.length ≤ 1000000000000000) :
    Calls Try.prog 9 #[r, .int .i64 k] w fun e w' => e = .returned (.int .i64 (k + xs.length)) ∧ ownR B w' r (marks k xs.length) ∧ w.grownBy w' r.ownBlock := by
  rcases h.2 with ⟨rfl, hn⟩ | ⟨g, cap, cur, rfl, hg, hh, hr⟩
  · obtain rfl : xs = [] := List.eq_nil_of_length_eq_zero hn
    go_enter Try.func9, Try.ntmps9
    go_wp2_with fail
    refine wp_loop_rounds 1 ?_; rw [rounds_succ]
    go_wp2
    go_ret
    exact ⟨ret_i (by simp), by simpa [marks] using ownR.nil B w, grownBy_refl _ _⟩
  have hlt0 : g < w.heap.size := (Array.getElem?_eq_some_iff.1 hh).1
  have H0 := hid h
  have hn : xs.length ≤ cap := hr.1
  clear hh hr h
  go_enter Try.func9, Try.ntmps9
  go_wp2_with fail
  go_loopw [1, 5] (fun kk i wr => ∃ j : Nat, j ≤ xs.length ∧ i = .int .i64 j ∧ kk = .int .i64 (k + j) ∧ wr.ownsRow B 2 1 (.slice (some ⟨g, 0, none⟩) xs.length cap) xs.length (vI (marks k j ++ xs.drop j)) ∧ w.grownBy wr (some g)) (fun _ i _ => xs.length - (intOf i).toNat)
  case atStart => exact ⟨0, by omega, rfl, by go_num, by have := H0.out; unfold ownR at this; simpa [marks] using this, grownBy_refl _ _⟩
  case round =>
    obtain ⟨j, hj, rfl, rfl, hown, hgr⟩ := hrel
    by_cases hlt : j < xs.length
    · have h1 := hown.cellAt j (by omega)
      have hlen : (vI (marks k j ++ xs.drop j)).length = xs.length := by rw [vI_len, List.length_append, marks_len, List.length_drop]; omega
      obtain ⟨x, hx⟩ : ∃ x, (vI (marks k j ++ xs.drop j))[j]? = some x := ⟨_, List.getElem?_eq_getElem (by omega)⟩
      rw [hx] at h1
      have h2 := hown.frozenAt j
      have hst := hown.stored j (.int .i64 (k + j))
      rw [mark_step hlt] at hst
      have HS := hid hst
      have HG := hid hgr
      clear hst hx hlen hown hgr
      go_wp2
      go_roundw
      case rel => exact ⟨j + 1, by omega, by go_num, by go_num, HS.out.1, grownBy_trans HG.out HS.out.2⟩
      case measure => simp [intOf]; omega
    · obtain rfl : j = xs.length := by omega
      have HO := hid hown
      have HG := hid hgr
      clear hown hgr
      go_wp2
      go_ret
      refine ⟨rfl, ?_, HG.out⟩
      have := HO.out
      unfold ownR
      rw [marks_len]
      simpa using this
end Go.Proofs.Ytdhnpmjoajaeiaa
