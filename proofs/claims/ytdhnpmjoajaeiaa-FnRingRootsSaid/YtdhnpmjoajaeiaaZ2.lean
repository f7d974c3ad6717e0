/- Draws of polynomials. -/
import Derived.Test.YtdhnpmjoajaeiaaT29
import Derived.Test.YtdhnpmjoajaeiaaMA
namespace Go.Proofs.Ytdhnpmjoajaeiaa
open Go Go.RowKit

/-- A draw of something that lies in memory. -/
def DrawX (B b : Nat) (w : World) (Φ : World → Value → Prop) : Ending → World → Prop := fun e w' => ∃ v, e = .returned v ∧ Φ w' v ∧ w.grownBy w' (some b) ∧ src B b w'
theorem viaDX {P : Program} {f : FuncId} {args : Array Value} {B b : Nat} {w : World} {Φ : World → Value → Prop} {R : Ending → World → Prop}
    (h : Calls P f args w (DrawX B b w Φ)) (hR : ∀ v u, Φ (aftD b w u) v → src B b (aftD b w u) → w.heap.size ≤ (aftD b w u).heap.size → R (.returned v) (aftD b w u)) : Calls P f args w R :=
  h.mono fun e w' ⟨v, he, hp, hg, hs⟩ => by subst he; obtain ⟨u, rfl⟩ := aftD_ex hg; exact hR v u hp hs (size_aftD b w u)
theorem ownR.aftD {B b : Nat} {w : World} {v : Value} {xs : List Int} (h : ownR B w v xs) (u : World) (hb : b < B) : ownR B (Go.Proofs.Ytdhnpmjoajaeiaa.aftD b w u) v xs :=
  h.kept fun k hk e => aftD_blk ⟨hk, by have := own_row_ge h k e; omega⟩
theorem grown_newD {b : Nat} {wo w w' : World} {own : Option Nat} (h : Gr b wo w) (h2 : w.grownBy w' own) (ho : ∀ k, own = some k → wo.heap.size ≤ k) : Gr b wo w' :=
  ⟨h2.os.trans h.os, h2.tape.trans h.tape, h2.output.trans h.output, Nat.le_trans h.size h2.size, fun k hk hne => (h2.block k (Nat.lt_of_lt_of_le hk h.size) (fun e => absurd (ho k e.symm) (by omega))).trans (h.block k hk hne)⟩
theorem src.grown {B b : Nat} {w w' : World} {own : Option Nat} (h : src B b w) (hg : w.grownBy w' own) (hne : some b ≠ own) (hB : ∀ k, own = some k → B ≤ k) : src B b w' := by
  obtain ⟨a, len, cap, i, sd, hB', hb, hc, hf, h0, h1, h2, h3, h4, h5⟩ := h
  have hbl := hg.block b hb hne
  exact ⟨a, len, cap, i, sd, hB', Nat.lt_of_lt_of_le hb hg.size, fun o => (World.cell?_of_block (a := ⟨b, o, none⟩) hbl).trans (hc o), fun o => (World.frozen?_of_block (a := ⟨b, o, none⟩) hbl).trans (hf o), h0, h1, h2, h3, h4, h5.of fun j o v hj hv => hg.cell hv fun e => by have := hB j e.symm; (try simp only at this); omega⟩
set_option maxRecDepth 20000 in
set_option maxHeartbeats 8000000 in
theorem s_valid6 (B b : Nat) (d : Int) (w : World) (h : src B b w) (hd : 0 ≤ d ∧ d ≤ 9) :
    Calls Try.prog 75 #[.pointer (some ⟨b, 0, none⟩), .int .i64 d] w (DrawX B b w (fun w' v => ∃ xs, ownR w.heap.size w' v xs ∧ xs.length = d.toNat + 1)) := by
  obtain ⟨i0, hi, hz0, hz1, hz2⟩ := info_parts infoI
  obtain ⟨D, rfl⟩ : ∃ D : Nat, d = (D : Int) := ⟨d.toNat, by omega⟩
  have hb := h.lt
  have hB := h.ge
  go_enter Try.func75, Try.ntmps75
  go_wp2_with fail
  go_loopw [5, 6] (fun r i wr => ∃ (k : Nat) (xs : List Int), k ≤ D ∧ i = .int .i64 k ∧ xs.length = k ∧ Hid (ownR w.heap.size wr r xs ∧ Gr b w wr ∧ src B b wr)) (fun _ i _ => D - (intOf i).toNat)
  case atStart => exact ⟨0, [], by omega, rfl, rfl, hid ⟨own_made w, (Gr.refl b w).alloc _, h.alloc _⟩⟩
  case round =>
    obtain ⟨k, xs, hk, rfl, hxl, HO⟩ := hrel
    have hs0 := HO.out.2.2
    have hz0' := HO.out.2.1.size
    by_cases hlt : k < D
    · have hltz : (k : Int) < (D : Int) := by omega
      (go_wp2_with fail; refine viaDr (s_next B b _ _ (by assumption) (by omega)) ?_)
      intro x1 u1 hx1 hs1 hl1
      (try dsimp only at hx1)
      (go_wp2_with fail; refine viaDr (s_next B b _ _ (by assumption) (by omega)) ?_)
      intro x2 u2 hx2 hs2 hl2
      (try dsimp only at hx2)
      (go_wp2_with fail; refine viaDr (s_next B b _ _ (by assumption) (by omega)) ?_)
      intro x3 u3 hx3 hs3 hl3
      (try dsimp only at hx3)
      go_wp2_with fail
      refine viaDr (s_pickA B b _ _ _ [x1 - 6, x2 - 2, 0, x3 - 100] _ _ _ (by simp) rfl rfl hs3 (by decide) (by decide)) ?_
      intro y u4 hy hs4 hl4
      clear hy hx1 hx2 hx3 hs1 hs2 hs3
      (try simp at hl4)
      have hown := ((((HO.out.1.aftD u1 (by omega)).aftD u2 (by omega)).aftD u3 (by omega)).alloc (Obj.cells #[.int .i64 (x1 - 6), .int .i64 (x2 - 2), .int .i64 0, .int .i64 (x3 - 100)] 2)).aftD u4 (by omega)
      have hgr := ((((HO.out.2.1.aftD u1).aftD u2).aftD u3).alloc (Obj.cells #[.int .i64 (x1 - 6), .int .i64 (x2 - 2), .int .i64 0, .int .i64 (x3 - 100)] 2)).aftD u4
      obtain ⟨W, hW⟩ : ∃ W, W = aftD b ((aftD b (aftD b (aftD b wr u1) u2) u3).alloc (Obj.cells #[.int .i64 (x1 - 6), .int .i64 (x2 - 2), .int .i64 0, .int .i64 (x3 - 100)] 2)) u4 := ⟨_, rfl⟩
      rw [← hW] at hown hgr hs4 ⊢
      have HG := hid hgr
      have HS := hid hs4
      have hge := own_row_ge hown
      have HGE := hid hge
      clear hW hl1 hl2 hl3 hl4 hs0 HO hgr hs4 hge
      go_wp2_with (at_builtin; refine wpList_append_own _ rfl _ _ 24 rfl (w.heap.size) 2 i0 (.int .i64 0) 1 8 Try.underlying24 hi hz0 hz1 hz2 rfl (by decide) _ _ _ rfl (hown.alloc _) ⟨_, 0, none⟩ 1 1 [.int .i64 (y)] rfl rfl ?c1 ?c2 ?c3 ?c4 ?c5 ?_)
      try case c1 => exact cell_one_new _ _ _
      case c2 => first | rfl | (intro u hu; simp at hu; subst hu; rfl)
      case c3 => first | (unfold maxLen; omega) | (rw [hxl]; unfold maxLen; omega)
      case c4 => first | omega | (rw [hxl]; omega)
      case c5 => first | (have := HG.out.size; omega) | (have := HG.out.size; simp; omega)
      intro v' w1 hown' hgrow _
      have HG1 := hid (grown_newD (HG.out.alloc _) hgrow HGE.out)
      have HS1 := hid (src.grown (HS.out.alloc _) hgrow (fun e => by have := HGE.out b e.symm; omega) (fun k hk => by have := HGE.out k hk; omega))
      have HO1 : Hid (ownR w.heap.size w1 v' (xs ++ [y])) := hid (by first | exact ownR.snocK (xs := xs) hxl hown' | exact ownR.snocK (xs := xs) rfl hown')
      clear hown' hgrow hown
      go_wp2_with fail
      go_roundw
      case rel => exact ⟨k + 1, xs ++ [y], by omega, by go_num, by simp; omega, hid ⟨HO1.out, HG1.out, HS1.out⟩⟩
      case measure => simp only [intOf]; omega
    · obtain rfl : k = D := by omega
      have hltz : ¬ (k : Int) < (k : Int) := by omega
      (go_wp2_with fail; refine viaDr (s_next B b _ _ (by assumption) (by omega)) ?_)
      intro x1 u1 hx1 hs1 hl1
      (try dsimp only at hx1)
      (go_wp2_with fail; refine viaDr (s_next B b _ _ (by assumption) (by omega)) ?_)
      intro x2 u2 hx2 hs2 hl2
      (try dsimp only at hx2)
      go_wp2_with fail
      refine viaDr (s_pickA B b _ _ _ [1, 1, 1 + x1, -1 - x2] _ _ _ (by simp) rfl rfl hs2 (by decide) (by decide)) ?_
      intro y u4 hy hs4 hl4
      clear hy hx1 hx2 hs1 hs2
      (try simp at hl4)
      have hown := (((HO.out.1.aftD u1 (by omega)).aftD u2 (by omega)).alloc (Obj.cells #[.int .i64 1, .int .i64 1, .int .i64 (1 + x1), .int .i64 (-1 - x2)] 2)).aftD u4 (by omega)
      have hgr := (((HO.out.2.1.aftD u1).aftD u2).alloc (Obj.cells #[.int .i64 1, .int .i64 1, .int .i64 (1 + x1), .int .i64 (-1 - x2)] 2)).aftD u4
      obtain ⟨W, hW⟩ : ∃ W, W = aftD b ((aftD b (aftD b wr u1) u2).alloc (Obj.cells #[.int .i64 1, .int .i64 1, .int .i64 (1 + x1), .int .i64 (-1 - x2)] 2)) u4 := ⟨_, rfl⟩
      rw [← hW] at hown hgr hs4 ⊢
      have HG := hid hgr
      have HS := hid hs4
      have hge := own_row_ge hown
      have HGE := hid hge
      clear hW hl1 hl2 hl4 hs0 HO hgr hs4 hge
      go_wp2_with (at_builtin; refine wpList_append_own _ rfl _ _ 24 rfl (w.heap.size) 2 i0 (.int .i64 0) 1 8 Try.underlying24 hi hz0 hz1 hz2 rfl (by decide) _ _ _ rfl (hown.alloc _) ⟨_, 0, none⟩ 1 1 [.int .i64 (y)] rfl rfl ?c1 ?c2 ?c3 ?c4 ?c5 ?_)
      try case c1 => exact cell_one_new _ _ _
      case c2 => first | rfl | (intro u hu; simp at hu; subst hu; rfl)
      case c3 => first | (unfold maxLen; omega) | (rw [hxl]; unfold maxLen; omega)
      case c4 => first | omega | (rw [hxl]; omega)
      case c5 => first | (have := HG.out.size; omega) | (have := HG.out.size; simp; omega)
      intro v' w1 hown' hgrow _
      have HG1 := hid (grown_newD (HG.out.alloc _) hgrow HGE.out)
      have HS1 := hid (src.grown (HS.out.alloc _) hgrow (fun e => by have := HGE.out b e.symm; omega) (fun k hk => by have := HGE.out k hk; omega))
      have HO1 : Hid (ownR w.heap.size w1 v' (xs ++ [y])) := hid (by first | exact ownR.snocK (xs := xs) hxl hown' | exact ownR.snocK (xs := xs) rfl hown')
      clear hown' hgrow hown
      go_wp2_with fail
      go_ret
      exact ⟨_, rfl, ⟨_, HO1.out, by simp; omega⟩, HG1.out, HS1.out⟩
end Go.Proofs.Ytdhnpmjoajaeiaa
