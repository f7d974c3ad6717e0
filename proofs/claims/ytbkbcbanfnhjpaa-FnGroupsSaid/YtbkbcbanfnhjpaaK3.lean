/- The permutations of a group: the statement's text. -/
import Derived.Test.YtbkbcbanfnhjpaaK2
namespace Go.Proofs.Ytbkbcbanfnhjpaa
open Go Go.RowKit

theorem cell_of {w W : World} {b o B : Nat} {v : Value} (h : w.cell? ⟨b, o, none⟩ = some v) (hE : Ext B w W) (hb : b < B) : W.cell? ⟨b, o, none⟩ = some v := by
  rw [hE.1.cell (p := ⟨b, o, none⟩) hb]; exact h
set_option maxRecDepth 20000 in
set_option maxHeartbeats 8000000 in
theorem s_elements (n : Nat) (r : Value) (rs : List Int) (w : World) (h : rdI w r rs) (hn : n ≤ 6) (hr : ∀ x ∈ rs, 0 ≤ x ∧ x < (facN n : Int)) (hl : rs.length ≤ 1048576) :
    Calls Try.prog 83 #[(.agg #[.int .i64 (n : Int), r])] w fun e w' => ∃ v, e = .returned v ∧ ownRR w.heap.size w' v (memF n rs) ∧ Below w.heap.size w w' := by
  obtain ⟨i1, hj, hy0, hy1, hy2⟩ := info_parts infoS
  obtain ⟨a, cap, hr0, hm, hc⟩ := id h
  have Hc := hid hc
  have Hr := hid hr
  subst hr0
  clear hc hm hr h
  go_enter Try.func83, Try.ntmps83
  go_wp2_with fail
  go_loopw [3, 4] (fun v i wr => ∃ (k : Nat) (es : List Value), k ≤ rs.length ∧ i = .int .i64 k ∧ Hid (ownE (w.heap.size + 1) wr v es (memF n (rs.take k))) ∧ Ext (w.heap.size + 1) (w.alloc (Obj.cells #[.int .i64 (n : Int), .slice a rs.length cap] 26)) wr) (fun _ i _ => rs.length - (intOf i).toNat)
  case atStart => exact ⟨0, [], by omega, rfl, hid (by have := own_made2 (w.alloc (Obj.cells #[.int .i64 (n : Int), .slice a rs.length cap] 26)); simp only [World.alloc, Array.size_push] at this ⊢; exact this), (Ext.base (by simp)).alloc _⟩
  case round =>
    obtain ⟨k, es, hk, rfl, HO, hE⟩ := hrel
    have c0 := hE.1.cell (p := ⟨w.heap.size, 0, none⟩) (by simp)
    have c1 := hE.1.cell (p := ⟨w.heap.size, 1, none⟩) (by simp)
    simp [go_sem] at c0 c1
    have hs := hE.2
    by_cases hlt : k < rs.length
    · obtain ⟨b, o, rfl, hcell⟩ := Hc.out (by intro e; subst e; simp at hlt)
      have h1 := hcell k hlt
      have hb := World.block_lt_of_cell? w _ h1
      simp at hb
      have h2 : wr.cell? ⟨b, o + k, none⟩ = some (.int .i64 rs[k]) := by rw [hE.1.cell (p := ⟨b, o + k, none⟩) (by show b < w.heap.size + 1; omega), alloc_cell, if_neg (by omega)]; exact h1
      have hrg := Hr.out _ (List.getElem_mem hlt)
      have hsn := memF_snoc (n := n) hlt
      obtain ⟨x, hx⟩ : ∃ x, x = rs[k] := ⟨_, rfl⟩
      rw [← hx] at h2 hrg hsn
      have HS := hid hsn
      have HE := hid hE
      have hpl : (memF n (rs.take k)).length = k := by rw [memF_len, List.length_take]; omega
      have hltz : (k : Int) < (rs.length : Int) := by omega
      have hEB : Ext (w.heap.size + 1) wr wr := Ext.base hs
      have hnn : w.heap.size < w.heap.size + 1 := by omega
      have hbb : b < w.heap.size + 1 := by omega
      have HPL := hid hpl
      clear hx hsn hcell h1 hE hpl
      go_wp2_with fail
      go_region_held3 (fun w' => (∀ b o, b < w.heap.size + 1 → w'.cell? ⟨b, o, none⟩ = wr.cell? ⟨b, o, none⟩) ∧ Hid (Ext (w.heap.size + 1) wr w')) ((refine sB ?_; repeat (with_reducible first | assumption | apply Ext.aft | apply Ext.alloc | apply Ext.drew | apply Ext.drewN))) (first | (go_at_call 96; refine viaI (g := id) (s_with n x _ hn hrg.1 hrg.2) ?_; intro t1 u1 z1 own1; (try simp at z1); obtain ⟨a1, c1, hsh, _, _⟩ := own1.rd; subst hsh) | (refine step_append_own (by rfl) _ _ 37 (by rfl) (w.heap.size + 1) 24 i1 (.slice none 0 0) 1 24 Try.underlying37 hj hy0 hy1 hy2 rfl (by decide) _ (memF n (rs.take k)).length es (by rfl) (HO.out.below (by refine Ext.bel ?_; repeat (with_reducible first | exact Ext.refl _ | apply Ext.alloc | apply Ext.aft | apply Ext.drew | apply Ext.drewN))).2.1 ⟨_, 0, none⟩ 1 1 [_] (by rfl) (by rfl) one_new (by intro u hu; simp at hu; subst hu; exact own_one own1) (by rw [HPL.out]; unfold maxLen; omega) (by rw [HPL.out]; omega) (by simp; omega) ?_; intro v3 w3 hw3 hg3; have hE3 := Ext.grown (show Ext (w.heap.size + 1) wr _ by (repeat (with_reducible first | exact hEB | apply Ext.aft | apply Ext.alloc | apply Ext.drew))) hg3 (ownE.row HO.out)))
      have HN : Hid (ownE (w.heap.size + 1) w3 v3 (es ++ [.slice a1 (withF n x).length c1]) (memF n (rs.take (k + 1)))) := hid (by
        rw [HS.out]
        exact ownE.snoc (HO.out.below (by refine Ext.bel ?_; repeat (with_reducible first | exact Ext.refl _ | apply Ext.alloc | apply Ext.aft | apply Ext.drew | apply Ext.drewN))) ((own1.mono (by first | exact hs | (simp; omega) | omega)).alloc _) (by first | exact hw3 | (rw [HPL.out]; exact hw3)) hg3)
      have HE1 := hid (⟨HE.out.1.trans hE3.1, hE3.2⟩ : Ext (w.heap.size + 1) (w.alloc (Obj.cells #[.int .i64 (n : Int), .slice (some ⟨b, o, none⟩) rs.length cap] 26)) w3)
      clear hw3 hg3 own1 hE3
      go_wp2_with fail
      go_roundw
      case rel => exact ⟨k + 1, es ++ [.slice a1 (withF n x).length c1], by omega, by go_num, HN, HE1.out⟩
      case measure => simp only [intOf]; omega
    · obtain rfl : k = rs.length := by omega
      rw [List.take_length] at HO
      have hltz : ¬ (rs.length : Int) < (rs.length : Int) := by omega
      have HE := hid hE
      clear hE
      go_wp2_with fail
      go_ret
      exact ⟨_, rfl, ⟨es, HO.out.mono (by omega)⟩, ((Below.refl _ w).alloc (Nat.le_refl _) _).trans (HE.out.1.mono (by omega))⟩
end Go.Proofs.Ytbkbcbanfnhjpaa
