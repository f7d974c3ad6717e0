/- The center: the program's text, whole. -/
import Derived.Test.YtbkbcbanfnhjpaaU1
namespace Go.Proofs.Ytbkbcbanfnhjpaa
open Go Go.RowKit

set_option maxRecDepth 20000 in
set_option maxHeartbeats 8000000 in
theorem i_center (m : Nat) (r : Value) (rs : List Int) (w : World) (zs : List Int) (h : rdI w r rs) (hm1 : 1 ≤ m) (hm6 : m ≤ 6) (hr : ∀ x ∈ rs, 0 ≤ x ∧ x < (facN m : Int)) (hpw : rs.Pairwise (· < ·)) (hl : rs.length ≤ 720) (hz : filtF m rs (centB m rs) = zs) :
    Calls Try.prog 59 #[(.agg #[.int .i64 (m : Int), r])] w fun e w' => ∃ s, e = .returned (.agg #[.int .i64 (m : Int), s]) ∧ ownR w.heap.size w' s zs ∧ Below w.heap.size w w' := by
  have hR := (h.alloc (Obj.cells #[.int .i64 (m : Int), r] 26)).alloc (Obj.cells #[.int .i64 0, .slice none 0 0] 26)
  have Hr := hid hr
  have Hpw := hid hpw
  have HZ := hid hz
  have ek : ∀ args w, (callFunc 118 args).run Try.prog w = .ok (.enter 118 args) w := entersT Try.func118 (by kernel_rfl) rfl
  have Ek := hid ek
  clear hr hpw hz h ek
  go_enter Try.func59, Try.ntmps59
  go_wp2_with fail
  refine viaX (g := id) (i_members m _ rs _ hR hm6 Hr.out (by omega)) ?_
  intro v2 u2 z2 own2
  try simp at z2
  obtain ⟨W, hW⟩ : ∃ W, W = aft ((w.alloc (Obj.cells #[.int .i64 (m : Int), r] 26)).alloc (Obj.cells #[.int .i64 0, .slice none 0 0] 26)) u2 := ⟨_, rfl⟩
  have hM := own2.rd
  obtain ⟨am, cm, hv2, _, _⟩ := own2.rd
  subst hv2
  have HE : Hid (Ext w.heap.size w W) := hid (by rw [hW]; exact (by repeat (with_reducible first | exact Ext.refl _ | apply Ext.alloc | apply Ext.aft | apply Ext.drew | apply Ext.drewN | apply Ext.setCell | exact Nat.le_add_right _ _ | exact Nat.le_refl _ | (simp; done) | omega)))
  have hRW := hid (show rdI W r rs by rw [hW]; exact hR.aft _)
  have c0 : W.cell? ⟨w.heap.size, 0, none⟩ = some (.int .i64 (m : Int)) := by rw [hW]; simp [go_sem]
  have c1 : W.cell? ⟨w.heap.size, 1, none⟩ = some r := by rw [hW]; simp [go_sem]
  have hres : resOK (w.heap.size + 1) W := by
    intro k hk
    obtain rfl | rfl : k = 0 ∨ k = 1 := by omega
    all_goals (rw [hW]; simp [go_sem])
  rw [← hW] at hM ⊢
  have hb0 := World.block_lt_of_cell? W _ c0
  have hs1 : w.heap.size + 1 < W.heap.size := by rw [hW]; omega
  simp only at hb0
  have HM := hid hM
  have HRES := hid hres
  clear hW own2 hM hR hres z2
  obtain ⟨ML, hML⟩ : ∃ ML, ML = (memF m rs).length := ⟨_, rfl⟩
  rw [← hML] at HM ⊢
  clear hML
  have hpk : keepR 118 #[] #[.pointer (some ⟨W.heap.size, 0, none⟩)] (centB m rs) (memF m rs) (W.alloc (.cells #[.slice am ML cm] 37)) := by
    intro W' v X hb hX hv
    have hX2 : ∃ y ∈ rs, withF m y = X := by simpa [memF] using hX
    obtain ⟨y, hy, rfl⟩ := hX2
    have hwy := with_ok hm6 (Hr.out _ hy).1 (Hr.out _ hy).2
    have hcc : (W.alloc (.cells #[.slice am ML cm] 37)).cell? ⟨W.heap.size, 0, none⟩ = some (.slice am ML cm) := by rw [alloc_cell, if_pos rfl]; rfl
    refine i_center1 m rs (.slice am ML cm) v (withF m y) W.heap.size W' ?_ (HM.out.below ?_) hv hwy.len hwy.rng hm1 hm6 Hr.out
    · rw [hb.cell (p := ⟨W.heap.size, 0, none⟩) (World.block_lt_of_cell? _ _ hcc)]; exact hcc
    · exact (Ext.bel ((Ext.refl W).alloc _)).trans (hb.mono (by simp))
  have HK := hid hpk
  clear hpk
  go_wp2_with fail
  refine viaG (i_filteredE m _ rs _ _ (centB m rs) _ zs Ek.out HK.out (hRW.out.alloc _) hm6 Hr.out Hpw.out hl HZ.out) ?_
  intro v3 u3 z3 own3
  try simp at z3
  have hE9 : Ext W.heap.size W (aft (W.alloc (.cells #[.slice am ML cm] 37)) u3) := by exact ((Ext.refl _).alloc _).aft _
  have hR10 := HRES.out.below hE9.1 hs1
  obtain ⟨y0, hy0⟩ := Option.isSome_iff_exists.1 (hR10 0 (by omega)).2
  obtain ⟨y1, hy1⟩ := Option.isSome_iff_exists.1 (hR10 1 (by omega)).2
  have hf0 := (hR10 0 (by omega)).1
  have hf1 := (hR10 1 (by omega)).1
  obtain ⟨a9, c9, hsh9, _, _⟩ := own3.rd
  subst hsh9
  have HE9 := hid hE9
  have hEs := hE9.2
  clear hR10 hE9
  go_wp2_with fail
  exact bodyPost_ret (v := .agg #[.int .i64 (m : Int), .slice a9 zs.length c9]) (by simp [results, go_sem, hy0, hy1]) rfl ⟨_, rfl, ((own3.setCell _ _ _ _ (by simp; omega)).setCell _ _ _ _ (by simp; omega)).mono (by simp; omega), Ext.bel (((HE.out.below HE9.out.1).setCell _ _ _ _ (by omega)).setCell _ _ _ _ (by omega))⟩
end Go.Proofs.Ytbkbcbanfnhjpaa
