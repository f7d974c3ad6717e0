/- CenterOf, IsAbelian: the statement's texts. -/
import Derived.Test.YtbkbcbanfnhjpaaU4
namespace Go.Proofs.Ytbkbcbanfnhjpaa
open Go Go.RowKit

set_option maxRecDepth 20000 in
set_option maxHeartbeats 8000000 in
theorem s_CenterOf (n : Int) (r : Value) (rs : List Int) (w : World) (h : rdI w r rs) (hl : rs.length ≤ 1048576) :
    Calls Try.prog 13 #[(.agg #[.int .i64 n, r])] w fun e w' => ∃ v, e = .returned (.tuple #[.agg #[.int .i64 (centF n rs).2.1, v], .int .i64 (centF n rs).2.2]) ∧ ownR w.heap.size w' v (centF n rs).1 ∧ Below w.heap.size w w' := by
  have hR := (h.alloc (Obj.cells #[.int .i64 n, r] 26)).alloc (Obj.cells #[.int .i64 0, .slice none 0 0] 26)
  cases hg : groupB n rs
  · have e : centF n rs = ([], 0, 1) := by simp [centF, hg]
    rw [e]; clear e
    have HG := hid hg
    clear hg
    go_enter Try.func13, Try.ntmps13
    go_wp2_with (first | (go_at_call 57; refine via (s_IsGroupE n _ rs _ false hR hl HG.out) ?_; intro uu zz; try simp at zz))
    exact bodyPost_ret (v := .tuple #[.agg #[.int .i64 0, .slice none 0 0], .int .i64 1]) (by first | (simp [results, go_sem]; done) | simp [results, go_sem, ↓IntWalk.iteOmega]) rfl ⟨_, rfl, ownR.nil _ _, (by refine Ext.bel ?_; repeat (with_reducible first | exact Ext.refl _ | apply Ext.alloc | apply Ext.aft | apply Ext.drew | apply Ext.drewN | apply Ext.setCell | exact Nat.le_add_right _ _ | exact Nat.le_refl _ | (simp; done) | omega))⟩
  obtain ⟨m, rfl, hm1, hm6, hne, hhd, hr, hpw, _⟩ := group_facts hg
  have hl7 : rs.length ≤ 720 := Nat.le_trans (asc_len hpw hr) (facN_le hm6)
  have Hr := hid hr
  obtain ⟨os, hos⟩ : ∃ os, filtF m rs (centB m rs) = os := ⟨_, rfl⟩
  have e : centF m rs = (os, (m : Int), 0) := by unfold centF; rw [if_pos hg]; simp only [Int.toNat_natCast]; rw [hos]
  rw [e]; clear e
  have HG := hid hg
  have HOS := hid hos
  obtain ⟨a0, cap0, hsh0, _, _⟩ := id h
  subst hsh0
  clear hg hr hpw hne hhd hos
  go_enter Try.func13, Try.ntmps13
  go_wp2_with (first | (go_at_call 57; refine via (s_IsGroupE (m : Int) _ rs _ true hR hl HG.out) ?_; intro uu zz; try simp at zz))
  obtain ⟨W, hW⟩ : ∃ W, W = aft ((w.alloc (Obj.cells #[.int .i64 (m : Int), .slice a0 rs.length cap0] 26)).alloc (Obj.cells #[.int .i64 0, .slice none 0 0] 26)) uu := ⟨_, rfl⟩
  have HE : Hid (Ext w.heap.size w W) := hid (by rw [hW]; exact (by repeat (with_reducible first | exact Ext.refl _ | apply Ext.alloc | apply Ext.aft | apply Ext.drew | apply Ext.drewN | apply Ext.setCell | exact Nat.le_add_right _ _ | exact Nat.le_refl _ | (simp; done) | omega)))
  have hRW := hid (show rdI W (.slice a0 rs.length cap0) rs by rw [hW]; exact hR.aft _)
  have c0 : W.cell? ⟨w.heap.size, 0, none⟩ = some (.int .i64 (m : Int)) := by rw [hW]; simp [go_sem]
  have c1 : W.cell? ⟨w.heap.size, 1, none⟩ = some (.slice a0 rs.length cap0) := by rw [hW]; simp [go_sem]
  have hb0 := World.block_lt_of_cell? W _ c0
  simp only at hb0
  have hs1 : w.heap.size + 1 < W.heap.size := by rw [hW]; omega
  have hres : resOK (w.heap.size + 1) W := by
    intro k hk
    obtain rfl | rfl : k = 0 ∨ k = 1 := by omega
    all_goals (rw [hW]; simp [go_sem])
  rw [← hW]
  have HRES := hid hres
  have hEB : Ext (w.heap.size + 1) W W := Ext.base (by omega)
  have hn0 : w.heap.size < w.heap.size + 1 := by omega
  clear hW hR zz hres
  go_region_held3 (fun w' => (∀ b o, b < w.heap.size + 1 → w'.cell? ⟨b, o, none⟩ = W.cell? ⟨b, o, none⟩) ∧ Hid (Ext (w.heap.size + 1) W w')) ((refine sB ?_; repeat (with_reducible first | assumption | exact Nat.le_refl _ | apply Ext.aft | apply Ext.alloc | apply Ext.drew | apply Ext.drewN | apply Ext.setCell))) (first | (go_at_call 60; refine viaI (g := id) (s_center m _ rs _ os (hRW.out.below (by refine Ext.bel ?_; repeat (with_reducible first | exact Ext.refl _ | apply Ext.alloc | apply Ext.aft | apply Ext.drew | apply Ext.drewN))) (by omega) hm6 Hr.out hl7 HOS.out) ?_; intro v9 u9 z9 own9; (try simp at z9); have hR10 : resOK (w.heap.size + 1) (aft W.drew u9) := HRES.out.below (by refine Ext.bel ?_; repeat (with_reducible first | exact Ext.refl _ | apply Ext.alloc | apply Ext.aft | apply Ext.drew | apply Ext.drewN)) hs1; obtain ⟨y0, hy0⟩ := Option.isSome_iff_exists.1 (hR10 0 (by omega)).2; obtain ⟨y1, hy1⟩ := Option.isSome_iff_exists.1 (hR10 1 (by omega)).2; have hf0 := (hR10 0 (by omega)).1; have hf1 := (hR10 1 (by omega)).1; obtain ⟨a9, c9, hsh9, _, _⟩ := own9.rd; subst hsh9))
  all_goals
    have hE9 : Ext (w.heap.size + 1) W (aft W.drew u9) := (by repeat (with_reducible first | exact hEB | apply Ext.aft | apply Ext.alloc | apply Ext.drew | apply Ext.drewN))
    have hsz9 : w.heap.size + 1 < (aft W.drew u9).heap.size := by have := hE9.2; have := z9; omega
    have HF : Hid (ownR w.heap.size (((aft W.drew u9).setCell ⟨w.heap.size + 1, 0, none⟩ (.int .i64 (m : Int))).setCell ⟨w.heap.size + 1, 1, none⟩ (.slice a9 os.length c9)) (.slice a9 os.length c9) os) := hid (ownR.mono ((own9.setCell _ _ _ _ (by simp; omega)).setCell _ _ _ _ (by simp; omega)) (by simp; omega))
    have HB9 : Hid (Ext w.heap.size w (aft W.drew u9)) := hid ⟨HE.out.1.trans (hE9.1.mono (by omega)), by omega⟩
    go_wp2_with fail
    exact bodyPost_ret (v := .tuple #[.agg #[.int .i64 (m : Int), .slice a9 os.length c9], .int .i64 0]) (by simp [results, go_sem, hy0, hy1]) rfl ⟨_, rfl, HF.out, Ext.bel ((HB9.out.setCell _ _ _ _ (by omega)).setCell _ _ _ _ (by omega))⟩
set_option maxRecDepth 20000 in
set_option maxHeartbeats 8000000 in
theorem s_IsAbelian (n : Int) (r : Value) (rs : List Int) (w : World) (h : rdI w r rs) (hl : rs.length ≤ 1048576) :
    Calls Try.prog 15 #[(.agg #[.int .i64 n, r])] w fun e w' => e = .returned (.tuple #[.bool (abelF n rs).1, .int .i64 (abelF n rs).2]) ∧ Below w.heap.size w w' := by
  have hR := h.alloc (Obj.cells #[.int .i64 n, r] 26)
  cases hg : groupB n rs
  · have e : abelF n rs = (false, 1) := by simp [abelF, hg]
    rw [e]; clear e
    have HG := hid hg
    clear hg
    go_enter Try.func15, Try.ntmps15
    go_wp2_with (first | (go_at_call 57; refine via (s_IsGroupE n _ rs _ false hR hl HG.out) ?_; intro uu zz; try simp at zz))
    exact bodyPost_ret (v := .tuple #[.bool false, .int .i64 1]) (by first | (simp [results, go_sem]; done) | simp [results, go_sem, ↓IntWalk.iteOmega]) rfl ⟨rfl, (by refine Ext.bel ?_; repeat (with_reducible first | exact Ext.refl _ | apply Ext.alloc | apply Ext.aft | apply Ext.drew | apply Ext.drewN | apply Ext.setCell | exact Nat.le_add_right _ _ | exact Nat.le_refl _ | (simp; done) | omega))⟩
  obtain ⟨m, rfl, hm1, hm6, hne, hhd, hr, hpw, _⟩ := group_facts hg
  have hl7 : rs.length ≤ 720 := Nat.le_trans (asc_len hpw hr) (facN_le hm6)
  have Hr := hid hr
  obtain ⟨os, hos⟩ : ∃ os, filtF m rs (centB m rs) = os := ⟨_, rfl⟩
  have e : abelF m rs = (decide (os.length = rs.length), 0) := by simp only [abelF, centF, hg, if_true, Int.toNat_natCast, hos]
  rw [e]; clear e
  have HG := hid hg
  have HOS := hid hos
  obtain ⟨a0, cap0, hsh0, _, _⟩ := id h
  subst hsh0
  obtain ⟨B, hB⟩ : ∃ B, decide (os.length = rs.length) = B := ⟨_, rfl⟩
  have HB : Hid (((os.length : Int) == (rs.length : Int)) = B) := hid (by rw [← hB, Bool.eq_iff_iff]; simp [Int.ofNat_inj])
  rw [hB]
  clear hg hr hpw hne hhd hos hB
  go_enter Try.func15, Try.ntmps15
  go_wp2_with (first | (go_at_call 57; refine via (s_IsGroupE (m : Int) _ rs _ true hR hl HG.out) ?_; intro uu zz; try simp at zz))
  obtain ⟨W, hW⟩ : ∃ W, W = aft (w.alloc (Obj.cells #[.int .i64 (m : Int), .slice a0 rs.length cap0] 26)) uu := ⟨_, rfl⟩
  have HE : Hid (Ext w.heap.size w W) := hid (by rw [hW]; exact (by repeat (with_reducible first | exact Ext.refl _ | apply Ext.alloc | apply Ext.aft | apply Ext.drew | apply Ext.drewN | apply Ext.setCell | exact Nat.le_add_right _ _ | exact Nat.le_refl _ | (simp; done) | omega)))
  have hRW := hid (show rdI W (.slice a0 rs.length cap0) rs by rw [hW]; exact hR.aft _)
  have c0 : W.cell? ⟨w.heap.size, 0, none⟩ = some (.int .i64 (m : Int)) := by rw [hW]; simp [go_sem]
  have c1 : W.cell? ⟨w.heap.size, 1, none⟩ = some (.slice a0 rs.length cap0) := by rw [hW]; simp [go_sem]
  have hb0 := World.block_lt_of_cell? W _ c0
  simp only at hb0
  rw [← hW]
  have hE0 : Ext W.heap.size W W := Ext.refl _
  clear hW hR zz
  go_region_held3 (fun w' => (∀ b o, b < W.heap.size → w'.cell? ⟨b, o, none⟩ = W.cell? ⟨b, o, none⟩) ∧ Hid (Ext W.heap.size W w')) ((refine sB ?_; repeat (with_reducible first | assumption | apply Ext.aft | apply Ext.alloc | apply Ext.drew | apply Ext.drewN))) (first | (go_at_call 60; refine viaI (g := id) (s_center m _ rs _ os (hRW.out.below (Ext.bel (by repeat (with_reducible first | exact Ext.refl _ | apply Ext.aft | apply Ext.alloc | apply Ext.drew | apply Ext.drewN)))) (by omega) hm6 Hr.out hl7 HOS.out) ?_; intro t1 u3 z1 own3; (try simp at z1); obtain ⟨a9, c9, hsh9, _, _⟩ := own3.rd; subst hsh9))
  all_goals
    go_wp2_with fail
    exact bodyPost_ret (v := .tuple #[.bool ((os.length : Int) == (rs.length : Int)), .int .i64 0]) (by first | (simp [results, go_sem]; done) | simp [results, go_sem, ↓IntWalk.iteOmega]) rfl ⟨by rw [HB.out], HE.out.bel.trans (Below.mono (Ext.bel (by repeat (with_reducible first | exact Ext.refl _ | apply Ext.aft | apply Ext.alloc | apply Ext.drew | apply Ext.drewN))) HE.out.2)⟩
end Go.Proofs.Ytbkbcbanfnhjpaa
