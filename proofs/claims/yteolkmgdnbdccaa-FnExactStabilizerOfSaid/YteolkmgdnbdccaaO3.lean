/- Points of a group: tests; IsTransitive: both texts. -/
import Derived.Test.YteolkmgdnbdccaaO2
import Derived.Test.YteolkmgdnbdccaaP4
import Derived.Test.YteolkmgdnbdccaaO3m
namespace Go.Proofs.Yteolkmgdnbdccaa
open Go Go.RowKit

theorem i_orbitE (m p : Nat) (pz : Int) (r : Value) (rs os : List Int) (w : World) (h : rdI w r rs) (hm6 : m ≤ 6) (hp : p < m) (hr : ∀ x ∈ rs, 0 ≤ x ∧ x < (facN m : Int)) (hl : rs.length ≤ 720) (hz : pz = p) (ho : orbF m rs p = os) :
    Calls Try.prog 31 #[.agg #[.int .i64 (m : Int), r], .int .i64 pz] w fun e w' => ∃ v, e = .returned v ∧ ownR w.heap.size w' v os ∧ Below w.heap.size w w' := by subst hz ho; exact i_orbit m p r rs w h hm6 hp hr hl
theorem s_orbitE (m p : Nat) (pz : Int) (r : Value) (rs os : List Int) (w : World) (h : rdI w r rs) (hm6 : m ≤ 6) (hp : p < m) (hr : ∀ x ∈ rs, 0 ≤ x ∧ x < (facN m : Int)) (hl : rs.length ≤ 720) (hz : pz = p) (ho : orbF m rs p = os) :
    Calls Try.prog 28 #[.agg #[.int .i64 (m : Int), r], .int .i64 pz] w fun e w' => ∃ v, e = .returned v ∧ ownR w.heap.size w' v os ∧ Below w.heap.size w w' := by subst hz ho; exact s_orbit m p r rs w h hm6 hp hr hl
set_option maxRecDepth 20000 in
set_option maxHeartbeats 4000000 in
theorem i_trans (m : Nat) (r : Value) (rs : List Int) (w : World) (c : Bool) (h : rdI w r rs) (hm1 : 1 ≤ m) (hm6 : m ≤ 6) (hr : ∀ x ∈ rs, 0 ≤ x ∧ x < (facN m : Int)) (hl : rs.length ≤ 720) (hc : decide ((orbF m rs 0).length = m) = c) :
    Calls Try.prog 34 #[.agg #[.int .i64 (m : Int), r]] w fun e w' => e = .returned (.bool c) ∧ Below w.heap.size w w' := by
  obtain ⟨os, hos⟩ : ∃ os, orbF m rs 0 = os := ⟨_, rfl⟩
  rw [hos] at hc
  have hol : os.length ≤ 6 := by rw [← hos]; exact Nat.le_trans (listedU_len _ _) hm6
  have hcz : ((os.length : Int) == (m : Int)) = c := by rw [← hc, Bool.eq_iff_iff, beq_iff_eq, decide_eq_true_eq]; omega
  have hcn : (os.length == m) = c := by rw [← hc, Bool.eq_iff_iff, beq_iff_eq, decide_eq_true_eq]
  have HOS := hid hos
  have Hr := hid hr
  obtain ⟨W, hW⟩ : ∃ W, W = w.alloc (Obj.cells #[.int .i64 (m : Int), r] 28) := ⟨_, rfl⟩
  have hR := hid (show rdI W r rs by rw [hW]; exact h.alloc _)
  have c0 : W.cell? ⟨w.heap.size, 0, none⟩ = some (.int .i64 (m : Int)) := by rw [hW]; simp [go_sem]
  have c1 : W.cell? ⟨w.heap.size, 1, none⟩ = some r := by rw [hW]; simp [go_sem]
  have HE := hid (show Ext w.heap.size w W by rw [hW]; exact (Ext.refl _).alloc _)
  have hb0 := World.block_lt_of_cell? W _ c0
  simp only at hb0
  have hE7 : Ext W.heap.size W W := Ext.refl _
  clear hos hr hc
  go_enter Try.func34, Try.ntmps34
  go_wp2_with fail
  rw [← hW]
  clear hW
  go_region_held3 (fun w' => (∀ b o, b < W.heap.size → w'.cell? ⟨b, o, none⟩ = W.cell? ⟨b, o, none⟩) ∧ Hid (Ext W.heap.size W w')) ((refine sB ?_; repeat (with_reducible first | assumption | apply Ext.aft | apply Ext.alloc | apply Ext.drew | apply Ext.drewN))) (first | (go_at_call 31; refine viaI (g := id) (i_orbitE m 0 _ _ rs os _ (hR.out.below (Ext.bel (by repeat (with_reducible first | exact hE7 | apply Ext.aft | apply Ext.alloc | apply Ext.drew | apply Ext.drewN)))) hm6 (by omega) Hr.out hl (by simp) HOS.out) ?_; intro t1 u7 z7 own7; (try simp at z7); obtain ⟨a9, c9, hsh9, _, _⟩ := own7.rd; subst hsh9; have rd7 := own7.rd) | (go_at_call 58; refine pur (i_size _ os _ (by (repeat (with_reducible first | assumption | apply rdI.aft | apply rdI.alloc | apply rdI.drew | apply rdI.drewN)); done)) ?_))
  all_goals
    go_wp2_with fail
    go_ret
    exact ⟨rfl, HE.out.bel.trans (Below.mono (Ext.bel (by repeat (with_reducible first | exact hE7 | apply Ext.aft | apply Ext.alloc | apply Ext.drew | apply Ext.drewN))) HE.out.2)⟩
set_option maxRecDepth 20000 in
set_option maxHeartbeats 4000000 in
theorem s_trans (m : Nat) (r : Value) (rs : List Int) (w : World) (c : Bool) (h : rdI w r rs) (hm1 : 1 ≤ m) (hm6 : m ≤ 6) (hr : ∀ x ∈ rs, 0 ≤ x ∧ x < (facN m : Int)) (hl : rs.length ≤ 720) (hc : decide ((orbF m rs 0).length = m) = c) :
    Calls Try.prog 33 #[.agg #[.int .i64 (m : Int), r]] w fun e w' => e = .returned (.bool c) ∧ Below w.heap.size w w' := by
  obtain ⟨os, hos⟩ : ∃ os, orbF m rs 0 = os := ⟨_, rfl⟩
  rw [hos] at hc
  have hol : os.length ≤ 6 := by rw [← hos]; exact Nat.le_trans (listedU_len _ _) hm6
  have hcz : ((os.length : Int) == (m : Int)) = c := by rw [← hc, Bool.eq_iff_iff, beq_iff_eq, decide_eq_true_eq]; omega
  have hcn : (os.length == m) = c := by rw [← hc, Bool.eq_iff_iff, beq_iff_eq, decide_eq_true_eq]
  have HOS := hid hos
  have Hr := hid hr
  obtain ⟨W, hW⟩ : ∃ W, W = w.alloc (Obj.cells #[.int .i64 (m : Int), r] 28) := ⟨_, rfl⟩
  have hR := hid (show rdI W r rs by rw [hW]; exact h.alloc _)
  have c0 : W.cell? ⟨w.heap.size, 0, none⟩ = some (.int .i64 (m : Int)) := by rw [hW]; simp [go_sem]
  have c1 : W.cell? ⟨w.heap.size, 1, none⟩ = some r := by rw [hW]; simp [go_sem]
  have HE := hid (show Ext w.heap.size w W by rw [hW]; exact (Ext.refl _).alloc _)
  have hb0 := World.block_lt_of_cell? W _ c0
  simp only at hb0
  have hE7 : Ext W.heap.size W W := Ext.refl _
  clear hos hr hc
  go_enter Try.func33, Try.ntmps33
  go_wp2_with fail
  rw [← hW]
  clear hW
  go_region_held3 (fun w' => (∀ b o, b < W.heap.size → w'.cell? ⟨b, o, none⟩ = W.cell? ⟨b, o, none⟩) ∧ Hid (Ext W.heap.size W w')) ((refine sB ?_; repeat (with_reducible first | assumption | apply Ext.aft | apply Ext.alloc | apply Ext.drew | apply Ext.drewN))) (first | (go_at_call 28; refine viaI (g := id) (s_orbitE m 0 _ _ rs os _ (hR.out.below (Ext.bel (by repeat (with_reducible first | exact hE7 | apply Ext.aft | apply Ext.alloc | apply Ext.drew | apply Ext.drewN)))) hm6 (by omega) Hr.out hl (by simp) HOS.out) ?_; intro t1 u7 z7 own7; (try simp at z7); obtain ⟨a9, c9, hsh9, _, _⟩ := own7.rd; subst hsh9; have rd7 := own7.rd) | (go_at_call 58; refine pur (i_size _ os _ (by (repeat (with_reducible first | assumption | apply rdI.aft | apply rdI.alloc | apply rdI.drew | apply rdI.drewN)); done)) ?_))
  all_goals
    go_wp2_with fail
    go_ret
    exact ⟨rfl, HE.out.bel.trans (Below.mono (Ext.bel (by repeat (with_reducible first | exact hE7 | apply Ext.aft | apply Ext.alloc | apply Ext.drew | apply Ext.drewN))) HE.out.2)⟩
end Go.Proofs.Yteolkmgdnbdccaa
