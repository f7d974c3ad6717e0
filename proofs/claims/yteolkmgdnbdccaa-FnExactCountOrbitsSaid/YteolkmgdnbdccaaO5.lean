/- IsTransitive, CountOrbits: the laws. -/
import Derived.Test.YteolkmgdnbdccaaO4
namespace Go.Proofs.Yteolkmgdnbdccaa
open Go Go.RowKit

set_option maxRecDepth 20000 in
set_option maxHeartbeats 4000000 in
theorem law_IsTransitive (n : Int) (r : Value) (xs : List Int) (w : World) (h : rdI w r xs) :
    Calls Try.prog 4 #[(.agg #[.int .i64 n, r])] w fun e w' => e = .returned (.bool true) ∧ Below w.heap.size w w' := by
  have hR := h.alloc (Obj.cells #[.int .i64 n, r] 24)
  by_cases hl : xs.length ≤ 1048576
  case neg =>
    go_enter Try.func4, Try.ntmps4
    go_wp2_with (first | (go_at_call 8; refine via (l_szGn _ _ xs _ _ hR (by omega) (by omega)) ?_; intro uu zz; try simp at zz))
    go_ret
    exact ⟨rfl, (by refine Ext.bel ?_; repeat (with_reducible first | exact Ext.refl _ | apply Ext.alloc | apply Ext.aft | apply Ext.drew | apply Ext.drewN | apply Ext.setCell | exact Nat.le_add_right _ _ | exact Nat.le_refl _ | (simp; done) | omega))⟩
  obtain ⟨b, hb⟩ : ∃ b, groupB n xs = b := ⟨_, rfl⟩
  have HB := hid hb
  clear hb
  have hsz : ¬ (1048576 : Int) < xs.length := by omega
  go_enter Try.func4, Try.ntmps4
  go_wp2_with fail
  refine via (l_szGp _ _ xs _ _ hR (by omega) (by omega)) ?_
  intro u0 z0
  try simp at z0
  go_wp2_with fail
  refine viaI (g := fun v => .agg #[.int .i64 n, v]) (l_toG _ _ xs _ (hR.aft _) hl) ?_
  intro v1 u1 z1 own1
  try simp at z1
  have rd1 := own1.rd
  go_wp2_with fail
  refine via (s_IsTrans _ _ xs _ (by repeat (with_reducible first | assumption | apply rdI.aft | apply rdI.alloc | apply rdI.drew | apply rdI.drewN)) hl) ?_
  intro u2 z2
  try simp at z2
  go_wp2_with fail
  refine viaI (g := fun v => .agg #[.int .i64 n, v]) (l_toG _ _ xs _ (by repeat (with_reducible first | assumption | apply rdI.aft | apply rdI.alloc | apply rdI.drew | apply rdI.drewN)) hl) ?_
  intro v3 u3 z3 own3
  try simp at z3
  have rd3 := own3.rd
  obtain ⟨a3, c3, hsh, _, _⟩ := own3.rd
  subst hsh
  obtain ⟨W3, hW3⟩ : ∃ W3, W3 = aft (aft (aft (aft (w.alloc (Obj.cells #[.int .i64 n, r] 24)) u0) u1) u2) u3 := ⟨_, rfl⟩
  have HE3 : Hid (Ext w.heap.size w W3) := hid (by rw [hW3]; exact (by repeat (with_reducible first | exact Ext.refl _ | apply Ext.alloc | apply Ext.aft | apply Ext.drew | apply Ext.drewN | apply Ext.setCell | exact Nat.le_add_right _ _ | exact Nat.le_refl _ | (simp; done) | omega)))
  have c0 : W3.cell? ⟨w.heap.size, 0, none⟩ = some (.int .i64 n) := by rw [hW3]; simp [go_sem, ↓IntWalk.iteOmega]
  have c1 : W3.cell? ⟨w.heap.size, 1, none⟩ = some r := by rw [hW3]; simp [go_sem, ↓IntWalk.iteOmega]
  have hb0 := World.block_lt_of_cell? W3 _ c0
  simp only at hb0
  have rr : rdI W3 r xs := by rw [hW3]; exact (by repeat (with_reducible first | assumption | apply rdI.aft | apply rdI.alloc | apply rdI.drew | apply rdI.drewN))
  rw [← hW3] at rd3 ⊢
  clear hW3 own1 rd1 own3 z0 z1 z2 z3 hR h
  go_wp2_with (first | (go_at_call 18; refine via (i_IsTrans _ _ xs _ (by repeat (with_reducible first | assumption | apply rdI.aft | apply rdI.alloc | apply rdI.drew | apply rdI.drewN)) hl) ?_; intro uu zz; try simp at zz))
  obtain ⟨W, hW⟩ : ∃ W, W = aft (W3.alloc (Obj.cells #[.int .i64 n, .slice a3 xs.length c3] 28)) uu := ⟨_, rfl⟩
  have hE6 : Ext W3.heap.size W3 W := by rw [hW]; exact (by repeat (with_reducible first | exact Ext.refl _ | apply Ext.alloc | apply Ext.aft | apply Ext.drew | apply Ext.drewN | apply Ext.setCell | exact Nat.le_add_right _ _ | exact Nat.le_refl _ | (simp; done) | omega))
  have d0 : W.cell? ⟨W3.heap.size, 0, none⟩ = some (.int .i64 n) := by rw [hW]; simp [go_sem]
  have d1 : W.cell? ⟨W3.heap.size, 1, none⟩ = some (.slice a3 xs.length c3) := by rw [hW]; simp [go_sem]
  have k0 : W.cell? ⟨w.heap.size, 0, none⟩ = some (.int .i64 n) := by rw [hE6.1.cell (p := ⟨w.heap.size, 0, none⟩) hb0]; exact c0
  have k1 : W.cell? ⟨w.heap.size, 1, none⟩ = some r := by rw [hE6.1.cell (p := ⟨w.heap.size, 1, none⟩) hb0]; exact c1
  have hb3 := World.block_lt_of_cell? W _ d0
  have hb6 := World.block_lt_of_cell? W _ k0
  simp only at hb3 hb6
  have HRR := hid (rr.below hE6.1)
  have HR3 := hid (rd3.below hE6.1)
  have hE7 : Ext W.heap.size W W := Ext.refl _
  rw [← hW]
  clear hW c0 c1 rr rd3 zz
  go_region_held3 (fun w' => (∀ b o, b < W.heap.size → w'.cell? ⟨b, o, none⟩ = W.cell? ⟨b, o, none⟩) ∧ Hid (Ext W.heap.size W w')) ((refine sB ?_; repeat (with_reducible first | assumption | apply Ext.aft | apply Ext.alloc | apply Ext.drew | apply Ext.drewN))) (first | (go_at_call 10; refine viaI (g := fun v => .agg #[.int .i64 n, v]) (l_toG _ _ xs _ (HRR.out.below (Ext.bel (by repeat (with_reducible first | exact hE7 | apply Ext.aft | apply Ext.alloc | apply Ext.drew | apply Ext.drewN)))) hl) ?_; intro t1 u7 z7 own7; (try simp at z7)) | (go_at_call 13; refine via (l_eqG _ _ _ xs _ (HR3.out.below (Ext.bel (by repeat (with_reducible first | exact hE7 | apply Ext.aft | apply Ext.alloc | apply Ext.drew | apply Ext.drewN)))) (by first | exact own7.rd | exact own7.rd.drew)) ?_; intro u8 z8; (try simp at z8)))
  all_goals
    go_wp2_with fail
    go_ret
    exact ⟨rfl, HE3.out.bel.trans (Below.mono (Ext.bel (Ext.of hE6 (by repeat (with_reducible first | exact hE7 | apply Ext.aft | apply Ext.alloc | apply Ext.drew | apply Ext.drewN)))) HE3.out.2)⟩
set_option maxRecDepth 20000 in
set_option maxHeartbeats 4000000 in
theorem law_CountOrbits (n : Int) (r : Value) (xs : List Int) (w : World) (h : rdI w r xs) :
    Calls Try.prog 5 #[(.agg #[.int .i64 n, r])] w fun e w' => e = .returned (.bool true) ∧ Below w.heap.size w w' := by
  have hR := h.alloc (Obj.cells #[.int .i64 n, r] 24)
  by_cases hl : xs.length ≤ 1048576
  case neg =>
    go_enter Try.func5, Try.ntmps5
    go_wp2_with (first | (go_at_call 8; refine via (l_szGn _ _ xs _ _ hR (by omega) (by omega)) ?_; intro uu zz; try simp at zz))
    go_ret
    exact ⟨rfl, (by refine Ext.bel ?_; repeat (with_reducible first | exact Ext.refl _ | apply Ext.alloc | apply Ext.aft | apply Ext.drew | apply Ext.drewN | apply Ext.setCell | exact Nat.le_add_right _ _ | exact Nat.le_refl _ | (simp; done) | omega))⟩
  obtain ⟨b, hb⟩ : ∃ b, groupB n xs = b := ⟨_, rfl⟩
  have HB := hid hb
  clear hb
  have hsz : ¬ (1048576 : Int) < xs.length := by omega
  go_enter Try.func5, Try.ntmps5
  go_wp2_with fail
  refine via (l_szGp _ _ xs _ _ hR (by omega) (by omega)) ?_
  intro u0 z0
  try simp at z0
  go_wp2_with fail
  refine viaI (g := fun v => .agg #[.int .i64 n, v]) (l_toG _ _ xs _ (hR.aft _) hl) ?_
  intro v1 u1 z1 own1
  try simp at z1
  have rd1 := own1.rd
  go_wp2_with fail
  refine via (s_CountOrb _ _ xs _ (by repeat (with_reducible first | assumption | apply rdI.aft | apply rdI.alloc | apply rdI.drew | apply rdI.drewN)) hl) ?_
  intro u2 z2
  try simp at z2
  go_wp2_with fail
  refine viaI (g := fun v => .agg #[.int .i64 n, v]) (l_toG _ _ xs _ (by repeat (with_reducible first | assumption | apply rdI.aft | apply rdI.alloc | apply rdI.drew | apply rdI.drewN)) hl) ?_
  intro v3 u3 z3 own3
  try simp at z3
  have rd3 := own3.rd
  obtain ⟨a3, c3, hsh, _, _⟩ := own3.rd
  subst hsh
  obtain ⟨W3, hW3⟩ : ∃ W3, W3 = aft (aft (aft (aft (w.alloc (Obj.cells #[.int .i64 n, r] 24)) u0) u1) u2) u3 := ⟨_, rfl⟩
  have HE3 : Hid (Ext w.heap.size w W3) := hid (by rw [hW3]; exact (by repeat (with_reducible first | exact Ext.refl _ | apply Ext.alloc | apply Ext.aft | apply Ext.drew | apply Ext.drewN | apply Ext.setCell | exact Nat.le_add_right _ _ | exact Nat.le_refl _ | (simp; done) | omega)))
  have c0 : W3.cell? ⟨w.heap.size, 0, none⟩ = some (.int .i64 n) := by rw [hW3]; simp [go_sem, ↓IntWalk.iteOmega]
  have c1 : W3.cell? ⟨w.heap.size, 1, none⟩ = some r := by rw [hW3]; simp [go_sem, ↓IntWalk.iteOmega]
  have hb0 := World.block_lt_of_cell? W3 _ c0
  simp only at hb0
  have rr : rdI W3 r xs := by rw [hW3]; exact (by repeat (with_reducible first | assumption | apply rdI.aft | apply rdI.alloc | apply rdI.drew | apply rdI.drewN))
  rw [← hW3] at rd3 ⊢
  clear hW3 own1 rd1 own3 z0 z1 z2 z3 hR h
  go_wp2_with (first | (go_at_call 20; refine via (i_CountOrb _ _ xs _ (by repeat (with_reducible first | assumption | apply rdI.aft | apply rdI.alloc | apply rdI.drew | apply rdI.drewN)) hl) ?_; intro uu zz; try simp at zz))
  obtain ⟨W, hW⟩ : ∃ W, W = aft (W3.alloc (Obj.cells #[.int .i64 n, .slice a3 xs.length c3] 28)) uu := ⟨_, rfl⟩
  have hE6 : Ext W3.heap.size W3 W := by rw [hW]; exact (by repeat (with_reducible first | exact Ext.refl _ | apply Ext.alloc | apply Ext.aft | apply Ext.drew | apply Ext.drewN | apply Ext.setCell | exact Nat.le_add_right _ _ | exact Nat.le_refl _ | (simp; done) | omega))
  have d0 : W.cell? ⟨W3.heap.size, 0, none⟩ = some (.int .i64 n) := by rw [hW]; simp [go_sem]
  have d1 : W.cell? ⟨W3.heap.size, 1, none⟩ = some (.slice a3 xs.length c3) := by rw [hW]; simp [go_sem]
  have k0 : W.cell? ⟨w.heap.size, 0, none⟩ = some (.int .i64 n) := by rw [hE6.1.cell (p := ⟨w.heap.size, 0, none⟩) hb0]; exact c0
  have k1 : W.cell? ⟨w.heap.size, 1, none⟩ = some r := by rw [hE6.1.cell (p := ⟨w.heap.size, 1, none⟩) hb0]; exact c1
  have hb3 := World.block_lt_of_cell? W _ d0
  have hb6 := World.block_lt_of_cell? W _ k0
  simp only at hb3 hb6
  have HRR := hid (rr.below hE6.1)
  have HR3 := hid (rd3.below hE6.1)
  have hE7 : Ext W.heap.size W W := Ext.refl _
  rw [← hW]
  clear hW c0 c1 rr rd3 zz
  go_region_held3 (fun w' => (∀ b o, b < W.heap.size → w'.cell? ⟨b, o, none⟩ = W.cell? ⟨b, o, none⟩) ∧ Hid (Ext W.heap.size W w')) ((refine sB ?_; repeat (with_reducible first | assumption | apply Ext.aft | apply Ext.alloc | apply Ext.drew | apply Ext.drewN))) (first | (go_at_call 10; refine viaI (g := fun v => .agg #[.int .i64 n, v]) (l_toG _ _ xs _ (HRR.out.below (Ext.bel (by repeat (with_reducible first | exact hE7 | apply Ext.aft | apply Ext.alloc | apply Ext.drew | apply Ext.drewN)))) hl) ?_; intro t1 u7 z7 own7; (try simp at z7)) | (go_at_call 13; refine via (l_eqG _ _ _ xs _ (HR3.out.below (Ext.bel (by repeat (with_reducible first | exact hE7 | apply Ext.aft | apply Ext.alloc | apply Ext.drew | apply Ext.drewN)))) (by first | exact own7.rd | exact own7.rd.drew)) ?_; intro u8 z8; (try simp at z8)))
  all_goals
    go_wp2_with fail
    go_ret
    exact ⟨rfl, HE3.out.bel.trans (Below.mono (Ext.bel (Ext.of hE6 (by repeat (with_reducible first | exact hE7 | apply Ext.aft | apply Ext.alloc | apply Ext.drew | apply Ext.drewN)))) HE3.out.2)⟩
end Go.Proofs.Yteolkmgdnbdccaa
