/- IsSubgroup: the law. -/
import Derived.Test.YthnahinnmdoijaaP8
namespace Go.Proofs.Ythnahinnmdoijaa
open Go Go.RowKit

theorem viaG {P : Program} {f : FuncId} {args : Array Value} {w : World} {xs : List Int} {n : Int} {R : Ending → World → Prop}
    (h : Calls P f args w fun e w' => ∃ v, e = .returned (.agg #[.int .i64 n, v]) ∧ ownR w.heap.size w' v xs ∧ Below w.heap.size w w')
    (hR : ∀ v u, w.heap.size ≤ (aft w u).heap.size → ownR w.heap.size (aft w u) v xs → R (.returned (.agg #[.int .i64 n, v])) (aft w u)) : Calls P f args w R :=
  h.mono fun e w' ⟨v, he, ho, hb⟩ => by subst he; obtain ⟨u, rfl⟩ := aft_ex hb; exact hR v u (size_aft w u) ho
set_option maxRecDepth 20000 in
set_option maxHeartbeats 8000000 in
theorem law_IsSubgroup (n : Int) (r : Value) (xs : List Int) (m : Int) (s : Value) (ys : List Int) (w : World) (h : rdI w r xs) (h' : rdI w s ys) :
    Calls Try.prog 5 #[(.agg #[.int .i64 n, r]), (.agg #[.int .i64 m, s])] w fun e w' => e = .returned (.bool true) ∧ Below w.heap.size w w' := by
  have hR : rdI ((w.alloc (Obj.cells #[.int .i64 n, r] 24)).alloc (Obj.cells #[.int .i64 m, s] 24)) r xs := (h.alloc _).alloc _
  have hR' : rdI ((w.alloc (Obj.cells #[.int .i64 n, r] 24)).alloc (Obj.cells #[.int .i64 m, s] 24)) s ys := (h'.alloc _).alloc _
  by_cases hl : xs.length ≤ 1048576
  case neg =>
    go_enter Try.func5, Try.ntmps5
    go_wp2_with fail
    refine via (l_szGn _ _ xs _ _ hR (by omega) (by omega)) ?_
    intro u0 z0; try simp at z0
    go_wp2_with fail
    go_ret
    exact ⟨rfl, (by refine Ext.bel ?_; repeat (with_reducible first | exact Ext.refl _ | apply Ext.alloc | apply Ext.aft | apply Ext.drew | apply Ext.drewN | apply Ext.setCell | exact Nat.le_add_right _ _ | exact Nat.le_refl _ | (simp; done) | omega))⟩
  by_cases hl' : (ys.length : Int) ≤ 1048576 - xs.length
  case neg =>
    go_enter Try.func5, Try.ntmps5
    go_wp2_with fail
    refine via (l_szGp _ _ xs _ _ hR (by omega) (by omega)) ?_
    intro u0 z0; try simp at z0
    go_wp2_with fail
    refine via (l_szGn _ _ ys _ _ (hR'.aft _) (by omega) (by omega)) ?_
    intro u1 z1; try simp at z1
    go_wp2_with fail
    go_ret
    exact ⟨rfl, (by refine Ext.bel ?_; repeat (with_reducible first | exact Ext.refl _ | apply Ext.alloc | apply Ext.aft | apply Ext.drew | apply Ext.drewN | apply Ext.setCell | exact Nat.le_add_right _ _ | exact Nat.le_refl _ | (simp; done) | omega))⟩
  have hl9 : ys.length ≤ 1048576 := by omega
  obtain ⟨A, C, hF⟩ : ∃ A C, subF n xs m ys = (A, C) := ⟨_, _, rfl⟩
  have HF := hid hF
  clear hF
  go_enter Try.func5, Try.ntmps5
  go_wp2_with fail
  refine via (l_szGp _ _ xs _ _ hR (by omega) (by omega)) ?_
  intro u0 z0; try simp at z0
  go_wp2_with fail
  refine via (l_szGp _ _ ys _ _ (hR'.aft _) (by omega) (by omega)) ?_
  intro u1 z1; try simp at z1
  obtain ⟨W1, hW1⟩ : ∃ W1, W1 = aft (aft ((w.alloc (Obj.cells #[.int .i64 n, r] 24)).alloc (Obj.cells #[.int .i64 m, s] 24)) u0) u1 := ⟨_, rfl⟩
  have HE3 : Hid (Ext w.heap.size w W1) := hid (by rw [hW1]; exact (by repeat (with_reducible first | exact Ext.refl _ | apply Ext.alloc | apply Ext.aft | apply Ext.drew | apply Ext.drewN | apply Ext.setCell | exact Nat.le_add_right _ _ | exact Nat.le_refl _ | (simp; done) | omega)))
  have c0 : W1.cell? ⟨w.heap.size, 0, none⟩ = some (.int .i64 n) := by rw [hW1]; simp [go_sem, ↓IntWalk.iteOmega]
  have c1 : W1.cell? ⟨w.heap.size, 1, none⟩ = some r := by rw [hW1]; simp [go_sem, ↓IntWalk.iteOmega]
  have c2 : W1.cell? ⟨w.heap.size + 1, 0, none⟩ = some (.int .i64 m) := by rw [hW1]; simp [go_sem, ↓IntWalk.iteOmega]
  have c3 : W1.cell? ⟨w.heap.size + 1, 1, none⟩ = some s := by rw [hW1]; simp [go_sem, ↓IntWalk.iteOmega]
  have hb0 := World.block_lt_of_cell? W1 _ c0
  have hb1 := World.block_lt_of_cell? W1 _ c3
  simp only at hb0 hb1
  have HR := hid (show rdI W1 r xs by rw [hW1]; exact (hR.aft _).aft _)
  have HS := hid (show rdI W1 s ys by rw [hW1]; exact (hR'.aft _).aft _)
  have hE1 : Ext W1.heap.size W1 W1 := Ext.refl _
  rw [← hW1]
  clear hW1 hR hR' h h' z0 z1
  go_wp2_with fail
  go_region_held3 (fun w' => (∀ b o, b < W1.heap.size → w'.cell? ⟨b, o, none⟩ = W1.cell? ⟨b, o, none⟩) ∧ Hid (Ext W1.heap.size W1 w')) ((refine sB ?_; repeat (with_reducible first | assumption | apply Ext.aft | apply Ext.alloc | apply Ext.drew | apply Ext.drewN))) (first | (go_at_call 10; with_reducible refine viaG (l_toG n r xs _ (HR.out.below (Ext.bel (by repeat (with_reducible first | exact hE1 | apply Ext.aft | apply Ext.alloc | apply Ext.drew | apply Ext.drewN)))) hl) ?_; intro ta ua za owna; (try simp at za); have rda := owna.rd) | (go_at_call 10; refine viaG (l_toG m s ys _ (HS.out.below (Ext.bel (by repeat (with_reducible first | exact hE1 | apply Ext.aft | apply Ext.alloc | apply Ext.drew | apply Ext.drewN)))) hl9) ?_; intro tb ub zb ownb; (try simp at zb); have rdb := ownb.rd) | (go_at_call 15; refine via (s_Sub n m _ _ xs ys _ A C (by (repeat (with_reducible first | assumption | apply rdI.aft | apply rdI.alloc | apply rdI.drew | apply rdI.drewN)); done) hl (by (repeat (with_reducible first | assumption | apply rdI.aft | apply rdI.alloc | apply rdI.drew | apply rdI.drewN)); done) hl9 HF.out) ?_; intro uc zc; (try simp at zc)))
  obtain ⟨W2, hW2⟩ : ∃ W2, W2 = aft (aft (aft W1.drew ua) ub) uc := ⟨_, rfl⟩
  have hE2 : Ext W1.heap.size W1 W2 := by rw [hW2]; exact (by repeat (with_reducible first | exact hE1 | apply Ext.aft | apply Ext.alloc | apply Ext.drew | apply Ext.drewN))
  rw [← hW2]
  clear hW2 owna rda ownb rdb za zb zc
  have hb2 := hE2.2
  have d0 : W2.cell? ⟨w.heap.size, 0, none⟩ = some (.int .i64 n) := by rw [hE2.1.cell (p := ⟨w.heap.size, 0, none⟩) hb0]; exact c0
  have d1 : W2.cell? ⟨w.heap.size, 1, none⟩ = some r := by rw [hE2.1.cell (p := ⟨w.heap.size, 1, none⟩) hb0]; exact c1
  have d2 : W2.cell? ⟨w.heap.size + 1, 0, none⟩ = some (.int .i64 m) := by rw [hE2.1.cell (p := ⟨w.heap.size + 1, 0, none⟩) hb1]; exact c2
  have d3 : W2.cell? ⟨w.heap.size + 1, 1, none⟩ = some s := by rw [hE2.1.cell (p := ⟨w.heap.size + 1, 1, none⟩) hb1]; exact c3
  clear c0 c1 c2 c3
  go_wp2_with fail
  refine viaG (l_toG n r xs _ (HR.out.below (Ext.bel (by repeat (with_reducible first | exact hE2 | apply Ext.aft | apply Ext.alloc | apply Ext.drew | apply Ext.drewN)))) hl) ?_
  intro v3 u3 z3 own3
  try simp at z3
  obtain ⟨a3, k3, hsh, _, _⟩ := own3.rd
  subst hsh
  have rd3 := own3.rd
  obtain ⟨W3, hW3⟩ : ∃ W3, W3 = aft W2 u3 := ⟨_, rfl⟩
  have hE3 : Ext W2.heap.size W2 W3 := by rw [hW3]; exact (by repeat (with_reducible first | exact Ext.refl _ | apply Ext.alloc | apply Ext.aft | apply Ext.drew | apply Ext.drewN | apply Ext.setCell | exact Nat.le_add_right _ _ | exact Nat.le_refl _ | (simp; done) | omega))
  rw [← hW3] at rd3 ⊢
  have e0 : W3.cell? ⟨w.heap.size + 1, 0, none⟩ = some (.int .i64 m) := by rw [hW3, aft_cell, if_pos (by omega)]; exact d2
  have e1 : W3.cell? ⟨w.heap.size + 1, 1, none⟩ = some s := by rw [hW3, aft_cell, if_pos (by omega)]; exact d3
  have hs3 := hE3.2
  have hE4 : Ext W1.heap.size W1 W3 := ⟨hE2.1.trans (hE3.1.mono hE2.2), Nat.le_trans hE2.2 hE3.2⟩
  clear hW3 own3 z3
  go_wp2_with fail
  refine viaG (l_toG m s ys _ (HS.out.below (Ext.bel (by repeat (with_reducible first | exact hE4 | apply Ext.aft | apply Ext.alloc | apply Ext.drew | apply Ext.drewN)))) hl9) ?_
  intro v4 u4 z4 own4
  try simp at z4
  obtain ⟨a4, k4, hsh, _, _⟩ := own4.rd
  subst hsh
  have rd4 := own4.rd
  obtain ⟨W4, hW4⟩ : ∃ W4, W4 = aft (W3.alloc (Obj.cells #[.int .i64 n, .slice a3 xs.length k3] 27)) u4 := ⟨_, rfl⟩
  have hE5 : Ext W3.heap.size W3 W4 := by rw [hW4]; exact (by repeat (with_reducible first | exact Ext.refl _ | apply Ext.alloc | apply Ext.aft | apply Ext.drew | apply Ext.drewN | apply Ext.setCell | exact Nat.le_add_right _ _ | exact Nat.le_refl _ | (simp; done) | omega))
  rw [← hW4] at rd4 ⊢
  have f0 : W4.cell? ⟨W3.heap.size, 0, none⟩ = some (.int .i64 n) := by rw [hW4]; simp [go_sem]
  have f1 : W4.cell? ⟨W3.heap.size, 1, none⟩ = some (.slice a3 xs.length k3) := by rw [hW4]; simp [go_sem]
  have hb5 := World.block_lt_of_cell? W4 _ f0
  simp only at hb5
  have rd3' := rd3.below hE5.1
  clear hW4 own4 z4 rd3
  go_wp2_with fail
  refine via (i_Sub n m _ _ xs ys _ A C (by repeat (with_reducible first | assumption | apply rdI.aft | apply rdI.alloc | apply rdI.drew | apply rdI.drewN)) hl (by repeat (with_reducible first | assumption | apply rdI.aft | apply rdI.alloc | apply rdI.drew | apply rdI.drewN)) hl9 HF.out) ?_
  intro u5 z5
  try simp at z5
  obtain ⟨W, hW⟩ : ∃ W, W = aft (W4.alloc (Obj.cells #[.int .i64 m, .slice a4 ys.length k4] 27)) u5 := ⟨_, rfl⟩
  have hE6 : Ext W4.heap.size W4 W := by rw [hW]; exact (by repeat (with_reducible first | exact Ext.refl _ | apply Ext.alloc | apply Ext.aft | apply Ext.drew | apply Ext.drewN | apply Ext.setCell | exact Nat.le_add_right _ _ | exact Nat.le_refl _ | (simp; done) | omega))
  have g2 : W.cell? ⟨W4.heap.size, 0, none⟩ = some (.int .i64 m) := by rw [hW]; simp [go_sem]
  have g3 : W.cell? ⟨W4.heap.size, 1, none⟩ = some (.slice a4 ys.length k4) := by rw [hW]; simp [go_sem]
  rw [← hW]
  clear hW z5
  have g0 : W.cell? ⟨W3.heap.size, 0, none⟩ = some (.int .i64 n) := by rw [hE6.1.cell (p := ⟨W3.heap.size, 0, none⟩) hb5]; exact f0
  have g1 : W.cell? ⟨W3.heap.size, 1, none⟩ = some (.slice a3 xs.length k3) := by rw [hE6.1.cell (p := ⟨W3.heap.size, 1, none⟩) hb5]; exact f1
  have hE8 : Ext W2.heap.size W2 W := ⟨hE3.1.trans ((hE5.1.mono hE3.2).trans (hE6.1.mono (Nat.le_trans hE3.2 hE5.2))), Nat.le_trans hE3.2 (Nat.le_trans hE5.2 hE6.2)⟩
  have k0 : W.cell? ⟨w.heap.size, 0, none⟩ = some (.int .i64 n) := by rw [hE8.1.cell (p := ⟨w.heap.size, 0, none⟩) (by show w.heap.size < _; omega)]; exact d0
  have k1 : W.cell? ⟨w.heap.size, 1, none⟩ = some r := by rw [hE8.1.cell (p := ⟨w.heap.size, 1, none⟩) (by show w.heap.size < _; omega)]; exact d1
  have k2 : W.cell? ⟨w.heap.size + 1, 0, none⟩ = some (.int .i64 m) := by rw [hE8.1.cell (p := ⟨w.heap.size + 1, 0, none⟩) (by show w.heap.size + 1 < _; omega)]; exact d2
  have k3' : W.cell? ⟨w.heap.size + 1, 1, none⟩ = some s := by rw [hE8.1.cell (p := ⟨w.heap.size + 1, 1, none⟩) (by show w.heap.size + 1 < _; omega)]; exact d3
  have HX1 := hid (rd3'.below hE6.1)
  have HX2 := hid (rd4.below hE6.1)
  have l1 := World.block_lt_of_cell? W _ g2
  have l2 := World.block_lt_of_cell? W _ g0
  have l3 := World.block_lt_of_cell? W _ k2
  have l4 := World.block_lt_of_cell? W _ k0
  simp only at l1 l2 l3 l4
  have hE9 : Ext W1.heap.size W1 W := ⟨hE2.1.trans (hE8.1.mono hE2.2), Nat.le_trans hE2.2 hE8.2⟩
  have HQ1 := hid (HR.out.below hE9.1)
  have HQ2 := hid (HS.out.below hE9.1)
  have hE7 : Ext W.heap.size W W := Ext.refl _
  clear f0 f1 d0 d1 d2 d3 e0 e1 rd4 rd3' hE5 hE6 hE8 hE3 hE4
  go_wp2_with fail
  go_region_held3 (fun w' => (∀ b o, b < W.heap.size → w'.cell? ⟨b, o, none⟩ = W.cell? ⟨b, o, none⟩) ∧ Hid (Ext W.heap.size W w')) ((refine sB ?_; repeat (with_reducible first | assumption | apply Ext.aft | apply Ext.alloc | apply Ext.drew | apply Ext.drewN))) (first | (go_at_call 10; refine viaG (l_toG n r xs _ (HQ1.out.below (Ext.bel (by repeat (with_reducible first | exact hE7 | apply Ext.aft | apply Ext.alloc | apply Ext.drew | apply Ext.drewN)))) hl) ?_; intro t1 u7 z7 own7; (try simp at z7)) | (go_at_call 12; refine via (l_eqG n _ _ xs _ (HX1.out.below (Ext.bel (by repeat (with_reducible first | exact hE7 | apply Ext.aft | apply Ext.alloc | apply Ext.drew | apply Ext.drewN)))) (by first | exact own7.rd | exact own7.rd.drew)) ?_; intro u8 z8; (try simp at z8)))
  obtain ⟨V, hV⟩ : ∃ V, V = aft (aft W.drew u7) u8 := ⟨_, rfl⟩
  have hEV : Ext W.heap.size W V := by rw [hV]; exact (by repeat (with_reducible first | exact hE7 | apply Ext.aft | apply Ext.alloc | apply Ext.drew | apply Ext.drewN))
  rw [← hV]
  have hbV := hEV.2
  have m2 : V.cell? ⟨W4.heap.size, 0, none⟩ = some (.int .i64 m) := by rw [hEV.1.cell (p := ⟨W4.heap.size, 0, none⟩) l1]; exact g2
  have m3 : V.cell? ⟨W4.heap.size, 1, none⟩ = some (.slice a4 ys.length k4) := by rw [hEV.1.cell (p := ⟨W4.heap.size, 1, none⟩) l1]; exact g3
  have m4 : V.cell? ⟨w.heap.size + 1, 0, none⟩ = some (.int .i64 m) := by rw [hEV.1.cell (p := ⟨w.heap.size + 1, 0, none⟩) l3]; exact k2
  have m5 : V.cell? ⟨w.heap.size + 1, 1, none⟩ = some s := by rw [hEV.1.cell (p := ⟨w.heap.size + 1, 1, none⟩) l3]; exact k3'
  have HY2 := hid (HX2.out.below hEV.1)
  have HY4 := hid (HQ2.out.below hEV.1)
  have n1 := World.block_lt_of_cell? V _ m2
  have n3 := World.block_lt_of_cell? V _ m4
  simp only at n1 n3
  have hEX : Ext V.heap.size V V := Ext.refl _
  clear hV own7 z7 z8 g0 g1 g2 g3 k0 k1 k2 k3' hE7
  go_wp2_with fail
  go_region_held3 (fun w' => (∀ b o, b < V.heap.size → w'.cell? ⟨b, o, none⟩ = V.cell? ⟨b, o, none⟩) ∧ Hid (Ext V.heap.size V w')) ((refine sB ?_; repeat (with_reducible first | assumption | apply Ext.aft | apply Ext.alloc | apply Ext.drew | apply Ext.drewN))) (first | (go_at_call 10; refine viaG (l_toG m s ys _ (HY4.out.below (Ext.bel (by repeat (with_reducible first | exact hEX | apply Ext.aft | apply Ext.alloc | apply Ext.drew | apply Ext.drewN)))) hl9) ?_; intro t3 u9 z9 own9; (try simp at z9)) | (go_at_call 12; refine via (l_eqG m _ _ ys _ (HY2.out.below (Ext.bel (by repeat (with_reducible first | exact hEX | apply Ext.aft | apply Ext.alloc | apply Ext.drew | apply Ext.drewN)))) (by first | exact own9.rd | exact own9.rd.drew)) ?_; intro u10 z10; (try simp at z10)))
  all_goals
    go_wp2_with fail
    go_ret
    exact ⟨rfl, HE3.out.bel.trans (Below.mono (hE9.1.trans (Below.mono (hEV.1.trans (Below.mono (Ext.bel (by repeat (with_reducible first | exact hEX | apply Ext.aft | apply Ext.alloc | apply Ext.drew | apply Ext.drewN))) hEV.2)) hE9.2)) HE3.out.2)⟩
end Go.Proofs.Ythnahinnmdoijaa
