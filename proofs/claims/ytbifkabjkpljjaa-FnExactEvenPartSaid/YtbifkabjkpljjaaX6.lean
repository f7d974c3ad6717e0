/- EvenPart: the law. -/
import Derived.Test.YtbifkabjkpljjaaX5
import Derived.Test.YtbifkabjkpljjaaP9v
import Derived.Test.YtbifkabjkpljjaaO6m
namespace Go.Proofs.Ytbifkabjkpljjaa
open Go Go.RowKit

set_option maxRecDepth 20000 in
set_option maxHeartbeats 8000000 in
theorem law_EvenPart (n : Int) (r : Value) (xs : List Int) (w : World) (h : rdI w r xs) :
    Calls Try.prog 3 #[(.agg #[.int .i64 n, r])] w fun e w' => e = .returned (.bool true) ∧ Below w.heap.size w w' := by
  have hR := h.alloc (Obj.cells #[.int .i64 n, r] 24)
  by_cases hl : xs.length ≤ 1048576
  case neg =>
    go_enter Try.func3, Try.ntmps3
    go_wp2_with (first | (go_at_call 7; refine via (l_szGn _ _ xs _ _ hR (by omega) (by omega)) ?_; intro uu zz; try simp at zz))
    go_ret
    exact ⟨rfl, (by refine Ext.bel ?_; repeat (with_reducible first | exact Ext.refl _ | apply Ext.alloc | apply Ext.aft | apply Ext.drew | apply Ext.drewN | apply Ext.setCell | exact Nat.le_add_right _ _ | exact Nat.le_refl _ | (simp; done) | omega))⟩
  obtain ⟨ys, hys⟩ : ∃ ys, ys = (evenF n xs).1 := ⟨_, rfl⟩
  obtain ⟨C, hC⟩ : ∃ C, C = (evenF n xs).2.2 := ⟨_, rfl⟩
  obtain ⟨P, hP⟩ : ∃ P, P = (evenF n xs).2.1 := ⟨_, rfl⟩
  have hyl : ys.length ≤ 1000 := by rw [hys]; exact Nat.le_trans (evenF_len n xs) (by omega)
  have HI : Hid (∀ v W, rdI W v xs → Calls Try.prog 10 #[.agg #[.int .i64 n, v]] W fun e w' => ∃ g, e = .returned (.tuple #[.agg #[.int .i64 P, g], .int .i64 C]) ∧ ownR W.heap.size w' g ys ∧ Below W.heap.size W w') := hid (by rw [hys, hC, hP]; exact fun v W h => i_EvenPart n v xs W h hl)
  have HS : Hid (∀ v W, rdI W v xs → Calls Try.prog 8 #[.agg #[.int .i64 n, v]] W fun e w' => ∃ g, e = .returned (.tuple #[.agg #[.int .i64 P, g], .int .i64 C]) ∧ ownR W.heap.size w' g ys ∧ Below W.heap.size W w') := hid (by rw [hys, hC, hP]; exact fun v W h => s_EvenPart n v xs W h hl)
  clear hys hC hP
  go_enter Try.func3, Try.ntmps3
  go_wp2_with fail
  refine via (l_szGp _ _ xs _ _ hR (by omega) (by omega)) ?_
  intro u0 z0
  try simp at z0
  go_wp2_with fail
  refine viaG (l_toG _ _ xs _ (hR.aft _) hl) ?_
  intro v1 u1 z1 own1
  try simp at z1
  have rd1 := own1.rd
  go_wp2_with fail
  refine viaI (g := fun v => .tuple #[.agg #[.int .i64 P, v], .int .i64 C]) (HS.out _ _ rd1) ?_
  intro vw u2 z2 ownw
  try simp at z2
  obtain ⟨aw, cw, hshw, _, _⟩ := ownw.rd
  subst hshw
  have rdw := ownw.rd
  go_wp2_with fail
  refine viaG (l_toG _ _ xs _ (by repeat (with_reducible first | assumption | apply rdI.aft | apply rdI.alloc | apply rdI.drew | apply rdI.drewN)) hl) ?_
  intro v3 u3 z3 own3
  try simp at z3
  obtain ⟨a3, c3, hsh, _, _⟩ := own3.rd
  subst hsh
  obtain ⟨WL, hWL⟩ : ∃ WL, WL = (aft (aft (aft (w.alloc (Obj.cells #[.int .i64 n, r] 24)) u0) u1) u2).alloc (Obj.cells #[.int .i64 P, .slice aw ys.length cw] 26) := ⟨_, rfl⟩
  obtain ⟨bw, hbw⟩ : ∃ bw, bw = (aft (aft (aft (w.alloc (Obj.cells #[.int .i64 n, r] 24)) u0) u1) u2).heap.size := ⟨_, rfl⟩
  have HEL : Hid (Ext w.heap.size w WL) := hid (by rw [hWL]; exact (by repeat (with_reducible first | exact Ext.refl _ | apply Ext.alloc | apply Ext.aft | apply Ext.drew | apply Ext.drewN | apply Ext.setCell | exact Nat.le_add_right _ _ | exact Nat.le_refl _ | (simp; done) | omega)))
  have c0 : WL.cell? ⟨w.heap.size, 0, none⟩ = some (.int .i64 n) := by rw [hWL]; simp [go_sem, ↓IntWalk.iteOmega]
  have c1 : WL.cell? ⟨w.heap.size, 1, none⟩ = some r := by rw [hWL]; simp [go_sem, ↓IntWalk.iteOmega]
  have e0 : WL.cell? ⟨bw, 0, none⟩ = some (.int .i64 P) := by rw [hWL, hbw]; simp [go_sem]
  have e1 : WL.cell? ⟨bw, 1, none⟩ = some (.slice aw ys.length cw) := by rw [hWL, hbw]; simp [go_sem]
  have hb0 := World.block_lt_of_cell? WL _ c0
  have hbw0 := World.block_lt_of_cell? WL _ e0
  simp only at hb0 hbw0
  have HRL : Hid (rdI WL r xs) := hid (by rw [hWL]; exact (by repeat (with_reducible first | assumption | apply rdI.aft | apply rdI.alloc | apply rdI.drew | apply rdI.drewN)))
  have HWW : Hid (rdI WL (.slice aw ys.length cw) ys) := hid (by rw [hWL]; exact rdw.alloc _)
  have C0 := hid c0
  have C1 := hid c1
  have E0 := hid e0
  have E1 := hid e1
  rw [← hWL] at own3 z3 ⊢
  rw [← hbw]
  obtain ⟨W3, hW3⟩ : ∃ W3, W3 = aft WL u3 := ⟨_, rfl⟩
  have HE3 : Hid (Ext WL.heap.size WL W3) := hid (by rw [hW3]; exact (by repeat (with_reducible first | exact Ext.refl _ | apply Ext.alloc | apply Ext.aft | apply Ext.drew | apply Ext.drewN | apply Ext.setCell | exact Nat.le_add_right _ _ | exact Nat.le_refl _ | (simp; done) | omega)))
  rw [← hW3] at own3 z3 ⊢
  have HO3 := hid own3
  have rr3 : rdI W3 r xs := HRL.out.below HE3.out.1
  have c3' : W3.cell? ⟨w.heap.size, 0, none⟩ = some (.int .i64 n) := by rw [HE3.out.1.cell (p := ⟨w.heap.size, 0, none⟩) hb0]; exact c0
  have c4' : W3.cell? ⟨w.heap.size, 1, none⟩ = some r := by rw [HE3.out.1.cell (p := ⟨w.heap.size, 1, none⟩) hb0]; exact c1
  have w3' : W3.cell? ⟨bw, 0, none⟩ = some (.int .i64 P) := by rw [HE3.out.1.cell (p := ⟨bw, 0, none⟩) hbw0]; exact e0
  have w4' : W3.cell? ⟨bw, 1, none⟩ = some (.slice aw ys.length cw) := by rw [HE3.out.1.cell (p := ⟨bw, 1, none⟩) hbw0]; exact e1
  have hw3b := World.block_lt_of_cell? W3 _ w3'
  simp only at hw3b
  clear hW3 hWL hbw own1 rd1 own3 ownw rdw z0 z1 z2 hR h
  go_wp2_with fail
  refine viaI (g := fun v => .tuple #[.agg #[.int .i64 P, v], .int .i64 C]) (HI.out _ _ (by exact (HO3.out.rd.alloc _))) ?_
  intro vg u4 z4 owng
  try simp at z4
  obtain ⟨ag, cg, hshg, _, _⟩ := owng.rd
  subst hshg
  obtain ⟨W4, hW4⟩ : ∃ W4, W4 = aft (W3.alloc (Obj.cells #[.int .i64 n, .slice a3 xs.length c3] 26)) u4 := ⟨_, rfl⟩
  have hE4 : Ext W3.heap.size W3 W4 := by rw [hW4]; exact (by repeat (with_reducible first | exact Ext.refl _ | apply Ext.alloc | apply Ext.aft | apply Ext.drew | apply Ext.drewN | apply Ext.setCell | exact Nat.le_add_right _ _ | exact Nat.le_refl _ | (simp; done) | omega))
  have q0 : W4.cell? ⟨W3.heap.size, 0, none⟩ = some (.int .i64 n) := by rw [hW4]; simp [go_sem]
  have q1 : W4.cell? ⟨W3.heap.size, 1, none⟩ = some (.slice a3 xs.length c3) := by rw [hW4]; simp [go_sem]
  have hG4 : ownR (W3.heap.size + 1) W4 (.slice ag ys.length cg) ys := by rw [hW4]; exact owng.mono (by simp)
  rw [← hW4]
  clear hW4 owng z4
  have hl34 := World.block_lt_of_cell? W4 _ q0
  simp only at hl34
  have x3 : W4.cell? ⟨bw, 0, none⟩ = some (.int .i64 P) := by rw [hE4.1.cell (p := ⟨bw, 0, none⟩) hw3b]; exact w3'
  have x4 : W4.cell? ⟨bw, 1, none⟩ = some (.slice aw ys.length cw) := by rw [hE4.1.cell (p := ⟨bw, 1, none⟩) hw3b]; exact w4'
  have hx4 := World.block_lt_of_cell? W4 _ x3
  simp only at hx4
  have HGL : Hid (rowLt W4.heap.size (.slice ag ys.length cg)) := hid hG4.rowLt
  have HWW4 := hid (HWW.out.below (HE3.out.below hE4.1).1)
  go_wp2_with fail
  refine via (l_eqG _ _ _ ys _ (hG4.rd.below (by refine Ext.bel (w := W4) ?_; repeat (with_reducible first | exact Ext.refl _ | apply Ext.alloc | apply Ext.aft | apply Ext.drew))) (HWW4.out.below (by refine Ext.bel (w := W4) ?_; repeat (with_reducible first | exact Ext.refl _ | apply Ext.alloc | apply Ext.aft | apply Ext.drew)))) ?_
  intro u5 z5
  try simp at z5
  obtain ⟨W, hW⟩ : ∃ W, W = aft (W4.alloc (Obj.cells #[.int .i64 P, .slice ag ys.length cg] 26)) u5 := ⟨_, rfl⟩
  have hE5 : Ext W4.heap.size W4 W := by rw [hW]; exact (by repeat (with_reducible first | exact Ext.refl _ | apply Ext.alloc | apply Ext.aft | apply Ext.drew | apply Ext.drewN | apply Ext.setCell | exact Nat.le_add_right _ _ | exact Nat.le_refl _ | (simp; done) | omega))
  have r0 : W.cell? ⟨W4.heap.size, 0, none⟩ = some (.int .i64 P) := by rw [hW]; simp [go_sem]
  have r1 : W.cell? ⟨W4.heap.size, 1, none⟩ = some (.slice ag ys.length cg) := by rw [hW]; simp [go_sem]
  have d0 : W.cell? ⟨W3.heap.size, 0, none⟩ = some (.int .i64 n) := by rw [hE5.1.cell (p := ⟨W3.heap.size, 0, none⟩) hl34]; exact q0
  have d1 : W.cell? ⟨W3.heap.size, 1, none⟩ = some (.slice a3 xs.length c3) := by rw [hE5.1.cell (p := ⟨W3.heap.size, 1, none⟩) hl34]; exact q1
  have hE6 : Ext W3.heap.size W3 W := ⟨hE4.1.trans (hE5.1.mono hE4.2), Nat.le_trans hE4.2 hE5.2⟩
  have HOG : Hid (ownR (W3.heap.size + 1) W (.slice ag ys.length cg) ys) := hid (hG4.below hE5.1)
  have h45 := hE4.2
  rw [← hW]
  clear hW z5 c3' c4' rr3 w3' w4' q0 q1 x3 x4 hG4 hE4
  have HEW : Hid (Ext WL.heap.size WL W) := hid (HE3.out.below hE6.1)
  have k0 : W.cell? ⟨w.heap.size, 0, none⟩ = some (.int .i64 n) := by rw [HEW.out.1.cell (p := ⟨w.heap.size, 0, none⟩) hb0]; exact c0
  have k1 : W.cell? ⟨w.heap.size, 1, none⟩ = some r := by rw [HEW.out.1.cell (p := ⟨w.heap.size, 1, none⟩) hb0]; exact c1
  have hbg := World.block_lt_of_cell? W _ r0
  have hb3 := World.block_lt_of_cell? W _ d0
  have hb6 := World.block_lt_of_cell? W _ k0
  simp only at hb3 hb6 hbg
  have HO3W := hid (HO3.out.below hE6.1)
  have HR3 := hid HO3W.out.rd
  have HRR := hid (HRL.out.below HEW.out.1)
  have hE7 : Ext W.heap.size W W := Ext.refl _
  clear c0 c1
  go_wp2_with fail
  go_region_held3 (fun w' => (∀ b o, b < W.heap.size → w'.cell? ⟨b, o, none⟩ = W.cell? ⟨b, o, none⟩) ∧ Hid (Ext W.heap.size W w')) ((refine sB ?_; repeat (with_reducible first | assumption | apply Ext.aft | apply Ext.alloc | apply Ext.drew | apply Ext.drewN))) (first | (go_at_call 9; refine viaG (l_toG _ _ xs _ (HRR.out.below (Ext.bel (by repeat (with_reducible first | exact hE7 | apply Ext.aft | apply Ext.alloc | apply Ext.drew | apply Ext.drewN)))) hl) ?_; intro t1 u7 z7 own7; (try simp at z7)) | (go_at_call 11; refine via (l_eqG _ _ _ xs _ (HR3.out.below (Ext.bel (by repeat (with_reducible first | exact hE7 | apply Ext.aft | apply Ext.alloc | apply Ext.drew | apply Ext.drewN)))) (by first | exact own7.rd | exact own7.rd.drew)) ?_; intro u8 z8; (try simp at z8)))
  obtain ⟨V, hV⟩ : ∃ V, V = aft (aft W.drew u7) u8 := ⟨_, rfl⟩
  have hEW : Ext W.heap.size W V := by rw [hV]; exact (by repeat (with_reducible first | exact hE7 | apply Ext.aft | apply Ext.alloc | apply Ext.drew | apply Ext.drewN))
  rw [← hV]
  have hbV := hEW.2
  have g0 : V.cell? ⟨W3.heap.size, 0, none⟩ = some (.int .i64 n) := by rw [hEW.1.cell (p := ⟨W3.heap.size, 0, none⟩) hb3]; exact d0
  have g1 : V.cell? ⟨W3.heap.size, 1, none⟩ = some (.slice a3 xs.length c3) := by rw [hEW.1.cell (p := ⟨W3.heap.size, 1, none⟩) hb3]; exact d1
  have t0 : V.cell? ⟨W4.heap.size, 0, none⟩ = some (.int .i64 P) := by rw [hEW.1.cell (p := ⟨W4.heap.size, 0, none⟩) hbg]; exact r0
  have t1' : V.cell? ⟨W4.heap.size, 1, none⟩ = some (.slice ag ys.length cg) := by rw [hEW.1.cell (p := ⟨W4.heap.size, 1, none⟩) hbg]; exact r1
  have HVG := hid (HOG.out.below hEW.1)
  have HV3 := hid (HO3W.out.below hEW.1)
  have HLV : Hid (Ext WL.heap.size WL V) := hid (HEW.out.below hEW.1)
  clear hV own7 z7 z8 d0 d1 k0 k1 r0 r1 hE7 hE5 hE6 hEW
  go_wp2_with fail
  refine (l_markGr WL.heap.size n _ xs 1 _ HV3.out (by omega) (by omega)).mono ?_
  rintro e V2 ⟨rfl, _, hgr⟩
  have HG2 : Hid (ownR (W3.heap.size + 1) V2 (.slice ag ys.length cg) ys) := hid (HVG.out.kept fun k hk hb => hgr.block k hk fun e => by
    have h1 := own_row_ge HVG.out k hb
    have h2 := HO3.out.rowLt k e.symm
    omega)
  have HL2 : Hid (Ext WL.heap.size WL V2) := hid (Ext.grown HLV.out hgr (own_row_ge HV3.out))
  have p0 : V2.cell? ⟨W4.heap.size, 0, none⟩ = some (.int .i64 P) := hgr.cell t0 (fun e => by have := HO3.out.rowLt _ e.symm; simp only at this; omega)
  have p1 : V2.cell? ⟨W4.heap.size, 1, none⟩ = some (.slice ag ys.length cg) := hgr.cell t1' (fun e => by have := HO3.out.rowLt _ e.symm; simp only at this; omega)
  have p2 : V2.cell? ⟨bw, 0, none⟩ = some (.int .i64 P) := by rw [HL2.out.1.cell (p := ⟨bw, 0, none⟩) hbw0]; exact E0.out
  have p3 : V2.cell? ⟨bw, 1, none⟩ = some (.slice aw ys.length cw) := by rw [HL2.out.1.cell (p := ⟨bw, 1, none⟩) hbw0]; exact E1.out
  clear hgr g0 g1 t0 t1'
  go_wp2_with fail
  refine via (l_eqG _ _ _ ys _ HG2.out.rd (HWW.out.below HL2.out.1)) ?_
  intro u9 z9
  try simp at z9
  have lp := World.block_lt_of_cell? V2 _ p0
  simp only at lp
  have o0 : (aft V2 u9).cell? ⟨W4.heap.size, 0, none⟩ = some (.int .i64 P) := by rw [aft_cell, if_pos lp]; exact p0
  have o1 : (aft V2 u9).cell? ⟨W4.heap.size, 1, none⟩ = some (.slice ag ys.length cg) := by rw [aft_cell, if_pos lp]; exact p1
  go_wp2_with fail
  refine (l_markGr (W3.heap.size + 1) _ _ ys 1 _ (HG2.out.aft u9) (by omega) (by omega)).mono ?_
  rintro e V4 ⟨rfl, hmk, hgr⟩
  have hm4 := HE3.out.2
  have HL4 : Hid (Ext WL.heap.size WL V4) := hid (Ext.grown (HL2.out.aft u9) hgr (fun k hk => by have := own_row_ge HG2.out k hk; omega))
  have HM4 := hid hmk.rd
  have s0 : V4.cell? ⟨W4.heap.size, 0, none⟩ = some (.int .i64 P) := hgr.cell o0 (fun e => by have := HGL.out _ e.symm; simp only at this; omega)
  have s1 : V4.cell? ⟨W4.heap.size, 1, none⟩ = some (.slice ag ys.length cg) := hgr.cell o1 (fun e => by have := HGL.out _ e.symm; simp only at this; omega)
  have j2 : V4.cell? ⟨w.heap.size, 0, none⟩ = some (.int .i64 n) := by rw [HL4.out.1.cell (p := ⟨w.heap.size, 0, none⟩) hb0]; exact C0.out
  have j3 : V4.cell? ⟨w.heap.size, 1, none⟩ = some r := by rw [HL4.out.1.cell (p := ⟨w.heap.size, 1, none⟩) hb0]; exact C1.out
  have j4 : V4.cell? ⟨bw, 0, none⟩ = some (.int .i64 P) := by rw [HL4.out.1.cell (p := ⟨bw, 0, none⟩) hbw0]; exact E0.out
  have j5 : V4.cell? ⟨bw, 1, none⟩ = some (.slice aw ys.length cw) := by rw [HL4.out.1.cell (p := ⟨bw, 1, none⟩) hbw0]; exact E1.out
  have l4 : w.heap.size < V4.heap.size := by have := HL4.out.2; omega
  have l5 : bw < V4.heap.size := by have := HL4.out.2; omega
  have l6 := World.block_lt_of_cell? V4 _ s0
  simp only at l6
  clear hmk hgr z9 p0 p1 p2 p3 o0 o1 lp
  go_wp2_with fail
  refine via (l_heldGr _ _ ys.length 1 _ HM4.out (by omega) (by omega)) ?_
  intro u13 z13
  try simp at z13
  go_wp2_with fail
  refine viaG (l_toG _ _ xs _ (HRL.out.below (HL4.out.aft u13).1) hl) ?_
  intro v8 u10 z10 own8
  try simp at z10
  go_wp2_with fail
  refine viaI (g := fun v => .tuple #[.agg #[.int .i64 P, v], .int .i64 C]) (HI.out _ _ own8.rd) ?_
  intro vh u11 z11 ownh
  try simp at z11
  obtain ⟨ah, ch, hshh, _, _⟩ := ownh.rd
  subst hshh
  have rdh := ownh.rd
  go_wp2_with fail
  refine via (l_eqG _ _ _ ys _ (rdh.alloc _) ((HWW.out.below HL4.out.1).below (by refine Ext.bel (w := V4) ?_; repeat (with_reducible first | exact Ext.refl _ | apply Ext.alloc | apply Ext.aft | apply Ext.drew)))) ?_
  intro u12 z12
  try simp at z12
  go_wp2_with fail
  refine via (l_heldGr _ _ ys.length 1 _ (HM4.out.below (by refine Ext.bel (w := V4) ?_; repeat (with_reducible first | exact Ext.refl _ | apply Ext.alloc | apply Ext.aft | apply Ext.drew))) (by omega) (by omega)) ?_
  intro u14 z14
  try simp at z14
  go_wp2_with fail
  go_ret
  exact ⟨rfl, HEL.out.bel.trans (Below.mono (HL4.out.1.trans (Below.mono (by refine Ext.bel (w := V4) ?_; repeat (with_reducible first | exact Ext.refl _ | apply Ext.alloc | apply Ext.aft | apply Ext.drew)) HL4.out.2)) HEL.out.2)⟩
end Go.Proofs.Ytbifkabjkpljjaa
