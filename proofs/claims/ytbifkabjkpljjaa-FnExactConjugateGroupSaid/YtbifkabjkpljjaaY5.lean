/- ConjugateGroup: the law. -/
import Derived.Test.YtbifkabjkpljjaaY4
import Derived.Test.YtbifkabjkpljjaaP9v
import Derived.Test.YtbifkabjkpljjaaO6m
namespace Go.Proofs.Ytbifkabjkpljjaa
open Go Go.RowKit

set_option maxHeartbeats 4000000 in
theorem l_markGrW (B : Nat) (n : Int) (r : Value) (xs : List Int) (k : Int) (w : World) (h : ownR B w r xs) (hk : 0 ≤ k ∧ k ≤ 1000000000) (hl : xs.length ≤ 1048576) :
    Calls Try.prog 12 #[.agg #[.int .i64 n, r], .int .i64 k] w fun e w' => e = .returned (.int .i64 (k + xs.length)) ∧ ownR B w' r (marks k xs.length) ∧ w.grownBy w' r.ownBlock := by
  have HO := hid (h.alloc (Obj.cells #[.int .i64 n, r] 26))
  clear h
  go_enter Try.func12, Try.ntmps12
  go_wp2_with fail
  refine (l_markG B r xs k _ HO.out (by omega) (by omega)).mono ?_
  rintro e w' ⟨rfl, h1, h2⟩
  have H1 := hid h1
  have H2 := hid h2
  clear h1 h2
  go_wp2_with fail
  go_ret
  exact ⟨rfl, H1.out, grownBy_trans (World.grownBy_alloc _ _ _) H2.out⟩
set_option maxRecDepth 20000 in
set_option maxHeartbeats 8000000 in
theorem law_ConjugateGroup (n : Int) (r : Value) (xs : List Int) (s : Value) (ys : List Int) (w : World) (h : rdI w r xs) (h' : rdI w s ys) :
    Calls Try.prog 6 #[(.agg #[.int .i64 n, r]), s] w fun e w' => e = .returned (.bool true) ∧ Below w.heap.size w w' := by
  have hR : rdI (w.alloc (Obj.cells #[.int .i64 n, r] 24)) r xs := h.alloc _
  have hR' : rdI (w.alloc (Obj.cells #[.int .i64 n, r] 24)) s ys := h'.alloc _
  obtain ⟨sa, sc, hsh, hm, _⟩ := id h'
  unfold maxLen at hm
  by_cases hl9 : ys.length ≤ 1048576
  case neg =>
    have hgt : (1048576 : Int) < (ys.length : Int) := by omega
    subst hsh
    go_enter Try.func6, Try.ntmps6
    go_wp2_with fail
    go_ret
    exact ⟨rfl, (by refine Ext.bel ?_; repeat (with_reducible first | exact Ext.refl _ | apply Ext.alloc | apply Ext.aft | apply Ext.drew | apply Ext.drewN | apply Ext.setCell | exact Nat.le_add_right _ _ | exact Nat.le_refl _ | (simp; done) | omega))⟩
  have hngt : ¬ (1048576 : Int) < (ys.length : Int) := by omega
  by_cases hl : xs.length ≤ 1048576
  case neg =>
    subst hsh
    go_enter Try.func6, Try.ntmps6
    go_wp2_with fail
    refine via (l_szGn _ _ xs _ _ hR (by omega) (by omega)) ?_
    intro u0 z0; try simp at z0
    go_wp2_with fail
    go_ret
    exact ⟨rfl, (by refine Ext.bel ?_; repeat (with_reducible first | exact Ext.refl _ | apply Ext.alloc | apply Ext.aft | apply Ext.drew | apply Ext.drewN | apply Ext.setCell | exact Nat.le_add_right _ _ | exact Nat.le_refl _ | (simp; done) | omega))⟩
  obtain ⟨A, P, C, hF⟩ : ∃ A P C, cjF n xs ys = (A, P, C) := ⟨_, _, _, rfl⟩
  have hAl : A.length ≤ 1000 := by have := cjF_len n xs ys; rw [hF] at this; exact this
  have HF := hid hF
  clear hF
  subst hsh
  go_enter Try.func6, Try.ntmps6
  go_wp2_with fail
  refine via (l_szGp _ _ xs _ _ hR (by omega) (by omega)) ?_
  intro u0 z0; try simp at z0
  go_wp2_with fail
  refine viaG (l_toG n r xs _ (hR.aft _) hl) ?_
  intro v1 u1 z1 own1
  try simp at z1
  go_wp2_with fail
  refine viaI (g := id) (l_toI _ _ _ ((hR'.aft _).aft _) hl9) ?_
  intro v2 u2 z2 own2
  try simp at z2
  go_wp2_with fail
  refine viaI (g := fun v => .tuple #[.agg #[.int .i64 P, v], .int .i64 C]) (s_Conj n _ _ xs ys _ A P C (own1.rd.aft _) hl (own2.mono (Nat.zero_le _)) hl9 HF.out) ?_
  intro vw u3 z3 ownw
  try simp at z3
  obtain ⟨aw, cw, hshw, _, _⟩ := ownw.rd
  subst hshw
  obtain ⟨W1, hW1⟩ : ∃ W1, W1 = aft (aft (aft (aft (w.alloc (Obj.cells #[.int .i64 n, r] 24)) u0) u1) u2) u3 := ⟨_, rfl⟩
  have HE1 : Hid (Ext w.heap.size w W1) := hid (by rw [hW1]; exact (by repeat (with_reducible first | exact Ext.refl _ | apply Ext.alloc | apply Ext.aft | apply Ext.drew | apply Ext.drewN | apply Ext.setCell | exact Nat.le_add_right _ _ | exact Nat.le_refl _ | (simp; done) | omega)))
  have c0 : W1.cell? ⟨w.heap.size, 0, none⟩ = some (.int .i64 n) := by rw [hW1]; simp [go_sem, ↓IntWalk.iteOmega]
  have c1 : W1.cell? ⟨w.heap.size, 1, none⟩ = some r := by rw [hW1]; simp [go_sem, ↓IntWalk.iteOmega]
  have HR1 := hid (show rdI W1 r xs by rw [hW1]; exact (((hR.aft _).aft _).aft _).aft _)
  have HR2 := hid (show rdI W1 (.slice sa ys.length sc) ys by rw [hW1]; exact (((hR'.aft _).aft _).aft _).aft _)
  have HW1 := hid (show rdI W1 (.slice aw A.length cw) A by rw [hW1]; exact ownw.rd)
  rw [← hW1]
  have hb0 := World.block_lt_of_cell? W1 _ c0
  simp only at hb0
  clear hW1 own1 own2 ownw z0 z1 z2 z3 hR hR' h h'
  obtain ⟨WL, hWL⟩ : ∃ WL, WL = W1.alloc (Obj.cells #[.int .i64 P, .slice aw A.length cw] 26) := ⟨_, rfl⟩
  obtain ⟨bw, hbwe⟩ : ∃ bw, bw = W1.heap.size := ⟨_, rfl⟩
  have HX1 : Hid (Ext W1.heap.size W1 WL) := hid (by rw [hWL]; exact (Ext.refl _).alloc _)
  have HEL := hid (HE1.out.below HX1.out.1)
  have e0 : WL.cell? ⟨bw, 0, none⟩ = some (.int .i64 P) := by rw [hWL, hbwe]; simp [go_sem]
  have e1 : WL.cell? ⟨bw, 1, none⟩ = some (.slice aw A.length cw) := by rw [hWL, hbwe]; simp [go_sem]
  have d0 : WL.cell? ⟨w.heap.size, 0, none⟩ = some (.int .i64 n) := by rw [HX1.out.1.cell (p := ⟨w.heap.size, 0, none⟩) hb0]; exact c0
  have d1 : WL.cell? ⟨w.heap.size, 1, none⟩ = some r := by rw [HX1.out.1.cell (p := ⟨w.heap.size, 1, none⟩) hb0]; exact c1
  have hbw := World.block_lt_of_cell? WL _ e0
  simp only at hbw
  have HQ1 := hid (HR1.out.below HX1.out.1)
  have HQ2 := hid (HR2.out.below HX1.out.1)
  have HWW := hid (HW1.out.below HX1.out.1)
  have lW1 : w.heap.size < WL.heap.size := by have := HX1.out.2; omega
  have D0 := hid d0
  have D1 := hid d1
  have E0 := hid e0
  have E1 := hid e1

  go_wp2_with fail
  rw [← hWL, ← hbwe]
  clear hWL hbwe c0 c1 hb0
  refine viaG (l_toG n r xs _ HQ1.out hl) ?_
  intro v3 u3 z3 own3
  try simp at z3
  obtain ⟨a3, k3, hsh, _, _⟩ := own3.rd
  subst hsh
  obtain ⟨W3, hW3⟩ : ∃ W3, W3 = aft WL u3 := ⟨_, rfl⟩
  have HE3 : Hid (Ext WL.heap.size WL W3) := hid (by rw [hW3]; exact (by repeat (with_reducible first | exact Ext.refl _ | apply Ext.alloc | apply Ext.aft | apply Ext.drew | apply Ext.drewN | apply Ext.setCell | exact Nat.le_add_right _ _ | exact Nat.le_refl _ | (simp; done) | omega)))
  rw [← hW3] at own3 ⊢
  have HO3 := hid own3
  have hs3 := HE3.out.2
  clear hW3 own3 z3 d0 d1 e0 e1
  go_wp2_with fail
  refine viaI (g := id) (l_toI _ _ _ ((HQ2.out.below HE3.out.1).alloc _) hl9) ?_
  intro v4 u4 z4 own4
  try simp at z4
  obtain ⟨a4, k4, hsh, _, _⟩ := own4.rd
  subst hsh
  obtain ⟨W4, hW4⟩ : ∃ W4, W4 = aft (W3.alloc (Obj.cells #[.int .i64 n, .slice a3 xs.length k3] 26)) u4 := ⟨_, rfl⟩
  have HE4 : Hid (Ext W3.heap.size W3 W4) := hid (by rw [hW4]; exact (by repeat (with_reducible first | exact Ext.refl _ | apply Ext.alloc | apply Ext.aft | apply Ext.drew | apply Ext.drewN | apply Ext.setCell | exact Nat.le_add_right _ _ | exact Nat.le_refl _ | (simp; done) | omega)))
  have f0 : W4.cell? ⟨W3.heap.size, 0, none⟩ = some (.int .i64 n) := by rw [hW4]; simp [go_sem]
  have f1 : W4.cell? ⟨W3.heap.size, 1, none⟩ = some (.slice a3 xs.length k3) := by rw [hW4]; simp [go_sem]
  have HO4 : Hid (ownR (W3.heap.size + 1) W4 (.slice a4 ys.length k4) ys) := hid (by rw [hW4]; exact own4.mono (by simp))
  rw [← hW4]
  have h34 := World.block_lt_of_cell? W4 _ f0
  simp only at h34
  clear hW4 own4 z4
  go_wp2_with fail
  refine viaI (g := fun v => .tuple #[.agg #[.int .i64 P, v], .int .i64 C]) (i_Conj n _ _ xs ys _ A P C (HO3.out.rd.below HE4.out.1) hl (HO4.out.mono (Nat.zero_le _)) hl9 HF.out) ?_
  intro vg u5 z5 owng
  try simp at z5
  obtain ⟨ag, cg, hshg, _, _⟩ := owng.rd
  subst hshg
  obtain ⟨W5, hW5⟩ : ∃ W5, W5 = aft W4 u5 := ⟨_, rfl⟩
  have HE5 : Hid (Ext W4.heap.size W4 W5) := hid (by rw [hW5]; exact (by repeat (with_reducible first | exact Ext.refl _ | apply Ext.alloc | apply Ext.aft | apply Ext.drew | apply Ext.drewN | apply Ext.setCell | exact Nat.le_add_right _ _ | exact Nat.le_refl _ | (simp; done) | omega)))
  have HOG : Hid (ownR W4.heap.size W5 (.slice ag A.length cg) A) := hid (by rw [hW5]; exact owng)
  rw [← hW5]
  have g0 : W5.cell? ⟨W3.heap.size, 0, none⟩ = some (.int .i64 n) := by rw [HE5.out.1.cell (p := ⟨W3.heap.size, 0, none⟩) h34]; exact f0
  have g1 : W5.cell? ⟨W3.heap.size, 1, none⟩ = some (.slice a3 xs.length k3) := by rw [HE5.out.1.cell (p := ⟨W3.heap.size, 1, none⟩) h34]; exact f1
  have h45 := HE5.out.2
  have h35 := World.block_lt_of_cell? W5 _ g0
  simp only at h35
  have HX : Hid (Ext WL.heap.size WL W5) := hid ⟨HE3.out.1.trans ((HE4.out.1.mono HE3.out.2).trans (HE5.out.1.mono (Nat.le_trans HE3.out.2 HE4.out.2))), Nat.le_trans HE3.out.2 (Nat.le_trans HE4.out.2 HE5.out.2)⟩
  have x3 : W5.cell? ⟨bw, 0, none⟩ = some (.int .i64 P) := by rw [HX.out.1.cell (p := ⟨bw, 0, none⟩) hbw]; exact E0.out
  have x4 : W5.cell? ⟨bw, 1, none⟩ = some (.slice aw A.length cw) := by rw [HX.out.1.cell (p := ⟨bw, 1, none⟩) hbw]; exact E1.out
  have lx4 := World.block_lt_of_cell? W5 _ x3
  simp only at lx4
  have hE5 : Ext W5.heap.size W5 W5 := Ext.refl _
  clear hW5 owng z5 f0 f1
  go_wp2_with fail
  refine via (l_eqG _ _ _ A _ (HOG.out.rd.alloc _) ((HWW.out.below HX.out.1).alloc _)) ?_
  intro u6 z6
  try simp at z6
  obtain ⟨W, hW⟩ : ∃ W, W = aft (W5.alloc (Obj.cells #[.int .i64 P, .slice ag A.length cg] 26)) u6 := ⟨_, rfl⟩
  have HE6 : Hid (Ext W5.heap.size W5 W) := hid (by rw [hW]; exact (by repeat (with_reducible first | exact Ext.refl _ | apply Ext.alloc | apply Ext.aft | apply Ext.drew | apply Ext.drewN | apply Ext.setCell | exact Nat.le_add_right _ _ | exact Nat.le_refl _ | (simp; done) | omega)))
  have r0 : W.cell? ⟨W5.heap.size, 0, none⟩ = some (.int .i64 P) := by rw [hW]; simp [go_sem]
  have r1 : W.cell? ⟨W5.heap.size, 1, none⟩ = some (.slice ag A.length cg) := by rw [hW]; simp [go_sem]
  rw [← hW]
  have p0 : W.cell? ⟨W3.heap.size, 0, none⟩ = some (.int .i64 n) := by rw [HE6.out.1.cell (p := ⟨W3.heap.size, 0, none⟩) h35]; exact g0
  have p1 : W.cell? ⟨W3.heap.size, 1, none⟩ = some (.slice a3 xs.length k3) := by rw [HE6.out.1.cell (p := ⟨W3.heap.size, 1, none⟩) h35]; exact g1
  have HXW := hid (HX.out.below HE6.out.1)
  have k0 : W.cell? ⟨w.heap.size, 0, none⟩ = some (.int .i64 n) := by rw [HXW.out.1.cell (p := ⟨w.heap.size, 0, none⟩) lW1]; exact D0.out
  have k1 : W.cell? ⟨w.heap.size, 1, none⟩ = some r := by rw [HXW.out.1.cell (p := ⟨w.heap.size, 1, none⟩) lW1]; exact D1.out
  have l1 := World.block_lt_of_cell? W _ r0
  have l2 := World.block_lt_of_cell? W _ p0
  have l4 := World.block_lt_of_cell? W _ k0
  simp only at l1 l2 l4
  have HG3 : Hid (Ext W3.heap.size W3 W) := hid (by exact (HE4.out.below HE5.out.1).below HE6.out.1)
  have HG4 : Hid (Ext W4.heap.size W4 W) := hid (HE5.out.below HE6.out.1)
  have HO3W := hid (HO3.out.below HG3.out.1)
  have HO4W := hid (HO4.out.below HG4.out.1)
  have HOGW := hid (HOG.out.below HE6.out.1)
  have H3L : Hid (rowLt W3.heap.size (.slice a3 xs.length k3)) := hid HO3.out.rowLt
  have H4L : Hid (rowLt W4.heap.size (.slice a4 ys.length k4)) := hid HO4.out.rowLt
  have HGL : Hid (rowLt W5.heap.size (.slice ag A.length cg)) := hid HOG.out.rowLt
  have HR3 := hid HO3W.out.rd
  have HRR := hid (HQ1.out.below HXW.out.1)
  have hE7 : Ext W.heap.size W W := Ext.refl _
  clear hW z6 g0 g1 x3 x4 hE5
  go_wp2_with fail
  go_region_held3 (fun w' => (∀ b o, b < W.heap.size → w'.cell? ⟨b, o, none⟩ = W.cell? ⟨b, o, none⟩) ∧ Hid (Ext W.heap.size W w')) ((refine sB ?_; repeat (first | with_reducible assumption | with_reducible apply Ext.aft | with_reducible apply Ext.alloc | with_reducible apply Ext.drew | with_reducible apply Ext.drewN | with_reducible apply Ext.setCell | omega | (simp; omega)))) (first | (go_at_call 9; refine viaG (l_toG n r xs _ (HRR.out.below (Ext.bel (by repeat (with_reducible first | exact hE7 | apply Ext.aft | apply Ext.alloc | apply Ext.drew | apply Ext.drewN)))) hl) ?_; intro t1 u7 z7 own7; (try simp at z7)) | (go_at_call 11; refine via (l_eqG n _ _ xs _ (HR3.out.below (Ext.bel (by repeat (with_reducible first | exact hE7 | apply Ext.aft | apply Ext.alloc | apply Ext.drew | apply Ext.drewN)))) (by first | exact own7.rd | exact own7.rd.drew)) ?_; intro u8 z8; (try simp at z8)))
  obtain ⟨V, hV⟩ : ∃ V, V = aft (aft W.drew u7) u8 := ⟨_, rfl⟩
  have HEV : Hid (Ext W.heap.size W V) := hid (by rw [hV]; exact (by repeat (with_reducible first | exact hE7 | apply Ext.aft | apply Ext.alloc | apply Ext.drew | apply Ext.drewN)))
  rw [← hV]
  have hbV := HEV.out.2
  have m0 : V.cell? ⟨W3.heap.size, 0, none⟩ = some (.int .i64 n) := by rw [HEV.out.1.cell (p := ⟨W3.heap.size, 0, none⟩) l2]; exact p0
  have m1 : V.cell? ⟨W3.heap.size, 1, none⟩ = some (.slice a3 xs.length k3) := by rw [HEV.out.1.cell (p := ⟨W3.heap.size, 1, none⟩) l2]; exact p1
  have mg0 : V.cell? ⟨W5.heap.size, 0, none⟩ = some (.int .i64 P) := by rw [HEV.out.1.cell (p := ⟨W5.heap.size, 0, none⟩) l1]; exact r0
  have mg1 : V.cell? ⟨W5.heap.size, 1, none⟩ = some (.slice ag A.length cg) := by rw [HEV.out.1.cell (p := ⟨W5.heap.size, 1, none⟩) l1]; exact r1
  have HXV := hid (HXW.out.below HEV.out.1)
  have O3 := hid (HO3W.out.below HEV.out.1)
  have O4 := hid (HO4W.out.below HEV.out.1)
  have OG := hid (HOGW.out.below HEV.out.1)
  have HY2 := hid O4.out.rd
  have HY4 := hid (HQ2.out.below HXV.out.1)
  have n2 := World.block_lt_of_cell? V _ m0
  have n4 := World.block_lt_of_cell? V _ mg0
  simp only at n2 n4
  have hE9 : Ext V.heap.size V V := Ext.refl _
  clear hV own7 z7 z8 p0 p1 k0 k1 r0 r1 hE7 HR3 HRR
  go_wp2_with fail
  refine viaI (g := id) (l_toI _ _ _ HY4.out hl9) ?_
  intro t3 u9 z9 own9
  try simp at z9
  go_wp2_with fail
  refine via (l_eqI _ _ ys _ (HY2.out.aft _) own9.rd) ?_
  intro u10 z10
  try simp at z10
  obtain ⟨Y, hY⟩ : ∃ Y, Y = aft (aft V u9) u10 := ⟨_, rfl⟩
  have HEY : Hid (Ext V.heap.size V Y) := hid (by rw [hY]; exact (by repeat (with_reducible first | exact hE9 | apply Ext.aft | apply Ext.alloc | apply Ext.drew | apply Ext.drewN)))
  rw [← hY]
  have b0 : Y.cell? ⟨W3.heap.size, 0, none⟩ = some (.int .i64 n) := by rw [HEY.out.1.cell (p := ⟨W3.heap.size, 0, none⟩) n2]; exact m0
  have b1 : Y.cell? ⟨W3.heap.size, 1, none⟩ = some (.slice a3 xs.length k3) := by rw [HEY.out.1.cell (p := ⟨W3.heap.size, 1, none⟩) n2]; exact m1
  have b4 : Y.cell? ⟨W5.heap.size, 0, none⟩ = some (.int .i64 P) := by rw [HEY.out.1.cell (p := ⟨W5.heap.size, 0, none⟩) n4]; exact mg0
  have b5 : Y.cell? ⟨W5.heap.size, 1, none⟩ = some (.slice ag A.length cg) := by rw [HEY.out.1.cell (p := ⟨W5.heap.size, 1, none⟩) n4]; exact mg1
  have HXY := hid (HXV.out.below HEY.out.1)
  have O3Y := hid (O3.out.below HEY.out.1)
  have O4Y := hid (O4.out.below HEY.out.1)
  have OGY := hid (OG.out.below HEY.out.1)
  clear hY own9 z9 z10 m0 m1 mg0 mg1 hE9 HY2 HY4
  go_wp2_with fail
  refine (l_markGrW WL.heap.size n _ xs 1 _ O3Y.out (by omega) (by omega)).mono ?_
  rintro e Y1 ⟨rfl, _, hgr⟩
  have O41 : Hid (ownR (W3.heap.size + 1) Y1 (.slice a4 ys.length k4) ys) := hid (O4Y.out.kept fun k hk hb => hgr.block k hk fun e => by
    have h1 := own_row_ge O4Y.out k hb
    have h2 := H3L.out k e.symm
    omega)
  have OG1 : Hid (ownR W4.heap.size Y1 (.slice ag A.length cg) A) := hid (OGY.out.kept fun k hk hb => hgr.block k hk fun e => by
    have h1 := own_row_ge OGY.out k hb
    have h2 := H3L.out k e.symm
    omega)
  have HL1 : Hid (Ext WL.heap.size WL Y1) := hid (Ext.grown HXY.out hgr (own_row_ge O3Y.out))
  have q4 : Y1.cell? ⟨W5.heap.size, 0, none⟩ = some (.int .i64 P) := hgr.cell b4 (fun e => by have := H3L.out _ e.symm; simp only at this; omega)
  have q5 : Y1.cell? ⟨W5.heap.size, 1, none⟩ = some (.slice ag A.length cg) := hgr.cell b5 (fun e => by have := H3L.out _ e.symm; simp only at this; omega)
  clear hgr b0 b1 b4 b5
  go_wp2_with fail
  refine (l_markG (W3.heap.size + 1) _ ys (1 + (xs.length : Int)) _ O41.out (by omega) (by omega)).mono ?_
  rintro e Y2 ⟨rfl, _, hgr⟩
  have OG2 : Hid (ownR W4.heap.size Y2 (.slice ag A.length cg) A) := hid (OG1.out.kept fun k hk hb => hgr.block k hk fun e => by
    have h1 := own_row_ge OG1.out k hb
    have h2 := H4L.out k e.symm
    omega)
  have HL2 : Hid (Ext WL.heap.size WL Y2) := hid (Ext.grown HL1.out hgr (fun k hk => by have := own_row_ge O41.out k hk; omega))
  have t4 : Y2.cell? ⟨W5.heap.size, 0, none⟩ = some (.int .i64 P) := hgr.cell q4 (fun e => by have := H4L.out _ e.symm; simp only at this; omega)
  have t5 : Y2.cell? ⟨W5.heap.size, 1, none⟩ = some (.slice ag A.length cg) := hgr.cell q5 (fun e => by have := H4L.out _ e.symm; simp only at this; omega)
  have s0 : Y2.cell? ⟨bw, 0, none⟩ = some (.int .i64 P) := by rw [HL2.out.1.cell (p := ⟨bw, 0, none⟩) hbw]; exact E0.out
  have s1 : Y2.cell? ⟨bw, 1, none⟩ = some (.slice aw A.length cw) := by rw [HL2.out.1.cell (p := ⟨bw, 1, none⟩) hbw]; exact E1.out
  clear hgr q4 q5
  go_wp2_with fail
  refine via (l_eqG _ _ _ A _ OG2.out.rd (HWW.out.below HL2.out.1)) ?_
  intro u11 z11
  try simp at z11
  have lp := World.block_lt_of_cell? Y2 _ t4
  simp only at lp
  have o0 : (aft Y2 u11).cell? ⟨W5.heap.size, 0, none⟩ = some (.int .i64 P) := by rw [aft_cell, if_pos lp]; exact t4
  have o1 : (aft Y2 u11).cell? ⟨W5.heap.size, 1, none⟩ = some (.slice ag A.length cg) := by rw [aft_cell, if_pos lp]; exact t5
  go_wp2_with fail
  refine (l_markGrW W4.heap.size _ _ A 1 _ (OG2.out.aft u11) (by omega) (by omega)).mono ?_
  rintro e V4 ⟨rfl, hmk, hgr⟩
  have HL4 : Hid (Ext WL.heap.size WL V4) := hid (Ext.grown (HL2.out.aft u11) hgr (fun k hk => by have := own_row_ge OG2.out k hk; omega))
  have HM4 := hid hmk.rd
  have i0 : V4.cell? ⟨W5.heap.size, 0, none⟩ = some (.int .i64 P) := hgr.cell o0 (fun e => by have := HGL.out _ e.symm; simp only at this; omega)
  have i1 : V4.cell? ⟨W5.heap.size, 1, none⟩ = some (.slice ag A.length cg) := hgr.cell o1 (fun e => by have := HGL.out _ e.symm; simp only at this; omega)
  clear hmk hgr z11 t4 t5 s0 s1 o0 o1 lp
  go_wp2_with fail
  refine via (l_heldGr _ _ A.length 1 _ HM4.out (by omega) (by omega)) ?_
  intro u13 z13
  try simp at z13
  obtain ⟨V5, hV5⟩ : ∃ V5, V5 = aft V4 u13 := ⟨_, rfl⟩
  have HE55 : Hid (Ext V4.heap.size V4 V5) := hid (by rw [hV5]; exact (by repeat (with_reducible first | exact Ext.refl _ | apply Ext.alloc | apply Ext.aft | apply Ext.drew | apply Ext.drewN | apply Ext.setCell | exact Nat.le_add_right _ _ | exact Nat.le_refl _ | (simp; done) | omega)))
  rw [← hV5]
  have li := World.block_lt_of_cell? V4 _ i0
  simp only at li
  have j0 : V5.cell? ⟨W5.heap.size, 0, none⟩ = some (.int .i64 P) := by rw [HE55.out.1.cell (p := ⟨W5.heap.size, 0, none⟩) li]; exact i0
  have j1 : V5.cell? ⟨W5.heap.size, 1, none⟩ = some (.slice ag A.length cg) := by rw [HE55.out.1.cell (p := ⟨W5.heap.size, 1, none⟩) li]; exact i1
  have HL5 := hid (HL4.out.below HE55.out.1)
  have HM5 := hid (HM4.out.below HE55.out.1)
  have j2 : V5.cell? ⟨w.heap.size, 0, none⟩ = some (.int .i64 n) := by rw [HL5.out.1.cell (p := ⟨w.heap.size, 0, none⟩) lW1]; exact D0.out
  have j3 : V5.cell? ⟨w.heap.size, 1, none⟩ = some r := by rw [HL5.out.1.cell (p := ⟨w.heap.size, 1, none⟩) lW1]; exact D1.out
  have j6 : V5.cell? ⟨bw, 0, none⟩ = some (.int .i64 P) := by rw [HL5.out.1.cell (p := ⟨bw, 0, none⟩) hbw]; exact E0.out
  have j7 : V5.cell? ⟨bw, 1, none⟩ = some (.slice aw A.length cw) := by rw [HL5.out.1.cell (p := ⟨bw, 1, none⟩) hbw]; exact E1.out
  have hbL := HL5.out.2
  have lg := World.block_lt_of_cell? V5 _ j0
  simp only at lg
  have l15 : w.heap.size < V5.heap.size := by omega
  have lb5 : bw < V5.heap.size := by omega
  have HG1 := hid (HQ1.out.below HL5.out.1)
  have HG2 := hid (HQ2.out.below HL5.out.1)
  have HW5 := hid (HWW.out.below HL5.out.1)
  have hEV : Ext V5.heap.size V5 V5 := Ext.refl _
  clear hV5 z13 i0 i1 li
  go_wp2_with fail
  refine viaG (l_toG n r xs _ HG1.out hl) ?_
  intro ta ua za owna
  try simp at za
  go_wp2_with fail
  refine viaI (g := id) (l_toI _ _ _ (HG2.out.aft _) hl9) ?_
  intro tb ub zb ownb
  try simp at zb
  go_wp2_with fail
  refine viaI (g := fun v => .tuple #[.agg #[.int .i64 P, v], .int .i64 C]) (i_Conj n _ _ xs ys _ A P C (owna.rd.aft _) hl (ownb.mono (Nat.zero_le _)) hl9 HF.out) ?_
  intro vh uc zc ownh
  try simp at zc
  obtain ⟨ah, ch, hshh, _, _⟩ := ownh.rd
  subst hshh
  go_wp2_with fail
  obtain ⟨VL, hVL⟩ : ∃ VL, VL = (aft (aft (aft V5 ua) ub) uc).alloc (Obj.cells #[.int .i64 P, .slice ah A.length ch] 26) := ⟨_, rfl⟩
  obtain ⟨bh, hbh⟩ : ∃ bh, bh = (aft (aft (aft V5 ua) ub) uc).heap.size := ⟨_, rfl⟩
  have hXL : Ext V5.heap.size V5 VL := by rw [hVL]; exact (by repeat (first | with_reducible exact hEV | with_reducible apply Ext.aft | with_reducible apply Ext.alloc | with_reducible apply Ext.drew | with_reducible apply Ext.drewN | with_reducible apply Ext.setCell | omega | (simp; omega)))
  have v0 : VL.cell? ⟨bh, 0, none⟩ = some (.int .i64 P) := by rw [hVL, hbh]; simp [go_sem]
  have v1' : VL.cell? ⟨bh, 1, none⟩ = some (.slice ah A.length ch) := by rw [hVL, hbh]; simp [go_sem]
  have hhh : rdI VL (.slice ah A.length ch) A := by rw [hVL]; exact ownh.rd.alloc _
  rw [← hVL]
  clear owna ownb za zb zc ownh hEV hVL hbh
  have HXL := hid hXL
  have hbl := World.block_lt_of_cell? VL _ v0
  simp only at hbl
  have w0' : VL.cell? ⟨bw, 0, none⟩ = some (.int .i64 P) := by rw [HXL.out.1.cell (p := ⟨bw, 0, none⟩) lb5]; exact j6
  have w1' : VL.cell? ⟨bw, 1, none⟩ = some (.slice aw A.length cw) := by rw [HXL.out.1.cell (p := ⟨bw, 1, none⟩) lb5]; exact j7
  have w2' : VL.cell? ⟨W5.heap.size, 0, none⟩ = some (.int .i64 P) := by rw [HXL.out.1.cell (p := ⟨W5.heap.size, 0, none⟩) lg]; exact j0
  have w3' : VL.cell? ⟨W5.heap.size, 1, none⟩ = some (.slice ag A.length cg) := by rw [HXL.out.1.cell (p := ⟨W5.heap.size, 1, none⟩) lg]; exact j1
  have lv2 := World.block_lt_of_cell? VL _ w2'
  simp only at lv2
  clear hXL
  refine via (l_eqG _ _ _ A _ hhh (HW5.out.below HXL.out.1)) ?_
  intro u14 z14
  try simp at z14
  go_wp2_with fail
  refine via (l_heldGr _ _ A.length 1 _ ((HM5.out.below HXL.out.1).aft _) (by omega) (by omega)) ?_
  intro u15 z15
  try simp at z15
  go_wp2_with fail
  go_ret
  exact ⟨rfl, HEL.out.bel.trans (Below.mono (HL5.out.1.trans (Below.mono (HXL.out.1.trans (Below.mono (by refine Ext.bel ?_; repeat (with_reducible first | exact Ext.refl _ | apply Ext.alloc | apply Ext.aft | apply Ext.drew | apply Ext.drewN | apply Ext.setCell | exact Nat.le_add_right _ _ | exact Nat.le_refl _ | (simp; done) | omega)) HXL.out.2)) HL5.out.2)) HEL.out.2)⟩
end Go.Proofs.Ytbifkabjkpljjaa
