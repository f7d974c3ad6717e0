/- ClassesOf: the law. -/
import Derived.Test.YtbkbcbanfnhjpaaW14
import Derived.Test.YtbkbcbanfnhjpaaP9v
import Derived.Test.YtbkbcbanfnhjpaaO6m
namespace Go.Proofs.Ytbkbcbanfnhjpaa
open Go Go.RowKit

theorem clsG_bd {m : Nat} {rs : List Int} : ∀ (r D : List Int), (clsG m rs D r).length ≤ r.length ∧ ∀ ls ∈ clsG m rs D r, ls.length ≤ facN m := by
  intro r
  induction r with
  | nil => intro D; exact ⟨Nat.le_refl _, fun ls h => by simp [clsG] at h⟩
  | cons x r ih =>
    intro D
    cases hc : D.contains x
    · rw [clsG_new hc]
      obtain ⟨h1, h2⟩ := ih (D ++ clsR m rs x)
      refine ⟨by simp; omega, fun ls h => ?_⟩
      rcases List.mem_cons.1 h with rfl | h
      · exact listedU_len _ _
      · exact h2 ls h
    · rw [clsG_has hc]
      obtain ⟨h1, h2⟩ := ih D
      exact ⟨by simp; omega, h2⟩
theorem clF_bd (n : Int) (rs : List Int) : (clF n rs).1.length ≤ 1048576 ∧ ∀ ls ∈ (clF n rs).1, ls.length ≤ 1048576 := by
  unfold clF
  split
  · rename_i hg
    obtain ⟨m, rfl, hm1, hm6, hne, hhd, hr, hpw, _⟩ := group_facts hg
    have hl7 : rs.length ≤ 720 := Nat.le_trans (asc_len hpw hr) (facN_le hm6)
    have hf := facN_le hm6
    simp only [Int.toNat_natCast]
    obtain ⟨h1, h2⟩ := clsG_bd (m := m) (rs := rs) rs []
    exact ⟨by omega, fun ls h => by have := h2 ls h; omega⟩
  · simp
set_option maxRecDepth 20000 in
set_option maxHeartbeats 8000000 in
theorem law_ClassesOf (n : Int) (r : Value) (xs : List Int) (w : World) (h : rdI w r xs) :
    Calls Try.prog 5 #[(.agg #[.int .i64 n, r])] w fun e w' => e = .returned (.bool true) ∧ Below w.heap.size w w' := by
  have hR := h.alloc (Obj.cells #[.int .i64 n, r] 44)
  by_cases hl : xs.length ≤ 1048576
  case neg =>
    go_enter Try.func5, Try.ntmps5
    go_wp2_with (first | (go_at_call 31; refine via (l_szGn _ _ xs _ _ hR (by omega) (by omega)) ?_; intro uu zz; try simp at zz))
    go_ret
    exact ⟨rfl, (by refine Ext.bel ?_; repeat (with_reducible first | exact Ext.refl _ | apply Ext.alloc | apply Ext.aft | apply Ext.drew | apply Ext.drewN | apply Ext.setCell | exact Nat.le_add_right _ _ | exact Nat.le_refl _ | (simp; done) | omega))⟩
  obtain ⟨ys, hys⟩ : ∃ ys, ys = (clF n xs).1 := ⟨_, rfl⟩
  obtain ⟨C, hC⟩ : ∃ C, C = (clF n xs).2 := ⟨_, rfl⟩
  have hyl : ys.length ≤ 1048576 := by rw [hys]; exact (clF_bd n xs).1
  have HYX : Hid (∀ ls ∈ ys, ls.length ≤ 1048576) := hid (by rw [hys]; exact (clF_bd n xs).2)
  have hty : tot ys ≤ 1099511627776 := by
    have h1 := tot_le (xss := ys) (N := 1048576) HYX.out
    have h3 := Nat.mul_le_mul_right 1048576 hyl
    omega
  have htz : decide ((1 : Int) + (tot ys : Int) < 0) = false := by simp; omega
  have htz2 : ¬ (1 : Int) + (tot ys : Int) < 0 := by omega
  have HI : Hid (∀ v W, rdI W v xs → Calls Try.prog 34 #[.agg #[.int .i64 n, v]] W fun e w' => ∃ g, e = .returned (.tuple #[g, .int .i64 C]) ∧ (∃ es, ownE W.heap.size w' g es ys ∧ distR es) ∧ Below W.heap.size W w') := hid (by rw [hys, hC]; exact fun v W h => i_ClassesOf n v xs W h hl)
  have HS : Hid (∀ v W, rdI W v xs → Calls Try.prog 32 #[.agg #[.int .i64 n, v]] W fun e w' => ∃ g, e = .returned (.tuple #[g, .int .i64 C]) ∧ (∃ es, ownE W.heap.size w' g es ys ∧ distR es) ∧ Below W.heap.size W w') := hid (by rw [hys, hC]; exact fun v W h => s_ClassesOf n v xs W h hl)
  clear hys hC
  go_enter Try.func5, Try.ntmps5
  go_wp2_with fail
  refine via (l_szGp _ _ xs _ _ hR (by omega) (by omega)) ?_
  intro u0 z0
  try simp at z0
  go_wp2_with fail
  refine viaG (l_toG _ _ xs _ (hR.aft _) hl) ?_
  intro v1 u1 z1 own1
  try simp at z1
  have rd1 := own1.rd
  go_wp2_with fail
  refine viaX (g := fun v => .tuple #[v, .int .i64 C]) (HS.out _ _ rd1) ?_
  intro vw u2 z2 ownw
  try simp at z2
  obtain ⟨esw, ownw, _⟩ := ownw
  have rdw := (ownRR.rd ⟨esw, ownw⟩).ss
  go_wp2_with fail
  refine viaG (l_toG _ _ xs _ (by repeat (with_reducible first | assumption | apply rdI.aft | apply rdI.alloc | apply rdI.drew | apply rdI.drewN)) hl) ?_
  intro v3 u3 z3 own3
  try simp at z3
  obtain ⟨a3, c3, hsh, _, _⟩ := own3.rd
  subst hsh
  obtain ⟨WL, hWL⟩ : ∃ WL, WL = aft (aft (aft (w.alloc (Obj.cells #[.int .i64 n, r] 44)) u0) u1) u2 := ⟨_, rfl⟩
  have HEL : Hid (Ext w.heap.size w WL) := hid (by rw [hWL]; exact (by repeat (with_reducible first | exact Ext.refl _ | apply Ext.alloc | apply Ext.aft | apply Ext.drew | apply Ext.drewN | apply Ext.setCell | exact Nat.le_add_right _ _ | exact Nat.le_refl _ | (simp; done) | omega)))
  have c0 : WL.cell? ⟨w.heap.size, 0, none⟩ = some (.int .i64 n) := by rw [hWL]; simp [go_sem, ↓IntWalk.iteOmega]
  have c1 : WL.cell? ⟨w.heap.size, 1, none⟩ = some r := by rw [hWL]; simp [go_sem, ↓IntWalk.iteOmega]
  have hb0 := World.block_lt_of_cell? WL _ c0
  simp only at hb0
  have HRL : Hid (rdI WL r xs) := hid (by rw [hWL]; exact (by repeat (with_reducible first | assumption | apply rdI.aft | apply rdI.alloc | apply rdI.drew | apply rdI.drewN)))
  have HWW : Hid (rdSS WL vw ys) := hid (by rw [hWL]; exact rdw)
  have C0 := hid c0
  have C1 := hid c1
  rw [← hWL] at own3 z3 ⊢
  obtain ⟨W3, hW3⟩ : ∃ W3, W3 = aft WL u3 := ⟨_, rfl⟩
  have HE3 : Hid (Ext WL.heap.size WL W3) := hid (by rw [hW3]; exact (by repeat (with_reducible first | exact Ext.refl _ | apply Ext.alloc | apply Ext.aft | apply Ext.drew | apply Ext.drewN | apply Ext.setCell | exact Nat.le_add_right _ _ | exact Nat.le_refl _ | (simp; done) | omega)))
  rw [← hW3] at own3 z3 ⊢
  have HO3 := hid own3
  have rr3 : rdI W3 r xs := HRL.out.below HE3.out.1
  have c3' : W3.cell? ⟨w.heap.size, 0, none⟩ = some (.int .i64 n) := by rw [HE3.out.1.cell (p := ⟨w.heap.size, 0, none⟩) hb0]; exact c0
  have c4' : W3.cell? ⟨w.heap.size, 1, none⟩ = some r := by rw [HE3.out.1.cell (p := ⟨w.heap.size, 1, none⟩) hb0]; exact c1
  clear hW3 hWL own1 rd1 own3 ownw rdw z0 z1 z2 hR h
  go_wp2_with fail
  refine viaX (g := fun v => .tuple #[v, .int .i64 C]) (HI.out _ _ (by exact (HO3.out.rd.alloc _))) ?_
  intro vg u4 z4 owng
  try simp at z4
  obtain ⟨es, owng, hdist⟩ := owng
  have HDI := hid hdist
  clear hdist
  go_wp2_with fail
  refine via (l_eqSS _ _ ys _ (ownRR.rd ⟨es, owng⟩).ss ((HWW.out.below HE3.out.1).below (by refine Ext.bel (w := W3) ?_; repeat (with_reducible first | exact Ext.refl _ | apply Ext.alloc | apply Ext.aft | apply Ext.drew)))) ?_
  intro u5 z5
  try simp at z5
  obtain ⟨W, hW⟩ : ∃ W, W = aft (aft (W3.alloc (Obj.cells #[.int .i64 n, .slice a3 xs.length c3] 26)) u4) u5 := ⟨_, rfl⟩
  have hE6 : Ext W3.heap.size W3 W := by rw [hW]; exact (by repeat (with_reducible first | exact Ext.refl _ | apply Ext.alloc | apply Ext.aft | apply Ext.drew | apply Ext.drewN | apply Ext.setCell | exact Nat.le_add_right _ _ | exact Nat.le_refl _ | (simp; done) | omega))
  have d0 : W.cell? ⟨W3.heap.size, 0, none⟩ = some (.int .i64 n) := by rw [hW]; simp [go_sem, ↓IntWalk.iteOmega]
  have d1 : W.cell? ⟨W3.heap.size, 1, none⟩ = some (.slice a3 xs.length c3) := by rw [hW]; simp [go_sem, ↓IntWalk.iteOmega]
  have HOG : Hid (ownE (W3.heap.size + 1) W vg es ys) := hid (by rw [hW]; exact (owng.below (below_aft _ _)).mono (by simp))
  rw [← hW]
  clear hW owng z4 z5 c3' c4' rr3
  have HEW : Hid (Ext WL.heap.size WL W) := hid (HE3.out.below hE6.1)
  have k0 : W.cell? ⟨w.heap.size, 0, none⟩ = some (.int .i64 n) := by rw [HEW.out.1.cell (p := ⟨w.heap.size, 0, none⟩) hb0]; exact c0
  have k1 : W.cell? ⟨w.heap.size, 1, none⟩ = some r := by rw [HEW.out.1.cell (p := ⟨w.heap.size, 1, none⟩) hb0]; exact c1
  have hb3 := World.block_lt_of_cell? W _ d0
  have hb6 := World.block_lt_of_cell? W _ k0
  simp only at hb3 hb6
  have HO3W := hid (HO3.out.below hE6.1)
  have HR3 := hid HO3W.out.rd
  have HRR := hid (HRL.out.below HEW.out.1)
  have hE7 : Ext W.heap.size W W := Ext.refl _
  clear c0 c1
  go_wp2_with fail
  go_region_held3 (fun w' => (∀ b o, b < W.heap.size → w'.cell? ⟨b, o, none⟩ = W.cell? ⟨b, o, none⟩) ∧ Hid (Ext W.heap.size W w')) ((refine sB ?_; repeat (with_reducible first | assumption | apply Ext.aft | apply Ext.alloc | apply Ext.drew | apply Ext.drewN))) (first | (go_at_call 33; refine viaG (l_toG _ _ xs _ (HRR.out.below (Ext.bel (by repeat (with_reducible first | exact hE7 | apply Ext.aft | apply Ext.alloc | apply Ext.drew | apply Ext.drewN)))) hl) ?_; intro t1 u7 z7 own7; (try simp at z7)) | (go_at_call 26; refine via (l_eqG _ _ _ xs _ (HR3.out.below (Ext.bel (by repeat (with_reducible first | exact hE7 | apply Ext.aft | apply Ext.alloc | apply Ext.drew | apply Ext.drewN)))) (by first | exact own7.rd | exact own7.rd.drew)) ?_; intro u8 z8; (try simp at z8)))
  obtain ⟨V, hV⟩ : ∃ V, V = aft (aft W.drew u7) u8 := ⟨_, rfl⟩
  have hEW : Ext W.heap.size W V := by rw [hV]; exact (by repeat (with_reducible first | exact hE7 | apply Ext.aft | apply Ext.alloc | apply Ext.drew | apply Ext.drewN))
  rw [← hV]
  have hbV := hEW.2
  have g0 : V.cell? ⟨W3.heap.size, 0, none⟩ = some (.int .i64 n) := by rw [hEW.1.cell (p := ⟨W3.heap.size, 0, none⟩) hb3]; exact d0
  have g1 : V.cell? ⟨W3.heap.size, 1, none⟩ = some (.slice a3 xs.length c3) := by rw [hEW.1.cell (p := ⟨W3.heap.size, 1, none⟩) hb3]; exact d1
  have HVG := hid (HOG.out.below hEW.1)
  have HV3 := hid (HO3W.out.below hEW.1)
  have HLV : Hid (Ext WL.heap.size WL V) := hid (HEW.out.below hEW.1)
  clear hV own7 z7 z8 d0 d1 k0 k1 hE7 hE6 hEW
  go_wp2_with fail
  refine (l_markGr WL.heap.size n _ xs 1 _ HV3.out (by omega) (by omega)).mono ?_
  rintro e V2 ⟨rfl, _, hgr⟩
  have HG2 : Hid (ownE (W3.heap.size + 1) V2 vg es ys) := hid ⟨HVG.out.1, owns_kept HVG.out.2.1 fun k hk hb => hgr.block k hk fun e => by
    have h1 := ownE.row HVG.out k hb
    have h2 := HO3.out.rowLt k e.symm
    omega, fun i hi => by
    obtain ⟨e, h1, h2⟩ := HVG.out.2.2 i hi
    exact ⟨e, h1, h2.kept fun k hk hb => hgr.block k hk fun e => by
      have h1 := own_row_ge h2 k hb
      have h2 := HO3.out.rowLt k e.symm
      omega⟩⟩
  have HL2 : Hid (Ext WL.heap.size WL V2) := hid (Ext.grown HLV.out hgr (own_row_ge HV3.out))
  clear hgr g0 g1
  go_wp2_with fail
  refine via (l_eqSS _ _ ys _ (ownRR.rd ⟨es, HG2.out⟩).ss (HWW.out.below HL2.out.1)) ?_
  intro u9 z9
  try simp at z9
  go_wp2_with fail
  have HG9 := HG2.out.below (below_aft V2 u9)
  refine (l_markSS (W3.heap.size + 1) vg es ys 1 _ HG9 HDI.out (by omega) hyl HYX.out).mono ?_
  rintro e V4 ⟨rfl, hmk, hgr⟩
  have hm4 := HE3.out.2
  have HL9 := HL2.out.aft u9
  have HL4 : Hid (Ext WL.heap.size WL V4) := hid ⟨HL9.1.trans (hgr.below HL9.2 (fun e he k hk => by have := (HG9.ge e he k hk).1; omega)), Nat.le_trans HL9.2 hgr.size⟩
  have HM4 := hid (ownRR.rd ⟨es, hmk⟩).ss
  have j2 : V4.cell? ⟨w.heap.size, 0, none⟩ = some (.int .i64 n) := by rw [HL4.out.1.cell (p := ⟨w.heap.size, 0, none⟩) hb0]; exact C0.out
  have j3 : V4.cell? ⟨w.heap.size, 1, none⟩ = some r := by rw [HL4.out.1.cell (p := ⟨w.heap.size, 1, none⟩) hb0]; exact C1.out
  have l4 : w.heap.size < V4.heap.size := by have := HL4.out.2; omega
  clear hmk hgr z9 HG9 HL9
  go_wp2_with fail
  refine pur (l_heldSS vg ys 1 _ HM4.out (by omega) hyl HYX.out) ?_
  go_wp2_with fail
  refine viaG (l_toG _ _ xs _ (HRL.out.below HL4.out.1) hl) ?_
  intro v8 u10 z10 own8
  try simp at z10
  go_wp2_with fail
  refine viaX (g := fun v => .tuple #[v, .int .i64 C]) (HI.out _ _ own8.rd) ?_
  intro vh u11 z11 ownh
  try simp at z11
  obtain ⟨esh, ownh, _⟩ := ownh
  go_wp2_with fail
  refine via (l_eqSS _ _ ys _ (ownRR.rd ⟨esh, ownh⟩).ss ((HWW.out.below HL4.out.1).below (by refine Ext.bel (w := V4) ?_; repeat (with_reducible first | exact Ext.refl _ | apply Ext.alloc | apply Ext.aft | apply Ext.drew)))) ?_
  intro u12 z12
  try simp at z12
  go_wp2_with fail
  refine pur (l_heldSS vg ys 1 _ (HM4.out.below (by refine Ext.bel (w := V4) ?_; repeat (with_reducible first | exact Ext.refl _ | apply Ext.alloc | apply Ext.aft | apply Ext.drew))) (by omega) hyl HYX.out) ?_
  go_wp2_with fail
  go_ret
  exact ⟨rfl, HEL.out.bel.trans (Below.mono (HL4.out.1.trans (Below.mono (by refine Ext.bel (w := V4) ?_; repeat (with_reducible first | exact Ext.refl _ | apply Ext.alloc | apply Ext.aft | apply Ext.drew)) HL4.out.2)) HEL.out.2)⟩
end Go.Proofs.Ytbkbcbanfnhjpaa
