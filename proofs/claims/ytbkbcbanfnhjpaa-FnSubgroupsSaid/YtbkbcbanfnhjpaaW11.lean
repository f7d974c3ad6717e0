/- GenerateGroup: the law. -/
import Derived.Test.YtbkbcbanfnhjpaaW8
import Derived.Test.YtbkbcbanfnhjpaaW10
import Derived.Test.YtbkbcbanfnhjpaaO6m
namespace Go.Proofs.Ytbkbcbanfnhjpaa
open Go Go.RowKit

theorem grownIn.at {w w' : World} {es : List Value} {B T : Nat} (h : grownIn w w' es) (hr : ∀ e ∈ es, ∀ k, e.ownBlock = some k → B ≤ k ∧ k < T) {b : Nat} (hb : b < w.heap.size) (hn : b < B ∨ T ≤ b) : w'.heap[b]? = w.heap[b]? :=
  h.block b hb fun e he hk => by have := hr e he b hk; omega
theorem grownIn.cellAt {w w' : World} {es : List Value} {B T : Nat} (h : grownIn w w' es) (hr : ∀ e ∈ es, ∀ k, e.ownBlock = some k → B ≤ k ∧ k < T) {b o : Nat} {v : Value} (hc : w.cell? ⟨b, o, none⟩ = some v) (hn : b < B ∨ T ≤ b) : w'.cell? ⟨b, o, none⟩ = some v := by
  have hb := World.block_lt_of_cell? w _ hc
  rw [World.cell?_of_block (a := ⟨b, o, none⟩) (h.at hr hb hn)]; exact hc
theorem grownIn.own {w w' : World} {es : List Value} {B T B2 : Nat} {v : Value} {xs : List Int} (h : grownIn w w' es) (hr : ∀ e ∈ es, ∀ k, e.ownBlock = some k → B ≤ k ∧ k < T) (ho : ownR B2 w v xs) (hB : T ≤ B2) : ownR B2 w' v xs :=
  ho.kept fun k hk hb => h.at hr hk (.inr (by have := own_row_ge ho k hb; omega))
set_option maxRecDepth 20000 in
set_option maxHeartbeats 16000000 in
theorem law_GenerateGroup (n : Int) (r : Value) (xss : List (List Int)) (w : World) (h : rdSS w r xss) :
    Calls Try.prog 4 #[.int .i64 n, r] w fun e w' => e = .returned (.bool true) ∧ Below w.heap.size w w' := by
  have H := hid h
  obtain ⟨ys, hys⟩ : ∃ ys, ys = (genV n xss).1 := ⟨_, rfl⟩
  obtain ⟨C, hC⟩ : ∃ C, C = (genV n xss).2.2 := ⟨_, rfl⟩
  obtain ⟨P, hP⟩ : ∃ P, P = (genV n xss).2.1 := ⟨_, rfl⟩
  have hyl : ys.length ≤ 1000 := by rw [hys]; exact genV_len _ _
  have HI : Hid (∀ v W, rdRR W v xss → (∀ xs ∈ xss, xs.length ≤ 1048576) → Calls Try.prog 25 #[.int .i64 n, v] W fun e w' => ∃ g, e = .returned (.tuple #[.agg #[.int .i64 P, g], .int .i64 C]) ∧ ownR W.heap.size w' g ys ∧ Below W.heap.size W w') := hid (by rw [hys, hC, hP]; exact fun v W h hl => i_GenerateGroup n v xss W h hl)
  have HS : Hid (∀ v W, rdRR W v xss → (∀ xs ∈ xss, xs.length ≤ 1048576) → Calls Try.prog 23 #[.int .i64 n, v] W fun e w' => ∃ g, e = .returned (.tuple #[.agg #[.int .i64 P, g], .int .i64 C]) ∧ ownR W.heap.size w' g ys ∧ Below W.heap.size W w') := hid (by rw [hys, hC, hP]; exact fun v W h hl => s_GenerateGroup n v xss W h hl)
  clear hys hC hP h
  go_enter Try.func4, Try.ntmps4
  go_wp2_with fail
  refine (l_szSS r xss 1048576 _ H.out (by omega)).mono ?_
  rintro e w' ⟨q, rfl, hq, rfl⟩
  rcases hq with rfl | ⟨hq0, hl, hx⟩
  · go_wp2_with fail
    go_ret
    exact ⟨rfl, Below.refl _ _⟩
  have hqn : ¬ q < 0 := by omega
  have HX := hid hx
  clear hx
  go_wp2_with fail
  refine viaX (Φ := fun w' v => ∃ es, ownE w.heap.size w' v es xss ∧ distR es) (g := id) (l_toSS r xss _ H.out hl HX.out) ?_
  intro v1 u1 z1 own1
  try simp at z1
  obtain ⟨es1, own1, _⟩ := own1
  have rd1 := ownRR.rd ⟨es1, own1⟩
  go_wp2_with fail
  refine viaI (g := fun v => .tuple #[.agg #[.int .i64 P, v], .int .i64 C]) (HS.out _ _ rd1 HX.out) ?_
  intro vw u2 z2 ownw
  try simp at z2
  obtain ⟨aw, cw, hshw, _, _⟩ := ownw.rd
  subst hshw
  have rdw := ownw.rd
  go_wp2_with fail
  obtain ⟨WL, hWL⟩ : ∃ WL, WL = (aft (aft w u1) u2).alloc (Obj.cells #[.int .i64 P, .slice aw ys.length cw] 26) := ⟨_, rfl⟩
  obtain ⟨bw, hbw⟩ : ∃ bw, bw = (aft (aft w u1) u2).heap.size := ⟨_, rfl⟩
  have HEL : Hid (Ext w.heap.size w WL) := hid (by rw [hWL]; exact (by repeat (with_reducible first | exact Ext.refl _ | apply Ext.alloc | apply Ext.aft | apply Ext.drew | apply Ext.drewN | apply Ext.setCell | exact Nat.le_add_right _ _ | exact Nat.le_refl _ | (simp; done) | omega)))
  have e0 : WL.cell? ⟨bw, 0, none⟩ = some (.int .i64 P) := by rw [hWL, hbw]; simp [go_sem]
  have e1 : WL.cell? ⟨bw, 1, none⟩ = some (.slice aw ys.length cw) := by rw [hWL, hbw]; simp [go_sem]
  have hbw0 := World.block_lt_of_cell? WL _ e0
  simp only at hbw0
  have HWW : Hid (rdI WL (.slice aw ys.length cw) ys) := hid (by rw [hWL]; exact rdw.alloc _)
  have E0 := hid e0
  have E1 := hid e1
  rw [← hWL, ← hbw]
  clear hWL hbw own1 rd1 ownw rdw z1 z2
  refine viaX (Φ := fun w' v => ∃ es, ownE WL.heap.size w' v es xss ∧ distR es) (g := id) (l_toSS r xss _ (H.out.below HEL.out.1) hl HX.out) ?_
  intro vx u3 z3 own3
  try simp at z3
  obtain ⟨es, own3, hdist⟩ := own3
  obtain ⟨W3, hW3⟩ : ∃ W3, W3 = aft WL u3 := ⟨_, rfl⟩
  have HE3 : Hid (Ext WL.heap.size WL W3) := hid (by rw [hW3]; exact (by repeat (with_reducible first | exact Ext.refl _ | apply Ext.alloc | apply Ext.aft | apply Ext.drew | apply Ext.drewN | apply Ext.setCell | exact Nat.le_add_right _ _ | exact Nat.le_refl _ | (simp; done) | omega)))
  rw [← hW3] at own3 z3 ⊢
  have HO3 := hid own3
  have HDI := hid hdist
  have HGE : Hid (∀ e ∈ es, ∀ k, e.ownBlock = some k → WL.heap.size ≤ k ∧ k < W3.heap.size) := hid own3.ge
  have w3' : W3.cell? ⟨bw, 0, none⟩ = some (.int .i64 P) := by rw [HE3.out.1.cell (p := ⟨bw, 0, none⟩) hbw0]; exact e0
  have w4' : W3.cell? ⟨bw, 1, none⟩ = some (.slice aw ys.length cw) := by rw [HE3.out.1.cell (p := ⟨bw, 1, none⟩) hbw0]; exact e1
  have hw3b := World.block_lt_of_cell? W3 _ w3'
  simp only at hw3b
  have hrr3 := ownRR.rd ⟨es, own3⟩
  clear hW3 own3 hdist e0 e1
  go_wp2_with fail
  refine viaI (g := fun v => .tuple #[.agg #[.int .i64 P, v], .int .i64 C]) (HI.out _ _ hrr3 HX.out) ?_
  intro vg u4 z4 owng
  try simp at z4
  obtain ⟨ag, cg, hshg, _, _⟩ := owng.rd
  subst hshg
  obtain ⟨W4, hW4⟩ : ∃ W4, W4 = aft W3 u4 := ⟨_, rfl⟩
  have hE4 : Ext W3.heap.size W3 W4 := by rw [hW4]; exact (by repeat (with_reducible first | exact Ext.refl _ | apply Ext.alloc | apply Ext.aft | apply Ext.drew | apply Ext.drewN | apply Ext.setCell | exact Nat.le_add_right _ _ | exact Nat.le_refl _ | (simp; done) | omega))
  rw [← hW4] at owng z4 ⊢
  have x3 : W4.cell? ⟨bw, 0, none⟩ = some (.int .i64 P) := by rw [hE4.1.cell (p := ⟨bw, 0, none⟩) hw3b]; exact w3'
  have x4 : W4.cell? ⟨bw, 1, none⟩ = some (.slice aw ys.length cw) := by rw [hE4.1.cell (p := ⟨bw, 1, none⟩) hw3b]; exact w4'
  have hx4 := World.block_lt_of_cell? W4 _ x3
  simp only at hx4
  have HOG := hid owng
  have HGL : Hid (rowLt W4.heap.size (.slice ag ys.length cg)) := hid owng.rowLt
  have HWW4 := hid (HWW.out.below (HE3.out.below hE4.1).1)
  have HE4 := hid hE4
  have h34 := hE4.2
  clear hW4 owng w3' w4' hrr3 hE4
  go_wp2_with fail
  refine via (l_eqG _ _ _ ys _ (HOG.out.rd.alloc _) (HWW4.out.alloc _)) ?_
  intro u5 z5
  try simp at z5
  obtain ⟨W, hW⟩ : ∃ W, W = aft (W4.alloc (Obj.cells #[.int .i64 P, .slice ag ys.length cg] 26)) u5 := ⟨_, rfl⟩
  have hE5 : Ext W4.heap.size W4 W := by rw [hW]; exact (by repeat (with_reducible first | exact Ext.refl _ | apply Ext.alloc | apply Ext.aft | apply Ext.drew | apply Ext.drewN | apply Ext.setCell | exact Nat.le_add_right _ _ | exact Nat.le_refl _ | (simp; done) | omega))
  have r0 : W.cell? ⟨W4.heap.size, 0, none⟩ = some (.int .i64 P) := by rw [hW]; simp [go_sem]
  have r1 : W.cell? ⟨W4.heap.size, 1, none⟩ = some (.slice ag ys.length cg) := by rw [hW]; simp [go_sem]
  have HOGW : Hid (ownR W3.heap.size W (.slice ag ys.length cg) ys) := hid (HOG.out.below hE5.1)
  have HEW : Hid (Ext WL.heap.size WL W) := hid (HE3.out.below (HE4.out.1.trans (hE5.1.mono HE4.out.2)))
  have HE3W : Hid (Ext W3.heap.size W3 W) := hid ⟨HE4.out.1.trans (hE5.1.mono HE4.out.2), Nat.le_trans HE4.out.2 hE5.2⟩
  have hWs : W4.heap.size < W.heap.size := by have := World.block_lt_of_cell? W _ r0; simpa using this
  rw [← hW]
  clear hW z5 x3 x4 hE5
  go_wp2_with fail
  refine viaX (Φ := fun w' v => ∃ es, ownE W.heap.size w' v es xss ∧ distR es) (g := id) (l_toSS r xss _ ((H.out.below HEL.out.1).below HEW.out.1) hl HX.out) ?_
  intro v6 u6 z6 own6
  try simp at z6
  obtain ⟨es6, own6, _⟩ := own6
  have rd6 := (ownRR.rd ⟨es6, own6⟩).ss
  go_wp2_with fail
  have HO3W := hid (HO3.out.below HE3W.out.1)
  refine via (l_eqSS vx v6 xss _ ((ownRR.rd ⟨es, HO3W.out⟩).ss.below (below_aft W u6)) rd6) ?_
  intro u7 z7
  try simp at z7
  obtain ⟨V, hV⟩ : ∃ V, V = aft (aft W u6) u7 := ⟨_, rfl⟩
  have hEV : Ext W.heap.size W V := by rw [hV]; exact (by repeat (with_reducible first | exact Ext.refl _ | apply Ext.alloc | apply Ext.aft | apply Ext.drew | apply Ext.drewN | apply Ext.setCell | exact Nat.le_add_right _ _ | exact Nat.le_refl _ | (simp; done) | omega))
  rw [← hV]
  have g0 : V.cell? ⟨W4.heap.size, 0, none⟩ = some (.int .i64 P) := by rw [hEV.1.cell (p := ⟨W4.heap.size, 0, none⟩) hWs]; exact r0
  have g1 : V.cell? ⟨W4.heap.size, 1, none⟩ = some (.slice ag ys.length cg) := by rw [hEV.1.cell (p := ⟨W4.heap.size, 1, none⟩) hWs]; exact r1
  have HVG := hid (HOGW.out.below hEV.1)
  have HV3 := hid (HO3W.out.below hEV.1)
  have HLV : Hid (Ext WL.heap.size WL V) := hid (HEW.out.below hEV.1)
  have htz : decide ((1 : Int) + (tot xss : Int) < 0) = false := by simp; omega
  clear hV own6 rd6 z6 z7 r0 r1 hEV
  go_wp2_with fail
  refine (l_markSS WL.heap.size vx es xss 1 _ HV3.out HDI.out (by omega) hl HX.out).mono ?_
  rintro e V2 ⟨rfl, _, hgr⟩
  have HL2 : Hid (Ext WL.heap.size WL V2) := hid ⟨HLV.out.1.trans (hgr.below HLV.out.2 (fun e he k hk => (HGE.out e he k hk).1)), Nat.le_trans HLV.out.2 hgr.size⟩
  have HG2 : Hid (ownR W3.heap.size V2 (.slice ag ys.length cg) ys) := hid (hgr.own HGE.out HVG.out (Nat.le_refl _))
  have p0 : V2.cell? ⟨W4.heap.size, 0, none⟩ = some (.int .i64 P) := hgr.cellAt HGE.out g0 (.inr h34)
  have p1 : V2.cell? ⟨W4.heap.size, 1, none⟩ = some (.slice ag ys.length cg) := hgr.cellAt HGE.out g1 (.inr h34)
  have p2 : V2.cell? ⟨bw, 0, none⟩ = some (.int .i64 P) := by rw [HL2.out.1.cell (p := ⟨bw, 0, none⟩) hbw0]; exact E0.out
  have p3 : V2.cell? ⟨bw, 1, none⟩ = some (.slice aw ys.length cw) := by rw [HL2.out.1.cell (p := ⟨bw, 1, none⟩) hbw0]; exact E1.out
  clear hgr g0 g1
  go_wp2_with fail
  refine via (l_eqG _ _ _ ys _ HG2.out.rd (HWW.out.below HL2.out.1)) ?_
  intro u9 z9
  try simp at z9
  have lp := World.block_lt_of_cell? V2 _ p0
  simp only at lp
  have o0 : (aft V2 u9).cell? ⟨W4.heap.size, 0, none⟩ = some (.int .i64 P) := by rw [aft_cell, if_pos lp]; exact p0
  have o1 : (aft V2 u9).cell? ⟨W4.heap.size, 1, none⟩ = some (.slice ag ys.length cg) := by rw [aft_cell, if_pos lp]; exact p1
  go_wp2_with fail
  refine (l_markGr W3.heap.size _ _ ys 1 _ (HG2.out.aft u9) (by omega) (by omega)).mono ?_
  rintro e V4 ⟨rfl, hmk, hgr⟩
  have HL4 : Hid (Ext WL.heap.size WL V4) := hid (Ext.grown (HL2.out.aft u9) hgr (fun k hk => by have := own_row_ge HG2.out k hk; have := HE3.out.2; omega))
  have HM4 := hid hmk.rd
  have s0 : V4.cell? ⟨W4.heap.size, 0, none⟩ = some (.int .i64 P) := hgr.cell o0 (fun e => by have := HGL.out _ e.symm; simp only at this; omega)
  have s1 : V4.cell? ⟨W4.heap.size, 1, none⟩ = some (.slice ag ys.length cg) := hgr.cell o1 (fun e => by have := HGL.out _ e.symm; simp only at this; omega)
  have j4 : V4.cell? ⟨bw, 0, none⟩ = some (.int .i64 P) := by rw [HL4.out.1.cell (p := ⟨bw, 0, none⟩) hbw0]; exact E0.out
  have j5 : V4.cell? ⟨bw, 1, none⟩ = some (.slice aw ys.length cw) := by rw [HL4.out.1.cell (p := ⟨bw, 1, none⟩) hbw0]; exact E1.out
  have l5 : bw < V4.heap.size := by have := HL4.out.2; omega
  have l6 := World.block_lt_of_cell? V4 _ s0
  simp only at l6
  clear hmk hgr z9 p0 p1 p2 p3 o0 o1 lp
  go_wp2_with fail
  refine via (l_heldGr _ _ ys.length 1 _ HM4.out (by omega) (by omega)) ?_
  intro u13 z13
  try simp at z13
  go_wp2_with fail
  refine viaX (Φ := fun w' v => ∃ es, ownE (aft V4 u13).heap.size w' v es xss ∧ distR es) (g := id) (l_toSS r xss _ ((H.out.below HEL.out.1).below (HL4.out.aft u13).1) hl HX.out) ?_
  intro v8 u10 z10 own8
  try simp at z10
  obtain ⟨es8, own8, _⟩ := own8
  go_wp2_with fail
  refine viaI (g := fun v => .tuple #[.agg #[.int .i64 P, v], .int .i64 C]) (HI.out _ _ (ownRR.rd ⟨es8, own8⟩) HX.out) ?_
  intro vh u11 z11 ownh
  try simp at z11
  obtain ⟨ah, ch, hshh, _, _⟩ := ownh.rd
  subst hshh
  have rdh := ownh.rd
  go_wp2_with fail
  refine via (l_eqG _ _ _ ys _ (rdh.alloc _) ((HWW.out.below HL4.out.1).below (by refine Ext.bel ?_; repeat (with_reducible first | exact Ext.refl _ | apply Ext.alloc | apply Ext.aft | apply Ext.drew)))) ?_
  intro u12 z12
  try simp at z12
  go_wp2_with fail
  refine via (l_heldGr _ _ ys.length 1 _ (HM4.out.below (by refine Ext.bel ?_; repeat (with_reducible first | exact Ext.refl _ | apply Ext.alloc | apply Ext.aft | apply Ext.drew))) (by omega) (by omega)) ?_
  intro u14 z14
  try simp at z14
  go_wp2_with fail
  go_ret
  exact ⟨rfl, HEL.out.bel.trans (Below.mono (HL4.out.1.trans (Below.mono (by refine Ext.bel ?_; repeat (with_reducible first | exact Ext.refl _ | apply Ext.alloc | apply Ext.aft | apply Ext.drew)) HL4.out.2)) HEL.out.2)⟩
end Go.Proofs.Ytbkbcbanfnhjpaa
