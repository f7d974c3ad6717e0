/- Even parts, centers and meetings of groups: the law, given the contract of its draw of two groups. (Printed by mkW24.py.) -/
import Derived.Test.YtbkbcbanfnhjpaaW23
import Derived.Test.YtbkbcbanfnhjpaaW16
import Derived.Test.YtbkbcbanfnhjpaaV7
namespace Go.Proofs.Ytbkbcbanfnhjpaa
open Go Go.RowKit

theorem even_facts {n : Int} {rs E : List Int} {P : Int} (h : evenF n rs = (E, P, 0)) : P = n ∧ groupB n rs = true ∧ (E.length = rs.length ∨ 2 * E.length = rs.length) := by
  unfold evenF at h
  split at h
  · rename_i hg
    obtain ⟨m, rfl, _⟩ := group_facts hg
    simp only [Int.toNat_natCast, Prod.mk.injEq, and_true] at h
    obtain ⟨rfl, rfl⟩ := h
    exact ⟨rfl, hg, even_half (group_grp hg)⟩
  · simp at h
theorem abel_facts {n : Int} {rs C : List Int} {P K K2 : Int} {b : Bool} (hg : groupB n rs = true) (h : centF n rs = (C, P, K)) (h2 : abelF n rs = (b, K2)) : K = 0 ∧ b = decide (C.length = rs.length) := by
  unfold abelF at h2
  rw [if_pos hg, h] at h2
  unfold centF at h
  rw [if_pos hg] at h
  simp only [Prod.mk.injEq] at h h2
  exact ⟨h.2.2.symm, h2.1.symm⟩
set_option maxRecDepth 20000 in
set_option maxHeartbeats 32000000 in
theorem law_SubgroupsD (hD : ∀ (B : Nat) (a : Option Addr) (len cap : Nat) (w : World), rdB B w a len → len ≤ 4096 → B ≤ w.heap.size → Calls Try.prog 16 #[.slice a len cap] w fun e w' => ∃ v1 v2, e = .returned (.tuple #[v1, v2]) ∧ grpX w.heap.size w' v1 ∧ grpX w.heap.size w' v2 ∧ Below w.heap.size w w')
    (a : Option Addr) (len cap : Nat) (w : World) (h : rdB w.heap.size w a len) :
    Calls Try.prog 3 #[.slice a len cap] w fun e w' => e = .returned (.bool true) ∧ Below w.heap.size w w' := by
  by_cases hl : len ≤ 4096
  case neg =>
    have hd : decide ((4096 : Int) < (len : Int)) = true := by simp; omega
    go_enter Try.func3, Try.ntmps3
    go_wp2_with (go_at_call 8; refine pur (l_big _ _ _ _) ?_)
    go_ret
    exact ⟨rfl, (by refine Ext.bel ?_; repeat (with_reducible first | exact Ext.refl _ | apply Ext.alloc | apply Ext.aft | apply Ext.drew | apply Ext.drewN | apply Ext.setCell | exact Nat.le_add_right _ _ | exact Nat.le_refl _ | (simp; done) | omega))⟩
  have hd : decide ((4096 : Int) < (len : Int)) = false := by simp; omega
  have H := hid h
  have HDR := hid hD
  clear h hD
  go_enter Try.func3, Try.ntmps3
  go_wp2_with (go_at_call 8; refine pur (l_big _ _ _ _) ?_)
  have hE_0 : Hid (Ext w.heap.size w w) := hid (Ext.refl w)
  refine (s_DrawEvenPart w.heap.size a len cap _ (H.out.ext hE_0.out) hl hE_0.out.2).mono ?_
  rintro e W1 ⟨v, rfl, hv, hb⟩
  have hE_1 : Hid (Ext w.heap.size w W1) := hid (hE_0.out.below hb)
  clear hE_0
  clear hb
  obtain ⟨n1, s1, rs1, rfl, hn1, hr1, _, hrl1⟩ := hv
  obtain ⟨a1, c1, hsh1, _, _⟩ := id hr1
  subst hsh1
  have r1_1 : Hid (rdI W1 (.slice a1 rs1.length c1) rs1) := hid (hr1)
  obtain ⟨E, PE, CE, hEq⟩ : ∃ a b c, evenF n1 rs1 = (a, b, c) := ⟨_, _, _, rfl⟩
  obtain ⟨Cc, PC, CC, hCq⟩ : ∃ a b c, centF n1 rs1 = (a, b, c) := ⟨_, _, _, rfl⟩
  obtain ⟨Ab, CA, hAq⟩ : ∃ a b, abelF n1 rs1 = (a, b) := ⟨_, _, rfl⟩
  have hCl : Cc.length ≤ 1000 := by have := centF_len n1 rs1; rw [hCq] at this; exact this
  have hEl : E.length ≤ 1000 := by have := evenF_len n1 rs1; rw [hEq] at this; exact this
  have EI : Hid (∀ W, rdI W (.slice a1 rs1.length c1) rs1 → Calls Try.prog 10 #[.agg #[.int .i64 n1, .slice a1 rs1.length c1]] W fun e w' => ∃ v, e = .returned (.tuple #[.agg #[.int .i64 PE, v], .int .i64 CE]) ∧ ownR W.heap.size w' v E ∧ Below W.heap.size W w') := hid fun W q => by have := i_EvenPart n1 _ rs1 W q (by omega); rw [hEq] at this; exact this
  have ES : Hid (∀ W, rdI W (.slice a1 rs1.length c1) rs1 → Calls Try.prog 11 #[.agg #[.int .i64 n1, .slice a1 rs1.length c1]] W fun e w' => ∃ v, e = .returned (.tuple #[.agg #[.int .i64 PE, v], .int .i64 CE]) ∧ ownR W.heap.size w' v E ∧ Below W.heap.size W w') := hid fun W q => by have := s_EvenPart n1 _ rs1 W q (by omega); rw [hEq] at this; exact this
  have CI : Hid (∀ W, rdI W (.slice a1 rs1.length c1) rs1 → Calls Try.prog 12 #[.agg #[.int .i64 n1, .slice a1 rs1.length c1]] W fun e w' => ∃ v, e = .returned (.tuple #[.agg #[.int .i64 PC, v], .int .i64 CC]) ∧ ownR W.heap.size w' v Cc ∧ Below W.heap.size W w') := hid fun W q => by have := i_CenterOf n1 _ rs1 W q (by omega); rw [hCq] at this; exact this
  have CS : Hid (∀ W, rdI W (.slice a1 rs1.length c1) rs1 → Calls Try.prog 13 #[.agg #[.int .i64 n1, .slice a1 rs1.length c1]] W fun e w' => ∃ v, e = .returned (.tuple #[.agg #[.int .i64 PC, v], .int .i64 CC]) ∧ ownR W.heap.size w' v Cc ∧ Below W.heap.size W w') := hid fun W q => by have := s_CenterOf n1 _ rs1 W q (by omega); rw [hCq] at this; exact this
  have AI : Hid (∀ W, rdI W (.slice a1 rs1.length c1) rs1 → Calls Try.prog 14 #[.agg #[.int .i64 n1, .slice a1 rs1.length c1]] W fun e w' => e = .returned (.tuple #[.bool Ab, .int .i64 CA]) ∧ Below W.heap.size W w') := hid fun W q => by have := i_IsAbelian n1 _ rs1 W q (by omega); rw [hAq] at this; exact this
  have AS : Hid (∀ W, rdI W (.slice a1 rs1.length c1) rs1 → Calls Try.prog 15 #[.agg #[.int .i64 n1, .slice a1 rs1.length c1]] W fun e w' => e = .returned (.tuple #[.bool Ab, .int .i64 CA]) ∧ Below W.heap.size W w') := hid fun W q => by have := s_IsAbelian n1 _ rs1 W q (by omega); rw [hAq] at this; exact this
  have HX : Hid (CE = 0 → (E.length = rs1.length ∨ 2 * E.length = rs1.length) ∧ Ab = decide (Cc.length = rs1.length) ∧ abelF PC Cc = (true, 0)) := hid fun e => by
    subst e
    obtain ⟨_, q2, q3⟩ := even_facts hEq
    obtain ⟨e0, q4⟩ := abel_facts q2 hCq hAq
    subst e0
    exact ⟨q3, q4, (cent_abel hCq).2⟩
  clear hr1 hEq hCq hAq
  go_wp2_with fail
  obtain ⟨W2, hW2⟩ : ∃ X, X = W1.alloc (Obj.cells #[Value.int .i64 n1, .slice a1 rs1.length c1] 26) := ⟨_, rfl⟩
  obtain ⟨kG, hkG⟩ : ∃ k, k = W1.heap.size := ⟨_, rfl⟩
  have hba : Below W1.heap.size W1 W2 := by rw [hW2]; exact (Below.refl _ _).alloc (Nat.le_refl _) _
  have cn : ∀ o, W2.cell? ⟨kG, o, none⟩ = #[Value.int .i64 n1, .slice a1 rs1.length c1][o]? := fun o => by rw [hW2, hkG, alloc_cell, if_pos rfl]
  have ln : kG < W2.heap.size := by rw [hW2, hkG]; simp
  rw [← hW2, ← hkG]
  clear hW2 hkG
  have hE_2 : Hid (Ext w.heap.size w W2) := hid (hE_1.out.below hba)
  have r1_2 : Hid (rdI W2 (.slice a1 rs1.length c1) rs1) := hid (r1_1.out.below hba)
  clear hE_1 r1_1
  have G_2 := cn
  have lG_2 := ln
  clear cn ln hba
  refine (EI.out _ (r1_2.out)).mono ?_
  rintro e W3 ⟨v, rfl, ho, hb⟩
  have hE_3 : Hid (Ext w.heap.size w W3) := hid (hE_2.out.below hb)
  have r1_3 : Hid (rdI W3 (.slice a1 rs1.length c1) rs1) := hid (r1_2.out.below hb)
  have G_3 : ∀ o, W3.cell? ⟨kG, o, none⟩ = #[Value.int .i64 n1, .slice a1 rs1.length c1][o]? := fun o => (hb.cell (p := ⟨kG, o, none⟩) lG_2).trans (G_2 o)
  have lG_3 : kG < W3.heap.size := Nat.lt_of_lt_of_le lG_2 hb.size
  clear hE_2 r1_2 G_2 lG_2
  clear hb
  obtain ⟨aE, cE, hsh, _, _⟩ := ho.rd
  subst hsh
  have rE_3 : Hid (rdI W3 (.slice aE E.length cE) E) := hid (ho.rd)
  clear ho
  go_wp2_with fail
  obtain ⟨W4, hW4⟩ : ∃ X, X = W3.alloc (Obj.cells #[Value.int .i64 PE, .slice aE E.length cE] 26) := ⟨_, rfl⟩
  obtain ⟨kE, hkE⟩ : ∃ k, k = W3.heap.size := ⟨_, rfl⟩
  have hba : Below W3.heap.size W3 W4 := by rw [hW4]; exact (Below.refl _ _).alloc (Nat.le_refl _) _
  have cn : ∀ o, W4.cell? ⟨kE, o, none⟩ = #[Value.int .i64 PE, .slice aE E.length cE][o]? := fun o => by rw [hW4, hkE, alloc_cell, if_pos rfl]
  have ln : kE < W4.heap.size := by rw [hW4, hkE]; simp
  rw [← hW4, ← hkE]
  clear hW4 hkE
  have hE_4 : Hid (Ext w.heap.size w W4) := hid (hE_3.out.below hba)
  have r1_4 : Hid (rdI W4 (.slice a1 rs1.length c1) rs1) := hid (r1_3.out.below hba)
  have G_4 : ∀ o, W4.cell? ⟨kG, o, none⟩ = #[Value.int .i64 n1, .slice a1 rs1.length c1][o]? := fun o => (hba.cell (p := ⟨kG, o, none⟩) lG_3).trans (G_3 o)
  have lG_4 : kG < W4.heap.size := Nat.lt_of_lt_of_le lG_3 hba.size
  have rE_4 : Hid (rdI W4 (.slice aE E.length cE) E) := hid (rE_3.out.below hba)
  clear hE_3 r1_3 G_3 lG_3 rE_3
  have E_4 := cn
  have lE_4 := ln
  clear cn ln hba
  refine (ES.out _ (r1_4.out)).mono ?_
  rintro e W5 ⟨v, rfl, ho, hb⟩
  have hE_5 : Hid (Ext w.heap.size w W5) := hid (hE_4.out.below hb)
  have r1_5 : Hid (rdI W5 (.slice a1 rs1.length c1) rs1) := hid (r1_4.out.below hb)
  have G_5 : ∀ o, W5.cell? ⟨kG, o, none⟩ = #[Value.int .i64 n1, .slice a1 rs1.length c1][o]? := fun o => (hb.cell (p := ⟨kG, o, none⟩) lG_4).trans (G_4 o)
  have lG_5 : kG < W5.heap.size := Nat.lt_of_lt_of_le lG_4 hb.size
  have rE_5 : Hid (rdI W5 (.slice aE E.length cE) E) := hid (rE_4.out.below hb)
  have E_5 : ∀ o, W5.cell? ⟨kE, o, none⟩ = #[Value.int .i64 PE, .slice aE E.length cE][o]? := fun o => (hb.cell (p := ⟨kE, o, none⟩) lE_4).trans (E_4 o)
  have lE_5 : kE < W5.heap.size := Nat.lt_of_lt_of_le lE_4 hb.size
  clear hE_4 r1_4 G_4 lG_4 rE_4 E_4 lE_4
  clear hb
  obtain ⟨aF, cF, hsh, _, _⟩ := ho.rd
  subst hsh
  have rF_5 : Hid (rdI W5 (.slice aF E.length cF) E) := hid (ho.rd)
  clear ho
  go_wp2_with fail
  obtain ⟨W6, hW6⟩ : ∃ X, X = W5.alloc (Obj.cells #[Value.int .i64 PE, .slice aF E.length cF] 26) := ⟨_, rfl⟩
  obtain ⟨kF, hkF⟩ : ∃ k, k = W5.heap.size := ⟨_, rfl⟩
  have hba : Below W5.heap.size W5 W6 := by rw [hW6]; exact (Below.refl _ _).alloc (Nat.le_refl _) _
  have cn : ∀ o, W6.cell? ⟨kF, o, none⟩ = #[Value.int .i64 PE, .slice aF E.length cF][o]? := fun o => by rw [hW6, hkF, alloc_cell, if_pos rfl]
  have ln : kF < W6.heap.size := by rw [hW6, hkF]; simp
  rw [← hW6, ← hkF]
  clear hW6 hkF
  have hE_6 : Hid (Ext w.heap.size w W6) := hid (hE_5.out.below hba)
  have r1_6 : Hid (rdI W6 (.slice a1 rs1.length c1) rs1) := hid (r1_5.out.below hba)
  have G_6 : ∀ o, W6.cell? ⟨kG, o, none⟩ = #[Value.int .i64 n1, .slice a1 rs1.length c1][o]? := fun o => (hba.cell (p := ⟨kG, o, none⟩) lG_5).trans (G_5 o)
  have lG_6 : kG < W6.heap.size := Nat.lt_of_lt_of_le lG_5 hba.size
  have rE_6 : Hid (rdI W6 (.slice aE E.length cE) E) := hid (rE_5.out.below hba)
  have E_6 : ∀ o, W6.cell? ⟨kE, o, none⟩ = #[Value.int .i64 PE, .slice aE E.length cE][o]? := fun o => (hba.cell (p := ⟨kE, o, none⟩) lE_5).trans (E_5 o)
  have lE_6 : kE < W6.heap.size := Nat.lt_of_lt_of_le lE_5 hba.size
  have rF_6 : Hid (rdI W6 (.slice aF E.length cF) E) := hid (rF_5.out.below hba)
  clear hE_5 r1_5 G_5 lG_5 rE_5 E_5 lE_5 rF_5
  have F_6 := cn
  have lF_6 := ln
  clear cn ln hba
  refine (CI.out _ (r1_6.out)).mono ?_
  rintro e W7 ⟨v, rfl, ho, hb⟩
  have hE_7 : Hid (Ext w.heap.size w W7) := hid (hE_6.out.below hb)
  have r1_7 : Hid (rdI W7 (.slice a1 rs1.length c1) rs1) := hid (r1_6.out.below hb)
  have G_7 : ∀ o, W7.cell? ⟨kG, o, none⟩ = #[Value.int .i64 n1, .slice a1 rs1.length c1][o]? := fun o => (hb.cell (p := ⟨kG, o, none⟩) lG_6).trans (G_6 o)
  have lG_7 : kG < W7.heap.size := Nat.lt_of_lt_of_le lG_6 hb.size
  have rE_7 : Hid (rdI W7 (.slice aE E.length cE) E) := hid (rE_6.out.below hb)
  have E_7 : ∀ o, W7.cell? ⟨kE, o, none⟩ = #[Value.int .i64 PE, .slice aE E.length cE][o]? := fun o => (hb.cell (p := ⟨kE, o, none⟩) lE_6).trans (E_6 o)
  have lE_7 : kE < W7.heap.size := Nat.lt_of_lt_of_le lE_6 hb.size
  have rF_7 : Hid (rdI W7 (.slice aF E.length cF) E) := hid (rF_6.out.below hb)
  have F_7 : ∀ o, W7.cell? ⟨kF, o, none⟩ = #[Value.int .i64 PE, .slice aF E.length cF][o]? := fun o => (hb.cell (p := ⟨kF, o, none⟩) lF_6).trans (F_6 o)
  have lF_7 : kF < W7.heap.size := Nat.lt_of_lt_of_le lF_6 hb.size
  clear hE_6 r1_6 G_6 lG_6 rE_6 E_6 lE_6 rF_6 F_6 lF_6
  clear hb
  obtain ⟨aC, cC, hsh, _, _⟩ := ho.rd
  subst hsh
  have rC_7 : Hid (rdI W7 (.slice aC Cc.length cC) Cc) := hid (ho.rd)
  clear ho
  go_wp2_with fail
  obtain ⟨W8, hW8⟩ : ∃ X, X = W7.alloc (Obj.cells #[Value.int .i64 PC, .slice aC Cc.length cC] 26) := ⟨_, rfl⟩
  obtain ⟨kC, hkC⟩ : ∃ k, k = W7.heap.size := ⟨_, rfl⟩
  have hba : Below W7.heap.size W7 W8 := by rw [hW8]; exact (Below.refl _ _).alloc (Nat.le_refl _) _
  have cn : ∀ o, W8.cell? ⟨kC, o, none⟩ = #[Value.int .i64 PC, .slice aC Cc.length cC][o]? := fun o => by rw [hW8, hkC, alloc_cell, if_pos rfl]
  have ln : kC < W8.heap.size := by rw [hW8, hkC]; simp
  rw [← hW8, ← hkC]
  clear hW8 hkC
  have hE_8 : Hid (Ext w.heap.size w W8) := hid (hE_7.out.below hba)
  have r1_8 : Hid (rdI W8 (.slice a1 rs1.length c1) rs1) := hid (r1_7.out.below hba)
  have G_8 : ∀ o, W8.cell? ⟨kG, o, none⟩ = #[Value.int .i64 n1, .slice a1 rs1.length c1][o]? := fun o => (hba.cell (p := ⟨kG, o, none⟩) lG_7).trans (G_7 o)
  have lG_8 : kG < W8.heap.size := Nat.lt_of_lt_of_le lG_7 hba.size
  have rE_8 : Hid (rdI W8 (.slice aE E.length cE) E) := hid (rE_7.out.below hba)
  have E_8 : ∀ o, W8.cell? ⟨kE, o, none⟩ = #[Value.int .i64 PE, .slice aE E.length cE][o]? := fun o => (hba.cell (p := ⟨kE, o, none⟩) lE_7).trans (E_7 o)
  have lE_8 : kE < W8.heap.size := Nat.lt_of_lt_of_le lE_7 hba.size
  have rF_8 : Hid (rdI W8 (.slice aF E.length cF) E) := hid (rF_7.out.below hba)
  have F_8 : ∀ o, W8.cell? ⟨kF, o, none⟩ = #[Value.int .i64 PE, .slice aF E.length cF][o]? := fun o => (hba.cell (p := ⟨kF, o, none⟩) lF_7).trans (F_7 o)
  have lF_8 : kF < W8.heap.size := Nat.lt_of_lt_of_le lF_7 hba.size
  have rC_8 : Hid (rdI W8 (.slice aC Cc.length cC) Cc) := hid (rC_7.out.below hba)
  clear hE_7 r1_7 G_7 lG_7 rE_7 E_7 lE_7 rF_7 F_7 lF_7 rC_7
  have C_8 := cn
  have lC_8 := ln
  clear cn ln hba
  refine (CS.out _ (r1_8.out)).mono ?_
  rintro e W9 ⟨v, rfl, ho, hb⟩
  have hE_9 : Hid (Ext w.heap.size w W9) := hid (hE_8.out.below hb)
  have r1_9 : Hid (rdI W9 (.slice a1 rs1.length c1) rs1) := hid (r1_8.out.below hb)
  have G_9 : ∀ o, W9.cell? ⟨kG, o, none⟩ = #[Value.int .i64 n1, .slice a1 rs1.length c1][o]? := fun o => (hb.cell (p := ⟨kG, o, none⟩) lG_8).trans (G_8 o)
  have lG_9 : kG < W9.heap.size := Nat.lt_of_lt_of_le lG_8 hb.size
  have rE_9 : Hid (rdI W9 (.slice aE E.length cE) E) := hid (rE_8.out.below hb)
  have E_9 : ∀ o, W9.cell? ⟨kE, o, none⟩ = #[Value.int .i64 PE, .slice aE E.length cE][o]? := fun o => (hb.cell (p := ⟨kE, o, none⟩) lE_8).trans (E_8 o)
  have lE_9 : kE < W9.heap.size := Nat.lt_of_lt_of_le lE_8 hb.size
  have rF_9 : Hid (rdI W9 (.slice aF E.length cF) E) := hid (rF_8.out.below hb)
  have F_9 : ∀ o, W9.cell? ⟨kF, o, none⟩ = #[Value.int .i64 PE, .slice aF E.length cF][o]? := fun o => (hb.cell (p := ⟨kF, o, none⟩) lF_8).trans (F_8 o)
  have lF_9 : kF < W9.heap.size := Nat.lt_of_lt_of_le lF_8 hb.size
  have rC_9 : Hid (rdI W9 (.slice aC Cc.length cC) Cc) := hid (rC_8.out.below hb)
  have C_9 : ∀ o, W9.cell? ⟨kC, o, none⟩ = #[Value.int .i64 PC, .slice aC Cc.length cC][o]? := fun o => (hb.cell (p := ⟨kC, o, none⟩) lC_8).trans (C_8 o)
  have lC_9 : kC < W9.heap.size := Nat.lt_of_lt_of_le lC_8 hb.size
  clear hE_8 r1_8 G_8 lG_8 rE_8 E_8 lE_8 rF_8 F_8 lF_8 rC_8 C_8 lC_8
  clear hb
  obtain ⟨aD, cD, hsh, _, _⟩ := ho.rd
  subst hsh
  have rD_9 : Hid (rdI W9 (.slice aD Cc.length cD) Cc) := hid (ho.rd)
  clear ho
  go_wp2_with fail
  obtain ⟨W10, hW10⟩ : ∃ X, X = W9.alloc (Obj.cells #[Value.int .i64 PC, .slice aD Cc.length cD] 26) := ⟨_, rfl⟩
  obtain ⟨kD, hkD⟩ : ∃ k, k = W9.heap.size := ⟨_, rfl⟩
  have hba : Below W9.heap.size W9 W10 := by rw [hW10]; exact (Below.refl _ _).alloc (Nat.le_refl _) _
  have cn : ∀ o, W10.cell? ⟨kD, o, none⟩ = #[Value.int .i64 PC, .slice aD Cc.length cD][o]? := fun o => by rw [hW10, hkD, alloc_cell, if_pos rfl]
  have ln : kD < W10.heap.size := by rw [hW10, hkD]; simp
  rw [← hW10, ← hkD]
  clear hW10 hkD
  have hE_10 : Hid (Ext w.heap.size w W10) := hid (hE_9.out.below hba)
  have r1_10 : Hid (rdI W10 (.slice a1 rs1.length c1) rs1) := hid (r1_9.out.below hba)
  have G_10 : ∀ o, W10.cell? ⟨kG, o, none⟩ = #[Value.int .i64 n1, .slice a1 rs1.length c1][o]? := fun o => (hba.cell (p := ⟨kG, o, none⟩) lG_9).trans (G_9 o)
  have lG_10 : kG < W10.heap.size := Nat.lt_of_lt_of_le lG_9 hba.size
  have rE_10 : Hid (rdI W10 (.slice aE E.length cE) E) := hid (rE_9.out.below hba)
  have E_10 : ∀ o, W10.cell? ⟨kE, o, none⟩ = #[Value.int .i64 PE, .slice aE E.length cE][o]? := fun o => (hba.cell (p := ⟨kE, o, none⟩) lE_9).trans (E_9 o)
  have lE_10 : kE < W10.heap.size := Nat.lt_of_lt_of_le lE_9 hba.size
  have rF_10 : Hid (rdI W10 (.slice aF E.length cF) E) := hid (rF_9.out.below hba)
  have F_10 : ∀ o, W10.cell? ⟨kF, o, none⟩ = #[Value.int .i64 PE, .slice aF E.length cF][o]? := fun o => (hba.cell (p := ⟨kF, o, none⟩) lF_9).trans (F_9 o)
  have lF_10 : kF < W10.heap.size := Nat.lt_of_lt_of_le lF_9 hba.size
  have rC_10 : Hid (rdI W10 (.slice aC Cc.length cC) Cc) := hid (rC_9.out.below hba)
  have C_10 : ∀ o, W10.cell? ⟨kC, o, none⟩ = #[Value.int .i64 PC, .slice aC Cc.length cC][o]? := fun o => (hba.cell (p := ⟨kC, o, none⟩) lC_9).trans (C_9 o)
  have lC_10 : kC < W10.heap.size := Nat.lt_of_lt_of_le lC_9 hba.size
  have rD_10 : Hid (rdI W10 (.slice aD Cc.length cD) Cc) := hid (rD_9.out.below hba)
  clear hE_9 r1_9 G_9 lG_9 rE_9 E_9 lE_9 rF_9 F_9 lF_9 rC_9 C_9 lC_9 rD_9
  have D_10 := cn
  have lD_10 := ln
  clear cn ln hba
  refine (AI.out _ (r1_10.out)).mono ?_
  rintro e W11 ⟨rfl, hb⟩
  have hE_11 : Hid (Ext w.heap.size w W11) := hid (hE_10.out.below hb)
  have r1_11 : Hid (rdI W11 (.slice a1 rs1.length c1) rs1) := hid (r1_10.out.below hb)
  have G_11 : ∀ o, W11.cell? ⟨kG, o, none⟩ = #[Value.int .i64 n1, .slice a1 rs1.length c1][o]? := fun o => (hb.cell (p := ⟨kG, o, none⟩) lG_10).trans (G_10 o)
  have lG_11 : kG < W11.heap.size := Nat.lt_of_lt_of_le lG_10 hb.size
  have rE_11 : Hid (rdI W11 (.slice aE E.length cE) E) := hid (rE_10.out.below hb)
  have E_11 : ∀ o, W11.cell? ⟨kE, o, none⟩ = #[Value.int .i64 PE, .slice aE E.length cE][o]? := fun o => (hb.cell (p := ⟨kE, o, none⟩) lE_10).trans (E_10 o)
  have lE_11 : kE < W11.heap.size := Nat.lt_of_lt_of_le lE_10 hb.size
  have rF_11 : Hid (rdI W11 (.slice aF E.length cF) E) := hid (rF_10.out.below hb)
  have F_11 : ∀ o, W11.cell? ⟨kF, o, none⟩ = #[Value.int .i64 PE, .slice aF E.length cF][o]? := fun o => (hb.cell (p := ⟨kF, o, none⟩) lF_10).trans (F_10 o)
  have lF_11 : kF < W11.heap.size := Nat.lt_of_lt_of_le lF_10 hb.size
  have rC_11 : Hid (rdI W11 (.slice aC Cc.length cC) Cc) := hid (rC_10.out.below hb)
  have C_11 : ∀ o, W11.cell? ⟨kC, o, none⟩ = #[Value.int .i64 PC, .slice aC Cc.length cC][o]? := fun o => (hb.cell (p := ⟨kC, o, none⟩) lC_10).trans (C_10 o)
  have lC_11 : kC < W11.heap.size := Nat.lt_of_lt_of_le lC_10 hb.size
  have rD_11 : Hid (rdI W11 (.slice aD Cc.length cD) Cc) := hid (rD_10.out.below hb)
  have D_11 : ∀ o, W11.cell? ⟨kD, o, none⟩ = #[Value.int .i64 PC, .slice aD Cc.length cD][o]? := fun o => (hb.cell (p := ⟨kD, o, none⟩) lD_10).trans (D_10 o)
  have lD_11 : kD < W11.heap.size := Nat.lt_of_lt_of_le lD_10 hb.size
  clear hE_10 r1_10 G_10 lG_10 rE_10 E_10 lE_10 rF_10 F_10 lF_10 rC_10 C_10 lC_10 rD_10 D_10 lD_10
  clear hb
  go_wp2_with fail
  refine (AS.out _ (r1_11.out)).mono ?_
  rintro e W12 ⟨rfl, hb⟩
  have hE_12 : Hid (Ext w.heap.size w W12) := hid (hE_11.out.below hb)
  have r1_12 : Hid (rdI W12 (.slice a1 rs1.length c1) rs1) := hid (r1_11.out.below hb)
  have G_12 : ∀ o, W12.cell? ⟨kG, o, none⟩ = #[Value.int .i64 n1, .slice a1 rs1.length c1][o]? := fun o => (hb.cell (p := ⟨kG, o, none⟩) lG_11).trans (G_11 o)
  have lG_12 : kG < W12.heap.size := Nat.lt_of_lt_of_le lG_11 hb.size
  have rE_12 : Hid (rdI W12 (.slice aE E.length cE) E) := hid (rE_11.out.below hb)
  have E_12 : ∀ o, W12.cell? ⟨kE, o, none⟩ = #[Value.int .i64 PE, .slice aE E.length cE][o]? := fun o => (hb.cell (p := ⟨kE, o, none⟩) lE_11).trans (E_11 o)
  have lE_12 : kE < W12.heap.size := Nat.lt_of_lt_of_le lE_11 hb.size
  have rF_12 : Hid (rdI W12 (.slice aF E.length cF) E) := hid (rF_11.out.below hb)
  have F_12 : ∀ o, W12.cell? ⟨kF, o, none⟩ = #[Value.int .i64 PE, .slice aF E.length cF][o]? := fun o => (hb.cell (p := ⟨kF, o, none⟩) lF_11).trans (F_11 o)
  have lF_12 : kF < W12.heap.size := Nat.lt_of_lt_of_le lF_11 hb.size
  have rC_12 : Hid (rdI W12 (.slice aC Cc.length cC) Cc) := hid (rC_11.out.below hb)
  have C_12 : ∀ o, W12.cell? ⟨kC, o, none⟩ = #[Value.int .i64 PC, .slice aC Cc.length cC][o]? := fun o => (hb.cell (p := ⟨kC, o, none⟩) lC_11).trans (C_11 o)
  have lC_12 : kC < W12.heap.size := Nat.lt_of_lt_of_le lC_11 hb.size
  have rD_12 : Hid (rdI W12 (.slice aD Cc.length cD) Cc) := hid (rD_11.out.below hb)
  have D_12 : ∀ o, W12.cell? ⟨kD, o, none⟩ = #[Value.int .i64 PC, .slice aD Cc.length cD][o]? := fun o => (hb.cell (p := ⟨kD, o, none⟩) lD_11).trans (D_11 o)
  have lD_12 : kD < W12.heap.size := Nat.lt_of_lt_of_le lD_11 hb.size
  clear hE_11 r1_11 G_11 lG_11 rE_11 E_11 lE_11 rF_11 F_11 lF_11 rC_11 C_11 lC_11 rD_11 D_11 lD_11
  clear hb
  go_wp2_with fail
  clear EI ES CI CS AI AS
  refine (HDR.out w.heap.size a len cap _ (H.out.ext hE_12.out) hl hE_12.out.2).mono ?_
  rintro e W13 ⟨v, vv, rfl, hv, hvv, hb⟩
  have hE_13 : Hid (Ext w.heap.size w W13) := hid (hE_12.out.below hb)
  have r1_13 : Hid (rdI W13 (.slice a1 rs1.length c1) rs1) := hid (r1_12.out.below hb)
  have G_13 : ∀ o, W13.cell? ⟨kG, o, none⟩ = #[Value.int .i64 n1, .slice a1 rs1.length c1][o]? := fun o => (hb.cell (p := ⟨kG, o, none⟩) lG_12).trans (G_12 o)
  have lG_13 : kG < W13.heap.size := Nat.lt_of_lt_of_le lG_12 hb.size
  have rE_13 : Hid (rdI W13 (.slice aE E.length cE) E) := hid (rE_12.out.below hb)
  have E_13 : ∀ o, W13.cell? ⟨kE, o, none⟩ = #[Value.int .i64 PE, .slice aE E.length cE][o]? := fun o => (hb.cell (p := ⟨kE, o, none⟩) lE_12).trans (E_12 o)
  have lE_13 : kE < W13.heap.size := Nat.lt_of_lt_of_le lE_12 hb.size
  have rF_13 : Hid (rdI W13 (.slice aF E.length cF) E) := hid (rF_12.out.below hb)
  have F_13 : ∀ o, W13.cell? ⟨kF, o, none⟩ = #[Value.int .i64 PE, .slice aF E.length cF][o]? := fun o => (hb.cell (p := ⟨kF, o, none⟩) lF_12).trans (F_12 o)
  have lF_13 : kF < W13.heap.size := Nat.lt_of_lt_of_le lF_12 hb.size
  have rC_13 : Hid (rdI W13 (.slice aC Cc.length cC) Cc) := hid (rC_12.out.below hb)
  have C_13 : ∀ o, W13.cell? ⟨kC, o, none⟩ = #[Value.int .i64 PC, .slice aC Cc.length cC][o]? := fun o => (hb.cell (p := ⟨kC, o, none⟩) lC_12).trans (C_12 o)
  have lC_13 : kC < W13.heap.size := Nat.lt_of_lt_of_le lC_12 hb.size
  have rD_13 : Hid (rdI W13 (.slice aD Cc.length cD) Cc) := hid (rD_12.out.below hb)
  have D_13 : ∀ o, W13.cell? ⟨kD, o, none⟩ = #[Value.int .i64 PC, .slice aD Cc.length cD][o]? := fun o => (hb.cell (p := ⟨kD, o, none⟩) lD_12).trans (D_12 o)
  have lD_13 : kD < W13.heap.size := Nat.lt_of_lt_of_le lD_12 hb.size
  clear hE_12 r1_12 G_12 lG_12 rE_12 E_12 lE_12 rF_12 F_12 lF_12 rC_12 C_12 lC_12 rD_12 D_12 lD_12
  clear hb
  obtain ⟨n2, s2, rs2, rfl, hn2, hr2, _, hrl2⟩ := hv
  obtain ⟨a2, c2, hsh2, _, _⟩ := id hr2
  subst hsh2
  obtain ⟨n3, s3, rs3, rfl, hn3, hr3, _, hrl3⟩ := hvv
  obtain ⟨a3, c3, hsh3, _, _⟩ := id hr3
  subst hsh3
  have r2_13 : Hid (rdI W13 (.slice a2 rs2.length c2) rs2) := hid (hr2)
  have r3_13 : Hid (rdI W13 (.slice a3 rs3.length c3) rs3) := hid (hr3)
  obtain ⟨A, P, C5, hMq⟩ : ∃ a b c, meetF n2 rs2 n3 rs3 = (a, b, c) := ⟨_, _, _, rfl⟩
  obtain ⟨S, C7, hSq⟩ : ∃ a b, subF n2 rs2 n3 rs3 = (a, b) := ⟨_, _, rfl⟩
  have hAl : A.length ≤ 1000 := by have := meetF_len n2 rs2 n3 rs3; rw [hMq] at this; exact this
  have HM := hid hMq
  have HS := hid hSq
  have HY : Hid (C5 = 0 → subF P A n2 rs2 = (true, 0) ∧ subF P A n3 rs3 = (true, 0) ∧ S = decide (A.length = rs2.length)) := hid fun e => by
    subst e
    obtain ⟨_, q2, q3, q4⟩ := meet_facts hMq
    rw [hSq] at q4
    exact ⟨q2, q3, (Prod.mk.inj q4).1⟩
  clear hr2 hr3 hMq hSq
  go_wp2_with fail
  obtain ⟨W14, hW14⟩ : ∃ X, X = W13.alloc (Obj.cells #[Value.int .i64 n2, .slice a2 rs2.length c2] 26) := ⟨_, rfl⟩
  obtain ⟨kH, hkH⟩ : ∃ k, k = W13.heap.size := ⟨_, rfl⟩
  have hba : Below W13.heap.size W13 W14 := by rw [hW14]; exact (Below.refl _ _).alloc (Nat.le_refl _) _
  have cn : ∀ o, W14.cell? ⟨kH, o, none⟩ = #[Value.int .i64 n2, .slice a2 rs2.length c2][o]? := fun o => by rw [hW14, hkH, alloc_cell, if_pos rfl]
  have ln : kH < W14.heap.size := by rw [hW14, hkH]; simp
  have szH : W14.heap.size = kH + 1 := by rw [hW14, hkH]; simp
  rw [← hW14, ← hkH]
  clear hW14 hkH
  have hE_14 : Hid (Ext w.heap.size w W14) := hid (hE_13.out.below hba)
  have r1_14 : Hid (rdI W14 (.slice a1 rs1.length c1) rs1) := hid (r1_13.out.below hba)
  have G_14 : ∀ o, W14.cell? ⟨kG, o, none⟩ = #[Value.int .i64 n1, .slice a1 rs1.length c1][o]? := fun o => (hba.cell (p := ⟨kG, o, none⟩) lG_13).trans (G_13 o)
  have lG_14 : kG < W14.heap.size := Nat.lt_of_lt_of_le lG_13 hba.size
  have rE_14 : Hid (rdI W14 (.slice aE E.length cE) E) := hid (rE_13.out.below hba)
  have E_14 : ∀ o, W14.cell? ⟨kE, o, none⟩ = #[Value.int .i64 PE, .slice aE E.length cE][o]? := fun o => (hba.cell (p := ⟨kE, o, none⟩) lE_13).trans (E_13 o)
  have lE_14 : kE < W14.heap.size := Nat.lt_of_lt_of_le lE_13 hba.size
  have rF_14 : Hid (rdI W14 (.slice aF E.length cF) E) := hid (rF_13.out.below hba)
  have F_14 : ∀ o, W14.cell? ⟨kF, o, none⟩ = #[Value.int .i64 PE, .slice aF E.length cF][o]? := fun o => (hba.cell (p := ⟨kF, o, none⟩) lF_13).trans (F_13 o)
  have lF_14 : kF < W14.heap.size := Nat.lt_of_lt_of_le lF_13 hba.size
  have rC_14 : Hid (rdI W14 (.slice aC Cc.length cC) Cc) := hid (rC_13.out.below hba)
  have C_14 : ∀ o, W14.cell? ⟨kC, o, none⟩ = #[Value.int .i64 PC, .slice aC Cc.length cC][o]? := fun o => (hba.cell (p := ⟨kC, o, none⟩) lC_13).trans (C_13 o)
  have lC_14 : kC < W14.heap.size := Nat.lt_of_lt_of_le lC_13 hba.size
  have rD_14 : Hid (rdI W14 (.slice aD Cc.length cD) Cc) := hid (rD_13.out.below hba)
  have D_14 : ∀ o, W14.cell? ⟨kD, o, none⟩ = #[Value.int .i64 PC, .slice aD Cc.length cD][o]? := fun o => (hba.cell (p := ⟨kD, o, none⟩) lD_13).trans (D_13 o)
  have lD_14 : kD < W14.heap.size := Nat.lt_of_lt_of_le lD_13 hba.size
  have r2_14 : Hid (rdI W14 (.slice a2 rs2.length c2) rs2) := hid (r2_13.out.below hba)
  have r3_14 : Hid (rdI W14 (.slice a3 rs3.length c3) rs3) := hid (r3_13.out.below hba)
  clear hE_13 r1_13 G_13 lG_13 rE_13 E_13 lE_13 rF_13 F_13 lF_13 rC_13 C_13 lC_13 rD_13 D_13 lD_13 r2_13 r3_13
  have H_14 := cn
  have lH_14 := ln
  clear cn ln hba
  obtain ⟨W15, hW15⟩ : ∃ X, X = W14.alloc (Obj.cells #[Value.int .i64 n3, .slice a3 rs3.length c3] 26) := ⟨_, rfl⟩
  obtain ⟨kK, hkK⟩ : ∃ k, k = W14.heap.size := ⟨_, rfl⟩
  have hba : Below W14.heap.size W14 W15 := by rw [hW15]; exact (Below.refl _ _).alloc (Nat.le_refl _) _
  have cn : ∀ o, W15.cell? ⟨kK, o, none⟩ = #[Value.int .i64 n3, .slice a3 rs3.length c3][o]? := fun o => by rw [hW15, hkK, alloc_cell, if_pos rfl]
  have ln : kK < W15.heap.size := by rw [hW15, hkK]; simp
  have hkp : kH + 1 = kK := by omega
  rw [← hW15, hkp]
  clear hkp szH
  clear hW15 hkK
  have hE_15 : Hid (Ext w.heap.size w W15) := hid (hE_14.out.below hba)
  have r1_15 : Hid (rdI W15 (.slice a1 rs1.length c1) rs1) := hid (r1_14.out.below hba)
  have G_15 : ∀ o, W15.cell? ⟨kG, o, none⟩ = #[Value.int .i64 n1, .slice a1 rs1.length c1][o]? := fun o => (hba.cell (p := ⟨kG, o, none⟩) lG_14).trans (G_14 o)
  have lG_15 : kG < W15.heap.size := Nat.lt_of_lt_of_le lG_14 hba.size
  have rE_15 : Hid (rdI W15 (.slice aE E.length cE) E) := hid (rE_14.out.below hba)
  have E_15 : ∀ o, W15.cell? ⟨kE, o, none⟩ = #[Value.int .i64 PE, .slice aE E.length cE][o]? := fun o => (hba.cell (p := ⟨kE, o, none⟩) lE_14).trans (E_14 o)
  have lE_15 : kE < W15.heap.size := Nat.lt_of_lt_of_le lE_14 hba.size
  have rF_15 : Hid (rdI W15 (.slice aF E.length cF) E) := hid (rF_14.out.below hba)
  have F_15 : ∀ o, W15.cell? ⟨kF, o, none⟩ = #[Value.int .i64 PE, .slice aF E.length cF][o]? := fun o => (hba.cell (p := ⟨kF, o, none⟩) lF_14).trans (F_14 o)
  have lF_15 : kF < W15.heap.size := Nat.lt_of_lt_of_le lF_14 hba.size
  have rC_15 : Hid (rdI W15 (.slice aC Cc.length cC) Cc) := hid (rC_14.out.below hba)
  have C_15 : ∀ o, W15.cell? ⟨kC, o, none⟩ = #[Value.int .i64 PC, .slice aC Cc.length cC][o]? := fun o => (hba.cell (p := ⟨kC, o, none⟩) lC_14).trans (C_14 o)
  have lC_15 : kC < W15.heap.size := Nat.lt_of_lt_of_le lC_14 hba.size
  have rD_15 : Hid (rdI W15 (.slice aD Cc.length cD) Cc) := hid (rD_14.out.below hba)
  have D_15 : ∀ o, W15.cell? ⟨kD, o, none⟩ = #[Value.int .i64 PC, .slice aD Cc.length cD][o]? := fun o => (hba.cell (p := ⟨kD, o, none⟩) lD_14).trans (D_14 o)
  have lD_15 : kD < W15.heap.size := Nat.lt_of_lt_of_le lD_14 hba.size
  have r2_15 : Hid (rdI W15 (.slice a2 rs2.length c2) rs2) := hid (r2_14.out.below hba)
  have r3_15 : Hid (rdI W15 (.slice a3 rs3.length c3) rs3) := hid (r3_14.out.below hba)
  have H_15 : ∀ o, W15.cell? ⟨kH, o, none⟩ = #[Value.int .i64 n2, .slice a2 rs2.length c2][o]? := fun o => (hba.cell (p := ⟨kH, o, none⟩) lH_14).trans (H_14 o)
  have lH_15 : kH < W15.heap.size := Nat.lt_of_lt_of_le lH_14 hba.size
  clear hE_14 r1_14 G_14 lG_14 rE_14 E_14 lE_14 rF_14 F_14 lF_14 rC_14 C_14 lC_14 rD_14 D_14 lD_14 r2_14 r3_14 H_14 lH_14
  have K_15 := cn
  have lK_15 := ln
  clear cn ln hba
  refine (i_Meet n2 n3 _ _ rs2 rs3 _ A P C5 (r2_15.out) (by omega) (r3_15.out) (by omega) HM.out).mono ?_
  rintro e W16 ⟨v, rfl, ho, hb⟩
  have hE_16 : Hid (Ext w.heap.size w W16) := hid (hE_15.out.below hb)
  have r1_16 : Hid (rdI W16 (.slice a1 rs1.length c1) rs1) := hid (r1_15.out.below hb)
  have G_16 : ∀ o, W16.cell? ⟨kG, o, none⟩ = #[Value.int .i64 n1, .slice a1 rs1.length c1][o]? := fun o => (hb.cell (p := ⟨kG, o, none⟩) lG_15).trans (G_15 o)
  have lG_16 : kG < W16.heap.size := Nat.lt_of_lt_of_le lG_15 hb.size
  have rE_16 : Hid (rdI W16 (.slice aE E.length cE) E) := hid (rE_15.out.below hb)
  have E_16 : ∀ o, W16.cell? ⟨kE, o, none⟩ = #[Value.int .i64 PE, .slice aE E.length cE][o]? := fun o => (hb.cell (p := ⟨kE, o, none⟩) lE_15).trans (E_15 o)
  have lE_16 : kE < W16.heap.size := Nat.lt_of_lt_of_le lE_15 hb.size
  have rF_16 : Hid (rdI W16 (.slice aF E.length cF) E) := hid (rF_15.out.below hb)
  have F_16 : ∀ o, W16.cell? ⟨kF, o, none⟩ = #[Value.int .i64 PE, .slice aF E.length cF][o]? := fun o => (hb.cell (p := ⟨kF, o, none⟩) lF_15).trans (F_15 o)
  have lF_16 : kF < W16.heap.size := Nat.lt_of_lt_of_le lF_15 hb.size
  have rC_16 : Hid (rdI W16 (.slice aC Cc.length cC) Cc) := hid (rC_15.out.below hb)
  have C_16 : ∀ o, W16.cell? ⟨kC, o, none⟩ = #[Value.int .i64 PC, .slice aC Cc.length cC][o]? := fun o => (hb.cell (p := ⟨kC, o, none⟩) lC_15).trans (C_15 o)
  have lC_16 : kC < W16.heap.size := Nat.lt_of_lt_of_le lC_15 hb.size
  have rD_16 : Hid (rdI W16 (.slice aD Cc.length cD) Cc) := hid (rD_15.out.below hb)
  have D_16 : ∀ o, W16.cell? ⟨kD, o, none⟩ = #[Value.int .i64 PC, .slice aD Cc.length cD][o]? := fun o => (hb.cell (p := ⟨kD, o, none⟩) lD_15).trans (D_15 o)
  have lD_16 : kD < W16.heap.size := Nat.lt_of_lt_of_le lD_15 hb.size
  have r2_16 : Hid (rdI W16 (.slice a2 rs2.length c2) rs2) := hid (r2_15.out.below hb)
  have r3_16 : Hid (rdI W16 (.slice a3 rs3.length c3) rs3) := hid (r3_15.out.below hb)
  have H_16 : ∀ o, W16.cell? ⟨kH, o, none⟩ = #[Value.int .i64 n2, .slice a2 rs2.length c2][o]? := fun o => (hb.cell (p := ⟨kH, o, none⟩) lH_15).trans (H_15 o)
  have lH_16 : kH < W16.heap.size := Nat.lt_of_lt_of_le lH_15 hb.size
  have K_16 : ∀ o, W16.cell? ⟨kK, o, none⟩ = #[Value.int .i64 n3, .slice a3 rs3.length c3][o]? := fun o => (hb.cell (p := ⟨kK, o, none⟩) lK_15).trans (K_15 o)
  have lK_16 : kK < W16.heap.size := Nat.lt_of_lt_of_le lK_15 hb.size
  clear hE_15 r1_15 G_15 lG_15 rE_15 E_15 lE_15 rF_15 F_15 lF_15 rC_15 C_15 lC_15 rD_15 D_15 lD_15 r2_15 r3_15 H_15 lH_15 K_15 lK_15
  clear hb
  obtain ⟨aM, cM, hsh, _, _⟩ := ho.rd
  subst hsh
  have rM_16 : Hid (rdI W16 (.slice aM A.length cM) A) := hid (ho.rd)
  clear ho
  go_wp2_with fail
  obtain ⟨W17, hW17⟩ : ∃ X, X = W16.alloc (Obj.cells #[Value.int .i64 P, .slice aM A.length cM] 26) := ⟨_, rfl⟩
  obtain ⟨kM, hkM⟩ : ∃ k, k = W16.heap.size := ⟨_, rfl⟩
  have hba : Below W16.heap.size W16 W17 := by rw [hW17]; exact (Below.refl _ _).alloc (Nat.le_refl _) _
  have cn : ∀ o, W17.cell? ⟨kM, o, none⟩ = #[Value.int .i64 P, .slice aM A.length cM][o]? := fun o => by rw [hW17, hkM, alloc_cell, if_pos rfl]
  have ln : kM < W17.heap.size := by rw [hW17, hkM]; simp
  rw [← hW17, ← hkM]
  clear hW17 hkM
  have hE_17 : Hid (Ext w.heap.size w W17) := hid (hE_16.out.below hba)
  have r1_17 : Hid (rdI W17 (.slice a1 rs1.length c1) rs1) := hid (r1_16.out.below hba)
  have G_17 : ∀ o, W17.cell? ⟨kG, o, none⟩ = #[Value.int .i64 n1, .slice a1 rs1.length c1][o]? := fun o => (hba.cell (p := ⟨kG, o, none⟩) lG_16).trans (G_16 o)
  have lG_17 : kG < W17.heap.size := Nat.lt_of_lt_of_le lG_16 hba.size
  have rE_17 : Hid (rdI W17 (.slice aE E.length cE) E) := hid (rE_16.out.below hba)
  have E_17 : ∀ o, W17.cell? ⟨kE, o, none⟩ = #[Value.int .i64 PE, .slice aE E.length cE][o]? := fun o => (hba.cell (p := ⟨kE, o, none⟩) lE_16).trans (E_16 o)
  have lE_17 : kE < W17.heap.size := Nat.lt_of_lt_of_le lE_16 hba.size
  have rF_17 : Hid (rdI W17 (.slice aF E.length cF) E) := hid (rF_16.out.below hba)
  have F_17 : ∀ o, W17.cell? ⟨kF, o, none⟩ = #[Value.int .i64 PE, .slice aF E.length cF][o]? := fun o => (hba.cell (p := ⟨kF, o, none⟩) lF_16).trans (F_16 o)
  have lF_17 : kF < W17.heap.size := Nat.lt_of_lt_of_le lF_16 hba.size
  have rC_17 : Hid (rdI W17 (.slice aC Cc.length cC) Cc) := hid (rC_16.out.below hba)
  have C_17 : ∀ o, W17.cell? ⟨kC, o, none⟩ = #[Value.int .i64 PC, .slice aC Cc.length cC][o]? := fun o => (hba.cell (p := ⟨kC, o, none⟩) lC_16).trans (C_16 o)
  have lC_17 : kC < W17.heap.size := Nat.lt_of_lt_of_le lC_16 hba.size
  have rD_17 : Hid (rdI W17 (.slice aD Cc.length cD) Cc) := hid (rD_16.out.below hba)
  have D_17 : ∀ o, W17.cell? ⟨kD, o, none⟩ = #[Value.int .i64 PC, .slice aD Cc.length cD][o]? := fun o => (hba.cell (p := ⟨kD, o, none⟩) lD_16).trans (D_16 o)
  have lD_17 : kD < W17.heap.size := Nat.lt_of_lt_of_le lD_16 hba.size
  have r2_17 : Hid (rdI W17 (.slice a2 rs2.length c2) rs2) := hid (r2_16.out.below hba)
  have r3_17 : Hid (rdI W17 (.slice a3 rs3.length c3) rs3) := hid (r3_16.out.below hba)
  have H_17 : ∀ o, W17.cell? ⟨kH, o, none⟩ = #[Value.int .i64 n2, .slice a2 rs2.length c2][o]? := fun o => (hba.cell (p := ⟨kH, o, none⟩) lH_16).trans (H_16 o)
  have lH_17 : kH < W17.heap.size := Nat.lt_of_lt_of_le lH_16 hba.size
  have K_17 : ∀ o, W17.cell? ⟨kK, o, none⟩ = #[Value.int .i64 n3, .slice a3 rs3.length c3][o]? := fun o => (hba.cell (p := ⟨kK, o, none⟩) lK_16).trans (K_16 o)
  have lK_17 : kK < W17.heap.size := Nat.lt_of_lt_of_le lK_16 hba.size
  have rM_17 : Hid (rdI W17 (.slice aM A.length cM) A) := hid (rM_16.out.below hba)
  clear hE_16 r1_16 G_16 lG_16 rE_16 E_16 lE_16 rF_16 F_16 lF_16 rC_16 C_16 lC_16 rD_16 D_16 lD_16 r2_16 r3_16 H_16 lH_16 K_16 lK_16 rM_16
  have M_17 := cn
  have lM_17 := ln
  clear cn ln hba
  refine (s_Meet n2 n3 _ _ rs2 rs3 _ A P C5 (r2_17.out) (by omega) (r3_17.out) (by omega) HM.out).mono ?_
  rintro e W18 ⟨v, rfl, ho, hb⟩
  have hE_18 : Hid (Ext w.heap.size w W18) := hid (hE_17.out.below hb)
  have r1_18 : Hid (rdI W18 (.slice a1 rs1.length c1) rs1) := hid (r1_17.out.below hb)
  have G_18 : ∀ o, W18.cell? ⟨kG, o, none⟩ = #[Value.int .i64 n1, .slice a1 rs1.length c1][o]? := fun o => (hb.cell (p := ⟨kG, o, none⟩) lG_17).trans (G_17 o)
  have lG_18 : kG < W18.heap.size := Nat.lt_of_lt_of_le lG_17 hb.size
  have rE_18 : Hid (rdI W18 (.slice aE E.length cE) E) := hid (rE_17.out.below hb)
  have E_18 : ∀ o, W18.cell? ⟨kE, o, none⟩ = #[Value.int .i64 PE, .slice aE E.length cE][o]? := fun o => (hb.cell (p := ⟨kE, o, none⟩) lE_17).trans (E_17 o)
  have lE_18 : kE < W18.heap.size := Nat.lt_of_lt_of_le lE_17 hb.size
  have rF_18 : Hid (rdI W18 (.slice aF E.length cF) E) := hid (rF_17.out.below hb)
  have F_18 : ∀ o, W18.cell? ⟨kF, o, none⟩ = #[Value.int .i64 PE, .slice aF E.length cF][o]? := fun o => (hb.cell (p := ⟨kF, o, none⟩) lF_17).trans (F_17 o)
  have lF_18 : kF < W18.heap.size := Nat.lt_of_lt_of_le lF_17 hb.size
  have rC_18 : Hid (rdI W18 (.slice aC Cc.length cC) Cc) := hid (rC_17.out.below hb)
  have C_18 : ∀ o, W18.cell? ⟨kC, o, none⟩ = #[Value.int .i64 PC, .slice aC Cc.length cC][o]? := fun o => (hb.cell (p := ⟨kC, o, none⟩) lC_17).trans (C_17 o)
  have lC_18 : kC < W18.heap.size := Nat.lt_of_lt_of_le lC_17 hb.size
  have rD_18 : Hid (rdI W18 (.slice aD Cc.length cD) Cc) := hid (rD_17.out.below hb)
  have D_18 : ∀ o, W18.cell? ⟨kD, o, none⟩ = #[Value.int .i64 PC, .slice aD Cc.length cD][o]? := fun o => (hb.cell (p := ⟨kD, o, none⟩) lD_17).trans (D_17 o)
  have lD_18 : kD < W18.heap.size := Nat.lt_of_lt_of_le lD_17 hb.size
  have r2_18 : Hid (rdI W18 (.slice a2 rs2.length c2) rs2) := hid (r2_17.out.below hb)
  have r3_18 : Hid (rdI W18 (.slice a3 rs3.length c3) rs3) := hid (r3_17.out.below hb)
  have H_18 : ∀ o, W18.cell? ⟨kH, o, none⟩ = #[Value.int .i64 n2, .slice a2 rs2.length c2][o]? := fun o => (hb.cell (p := ⟨kH, o, none⟩) lH_17).trans (H_17 o)
  have lH_18 : kH < W18.heap.size := Nat.lt_of_lt_of_le lH_17 hb.size
  have K_18 : ∀ o, W18.cell? ⟨kK, o, none⟩ = #[Value.int .i64 n3, .slice a3 rs3.length c3][o]? := fun o => (hb.cell (p := ⟨kK, o, none⟩) lK_17).trans (K_17 o)
  have lK_18 : kK < W18.heap.size := Nat.lt_of_lt_of_le lK_17 hb.size
  have rM_18 : Hid (rdI W18 (.slice aM A.length cM) A) := hid (rM_17.out.below hb)
  have M_18 : ∀ o, W18.cell? ⟨kM, o, none⟩ = #[Value.int .i64 P, .slice aM A.length cM][o]? := fun o => (hb.cell (p := ⟨kM, o, none⟩) lM_17).trans (M_17 o)
  have lM_18 : kM < W18.heap.size := Nat.lt_of_lt_of_le lM_17 hb.size
  clear hE_17 r1_17 G_17 lG_17 rE_17 E_17 lE_17 rF_17 F_17 lF_17 rC_17 C_17 lC_17 rD_17 D_17 lD_17 r2_17 r3_17 H_17 lH_17 K_17 lK_17 rM_17 M_17 lM_17
  clear hb
  obtain ⟨aN, cN, hsh, _, _⟩ := ho.rd
  subst hsh
  have rN_18 : Hid (rdI W18 (.slice aN A.length cN) A) := hid (ho.rd)
  clear ho
  go_wp2_with fail
  obtain ⟨W19, hW19⟩ : ∃ X, X = W18.alloc (Obj.cells #[Value.int .i64 P, .slice aN A.length cN] 26) := ⟨_, rfl⟩
  obtain ⟨kN, hkN⟩ : ∃ k, k = W18.heap.size := ⟨_, rfl⟩
  have hba : Below W18.heap.size W18 W19 := by rw [hW19]; exact (Below.refl _ _).alloc (Nat.le_refl _) _
  have cn : ∀ o, W19.cell? ⟨kN, o, none⟩ = #[Value.int .i64 P, .slice aN A.length cN][o]? := fun o => by rw [hW19, hkN, alloc_cell, if_pos rfl]
  have ln : kN < W19.heap.size := by rw [hW19, hkN]; simp
  rw [← hW19, ← hkN]
  clear hW19 hkN
  have hE_19 : Hid (Ext w.heap.size w W19) := hid (hE_18.out.below hba)
  have r1_19 : Hid (rdI W19 (.slice a1 rs1.length c1) rs1) := hid (r1_18.out.below hba)
  have G_19 : ∀ o, W19.cell? ⟨kG, o, none⟩ = #[Value.int .i64 n1, .slice a1 rs1.length c1][o]? := fun o => (hba.cell (p := ⟨kG, o, none⟩) lG_18).trans (G_18 o)
  have lG_19 : kG < W19.heap.size := Nat.lt_of_lt_of_le lG_18 hba.size
  have rE_19 : Hid (rdI W19 (.slice aE E.length cE) E) := hid (rE_18.out.below hba)
  have E_19 : ∀ o, W19.cell? ⟨kE, o, none⟩ = #[Value.int .i64 PE, .slice aE E.length cE][o]? := fun o => (hba.cell (p := ⟨kE, o, none⟩) lE_18).trans (E_18 o)
  have lE_19 : kE < W19.heap.size := Nat.lt_of_lt_of_le lE_18 hba.size
  have rF_19 : Hid (rdI W19 (.slice aF E.length cF) E) := hid (rF_18.out.below hba)
  have F_19 : ∀ o, W19.cell? ⟨kF, o, none⟩ = #[Value.int .i64 PE, .slice aF E.length cF][o]? := fun o => (hba.cell (p := ⟨kF, o, none⟩) lF_18).trans (F_18 o)
  have lF_19 : kF < W19.heap.size := Nat.lt_of_lt_of_le lF_18 hba.size
  have rC_19 : Hid (rdI W19 (.slice aC Cc.length cC) Cc) := hid (rC_18.out.below hba)
  have C_19 : ∀ o, W19.cell? ⟨kC, o, none⟩ = #[Value.int .i64 PC, .slice aC Cc.length cC][o]? := fun o => (hba.cell (p := ⟨kC, o, none⟩) lC_18).trans (C_18 o)
  have lC_19 : kC < W19.heap.size := Nat.lt_of_lt_of_le lC_18 hba.size
  have rD_19 : Hid (rdI W19 (.slice aD Cc.length cD) Cc) := hid (rD_18.out.below hba)
  have D_19 : ∀ o, W19.cell? ⟨kD, o, none⟩ = #[Value.int .i64 PC, .slice aD Cc.length cD][o]? := fun o => (hba.cell (p := ⟨kD, o, none⟩) lD_18).trans (D_18 o)
  have lD_19 : kD < W19.heap.size := Nat.lt_of_lt_of_le lD_18 hba.size
  have r2_19 : Hid (rdI W19 (.slice a2 rs2.length c2) rs2) := hid (r2_18.out.below hba)
  have r3_19 : Hid (rdI W19 (.slice a3 rs3.length c3) rs3) := hid (r3_18.out.below hba)
  have H_19 : ∀ o, W19.cell? ⟨kH, o, none⟩ = #[Value.int .i64 n2, .slice a2 rs2.length c2][o]? := fun o => (hba.cell (p := ⟨kH, o, none⟩) lH_18).trans (H_18 o)
  have lH_19 : kH < W19.heap.size := Nat.lt_of_lt_of_le lH_18 hba.size
  have K_19 : ∀ o, W19.cell? ⟨kK, o, none⟩ = #[Value.int .i64 n3, .slice a3 rs3.length c3][o]? := fun o => (hba.cell (p := ⟨kK, o, none⟩) lK_18).trans (K_18 o)
  have lK_19 : kK < W19.heap.size := Nat.lt_of_lt_of_le lK_18 hba.size
  have rM_19 : Hid (rdI W19 (.slice aM A.length cM) A) := hid (rM_18.out.below hba)
  have M_19 : ∀ o, W19.cell? ⟨kM, o, none⟩ = #[Value.int .i64 P, .slice aM A.length cM][o]? := fun o => (hba.cell (p := ⟨kM, o, none⟩) lM_18).trans (M_18 o)
  have lM_19 : kM < W19.heap.size := Nat.lt_of_lt_of_le lM_18 hba.size
  have rN_19 : Hid (rdI W19 (.slice aN A.length cN) A) := hid (rN_18.out.below hba)
  clear hE_18 r1_18 G_18 lG_18 rE_18 E_18 lE_18 rF_18 F_18 lF_18 rC_18 C_18 lC_18 rD_18 D_18 lD_18 r2_18 r3_18 H_18 lH_18 K_18 lK_18 rM_18 M_18 lM_18 rN_18
  have N_19 := cn
  have lN_19 := ln
  clear cn ln hba
  refine (i_Sub n2 n3 _ _ rs2 rs3 _ S C7 (r2_19.out) (by omega) (r3_19.out) (by omega) HS.out).mono ?_
  rintro e W20 ⟨rfl, hb⟩
  have hE_20 : Hid (Ext w.heap.size w W20) := hid (hE_19.out.below hb)
  have r1_20 : Hid (rdI W20 (.slice a1 rs1.length c1) rs1) := hid (r1_19.out.below hb)
  have G_20 : ∀ o, W20.cell? ⟨kG, o, none⟩ = #[Value.int .i64 n1, .slice a1 rs1.length c1][o]? := fun o => (hb.cell (p := ⟨kG, o, none⟩) lG_19).trans (G_19 o)
  have lG_20 : kG < W20.heap.size := Nat.lt_of_lt_of_le lG_19 hb.size
  have rE_20 : Hid (rdI W20 (.slice aE E.length cE) E) := hid (rE_19.out.below hb)
  have E_20 : ∀ o, W20.cell? ⟨kE, o, none⟩ = #[Value.int .i64 PE, .slice aE E.length cE][o]? := fun o => (hb.cell (p := ⟨kE, o, none⟩) lE_19).trans (E_19 o)
  have lE_20 : kE < W20.heap.size := Nat.lt_of_lt_of_le lE_19 hb.size
  have rF_20 : Hid (rdI W20 (.slice aF E.length cF) E) := hid (rF_19.out.below hb)
  have F_20 : ∀ o, W20.cell? ⟨kF, o, none⟩ = #[Value.int .i64 PE, .slice aF E.length cF][o]? := fun o => (hb.cell (p := ⟨kF, o, none⟩) lF_19).trans (F_19 o)
  have lF_20 : kF < W20.heap.size := Nat.lt_of_lt_of_le lF_19 hb.size
  have rC_20 : Hid (rdI W20 (.slice aC Cc.length cC) Cc) := hid (rC_19.out.below hb)
  have C_20 : ∀ o, W20.cell? ⟨kC, o, none⟩ = #[Value.int .i64 PC, .slice aC Cc.length cC][o]? := fun o => (hb.cell (p := ⟨kC, o, none⟩) lC_19).trans (C_19 o)
  have lC_20 : kC < W20.heap.size := Nat.lt_of_lt_of_le lC_19 hb.size
  have rD_20 : Hid (rdI W20 (.slice aD Cc.length cD) Cc) := hid (rD_19.out.below hb)
  have D_20 : ∀ o, W20.cell? ⟨kD, o, none⟩ = #[Value.int .i64 PC, .slice aD Cc.length cD][o]? := fun o => (hb.cell (p := ⟨kD, o, none⟩) lD_19).trans (D_19 o)
  have lD_20 : kD < W20.heap.size := Nat.lt_of_lt_of_le lD_19 hb.size
  have r2_20 : Hid (rdI W20 (.slice a2 rs2.length c2) rs2) := hid (r2_19.out.below hb)
  have r3_20 : Hid (rdI W20 (.slice a3 rs3.length c3) rs3) := hid (r3_19.out.below hb)
  have H_20 : ∀ o, W20.cell? ⟨kH, o, none⟩ = #[Value.int .i64 n2, .slice a2 rs2.length c2][o]? := fun o => (hb.cell (p := ⟨kH, o, none⟩) lH_19).trans (H_19 o)
  have lH_20 : kH < W20.heap.size := Nat.lt_of_lt_of_le lH_19 hb.size
  have K_20 : ∀ o, W20.cell? ⟨kK, o, none⟩ = #[Value.int .i64 n3, .slice a3 rs3.length c3][o]? := fun o => (hb.cell (p := ⟨kK, o, none⟩) lK_19).trans (K_19 o)
  have lK_20 : kK < W20.heap.size := Nat.lt_of_lt_of_le lK_19 hb.size
  have rM_20 : Hid (rdI W20 (.slice aM A.length cM) A) := hid (rM_19.out.below hb)
  have M_20 : ∀ o, W20.cell? ⟨kM, o, none⟩ = #[Value.int .i64 P, .slice aM A.length cM][o]? := fun o => (hb.cell (p := ⟨kM, o, none⟩) lM_19).trans (M_19 o)
  have lM_20 : kM < W20.heap.size := Nat.lt_of_lt_of_le lM_19 hb.size
  have rN_20 : Hid (rdI W20 (.slice aN A.length cN) A) := hid (rN_19.out.below hb)
  have N_20 : ∀ o, W20.cell? ⟨kN, o, none⟩ = #[Value.int .i64 P, .slice aN A.length cN][o]? := fun o => (hb.cell (p := ⟨kN, o, none⟩) lN_19).trans (N_19 o)
  have lN_20 : kN < W20.heap.size := Nat.lt_of_lt_of_le lN_19 hb.size
  clear hE_19 r1_19 G_19 lG_19 rE_19 E_19 lE_19 rF_19 F_19 lF_19 rC_19 C_19 lC_19 rD_19 D_19 lD_19 r2_19 r3_19 H_19 lH_19 K_19 lK_19 rM_19 M_19 lM_19 rN_19 N_19 lN_19
  clear hb
  go_wp2_with fail
  refine (s_Sub n2 n3 _ _ rs2 rs3 _ S C7 (r2_20.out) (by omega) (r3_20.out) (by omega) HS.out).mono ?_
  rintro e W21 ⟨rfl, hb⟩
  have hE_21 : Hid (Ext w.heap.size w W21) := hid (hE_20.out.below hb)
  have r1_21 : Hid (rdI W21 (.slice a1 rs1.length c1) rs1) := hid (r1_20.out.below hb)
  have G_21 : ∀ o, W21.cell? ⟨kG, o, none⟩ = #[Value.int .i64 n1, .slice a1 rs1.length c1][o]? := fun o => (hb.cell (p := ⟨kG, o, none⟩) lG_20).trans (G_20 o)
  have lG_21 : kG < W21.heap.size := Nat.lt_of_lt_of_le lG_20 hb.size
  have rE_21 : Hid (rdI W21 (.slice aE E.length cE) E) := hid (rE_20.out.below hb)
  have E_21 : ∀ o, W21.cell? ⟨kE, o, none⟩ = #[Value.int .i64 PE, .slice aE E.length cE][o]? := fun o => (hb.cell (p := ⟨kE, o, none⟩) lE_20).trans (E_20 o)
  have lE_21 : kE < W21.heap.size := Nat.lt_of_lt_of_le lE_20 hb.size
  have rF_21 : Hid (rdI W21 (.slice aF E.length cF) E) := hid (rF_20.out.below hb)
  have F_21 : ∀ o, W21.cell? ⟨kF, o, none⟩ = #[Value.int .i64 PE, .slice aF E.length cF][o]? := fun o => (hb.cell (p := ⟨kF, o, none⟩) lF_20).trans (F_20 o)
  have lF_21 : kF < W21.heap.size := Nat.lt_of_lt_of_le lF_20 hb.size
  have rC_21 : Hid (rdI W21 (.slice aC Cc.length cC) Cc) := hid (rC_20.out.below hb)
  have C_21 : ∀ o, W21.cell? ⟨kC, o, none⟩ = #[Value.int .i64 PC, .slice aC Cc.length cC][o]? := fun o => (hb.cell (p := ⟨kC, o, none⟩) lC_20).trans (C_20 o)
  have lC_21 : kC < W21.heap.size := Nat.lt_of_lt_of_le lC_20 hb.size
  have rD_21 : Hid (rdI W21 (.slice aD Cc.length cD) Cc) := hid (rD_20.out.below hb)
  have D_21 : ∀ o, W21.cell? ⟨kD, o, none⟩ = #[Value.int .i64 PC, .slice aD Cc.length cD][o]? := fun o => (hb.cell (p := ⟨kD, o, none⟩) lD_20).trans (D_20 o)
  have lD_21 : kD < W21.heap.size := Nat.lt_of_lt_of_le lD_20 hb.size
  have r2_21 : Hid (rdI W21 (.slice a2 rs2.length c2) rs2) := hid (r2_20.out.below hb)
  have r3_21 : Hid (rdI W21 (.slice a3 rs3.length c3) rs3) := hid (r3_20.out.below hb)
  have H_21 : ∀ o, W21.cell? ⟨kH, o, none⟩ = #[Value.int .i64 n2, .slice a2 rs2.length c2][o]? := fun o => (hb.cell (p := ⟨kH, o, none⟩) lH_20).trans (H_20 o)
  have lH_21 : kH < W21.heap.size := Nat.lt_of_lt_of_le lH_20 hb.size
  have K_21 : ∀ o, W21.cell? ⟨kK, o, none⟩ = #[Value.int .i64 n3, .slice a3 rs3.length c3][o]? := fun o => (hb.cell (p := ⟨kK, o, none⟩) lK_20).trans (K_20 o)
  have lK_21 : kK < W21.heap.size := Nat.lt_of_lt_of_le lK_20 hb.size
  have rM_21 : Hid (rdI W21 (.slice aM A.length cM) A) := hid (rM_20.out.below hb)
  have M_21 : ∀ o, W21.cell? ⟨kM, o, none⟩ = #[Value.int .i64 P, .slice aM A.length cM][o]? := fun o => (hb.cell (p := ⟨kM, o, none⟩) lM_20).trans (M_20 o)
  have lM_21 : kM < W21.heap.size := Nat.lt_of_lt_of_le lM_20 hb.size
  have rN_21 : Hid (rdI W21 (.slice aN A.length cN) A) := hid (rN_20.out.below hb)
  have N_21 : ∀ o, W21.cell? ⟨kN, o, none⟩ = #[Value.int .i64 P, .slice aN A.length cN][o]? := fun o => (hb.cell (p := ⟨kN, o, none⟩) lN_20).trans (N_20 o)
  have lN_21 : kN < W21.heap.size := Nat.lt_of_lt_of_le lN_20 hb.size
  clear hE_20 r1_20 G_20 lG_20 rE_20 E_20 lE_20 rF_20 F_20 lF_20 rC_20 C_20 lC_20 rD_20 D_20 lD_20 r2_20 r3_20 H_20 lH_20 K_20 lK_20 rM_20 M_20 lM_20 rN_20 N_20 lN_20
  clear hb
  go_wp2_with fail
  refine (l_likeG PE _ _ E _ (rE_21.out) (rF_21.out)).mono ?_
  rintro e W22 ⟨rfl, hb⟩
  have hE_22 : Hid (Ext w.heap.size w W22) := hid (hE_21.out.below hb)
  have r1_22 : Hid (rdI W22 (.slice a1 rs1.length c1) rs1) := hid (r1_21.out.below hb)
  have G_22 : ∀ o, W22.cell? ⟨kG, o, none⟩ = #[Value.int .i64 n1, .slice a1 rs1.length c1][o]? := fun o => (hb.cell (p := ⟨kG, o, none⟩) lG_21).trans (G_21 o)
  have lG_22 : kG < W22.heap.size := Nat.lt_of_lt_of_le lG_21 hb.size
  have rE_22 : Hid (rdI W22 (.slice aE E.length cE) E) := hid (rE_21.out.below hb)
  have E_22 : ∀ o, W22.cell? ⟨kE, o, none⟩ = #[Value.int .i64 PE, .slice aE E.length cE][o]? := fun o => (hb.cell (p := ⟨kE, o, none⟩) lE_21).trans (E_21 o)
  have lE_22 : kE < W22.heap.size := Nat.lt_of_lt_of_le lE_21 hb.size
  have rF_22 : Hid (rdI W22 (.slice aF E.length cF) E) := hid (rF_21.out.below hb)
  have F_22 : ∀ o, W22.cell? ⟨kF, o, none⟩ = #[Value.int .i64 PE, .slice aF E.length cF][o]? := fun o => (hb.cell (p := ⟨kF, o, none⟩) lF_21).trans (F_21 o)
  have lF_22 : kF < W22.heap.size := Nat.lt_of_lt_of_le lF_21 hb.size
  have rC_22 : Hid (rdI W22 (.slice aC Cc.length cC) Cc) := hid (rC_21.out.below hb)
  have C_22 : ∀ o, W22.cell? ⟨kC, o, none⟩ = #[Value.int .i64 PC, .slice aC Cc.length cC][o]? := fun o => (hb.cell (p := ⟨kC, o, none⟩) lC_21).trans (C_21 o)
  have lC_22 : kC < W22.heap.size := Nat.lt_of_lt_of_le lC_21 hb.size
  have rD_22 : Hid (rdI W22 (.slice aD Cc.length cD) Cc) := hid (rD_21.out.below hb)
  have D_22 : ∀ o, W22.cell? ⟨kD, o, none⟩ = #[Value.int .i64 PC, .slice aD Cc.length cD][o]? := fun o => (hb.cell (p := ⟨kD, o, none⟩) lD_21).trans (D_21 o)
  have lD_22 : kD < W22.heap.size := Nat.lt_of_lt_of_le lD_21 hb.size
  have r2_22 : Hid (rdI W22 (.slice a2 rs2.length c2) rs2) := hid (r2_21.out.below hb)
  have r3_22 : Hid (rdI W22 (.slice a3 rs3.length c3) rs3) := hid (r3_21.out.below hb)
  have H_22 : ∀ o, W22.cell? ⟨kH, o, none⟩ = #[Value.int .i64 n2, .slice a2 rs2.length c2][o]? := fun o => (hb.cell (p := ⟨kH, o, none⟩) lH_21).trans (H_21 o)
  have lH_22 : kH < W22.heap.size := Nat.lt_of_lt_of_le lH_21 hb.size
  have K_22 : ∀ o, W22.cell? ⟨kK, o, none⟩ = #[Value.int .i64 n3, .slice a3 rs3.length c3][o]? := fun o => (hb.cell (p := ⟨kK, o, none⟩) lK_21).trans (K_21 o)
  have lK_22 : kK < W22.heap.size := Nat.lt_of_lt_of_le lK_21 hb.size
  have rM_22 : Hid (rdI W22 (.slice aM A.length cM) A) := hid (rM_21.out.below hb)
  have M_22 : ∀ o, W22.cell? ⟨kM, o, none⟩ = #[Value.int .i64 P, .slice aM A.length cM][o]? := fun o => (hb.cell (p := ⟨kM, o, none⟩) lM_21).trans (M_21 o)
  have lM_22 : kM < W22.heap.size := Nat.lt_of_lt_of_le lM_21 hb.size
  have rN_22 : Hid (rdI W22 (.slice aN A.length cN) A) := hid (rN_21.out.below hb)
  have N_22 : ∀ o, W22.cell? ⟨kN, o, none⟩ = #[Value.int .i64 P, .slice aN A.length cN][o]? := fun o => (hb.cell (p := ⟨kN, o, none⟩) lN_21).trans (N_21 o)
  have lN_22 : kN < W22.heap.size := Nat.lt_of_lt_of_le lN_21 hb.size
  clear hE_21 r1_21 G_21 lG_21 rE_21 E_21 lE_21 rF_21 F_21 lF_21 rC_21 C_21 lC_21 rD_21 D_21 lD_21 r2_21 r3_21 H_21 lH_21 K_21 lK_21 rM_21 M_21 lM_21 rN_21 N_21 lN_21
  clear hb
  go_wp2_with fail
  refine (l_likeG PC _ _ Cc _ (rC_22.out) (rD_22.out)).mono ?_
  rintro e W23 ⟨rfl, hb⟩
  have hE_23 : Hid (Ext w.heap.size w W23) := hid (hE_22.out.below hb)
  have r1_23 : Hid (rdI W23 (.slice a1 rs1.length c1) rs1) := hid (r1_22.out.below hb)
  have G_23 : ∀ o, W23.cell? ⟨kG, o, none⟩ = #[Value.int .i64 n1, .slice a1 rs1.length c1][o]? := fun o => (hb.cell (p := ⟨kG, o, none⟩) lG_22).trans (G_22 o)
  have lG_23 : kG < W23.heap.size := Nat.lt_of_lt_of_le lG_22 hb.size
  have rE_23 : Hid (rdI W23 (.slice aE E.length cE) E) := hid (rE_22.out.below hb)
  have E_23 : ∀ o, W23.cell? ⟨kE, o, none⟩ = #[Value.int .i64 PE, .slice aE E.length cE][o]? := fun o => (hb.cell (p := ⟨kE, o, none⟩) lE_22).trans (E_22 o)
  have lE_23 : kE < W23.heap.size := Nat.lt_of_lt_of_le lE_22 hb.size
  have rF_23 : Hid (rdI W23 (.slice aF E.length cF) E) := hid (rF_22.out.below hb)
  have F_23 : ∀ o, W23.cell? ⟨kF, o, none⟩ = #[Value.int .i64 PE, .slice aF E.length cF][o]? := fun o => (hb.cell (p := ⟨kF, o, none⟩) lF_22).trans (F_22 o)
  have lF_23 : kF < W23.heap.size := Nat.lt_of_lt_of_le lF_22 hb.size
  have rC_23 : Hid (rdI W23 (.slice aC Cc.length cC) Cc) := hid (rC_22.out.below hb)
  have C_23 : ∀ o, W23.cell? ⟨kC, o, none⟩ = #[Value.int .i64 PC, .slice aC Cc.length cC][o]? := fun o => (hb.cell (p := ⟨kC, o, none⟩) lC_22).trans (C_22 o)
  have lC_23 : kC < W23.heap.size := Nat.lt_of_lt_of_le lC_22 hb.size
  have rD_23 : Hid (rdI W23 (.slice aD Cc.length cD) Cc) := hid (rD_22.out.below hb)
  have D_23 : ∀ o, W23.cell? ⟨kD, o, none⟩ = #[Value.int .i64 PC, .slice aD Cc.length cD][o]? := fun o => (hb.cell (p := ⟨kD, o, none⟩) lD_22).trans (D_22 o)
  have lD_23 : kD < W23.heap.size := Nat.lt_of_lt_of_le lD_22 hb.size
  have r2_23 : Hid (rdI W23 (.slice a2 rs2.length c2) rs2) := hid (r2_22.out.below hb)
  have r3_23 : Hid (rdI W23 (.slice a3 rs3.length c3) rs3) := hid (r3_22.out.below hb)
  have H_23 : ∀ o, W23.cell? ⟨kH, o, none⟩ = #[Value.int .i64 n2, .slice a2 rs2.length c2][o]? := fun o => (hb.cell (p := ⟨kH, o, none⟩) lH_22).trans (H_22 o)
  have lH_23 : kH < W23.heap.size := Nat.lt_of_lt_of_le lH_22 hb.size
  have K_23 : ∀ o, W23.cell? ⟨kK, o, none⟩ = #[Value.int .i64 n3, .slice a3 rs3.length c3][o]? := fun o => (hb.cell (p := ⟨kK, o, none⟩) lK_22).trans (K_22 o)
  have lK_23 : kK < W23.heap.size := Nat.lt_of_lt_of_le lK_22 hb.size
  have rM_23 : Hid (rdI W23 (.slice aM A.length cM) A) := hid (rM_22.out.below hb)
  have M_23 : ∀ o, W23.cell? ⟨kM, o, none⟩ = #[Value.int .i64 P, .slice aM A.length cM][o]? := fun o => (hb.cell (p := ⟨kM, o, none⟩) lM_22).trans (M_22 o)
  have lM_23 : kM < W23.heap.size := Nat.lt_of_lt_of_le lM_22 hb.size
  have rN_23 : Hid (rdI W23 (.slice aN A.length cN) A) := hid (rN_22.out.below hb)
  have N_23 : ∀ o, W23.cell? ⟨kN, o, none⟩ = #[Value.int .i64 P, .slice aN A.length cN][o]? := fun o => (hb.cell (p := ⟨kN, o, none⟩) lN_22).trans (N_22 o)
  have lN_23 : kN < W23.heap.size := Nat.lt_of_lt_of_le lN_22 hb.size
  clear hE_22 r1_22 G_22 lG_22 rE_22 E_22 lE_22 rF_22 F_22 lF_22 rC_22 C_22 lC_22 rD_22 D_22 lD_22 r2_22 r3_22 H_22 lH_22 K_22 lK_22 rM_22 M_22 lM_22 rN_22 N_22 lN_22
  clear hb
  go_wp2_with fail
  refine (l_likeG P _ _ A _ (rM_23.out) (rN_23.out)).mono ?_
  rintro e W24 ⟨rfl, hb⟩
  have hE_24 : Hid (Ext w.heap.size w W24) := hid (hE_23.out.below hb)
  have r1_24 : Hid (rdI W24 (.slice a1 rs1.length c1) rs1) := hid (r1_23.out.below hb)
  have G_24 : ∀ o, W24.cell? ⟨kG, o, none⟩ = #[Value.int .i64 n1, .slice a1 rs1.length c1][o]? := fun o => (hb.cell (p := ⟨kG, o, none⟩) lG_23).trans (G_23 o)
  have lG_24 : kG < W24.heap.size := Nat.lt_of_lt_of_le lG_23 hb.size
  have rE_24 : Hid (rdI W24 (.slice aE E.length cE) E) := hid (rE_23.out.below hb)
  have E_24 : ∀ o, W24.cell? ⟨kE, o, none⟩ = #[Value.int .i64 PE, .slice aE E.length cE][o]? := fun o => (hb.cell (p := ⟨kE, o, none⟩) lE_23).trans (E_23 o)
  have lE_24 : kE < W24.heap.size := Nat.lt_of_lt_of_le lE_23 hb.size
  have rF_24 : Hid (rdI W24 (.slice aF E.length cF) E) := hid (rF_23.out.below hb)
  have F_24 : ∀ o, W24.cell? ⟨kF, o, none⟩ = #[Value.int .i64 PE, .slice aF E.length cF][o]? := fun o => (hb.cell (p := ⟨kF, o, none⟩) lF_23).trans (F_23 o)
  have lF_24 : kF < W24.heap.size := Nat.lt_of_lt_of_le lF_23 hb.size
  have rC_24 : Hid (rdI W24 (.slice aC Cc.length cC) Cc) := hid (rC_23.out.below hb)
  have C_24 : ∀ o, W24.cell? ⟨kC, o, none⟩ = #[Value.int .i64 PC, .slice aC Cc.length cC][o]? := fun o => (hb.cell (p := ⟨kC, o, none⟩) lC_23).trans (C_23 o)
  have lC_24 : kC < W24.heap.size := Nat.lt_of_lt_of_le lC_23 hb.size
  have rD_24 : Hid (rdI W24 (.slice aD Cc.length cD) Cc) := hid (rD_23.out.below hb)
  have D_24 : ∀ o, W24.cell? ⟨kD, o, none⟩ = #[Value.int .i64 PC, .slice aD Cc.length cD][o]? := fun o => (hb.cell (p := ⟨kD, o, none⟩) lD_23).trans (D_23 o)
  have lD_24 : kD < W24.heap.size := Nat.lt_of_lt_of_le lD_23 hb.size
  have r2_24 : Hid (rdI W24 (.slice a2 rs2.length c2) rs2) := hid (r2_23.out.below hb)
  have r3_24 : Hid (rdI W24 (.slice a3 rs3.length c3) rs3) := hid (r3_23.out.below hb)
  have H_24 : ∀ o, W24.cell? ⟨kH, o, none⟩ = #[Value.int .i64 n2, .slice a2 rs2.length c2][o]? := fun o => (hb.cell (p := ⟨kH, o, none⟩) lH_23).trans (H_23 o)
  have lH_24 : kH < W24.heap.size := Nat.lt_of_lt_of_le lH_23 hb.size
  have K_24 : ∀ o, W24.cell? ⟨kK, o, none⟩ = #[Value.int .i64 n3, .slice a3 rs3.length c3][o]? := fun o => (hb.cell (p := ⟨kK, o, none⟩) lK_23).trans (K_23 o)
  have lK_24 : kK < W24.heap.size := Nat.lt_of_lt_of_le lK_23 hb.size
  have rM_24 : Hid (rdI W24 (.slice aM A.length cM) A) := hid (rM_23.out.below hb)
  have M_24 : ∀ o, W24.cell? ⟨kM, o, none⟩ = #[Value.int .i64 P, .slice aM A.length cM][o]? := fun o => (hb.cell (p := ⟨kM, o, none⟩) lM_23).trans (M_23 o)
  have lM_24 : kM < W24.heap.size := Nat.lt_of_lt_of_le lM_23 hb.size
  have rN_24 : Hid (rdI W24 (.slice aN A.length cN) A) := hid (rN_23.out.below hb)
  have N_24 : ∀ o, W24.cell? ⟨kN, o, none⟩ = #[Value.int .i64 P, .slice aN A.length cN][o]? := fun o => (hb.cell (p := ⟨kN, o, none⟩) lN_23).trans (N_23 o)
  have lN_24 : kN < W24.heap.size := Nat.lt_of_lt_of_le lN_23 hb.size
  clear hE_23 r1_23 G_23 lG_23 rE_23 E_23 lE_23 rF_23 F_23 lF_23 rC_23 C_23 lC_23 rD_23 D_23 lD_23 r2_23 r3_23 H_23 lH_23 K_23 lK_23 rM_23 M_23 lM_23 rN_23 N_23 lN_23
  clear hb
  by_cases hC5 : C5 = 0
  case neg =>
    have hC5n : (C5 == 0) = false := by simpa using hC5
    by_cases hCE : CE = 0
    case neg =>
      have hCn : (CE != 0) = true := by simpa using hCE
      go_wp2_with fail
      go_ret
      exact ⟨rfl, hE_24.out.1⟩
    subst hCE
    obtain ⟨hhalf, hAb, hac⟩ := HX.out rfl
    have HAC := hid hac
    subst hAb
    clear hac HX
    go_wp2_with fail
    have hcon := i_IsAbelian PC (.slice aC Cc.length cC) Cc _ (rC_24.out) (by omega)
    rw [HAC.out] at hcon
    refine (hcon).mono ?_
    rintro e W25 ⟨rfl, hb⟩
    have hE_25 : Hid (Ext w.heap.size w W25) := hid (hE_24.out.below hb)
    have r1_25 : Hid (rdI W25 (.slice a1 rs1.length c1) rs1) := hid (r1_24.out.below hb)
    have G_25 : ∀ o, W25.cell? ⟨kG, o, none⟩ = #[Value.int .i64 n1, .slice a1 rs1.length c1][o]? := fun o => (hb.cell (p := ⟨kG, o, none⟩) lG_24).trans (G_24 o)
    have lG_25 : kG < W25.heap.size := Nat.lt_of_lt_of_le lG_24 hb.size
    have rE_25 : Hid (rdI W25 (.slice aE E.length cE) E) := hid (rE_24.out.below hb)
    have E_25 : ∀ o, W25.cell? ⟨kE, o, none⟩ = #[Value.int .i64 PE, .slice aE E.length cE][o]? := fun o => (hb.cell (p := ⟨kE, o, none⟩) lE_24).trans (E_24 o)
    have lE_25 : kE < W25.heap.size := Nat.lt_of_lt_of_le lE_24 hb.size
    have rF_25 : Hid (rdI W25 (.slice aF E.length cF) E) := hid (rF_24.out.below hb)
    have F_25 : ∀ o, W25.cell? ⟨kF, o, none⟩ = #[Value.int .i64 PE, .slice aF E.length cF][o]? := fun o => (hb.cell (p := ⟨kF, o, none⟩) lF_24).trans (F_24 o)
    have lF_25 : kF < W25.heap.size := Nat.lt_of_lt_of_le lF_24 hb.size
    have rC_25 : Hid (rdI W25 (.slice aC Cc.length cC) Cc) := hid (rC_24.out.below hb)
    have C_25 : ∀ o, W25.cell? ⟨kC, o, none⟩ = #[Value.int .i64 PC, .slice aC Cc.length cC][o]? := fun o => (hb.cell (p := ⟨kC, o, none⟩) lC_24).trans (C_24 o)
    have lC_25 : kC < W25.heap.size := Nat.lt_of_lt_of_le lC_24 hb.size
    have rD_25 : Hid (rdI W25 (.slice aD Cc.length cD) Cc) := hid (rD_24.out.below hb)
    have D_25 : ∀ o, W25.cell? ⟨kD, o, none⟩ = #[Value.int .i64 PC, .slice aD Cc.length cD][o]? := fun o => (hb.cell (p := ⟨kD, o, none⟩) lD_24).trans (D_24 o)
    have lD_25 : kD < W25.heap.size := Nat.lt_of_lt_of_le lD_24 hb.size
    have r2_25 : Hid (rdI W25 (.slice a2 rs2.length c2) rs2) := hid (r2_24.out.below hb)
    have r3_25 : Hid (rdI W25 (.slice a3 rs3.length c3) rs3) := hid (r3_24.out.below hb)
    have H_25 : ∀ o, W25.cell? ⟨kH, o, none⟩ = #[Value.int .i64 n2, .slice a2 rs2.length c2][o]? := fun o => (hb.cell (p := ⟨kH, o, none⟩) lH_24).trans (H_24 o)
    have lH_25 : kH < W25.heap.size := Nat.lt_of_lt_of_le lH_24 hb.size
    have K_25 : ∀ o, W25.cell? ⟨kK, o, none⟩ = #[Value.int .i64 n3, .slice a3 rs3.length c3][o]? := fun o => (hb.cell (p := ⟨kK, o, none⟩) lK_24).trans (K_24 o)
    have lK_25 : kK < W25.heap.size := Nat.lt_of_lt_of_le lK_24 hb.size
    have rM_25 : Hid (rdI W25 (.slice aM A.length cM) A) := hid (rM_24.out.below hb)
    have M_25 : ∀ o, W25.cell? ⟨kM, o, none⟩ = #[Value.int .i64 P, .slice aM A.length cM][o]? := fun o => (hb.cell (p := ⟨kM, o, none⟩) lM_24).trans (M_24 o)
    have lM_25 : kM < W25.heap.size := Nat.lt_of_lt_of_le lM_24 hb.size
    have rN_25 : Hid (rdI W25 (.slice aN A.length cN) A) := hid (rN_24.out.below hb)
    have N_25 : ∀ o, W25.cell? ⟨kN, o, none⟩ = #[Value.int .i64 P, .slice aN A.length cN][o]? := fun o => (hb.cell (p := ⟨kN, o, none⟩) lN_24).trans (N_24 o)
    have lN_25 : kN < W25.heap.size := Nat.lt_of_lt_of_le lN_24 hb.size
    clear hE_24 r1_24 G_24 lG_24 rE_24 E_24 lE_24 rF_24 F_24 lF_24 rC_24 C_24 lC_24 rD_24 D_24 lD_24 r2_24 r3_24 H_24 lH_24 K_24 lK_24 rM_24 M_24 lM_24 rN_24 N_24 lN_24
    clear hb
    clear hcon
    obtain ⟨d1, hd1⟩ : ∃ d, d = decide (Cc.length = rs1.length) := ⟨_, rfl⟩
    obtain ⟨d2, hd2⟩ : ∃ d, d = decide (E.length = rs1.length) := ⟨_, rfl⟩
    have g1 : ((E.length : Int) == (rs1.length : Int)) = d2 := by rw [hd2, Bool.eq_iff_iff]; simp; omega
    have g2 : ((Cc.length : Int) == (rs1.length : Int)) = d1 := by rw [hd1, Bool.eq_iff_iff]; simp; omega
    have g3 : d2 = false → ((2 : Int) * (E.length : Int) == (rs1.length : Int)) = true := fun e => by
      rw [hd2] at e
      have := of_decide_eq_false e
      rw [beq_iff_eq]; omega
    rw [← hd1]
    clear hd1 hd2 hhalf
    cases d1 <;> cases d2
    all_goals (
      try (have g4 := g3 rfl)
      clear g3
      go_wp2_with fail
      go_ret
      exact ⟨by first | rfl | simp, hE_25.out.1⟩)
  subst hC5
  obtain ⟨h1, h2, hS⟩ := HY.out rfl
  have HS1 := hid h1
  have HS2 := hid h2
  subst hS
  clear h1 h2 HY
  go_wp2_with fail
  refine (i_Sub P n2 _ _ A rs2 _ true 0 (rM_24.out) (by omega) (r2_24.out) (by omega) HS1.out).mono ?_
  rintro e W25 ⟨rfl, hb⟩
  have hE_25 : Hid (Ext w.heap.size w W25) := hid (hE_24.out.below hb)
  have r1_25 : Hid (rdI W25 (.slice a1 rs1.length c1) rs1) := hid (r1_24.out.below hb)
  have G_25 : ∀ o, W25.cell? ⟨kG, o, none⟩ = #[Value.int .i64 n1, .slice a1 rs1.length c1][o]? := fun o => (hb.cell (p := ⟨kG, o, none⟩) lG_24).trans (G_24 o)
  have lG_25 : kG < W25.heap.size := Nat.lt_of_lt_of_le lG_24 hb.size
  have rE_25 : Hid (rdI W25 (.slice aE E.length cE) E) := hid (rE_24.out.below hb)
  have E_25 : ∀ o, W25.cell? ⟨kE, o, none⟩ = #[Value.int .i64 PE, .slice aE E.length cE][o]? := fun o => (hb.cell (p := ⟨kE, o, none⟩) lE_24).trans (E_24 o)
  have lE_25 : kE < W25.heap.size := Nat.lt_of_lt_of_le lE_24 hb.size
  have rF_25 : Hid (rdI W25 (.slice aF E.length cF) E) := hid (rF_24.out.below hb)
  have F_25 : ∀ o, W25.cell? ⟨kF, o, none⟩ = #[Value.int .i64 PE, .slice aF E.length cF][o]? := fun o => (hb.cell (p := ⟨kF, o, none⟩) lF_24).trans (F_24 o)
  have lF_25 : kF < W25.heap.size := Nat.lt_of_lt_of_le lF_24 hb.size
  have rC_25 : Hid (rdI W25 (.slice aC Cc.length cC) Cc) := hid (rC_24.out.below hb)
  have C_25 : ∀ o, W25.cell? ⟨kC, o, none⟩ = #[Value.int .i64 PC, .slice aC Cc.length cC][o]? := fun o => (hb.cell (p := ⟨kC, o, none⟩) lC_24).trans (C_24 o)
  have lC_25 : kC < W25.heap.size := Nat.lt_of_lt_of_le lC_24 hb.size
  have rD_25 : Hid (rdI W25 (.slice aD Cc.length cD) Cc) := hid (rD_24.out.below hb)
  have D_25 : ∀ o, W25.cell? ⟨kD, o, none⟩ = #[Value.int .i64 PC, .slice aD Cc.length cD][o]? := fun o => (hb.cell (p := ⟨kD, o, none⟩) lD_24).trans (D_24 o)
  have lD_25 : kD < W25.heap.size := Nat.lt_of_lt_of_le lD_24 hb.size
  have r2_25 : Hid (rdI W25 (.slice a2 rs2.length c2) rs2) := hid (r2_24.out.below hb)
  have r3_25 : Hid (rdI W25 (.slice a3 rs3.length c3) rs3) := hid (r3_24.out.below hb)
  have H_25 : ∀ o, W25.cell? ⟨kH, o, none⟩ = #[Value.int .i64 n2, .slice a2 rs2.length c2][o]? := fun o => (hb.cell (p := ⟨kH, o, none⟩) lH_24).trans (H_24 o)
  have lH_25 : kH < W25.heap.size := Nat.lt_of_lt_of_le lH_24 hb.size
  have K_25 : ∀ o, W25.cell? ⟨kK, o, none⟩ = #[Value.int .i64 n3, .slice a3 rs3.length c3][o]? := fun o => (hb.cell (p := ⟨kK, o, none⟩) lK_24).trans (K_24 o)
  have lK_25 : kK < W25.heap.size := Nat.lt_of_lt_of_le lK_24 hb.size
  have rM_25 : Hid (rdI W25 (.slice aM A.length cM) A) := hid (rM_24.out.below hb)
  have M_25 : ∀ o, W25.cell? ⟨kM, o, none⟩ = #[Value.int .i64 P, .slice aM A.length cM][o]? := fun o => (hb.cell (p := ⟨kM, o, none⟩) lM_24).trans (M_24 o)
  have lM_25 : kM < W25.heap.size := Nat.lt_of_lt_of_le lM_24 hb.size
  have rN_25 : Hid (rdI W25 (.slice aN A.length cN) A) := hid (rN_24.out.below hb)
  have N_25 : ∀ o, W25.cell? ⟨kN, o, none⟩ = #[Value.int .i64 P, .slice aN A.length cN][o]? := fun o => (hb.cell (p := ⟨kN, o, none⟩) lN_24).trans (N_24 o)
  have lN_25 : kN < W25.heap.size := Nat.lt_of_lt_of_le lN_24 hb.size
  clear hE_24 r1_24 G_24 lG_24 rE_24 E_24 lE_24 rF_24 F_24 lF_24 rC_24 C_24 lC_24 rD_24 D_24 lD_24 r2_24 r3_24 H_24 lH_24 K_24 lK_24 rM_24 M_24 lM_24 rN_24 N_24 lN_24
  clear hb
  go_wp2_with fail
  refine (i_Sub P n3 _ _ A rs3 _ true 0 (rM_25.out) (by omega) (r3_25.out) (by omega) HS2.out).mono ?_
  rintro e W26 ⟨rfl, hb⟩
  have hE_26 : Hid (Ext w.heap.size w W26) := hid (hE_25.out.below hb)
  have r1_26 : Hid (rdI W26 (.slice a1 rs1.length c1) rs1) := hid (r1_25.out.below hb)
  have G_26 : ∀ o, W26.cell? ⟨kG, o, none⟩ = #[Value.int .i64 n1, .slice a1 rs1.length c1][o]? := fun o => (hb.cell (p := ⟨kG, o, none⟩) lG_25).trans (G_25 o)
  have lG_26 : kG < W26.heap.size := Nat.lt_of_lt_of_le lG_25 hb.size
  have rE_26 : Hid (rdI W26 (.slice aE E.length cE) E) := hid (rE_25.out.below hb)
  have E_26 : ∀ o, W26.cell? ⟨kE, o, none⟩ = #[Value.int .i64 PE, .slice aE E.length cE][o]? := fun o => (hb.cell (p := ⟨kE, o, none⟩) lE_25).trans (E_25 o)
  have lE_26 : kE < W26.heap.size := Nat.lt_of_lt_of_le lE_25 hb.size
  have rF_26 : Hid (rdI W26 (.slice aF E.length cF) E) := hid (rF_25.out.below hb)
  have F_26 : ∀ o, W26.cell? ⟨kF, o, none⟩ = #[Value.int .i64 PE, .slice aF E.length cF][o]? := fun o => (hb.cell (p := ⟨kF, o, none⟩) lF_25).trans (F_25 o)
  have lF_26 : kF < W26.heap.size := Nat.lt_of_lt_of_le lF_25 hb.size
  have rC_26 : Hid (rdI W26 (.slice aC Cc.length cC) Cc) := hid (rC_25.out.below hb)
  have C_26 : ∀ o, W26.cell? ⟨kC, o, none⟩ = #[Value.int .i64 PC, .slice aC Cc.length cC][o]? := fun o => (hb.cell (p := ⟨kC, o, none⟩) lC_25).trans (C_25 o)
  have lC_26 : kC < W26.heap.size := Nat.lt_of_lt_of_le lC_25 hb.size
  have rD_26 : Hid (rdI W26 (.slice aD Cc.length cD) Cc) := hid (rD_25.out.below hb)
  have D_26 : ∀ o, W26.cell? ⟨kD, o, none⟩ = #[Value.int .i64 PC, .slice aD Cc.length cD][o]? := fun o => (hb.cell (p := ⟨kD, o, none⟩) lD_25).trans (D_25 o)
  have lD_26 : kD < W26.heap.size := Nat.lt_of_lt_of_le lD_25 hb.size
  have r2_26 : Hid (rdI W26 (.slice a2 rs2.length c2) rs2) := hid (r2_25.out.below hb)
  have r3_26 : Hid (rdI W26 (.slice a3 rs3.length c3) rs3) := hid (r3_25.out.below hb)
  have H_26 : ∀ o, W26.cell? ⟨kH, o, none⟩ = #[Value.int .i64 n2, .slice a2 rs2.length c2][o]? := fun o => (hb.cell (p := ⟨kH, o, none⟩) lH_25).trans (H_25 o)
  have lH_26 : kH < W26.heap.size := Nat.lt_of_lt_of_le lH_25 hb.size
  have K_26 : ∀ o, W26.cell? ⟨kK, o, none⟩ = #[Value.int .i64 n3, .slice a3 rs3.length c3][o]? := fun o => (hb.cell (p := ⟨kK, o, none⟩) lK_25).trans (K_25 o)
  have lK_26 : kK < W26.heap.size := Nat.lt_of_lt_of_le lK_25 hb.size
  have rM_26 : Hid (rdI W26 (.slice aM A.length cM) A) := hid (rM_25.out.below hb)
  have M_26 : ∀ o, W26.cell? ⟨kM, o, none⟩ = #[Value.int .i64 P, .slice aM A.length cM][o]? := fun o => (hb.cell (p := ⟨kM, o, none⟩) lM_25).trans (M_25 o)
  have lM_26 : kM < W26.heap.size := Nat.lt_of_lt_of_le lM_25 hb.size
  have rN_26 : Hid (rdI W26 (.slice aN A.length cN) A) := hid (rN_25.out.below hb)
  have N_26 : ∀ o, W26.cell? ⟨kN, o, none⟩ = #[Value.int .i64 P, .slice aN A.length cN][o]? := fun o => (hb.cell (p := ⟨kN, o, none⟩) lN_25).trans (N_25 o)
  have lN_26 : kN < W26.heap.size := Nat.lt_of_lt_of_le lN_25 hb.size
  clear hE_25 r1_25 G_25 lG_25 rE_25 E_25 lE_25 rF_25 F_25 lF_25 rC_25 C_25 lC_25 rD_25 D_25 lD_25 r2_25 r3_25 H_25 lH_25 K_25 lK_25 rM_25 M_25 lM_25 rN_25 N_25 lN_25
  clear hb
  have k1 : ((A.length : Int) == (rs2.length : Int)) = decide (A.length = rs2.length) := by rw [Bool.eq_iff_iff]; simp; omega
  obtain ⟨bb, hbb⟩ : ∃ b, b = decide (A.length = rs2.length) := ⟨_, rfl⟩
  rw [← hbb] at k1 ⊢
  clear hbb
  by_cases hCE : CE = 0
  case neg =>
    have hCn : (CE != 0) = true := by simpa using hCE
    go_wp2_with fail
    go_ret
    exact ⟨rfl, hE_26.out.1⟩
  subst hCE
  obtain ⟨hhalf, hAb, hac⟩ := HX.out rfl
  have HAC := hid hac
  subst hAb
  clear hac HX
  go_wp2_with fail
  have hcon := i_IsAbelian PC (.slice aC Cc.length cC) Cc _ (rC_26.out) (by omega)
  rw [HAC.out] at hcon
  refine (hcon).mono ?_
  rintro e W27 ⟨rfl, hb⟩
  have hE_27 : Hid (Ext w.heap.size w W27) := hid (hE_26.out.below hb)
  have r1_27 : Hid (rdI W27 (.slice a1 rs1.length c1) rs1) := hid (r1_26.out.below hb)
  have G_27 : ∀ o, W27.cell? ⟨kG, o, none⟩ = #[Value.int .i64 n1, .slice a1 rs1.length c1][o]? := fun o => (hb.cell (p := ⟨kG, o, none⟩) lG_26).trans (G_26 o)
  have lG_27 : kG < W27.heap.size := Nat.lt_of_lt_of_le lG_26 hb.size
  have rE_27 : Hid (rdI W27 (.slice aE E.length cE) E) := hid (rE_26.out.below hb)
  have E_27 : ∀ o, W27.cell? ⟨kE, o, none⟩ = #[Value.int .i64 PE, .slice aE E.length cE][o]? := fun o => (hb.cell (p := ⟨kE, o, none⟩) lE_26).trans (E_26 o)
  have lE_27 : kE < W27.heap.size := Nat.lt_of_lt_of_le lE_26 hb.size
  have rF_27 : Hid (rdI W27 (.slice aF E.length cF) E) := hid (rF_26.out.below hb)
  have F_27 : ∀ o, W27.cell? ⟨kF, o, none⟩ = #[Value.int .i64 PE, .slice aF E.length cF][o]? := fun o => (hb.cell (p := ⟨kF, o, none⟩) lF_26).trans (F_26 o)
  have lF_27 : kF < W27.heap.size := Nat.lt_of_lt_of_le lF_26 hb.size
  have rC_27 : Hid (rdI W27 (.slice aC Cc.length cC) Cc) := hid (rC_26.out.below hb)
  have C_27 : ∀ o, W27.cell? ⟨kC, o, none⟩ = #[Value.int .i64 PC, .slice aC Cc.length cC][o]? := fun o => (hb.cell (p := ⟨kC, o, none⟩) lC_26).trans (C_26 o)
  have lC_27 : kC < W27.heap.size := Nat.lt_of_lt_of_le lC_26 hb.size
  have rD_27 : Hid (rdI W27 (.slice aD Cc.length cD) Cc) := hid (rD_26.out.below hb)
  have D_27 : ∀ o, W27.cell? ⟨kD, o, none⟩ = #[Value.int .i64 PC, .slice aD Cc.length cD][o]? := fun o => (hb.cell (p := ⟨kD, o, none⟩) lD_26).trans (D_26 o)
  have lD_27 : kD < W27.heap.size := Nat.lt_of_lt_of_le lD_26 hb.size
  have r2_27 : Hid (rdI W27 (.slice a2 rs2.length c2) rs2) := hid (r2_26.out.below hb)
  have r3_27 : Hid (rdI W27 (.slice a3 rs3.length c3) rs3) := hid (r3_26.out.below hb)
  have H_27 : ∀ o, W27.cell? ⟨kH, o, none⟩ = #[Value.int .i64 n2, .slice a2 rs2.length c2][o]? := fun o => (hb.cell (p := ⟨kH, o, none⟩) lH_26).trans (H_26 o)
  have lH_27 : kH < W27.heap.size := Nat.lt_of_lt_of_le lH_26 hb.size
  have K_27 : ∀ o, W27.cell? ⟨kK, o, none⟩ = #[Value.int .i64 n3, .slice a3 rs3.length c3][o]? := fun o => (hb.cell (p := ⟨kK, o, none⟩) lK_26).trans (K_26 o)
  have lK_27 : kK < W27.heap.size := Nat.lt_of_lt_of_le lK_26 hb.size
  have rM_27 : Hid (rdI W27 (.slice aM A.length cM) A) := hid (rM_26.out.below hb)
  have M_27 : ∀ o, W27.cell? ⟨kM, o, none⟩ = #[Value.int .i64 P, .slice aM A.length cM][o]? := fun o => (hb.cell (p := ⟨kM, o, none⟩) lM_26).trans (M_26 o)
  have lM_27 : kM < W27.heap.size := Nat.lt_of_lt_of_le lM_26 hb.size
  have rN_27 : Hid (rdI W27 (.slice aN A.length cN) A) := hid (rN_26.out.below hb)
  have N_27 : ∀ o, W27.cell? ⟨kN, o, none⟩ = #[Value.int .i64 P, .slice aN A.length cN][o]? := fun o => (hb.cell (p := ⟨kN, o, none⟩) lN_26).trans (N_26 o)
  have lN_27 : kN < W27.heap.size := Nat.lt_of_lt_of_le lN_26 hb.size
  clear hE_26 r1_26 G_26 lG_26 rE_26 E_26 lE_26 rF_26 F_26 lF_26 rC_26 C_26 lC_26 rD_26 D_26 lD_26 r2_26 r3_26 H_26 lH_26 K_26 lK_26 rM_26 M_26 lM_26 rN_26 N_26 lN_26
  clear hb
  clear hcon
  obtain ⟨d1, hd1⟩ : ∃ d, d = decide (Cc.length = rs1.length) := ⟨_, rfl⟩
  obtain ⟨d2, hd2⟩ : ∃ d, d = decide (E.length = rs1.length) := ⟨_, rfl⟩
  have g1 : ((E.length : Int) == (rs1.length : Int)) = d2 := by rw [hd2, Bool.eq_iff_iff]; simp; omega
  have g2 : ((Cc.length : Int) == (rs1.length : Int)) = d1 := by rw [hd1, Bool.eq_iff_iff]; simp; omega
  have g3 : d2 = false → ((2 : Int) * (E.length : Int) == (rs1.length : Int)) = true := fun e => by
    rw [hd2] at e
    have := of_decide_eq_false e
    rw [beq_iff_eq]; omega
  rw [← hd1]
  clear hd1 hd2 hhalf
  cases d1 <;> cases d2
  all_goals (
    try (have g4 := g3 rfl)
    clear g3
    go_wp2_with fail
    go_ret
    exact ⟨by first | rfl | simp, hE_27.out.1⟩)
end Go.Proofs.Ytbkbcbanfnhjpaa
