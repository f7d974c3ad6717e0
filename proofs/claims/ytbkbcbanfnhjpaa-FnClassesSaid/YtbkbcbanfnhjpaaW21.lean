/- The classes of a group and a conjugate group: the law. (Printed by mkW21.py.) -/
import Derived.Test.YtbkbcbanfnhjpaaW20
import Derived.Test.YtbkbcbanfnhjpaaT12
namespace Go.Proofs.Ytbkbcbanfnhjpaa
open Go Go.RowKit

set_option maxRecDepth 20000 in
set_option maxHeartbeats 32000000 in
theorem law_Classes (a : Option Addr) (len cap : Nat) (w : World) (h : rdB w.heap.size w a len) :
    Calls Try.prog 7 #[.slice a len cap] w fun e w' => e = .returned (.bool true) ∧ Below w.heap.size w w' := by
  by_cases hl : len ≤ 4096
  case neg =>
    have hd : decide ((4096 : Int) < (len : Int)) = true := by simp; omega
    go_enter Try.func7, Try.ntmps7
    go_wp2_with (go_at_call 8; refine pur (l_big _ _ _ _) ?_)
    go_ret
    exact ⟨rfl, (by refine Ext.bel ?_; repeat (with_reducible first | exact Ext.refl _ | apply Ext.alloc | apply Ext.aft | apply Ext.drew | apply Ext.drewN | apply Ext.setCell | exact Nat.le_add_right _ _ | exact Nat.le_refl _ | (simp; done) | omega))⟩
  have hd : decide ((4096 : Int) < (len : Int)) = false := by simp; omega
  have H := hid h
  clear h
  go_enter Try.func7, Try.ntmps7
  go_wp2_with (go_at_call 8; refine pur (l_big _ _ _ _) ?_)
  have hE_0 : Hid (Ext w.heap.size w w) := hid (Ext.refl w)
  refine (s_DrawClassesOf w.heap.size a len cap _ (H.out.ext hE_0.out) hl hE_0.out.2).mono ?_
  rintro e W1 ⟨v, rfl, hv, hb⟩
  have hE_1 : Hid (Ext w.heap.size w W1) := hid (hE_0.out.below hb)
  clear hE_0
  clear hb
  obtain ⟨n1, s1, rs1, rfl, hn1, hr1, _, hrl1⟩ := hv
  obtain ⟨a1, c1, hsh1, _, _⟩ := id hr1
  subst hsh1
  have r1_1 : Hid (rdI W1 (.slice a1 rs1.length c1) rs1) := hid (hr1)
  obtain ⟨Z, C1, hcE⟩ : ∃ Z C, clF n1 rs1 = (Z, C) := ⟨_, _, rfl⟩
  have CI : Hid (∀ W, rdI W (.slice a1 rs1.length c1) rs1 → Calls Try.prog 34 #[.agg #[.int .i64 n1, .slice a1 rs1.length c1]] W fun e w' => ∃ v, e = .returned (.tuple #[v, .int .i64 C1]) ∧ (∃ es, ownE W.heap.size w' v es Z ∧ distR es) ∧ Below W.heap.size W w') := hid fun W q => by have := i_ClassesOf n1 _ rs1 W q (by omega); rw [hcE] at this; exact this
  have CS : Hid (∀ W, rdI W (.slice a1 rs1.length c1) rs1 → Calls Try.prog 32 #[.agg #[.int .i64 n1, .slice a1 rs1.length c1]] W fun e w' => ∃ v, e = .returned (.tuple #[v, .int .i64 C1]) ∧ (∃ es, ownE W.heap.size w' v es Z ∧ distR es) ∧ Below W.heap.size W w') := hid fun W q => by have := s_ClassesOf n1 _ rs1 W q (by omega); rw [hcE] at this; exact this
  have HF : Hid (C1 = 0 → tot Z = rs1.length ∧ ∀ ls ∈ Z, 0 < ls.length ∧ ls.length ∣ rs1.length ∧ ∀ y ∈ ls, y ∈ rs1) := hid fun e => clF_facts (by rw [hcE, e])
  clear hr1 hcE
  go_wp2_with fail
  obtain ⟨W2, hW2⟩ : ∃ X, X = W1.alloc (Obj.cells #[Value.int .i64 n1, .slice a1 rs1.length c1] 26) := ⟨_, rfl⟩
  obtain ⟨kG, hkG⟩ : ∃ k, k = W1.heap.size := ⟨_, rfl⟩
  have hba : Below W1.heap.size W1 W2 := by rw [hW2]; exact (Below.refl _ _).alloc (Nat.le_refl _) _
  have cn : ∀ o, W2.cell? ⟨kG, o, none⟩ = #[Value.int .i64 n1, .slice a1 rs1.length c1][o]? := fun o => by rw [hW2, hkG, alloc_cell, if_pos rfl]
  have ln : kG < W2.heap.size := by rw [hW2, hkG]; simp
  rw [← hW2, ← hkG]
  clear hW2 hkG
  have hE_2 : Hid (Ext w.heap.size w W2) := hid (hE_1.out.below hba)
  have r1_2 : Hid (rdI W2 (.slice a1 rs1.length c1) rs1) := hid (r1_1.out.below hba)
  clear hE_1 r1_1
  have G_2 := cn
  have lG_2 := ln
  clear cn ln hba
  refine (CI.out _ (r1_2.out)).mono ?_
  rintro e W3 ⟨v, rfl, ⟨es, hown, _⟩, hb⟩
  have hE_3 : Hid (Ext w.heap.size w W3) := hid (hE_2.out.below hb)
  have r1_3 : Hid (rdI W3 (.slice a1 rs1.length c1) rs1) := hid (r1_2.out.below hb)
  have G_3 : ∀ o, W3.cell? ⟨kG, o, none⟩ = #[Value.int .i64 n1, .slice a1 rs1.length c1][o]? := fun o => (hb.cell (p := ⟨kG, o, none⟩) lG_2).trans (G_2 o)
  have lG_3 : kG < W3.heap.size := Nat.lt_of_lt_of_le lG_2 hb.size
  clear hE_2 r1_2 G_2 lG_2
  clear hb
  obtain ⟨aL, cL, hsh⟩ := rowShV hown.2.1
  subst hsh
  have rL_3 : Hid (rdRR W3 (.slice aL Z.length cL) Z) := hid (ownRR.rd ⟨es, hown⟩)
  clear hown
  go_wp2_with fail
  refine (CS.out _ (r1_3.out)).mono ?_
  rintro e W4 ⟨v, rfl, ⟨es, hown, _⟩, hb⟩
  have hE_4 : Hid (Ext w.heap.size w W4) := hid (hE_3.out.below hb)
  have r1_4 : Hid (rdI W4 (.slice a1 rs1.length c1) rs1) := hid (r1_3.out.below hb)
  have G_4 : ∀ o, W4.cell? ⟨kG, o, none⟩ = #[Value.int .i64 n1, .slice a1 rs1.length c1][o]? := fun o => (hb.cell (p := ⟨kG, o, none⟩) lG_3).trans (G_3 o)
  have lG_4 : kG < W4.heap.size := Nat.lt_of_lt_of_le lG_3 hb.size
  have rL_4 : Hid (rdRR W4 (.slice aL Z.length cL) Z) := hid (rL_3.out.below hb)
  clear hE_3 r1_3 G_3 lG_3 rL_3
  clear hb
  obtain ⟨aM, cM, hsh⟩ := rowShV hown.2.1
  subst hsh
  have rM_4 : Hid (rdRR W4 (.slice aM Z.length cM) Z) := hid (ownRR.rd ⟨es, hown⟩)
  clear hown
  go_wp2_with fail
  refine (s_DrawConjugateGroup w.heap.size a len cap _ (H.out.ext hE_4.out) hl hE_4.out.2).mono ?_
  rintro e W5 ⟨v, va, A, rfl, hv, hA, hA7, hb⟩
  have hE_5 : Hid (Ext w.heap.size w W5) := hid (hE_4.out.below hb)
  have r1_5 : Hid (rdI W5 (.slice a1 rs1.length c1) rs1) := hid (r1_4.out.below hb)
  have G_5 : ∀ o, W5.cell? ⟨kG, o, none⟩ = #[Value.int .i64 n1, .slice a1 rs1.length c1][o]? := fun o => (hb.cell (p := ⟨kG, o, none⟩) lG_4).trans (G_4 o)
  have lG_5 : kG < W5.heap.size := Nat.lt_of_lt_of_le lG_4 hb.size
  have rL_5 : Hid (rdRR W5 (.slice aL Z.length cL) Z) := hid (rL_4.out.below hb)
  have rM_5 : Hid (rdRR W5 (.slice aM Z.length cM) Z) := hid (rM_4.out.below hb)
  clear hE_4 r1_4 G_4 lG_4 rL_4 rM_4
  clear hb
  obtain ⟨n2, s2, rs2, rfl, hn2, hr2, _, hrl2⟩ := hv
  obtain ⟨a2, c2, hsh2, _, _⟩ := id hr2
  subst hsh2
  obtain ⟨a3, c3, hsh3, _, _⟩ := hA.rd
  subst hsh3
  have r2_5 : Hid (rdI W5 (.slice a2 rs2.length c2) rs2) := hid (hr2)
  have rA_5 : Hid (ownR 0 W5 (.slice a3 A.length c3) A) := hid (hA.mono (Nat.zero_le _))
  obtain ⟨Y, P, C2, hcF⟩ : ∃ Y P C, cjF n2 rs2 A = (Y, P, C) := ⟨_, _, _, rfl⟩
  obtain ⟨B, hB⟩ : ∃ B, B = opF A := ⟨_, rfl⟩
  have HJ := hid hcF
  have HV : Hid (C2 = 0 → permB A = true ∧ B.length ≤ 6 ∧ cjF P Y B = (rs2, n2, 0) ∧ Y.length ≤ 1000) := hid fun e => by
    subst e
    obtain ⟨q1, q2, q3, q4, q5, q6, q7, q8⟩ := cj_round hcF
    exact ⟨q1, by rw [hB, opF_len]; exact q4, by rw [hB]; exact q7, q8⟩
  have HIV : Hid (∀ W, permB A = true → ownR 0 W (.slice a3 A.length c3) A → Calls Try.prog 51 #[.slice a3 A.length c3] W fun e w' => ∃ v, e = .returned (.tuple #[v, .int .i64 0]) ∧ ownR W.heap.size w' v B ∧ Below W.heap.size W w') := hid fun W q1 q2 => by rw [hB]; exact i_InverseE _ A W q2 q1
  clear hr2 hA hcF hB
  go_wp2_with fail
  obtain ⟨W6, hW6⟩ : ∃ X, X = W5.alloc (Obj.cells #[Value.int .i64 n2, .slice a2 rs2.length c2] 26) := ⟨_, rfl⟩
  obtain ⟨kK, hkK⟩ : ∃ k, k = W5.heap.size := ⟨_, rfl⟩
  have hba : Below W5.heap.size W5 W6 := by rw [hW6]; exact (Below.refl _ _).alloc (Nat.le_refl _) _
  have cn : ∀ o, W6.cell? ⟨kK, o, none⟩ = #[Value.int .i64 n2, .slice a2 rs2.length c2][o]? := fun o => by rw [hW6, hkK, alloc_cell, if_pos rfl]
  have ln : kK < W6.heap.size := by rw [hW6, hkK]; simp
  rw [← hW6, ← hkK]
  clear hW6 hkK
  have hE_6 : Hid (Ext w.heap.size w W6) := hid (hE_5.out.below hba)
  have r1_6 : Hid (rdI W6 (.slice a1 rs1.length c1) rs1) := hid (r1_5.out.below hba)
  have G_6 : ∀ o, W6.cell? ⟨kG, o, none⟩ = #[Value.int .i64 n1, .slice a1 rs1.length c1][o]? := fun o => (hba.cell (p := ⟨kG, o, none⟩) lG_5).trans (G_5 o)
  have lG_6 : kG < W6.heap.size := Nat.lt_of_lt_of_le lG_5 hba.size
  have rL_6 : Hid (rdRR W6 (.slice aL Z.length cL) Z) := hid (rL_5.out.below hba)
  have rM_6 : Hid (rdRR W6 (.slice aM Z.length cM) Z) := hid (rM_5.out.below hba)
  have r2_6 : Hid (rdI W6 (.slice a2 rs2.length c2) rs2) := hid (r2_5.out.below hba)
  have rA_6 : Hid (ownR 0 W6 (.slice a3 A.length c3) A) := hid (rA_5.out.below hba)
  clear hE_5 r1_5 G_5 lG_5 rL_5 rM_5 r2_5 rA_5
  have K_6 := cn
  have lK_6 := ln
  clear cn ln hba
  refine (i_Conj n2 _ _ rs2 A _ Y P C2 (r2_6.out) (by omega) (rA_6.out) (by omega) HJ.out).mono ?_
  rintro e W7 ⟨v, rfl, ho, hb⟩
  have hE_7 : Hid (Ext w.heap.size w W7) := hid (hE_6.out.below hb)
  have r1_7 : Hid (rdI W7 (.slice a1 rs1.length c1) rs1) := hid (r1_6.out.below hb)
  have G_7 : ∀ o, W7.cell? ⟨kG, o, none⟩ = #[Value.int .i64 n1, .slice a1 rs1.length c1][o]? := fun o => (hb.cell (p := ⟨kG, o, none⟩) lG_6).trans (G_6 o)
  have lG_7 : kG < W7.heap.size := Nat.lt_of_lt_of_le lG_6 hb.size
  have rL_7 : Hid (rdRR W7 (.slice aL Z.length cL) Z) := hid (rL_6.out.below hb)
  have rM_7 : Hid (rdRR W7 (.slice aM Z.length cM) Z) := hid (rM_6.out.below hb)
  have r2_7 : Hid (rdI W7 (.slice a2 rs2.length c2) rs2) := hid (r2_6.out.below hb)
  have rA_7 : Hid (ownR 0 W7 (.slice a3 A.length c3) A) := hid (rA_6.out.below hb)
  have K_7 : ∀ o, W7.cell? ⟨kK, o, none⟩ = #[Value.int .i64 n2, .slice a2 rs2.length c2][o]? := fun o => (hb.cell (p := ⟨kK, o, none⟩) lK_6).trans (K_6 o)
  have lK_7 : kK < W7.heap.size := Nat.lt_of_lt_of_le lK_6 hb.size
  clear hE_6 r1_6 G_6 lG_6 rL_6 rM_6 r2_6 rA_6 K_6 lK_6
  clear hb
  obtain ⟨aX, cX, hsh, _, _⟩ := ho.rd
  subst hsh
  have rX_7 : Hid (rdI W7 (.slice aX Y.length cX) Y) := hid (ho.rd)
  clear ho
  go_wp2_with fail
  obtain ⟨W8, hW8⟩ : ∃ X, X = W7.alloc (Obj.cells #[Value.int .i64 P, .slice aX Y.length cX] 26) := ⟨_, rfl⟩
  obtain ⟨kX, hkX⟩ : ∃ k, k = W7.heap.size := ⟨_, rfl⟩
  have hba : Below W7.heap.size W7 W8 := by rw [hW8]; exact (Below.refl _ _).alloc (Nat.le_refl _) _
  have cn : ∀ o, W8.cell? ⟨kX, o, none⟩ = #[Value.int .i64 P, .slice aX Y.length cX][o]? := fun o => by rw [hW8, hkX, alloc_cell, if_pos rfl]
  have ln : kX < W8.heap.size := by rw [hW8, hkX]; simp
  rw [← hW8, ← hkX]
  clear hW8 hkX
  have hE_8 : Hid (Ext w.heap.size w W8) := hid (hE_7.out.below hba)
  have r1_8 : Hid (rdI W8 (.slice a1 rs1.length c1) rs1) := hid (r1_7.out.below hba)
  have G_8 : ∀ o, W8.cell? ⟨kG, o, none⟩ = #[Value.int .i64 n1, .slice a1 rs1.length c1][o]? := fun o => (hba.cell (p := ⟨kG, o, none⟩) lG_7).trans (G_7 o)
  have lG_8 : kG < W8.heap.size := Nat.lt_of_lt_of_le lG_7 hba.size
  have rL_8 : Hid (rdRR W8 (.slice aL Z.length cL) Z) := hid (rL_7.out.below hba)
  have rM_8 : Hid (rdRR W8 (.slice aM Z.length cM) Z) := hid (rM_7.out.below hba)
  have r2_8 : Hid (rdI W8 (.slice a2 rs2.length c2) rs2) := hid (r2_7.out.below hba)
  have rA_8 : Hid (ownR 0 W8 (.slice a3 A.length c3) A) := hid (rA_7.out.below hba)
  have K_8 : ∀ o, W8.cell? ⟨kK, o, none⟩ = #[Value.int .i64 n2, .slice a2 rs2.length c2][o]? := fun o => (hba.cell (p := ⟨kK, o, none⟩) lK_7).trans (K_7 o)
  have lK_8 : kK < W8.heap.size := Nat.lt_of_lt_of_le lK_7 hba.size
  have rX_8 : Hid (rdI W8 (.slice aX Y.length cX) Y) := hid (rX_7.out.below hba)
  clear hE_7 r1_7 G_7 lG_7 rL_7 rM_7 r2_7 rA_7 K_7 lK_7 rX_7
  have X_8 := cn
  have lX_8 := ln
  clear cn ln hba
  refine (s_Conj n2 _ _ rs2 A _ Y P C2 (r2_8.out) (by omega) (rA_8.out) (by omega) HJ.out).mono ?_
  rintro e W9 ⟨v, rfl, ho, hb⟩
  have hE_9 : Hid (Ext w.heap.size w W9) := hid (hE_8.out.below hb)
  have r1_9 : Hid (rdI W9 (.slice a1 rs1.length c1) rs1) := hid (r1_8.out.below hb)
  have G_9 : ∀ o, W9.cell? ⟨kG, o, none⟩ = #[Value.int .i64 n1, .slice a1 rs1.length c1][o]? := fun o => (hb.cell (p := ⟨kG, o, none⟩) lG_8).trans (G_8 o)
  have lG_9 : kG < W9.heap.size := Nat.lt_of_lt_of_le lG_8 hb.size
  have rL_9 : Hid (rdRR W9 (.slice aL Z.length cL) Z) := hid (rL_8.out.below hb)
  have rM_9 : Hid (rdRR W9 (.slice aM Z.length cM) Z) := hid (rM_8.out.below hb)
  have r2_9 : Hid (rdI W9 (.slice a2 rs2.length c2) rs2) := hid (r2_8.out.below hb)
  have rA_9 : Hid (ownR 0 W9 (.slice a3 A.length c3) A) := hid (rA_8.out.below hb)
  have K_9 : ∀ o, W9.cell? ⟨kK, o, none⟩ = #[Value.int .i64 n2, .slice a2 rs2.length c2][o]? := fun o => (hb.cell (p := ⟨kK, o, none⟩) lK_8).trans (K_8 o)
  have lK_9 : kK < W9.heap.size := Nat.lt_of_lt_of_le lK_8 hb.size
  have rX_9 : Hid (rdI W9 (.slice aX Y.length cX) Y) := hid (rX_8.out.below hb)
  have X_9 : ∀ o, W9.cell? ⟨kX, o, none⟩ = #[Value.int .i64 P, .slice aX Y.length cX][o]? := fun o => (hb.cell (p := ⟨kX, o, none⟩) lX_8).trans (X_8 o)
  have lX_9 : kX < W9.heap.size := Nat.lt_of_lt_of_le lX_8 hb.size
  clear hE_8 r1_8 G_8 lG_8 rL_8 rM_8 r2_8 rA_8 K_8 lK_8 rX_8 X_8 lX_8
  clear hb
  obtain ⟨aY, cY, hsh, _, _⟩ := ho.rd
  subst hsh
  have rY_9 : Hid (rdI W9 (.slice aY Y.length cY) Y) := hid (ho.rd)
  clear ho
  go_wp2_with fail
  obtain ⟨W10, hW10⟩ : ∃ X, X = W9.alloc (Obj.cells #[Value.int .i64 P, .slice aY Y.length cY] 26) := ⟨_, rfl⟩
  obtain ⟨kY, hkY⟩ : ∃ k, k = W9.heap.size := ⟨_, rfl⟩
  have hba : Below W9.heap.size W9 W10 := by rw [hW10]; exact (Below.refl _ _).alloc (Nat.le_refl _) _
  have cn : ∀ o, W10.cell? ⟨kY, o, none⟩ = #[Value.int .i64 P, .slice aY Y.length cY][o]? := fun o => by rw [hW10, hkY, alloc_cell, if_pos rfl]
  have ln : kY < W10.heap.size := by rw [hW10, hkY]; simp
  rw [← hW10, ← hkY]
  clear hW10 hkY
  have hE_10 : Hid (Ext w.heap.size w W10) := hid (hE_9.out.below hba)
  have r1_10 : Hid (rdI W10 (.slice a1 rs1.length c1) rs1) := hid (r1_9.out.below hba)
  have G_10 : ∀ o, W10.cell? ⟨kG, o, none⟩ = #[Value.int .i64 n1, .slice a1 rs1.length c1][o]? := fun o => (hba.cell (p := ⟨kG, o, none⟩) lG_9).trans (G_9 o)
  have lG_10 : kG < W10.heap.size := Nat.lt_of_lt_of_le lG_9 hba.size
  have rL_10 : Hid (rdRR W10 (.slice aL Z.length cL) Z) := hid (rL_9.out.below hba)
  have rM_10 : Hid (rdRR W10 (.slice aM Z.length cM) Z) := hid (rM_9.out.below hba)
  have r2_10 : Hid (rdI W10 (.slice a2 rs2.length c2) rs2) := hid (r2_9.out.below hba)
  have rA_10 : Hid (ownR 0 W10 (.slice a3 A.length c3) A) := hid (rA_9.out.below hba)
  have K_10 : ∀ o, W10.cell? ⟨kK, o, none⟩ = #[Value.int .i64 n2, .slice a2 rs2.length c2][o]? := fun o => (hba.cell (p := ⟨kK, o, none⟩) lK_9).trans (K_9 o)
  have lK_10 : kK < W10.heap.size := Nat.lt_of_lt_of_le lK_9 hba.size
  have rX_10 : Hid (rdI W10 (.slice aX Y.length cX) Y) := hid (rX_9.out.below hba)
  have X_10 : ∀ o, W10.cell? ⟨kX, o, none⟩ = #[Value.int .i64 P, .slice aX Y.length cX][o]? := fun o => (hba.cell (p := ⟨kX, o, none⟩) lX_9).trans (X_9 o)
  have lX_10 : kX < W10.heap.size := Nat.lt_of_lt_of_le lX_9 hba.size
  have rY_10 : Hid (rdI W10 (.slice aY Y.length cY) Y) := hid (rY_9.out.below hba)
  clear hE_9 r1_9 G_9 lG_9 rL_9 rM_9 r2_9 rA_9 K_9 lK_9 rX_9 X_9 lX_9 rY_9
  have Y_10 := cn
  have lY_10 := ln
  clear cn ln hba
  refine (l_likeT _ _ Z _ (rL_10.out) (rM_10.out)).mono ?_
  rintro e W11 ⟨rfl, hb⟩
  have hE_11 : Hid (Ext w.heap.size w W11) := hid (hE_10.out.below hb)
  have r1_11 : Hid (rdI W11 (.slice a1 rs1.length c1) rs1) := hid (r1_10.out.below hb)
  have G_11 : ∀ o, W11.cell? ⟨kG, o, none⟩ = #[Value.int .i64 n1, .slice a1 rs1.length c1][o]? := fun o => (hb.cell (p := ⟨kG, o, none⟩) lG_10).trans (G_10 o)
  have lG_11 : kG < W11.heap.size := Nat.lt_of_lt_of_le lG_10 hb.size
  have rL_11 : Hid (rdRR W11 (.slice aL Z.length cL) Z) := hid (rL_10.out.below hb)
  have rM_11 : Hid (rdRR W11 (.slice aM Z.length cM) Z) := hid (rM_10.out.below hb)
  have r2_11 : Hid (rdI W11 (.slice a2 rs2.length c2) rs2) := hid (r2_10.out.below hb)
  have rA_11 : Hid (ownR 0 W11 (.slice a3 A.length c3) A) := hid (rA_10.out.below hb)
  have K_11 : ∀ o, W11.cell? ⟨kK, o, none⟩ = #[Value.int .i64 n2, .slice a2 rs2.length c2][o]? := fun o => (hb.cell (p := ⟨kK, o, none⟩) lK_10).trans (K_10 o)
  have lK_11 : kK < W11.heap.size := Nat.lt_of_lt_of_le lK_10 hb.size
  have rX_11 : Hid (rdI W11 (.slice aX Y.length cX) Y) := hid (rX_10.out.below hb)
  have X_11 : ∀ o, W11.cell? ⟨kX, o, none⟩ = #[Value.int .i64 P, .slice aX Y.length cX][o]? := fun o => (hb.cell (p := ⟨kX, o, none⟩) lX_10).trans (X_10 o)
  have lX_11 : kX < W11.heap.size := Nat.lt_of_lt_of_le lX_10 hb.size
  have rY_11 : Hid (rdI W11 (.slice aY Y.length cY) Y) := hid (rY_10.out.below hb)
  have Y_11 : ∀ o, W11.cell? ⟨kY, o, none⟩ = #[Value.int .i64 P, .slice aY Y.length cY][o]? := fun o => (hb.cell (p := ⟨kY, o, none⟩) lY_10).trans (Y_10 o)
  have lY_11 : kY < W11.heap.size := Nat.lt_of_lt_of_le lY_10 hb.size
  clear hE_10 r1_10 G_10 lG_10 rL_10 rM_10 r2_10 rA_10 K_10 lK_10 rX_10 X_10 lX_10 rY_10 Y_10 lY_10
  clear hb
  go_wp2_with fail
  refine (l_likeG P _ _ Y _ (rX_11.out) (rY_11.out)).mono ?_
  rintro e W12 ⟨rfl, hb⟩
  have hE_12 : Hid (Ext w.heap.size w W12) := hid (hE_11.out.below hb)
  have r1_12 : Hid (rdI W12 (.slice a1 rs1.length c1) rs1) := hid (r1_11.out.below hb)
  have G_12 : ∀ o, W12.cell? ⟨kG, o, none⟩ = #[Value.int .i64 n1, .slice a1 rs1.length c1][o]? := fun o => (hb.cell (p := ⟨kG, o, none⟩) lG_11).trans (G_11 o)
  have lG_12 : kG < W12.heap.size := Nat.lt_of_lt_of_le lG_11 hb.size
  have rL_12 : Hid (rdRR W12 (.slice aL Z.length cL) Z) := hid (rL_11.out.below hb)
  have rM_12 : Hid (rdRR W12 (.slice aM Z.length cM) Z) := hid (rM_11.out.below hb)
  have r2_12 : Hid (rdI W12 (.slice a2 rs2.length c2) rs2) := hid (r2_11.out.below hb)
  have rA_12 : Hid (ownR 0 W12 (.slice a3 A.length c3) A) := hid (rA_11.out.below hb)
  have K_12 : ∀ o, W12.cell? ⟨kK, o, none⟩ = #[Value.int .i64 n2, .slice a2 rs2.length c2][o]? := fun o => (hb.cell (p := ⟨kK, o, none⟩) lK_11).trans (K_11 o)
  have lK_12 : kK < W12.heap.size := Nat.lt_of_lt_of_le lK_11 hb.size
  have rX_12 : Hid (rdI W12 (.slice aX Y.length cX) Y) := hid (rX_11.out.below hb)
  have X_12 : ∀ o, W12.cell? ⟨kX, o, none⟩ = #[Value.int .i64 P, .slice aX Y.length cX][o]? := fun o => (hb.cell (p := ⟨kX, o, none⟩) lX_11).trans (X_11 o)
  have lX_12 : kX < W12.heap.size := Nat.lt_of_lt_of_le lX_11 hb.size
  have rY_12 : Hid (rdI W12 (.slice aY Y.length cY) Y) := hid (rY_11.out.below hb)
  have Y_12 : ∀ o, W12.cell? ⟨kY, o, none⟩ = #[Value.int .i64 P, .slice aY Y.length cY][o]? := fun o => (hb.cell (p := ⟨kY, o, none⟩) lY_11).trans (Y_11 o)
  have lY_12 : kY < W12.heap.size := Nat.lt_of_lt_of_le lY_11 hb.size
  clear hE_11 r1_11 G_11 lG_11 rL_11 rM_11 r2_11 rA_11 K_11 lK_11 rX_11 X_11 lX_11 rY_11 Y_11 lY_11
  clear hb
  by_cases hC0 : C2 = 0
  case neg =>
    have hC0n : (C2 == 0) = false := by simpa using hC0
    by_cases hC1 : C1 = 0
    case neg =>
      have hCn : (C1 != 0) = true := by simpa using hC1
      go_wp2_with fail
      go_ret
      exact ⟨rfl, hE_12.out.1⟩
    subst hC1
    obtain ⟨hT, hF⟩ := HF.out rfl
    have HT := hid hT
    have HF2 := hid hF
    have hT7 : tot Z ≤ 1000 := by omega
    clear hT hF HF CI CS HJ HV HIV
    go_wp2_with fail
    have hcl : ∀ i, (hi : i < Z.length) → ∃ b o a' c', aL = some ⟨b, o, none⟩ ∧ W12.cell? ⟨b, o + i, none⟩ = some (.slice a' Z[i].length c') ∧ rdI W12 (.slice a' Z[i].length c') Z[i] := fun i hi => by
      obtain ⟨a', c', e, _, hc⟩ := rL_12.out
      injection e with e1 e2 e3
      subst e1
      obtain ⟨b, o, rfl, hcell⟩ := hc (by intro q; rw [q] at hi; simp at hi)
      obtain ⟨e1, q1, q2⟩ := hcell i hi
      obtain ⟨a5, c5, hsh, _, _⟩ := q2.rd
      subst hsh
      exact ⟨b, o, a5, c5, rfl, q1, q2.rd⟩
    have HCL := hid hcl
    have hZm : Z.length ≤ maxLen := by
      obtain ⟨_, _, _, q, _⟩ := rL_12.out
      exact q
    unfold maxLen at hZm
    have hcm : ∀ i, (hi : i < Z.length) → ∃ b o a' c', aM = some ⟨b, o, none⟩ ∧ W12.cell? ⟨b, o + i, none⟩ = some (.slice a' Z[i].length c') ∧ rdI W12 (.slice a' Z[i].length c') Z[i] := fun i hi => by
      obtain ⟨a', c', e, _, hc⟩ := rM_12.out
      injection e with e1 e2 e3
      subst e1
      obtain ⟨b, o, rfl, hcell⟩ := hc (by intro q; rw [q] at hi; simp at hi)
      obtain ⟨e1, q1, q2⟩ := hcell i hi
      obtain ⟨a5, c5, hsh, _, _⟩ := q2.rd
      subst hsh
      exact ⟨b, o, a5, c5, rfl, q1, q2.rd⟩
    have HCM := hid hcm
    have gG := G_12
    have lG := lG_12
    have R1 := hid (r1_12.out)
    have E9 := hid (hE_12.out)
    clear hcl hcm
    go_loopw [18, 19] (fun t i wr => ∃ (k : Nat) (uu : World), wr = aft W12 uu ∧ k ≤ Z.length ∧ i = .int .i64 k ∧ t = .int .i64 (tot (Z.take k) : Nat)) (fun _ i _ => Z.length - (intOf i).toNat)
    case atStart => exact ⟨0, W12, (aft_of (Below.refl _ _)).symm, by omega, rfl, by simp [tot]⟩
    case round =>
      obtain ⟨k, uu, rfl, hk, rfl, rfl⟩ := hrel
      have zs := size_aft W12 uu
      by_cases hlt : k < Z.length
      · obtain ⟨b, o, a5, c5, rfl, h1, hx1⟩ := HCL.out k hlt
        obtain ⟨b', o', a6, c6, rfl, h2, hx2⟩ := HCM.out k hlt
        have h3 := World.block_lt_of_cell? _ _ h1
        have h4 := World.block_lt_of_cell? _ _ h2
        simp only at h3 h4
        obtain ⟨hp1, hp2, hp3⟩ := HF2.out _ (List.getElem_mem hlt)
        obtain ⟨ht1, ht2⟩ := tot_step hlt
        obtain ⟨X, hX⟩ : ∃ X, X = Z[k] := ⟨_, rfl⟩
        obtain ⟨T1, hT1⟩ : ∃ T, T = tot (Z.take k) := ⟨_, rfl⟩
        obtain ⟨T2, hT2⟩ : ∃ T, T = tot (Z.take (k + 1)) := ⟨_, rfl⟩
        rw [← hX] at h1 h2 hx1 hx2 hp1 hp2 hp3 ht1
        rw [← hT2] at ht1 ht2
        rw [← hT1] at ht1 ⊢
        obtain ⟨_, _, e, _, hxc⟩ := hx1
        injection e with e1 e2 e3
        subst e1
        subst e3
        obtain ⟨b2, o2, rfl, hcell⟩ := hxc (by intro q; rw [q] at hp1; simp at hp1)
        have h5 := hcell 0 hp1
        have h6 := World.block_lt_of_cell? _ _ h5
        simp only at h6
        have hmem := hp3 _ (List.getElem_mem hp1)
        obtain ⟨x, hx⟩ : ∃ x, x = X[0] := ⟨_, rfl⟩
        rw [← hx] at h5 hmem
        rw [Nat.add_zero] at h5
        have HME := hid hmem
        have HT1 := hid hT1
        have HT2 := hid hT2
        have HTS := hid ht1
        have hz : (k : Int) < (Z.length : Int) := by omega
        have hz0 : (0 : Int) ≤ (k : Int) := by omega
        obtain ⟨N, hN⟩ : ∃ N, N = X.length := ⟨_, rfl⟩
        obtain ⟨M, hM⟩ : ∃ M, M = rs1.length := ⟨_, rfl⟩
        have HN := hid hN
        have HM := hid hM
        rw [← hN] at hp1 hp2 ht1 h1 h2
        rw [← hM] at hp2
        have hNz : ((N : Int) == 0) = false := by rw [beq_eq_false_iff_ne]; omega
        have hNp : (0 : Int) < (N : Int) := by omega
        have hr1 : (M : Int).tmod (N : Int) = 0 := Int.tmod_eq_zero_of_dvd (Int.ofNat_dvd.2 hp2)
        have hr2 : (M : Int) % (N : Int) = 0 := Int.emod_eq_zero_of_dvd (Int.ofNat_dvd.2 hp2)
        have hr4 : ((rs1.length : Int) % (N : Int) != 0) = false := by rw [← hM, hr2]; rfl
        have hM7 : M ≤ 1000 := by omega
        have hT27 : T2 ≤ 1000 := by omega
        have hTz : (T1 : Int) + (N : Int) = (T2 : Int) := by omega
        have hN7 : N ≤ 1000 := by omega
        have R1' := R1
        clear hx2 hp2 hp3 hxc hcell hmem hx hX hT1 hT2 hN hM hk ht2 R1 ht1 hr1 hr2
        go_wp2_with fail
        refine wp_region_calm (by kernel_rfl) (by kernel_rfl) ?_
        repeat (go_big_quiet_step (first | (go_at_call 45; exact calmp (l_hasI _ rs1 x _ ((R1'.out.aft _).aft _) HME.out))))
        refine wpQuiet_nil ?_; intro uq zq; try simp at zq
        go_wp2_with fail
        go_roundw
        case rel => exact ⟨k + 1, _, (aft_of ((below_aft W12 uu).trans ((below_aft _ _).mono (size_aft W12 uu)))).symm, by omega, by go_num, by rw [← HT2.out]⟩
        case measure => simp only [intOf]; omega
      · obtain rfl : k = Z.length := by omega
        have hltz : ¬ (Z.length : Int) < (Z.length : Int) := by omega
        rw [List.take_length, HT.out]
        go_wp2_with fail
        go_ret
        exact ⟨by first | rfl | simp, E9.out.1.trans ((below_aft W12 uu).mono E9.out.2)⟩
  subst hC0
  obtain ⟨hpA, hB6, hcj, hY7⟩ := HV.out rfl
  have HPA := hid hpA
  have HCJ := hid hcj
  clear hpA hcj
  go_wp2_with fail
  refine (HIV.out _ HPA.out (rA_12.out)).mono ?_
  rintro e W13 ⟨v, rfl, ho, hb⟩
  have hE_13 : Hid (Ext w.heap.size w W13) := hid (hE_12.out.below hb)
  have r1_13 : Hid (rdI W13 (.slice a1 rs1.length c1) rs1) := hid (r1_12.out.below hb)
  have G_13 : ∀ o, W13.cell? ⟨kG, o, none⟩ = #[Value.int .i64 n1, .slice a1 rs1.length c1][o]? := fun o => (hb.cell (p := ⟨kG, o, none⟩) lG_12).trans (G_12 o)
  have lG_13 : kG < W13.heap.size := Nat.lt_of_lt_of_le lG_12 hb.size
  have rL_13 : Hid (rdRR W13 (.slice aL Z.length cL) Z) := hid (rL_12.out.below hb)
  have rM_13 : Hid (rdRR W13 (.slice aM Z.length cM) Z) := hid (rM_12.out.below hb)
  have r2_13 : Hid (rdI W13 (.slice a2 rs2.length c2) rs2) := hid (r2_12.out.below hb)
  have rA_13 : Hid (ownR 0 W13 (.slice a3 A.length c3) A) := hid (rA_12.out.below hb)
  have K_13 : ∀ o, W13.cell? ⟨kK, o, none⟩ = #[Value.int .i64 n2, .slice a2 rs2.length c2][o]? := fun o => (hb.cell (p := ⟨kK, o, none⟩) lK_12).trans (K_12 o)
  have lK_13 : kK < W13.heap.size := Nat.lt_of_lt_of_le lK_12 hb.size
  have rX_13 : Hid (rdI W13 (.slice aX Y.length cX) Y) := hid (rX_12.out.below hb)
  have X_13 : ∀ o, W13.cell? ⟨kX, o, none⟩ = #[Value.int .i64 P, .slice aX Y.length cX][o]? := fun o => (hb.cell (p := ⟨kX, o, none⟩) lX_12).trans (X_12 o)
  have lX_13 : kX < W13.heap.size := Nat.lt_of_lt_of_le lX_12 hb.size
  have rY_13 : Hid (rdI W13 (.slice aY Y.length cY) Y) := hid (rY_12.out.below hb)
  have Y_13 : ∀ o, W13.cell? ⟨kY, o, none⟩ = #[Value.int .i64 P, .slice aY Y.length cY][o]? := fun o => (hb.cell (p := ⟨kY, o, none⟩) lY_12).trans (Y_12 o)
  have lY_13 : kY < W13.heap.size := Nat.lt_of_lt_of_le lY_12 hb.size
  clear hE_12 r1_12 G_12 lG_12 rL_12 rM_12 r2_12 rA_12 K_12 lK_12 rX_12 X_12 lX_12 rY_12 Y_12 lY_12
  clear hb
  obtain ⟨aB, cB, hsh, _, _⟩ := ho.rd
  subst hsh
  have rB_13 : Hid (ownR 0 W13 (.slice aB B.length cB) B) := hid (ho.mono (Nat.zero_le _))
  clear ho
  go_wp2_with fail
  refine (i_Conj P _ _ Y B _ rs2 n2 0 (rX_13.out) (by omega) (rB_13.out) (by omega) HCJ.out).mono ?_
  rintro e W14 ⟨v, rfl, ho, hb⟩
  have hE_14 : Hid (Ext w.heap.size w W14) := hid (hE_13.out.below hb)
  have r1_14 : Hid (rdI W14 (.slice a1 rs1.length c1) rs1) := hid (r1_13.out.below hb)
  have G_14 : ∀ o, W14.cell? ⟨kG, o, none⟩ = #[Value.int .i64 n1, .slice a1 rs1.length c1][o]? := fun o => (hb.cell (p := ⟨kG, o, none⟩) lG_13).trans (G_13 o)
  have lG_14 : kG < W14.heap.size := Nat.lt_of_lt_of_le lG_13 hb.size
  have rL_14 : Hid (rdRR W14 (.slice aL Z.length cL) Z) := hid (rL_13.out.below hb)
  have rM_14 : Hid (rdRR W14 (.slice aM Z.length cM) Z) := hid (rM_13.out.below hb)
  have r2_14 : Hid (rdI W14 (.slice a2 rs2.length c2) rs2) := hid (r2_13.out.below hb)
  have rA_14 : Hid (ownR 0 W14 (.slice a3 A.length c3) A) := hid (rA_13.out.below hb)
  have K_14 : ∀ o, W14.cell? ⟨kK, o, none⟩ = #[Value.int .i64 n2, .slice a2 rs2.length c2][o]? := fun o => (hb.cell (p := ⟨kK, o, none⟩) lK_13).trans (K_13 o)
  have lK_14 : kK < W14.heap.size := Nat.lt_of_lt_of_le lK_13 hb.size
  have rX_14 : Hid (rdI W14 (.slice aX Y.length cX) Y) := hid (rX_13.out.below hb)
  have X_14 : ∀ o, W14.cell? ⟨kX, o, none⟩ = #[Value.int .i64 P, .slice aX Y.length cX][o]? := fun o => (hb.cell (p := ⟨kX, o, none⟩) lX_13).trans (X_13 o)
  have lX_14 : kX < W14.heap.size := Nat.lt_of_lt_of_le lX_13 hb.size
  have rY_14 : Hid (rdI W14 (.slice aY Y.length cY) Y) := hid (rY_13.out.below hb)
  have Y_14 : ∀ o, W14.cell? ⟨kY, o, none⟩ = #[Value.int .i64 P, .slice aY Y.length cY][o]? := fun o => (hb.cell (p := ⟨kY, o, none⟩) lY_13).trans (Y_13 o)
  have lY_14 : kY < W14.heap.size := Nat.lt_of_lt_of_le lY_13 hb.size
  have rB_14 : Hid (ownR 0 W14 (.slice aB B.length cB) B) := hid (rB_13.out.below hb)
  clear hE_13 r1_13 G_13 lG_13 rL_13 rM_13 r2_13 rA_13 K_13 lK_13 rX_13 X_13 lX_13 rY_13 Y_13 lY_13 rB_13
  clear hb
  obtain ⟨aV, cV, hsh, _, _⟩ := ho.rd
  subst hsh
  have rV_14 : Hid (rdI W14 (.slice aV rs2.length cV) rs2) := hid (ho.rd)
  clear ho
  go_wp2_with fail
  obtain ⟨W15, hW15⟩ : ∃ X, X = W14.alloc (Obj.cells #[Value.int .i64 n2, .slice aV rs2.length cV] 26) := ⟨_, rfl⟩
  obtain ⟨kV, hkV⟩ : ∃ k, k = W14.heap.size := ⟨_, rfl⟩
  have hba : Below W14.heap.size W14 W15 := by rw [hW15]; exact (Below.refl _ _).alloc (Nat.le_refl _) _
  have cn : ∀ o, W15.cell? ⟨kV, o, none⟩ = #[Value.int .i64 n2, .slice aV rs2.length cV][o]? := fun o => by rw [hW15, hkV, alloc_cell, if_pos rfl]
  have ln : kV < W15.heap.size := by rw [hW15, hkV]; simp
  rw [← hW15, ← hkV]
  clear hW15 hkV
  have hE_15 : Hid (Ext w.heap.size w W15) := hid (hE_14.out.below hba)
  have r1_15 : Hid (rdI W15 (.slice a1 rs1.length c1) rs1) := hid (r1_14.out.below hba)
  have G_15 : ∀ o, W15.cell? ⟨kG, o, none⟩ = #[Value.int .i64 n1, .slice a1 rs1.length c1][o]? := fun o => (hba.cell (p := ⟨kG, o, none⟩) lG_14).trans (G_14 o)
  have lG_15 : kG < W15.heap.size := Nat.lt_of_lt_of_le lG_14 hba.size
  have rL_15 : Hid (rdRR W15 (.slice aL Z.length cL) Z) := hid (rL_14.out.below hba)
  have rM_15 : Hid (rdRR W15 (.slice aM Z.length cM) Z) := hid (rM_14.out.below hba)
  have r2_15 : Hid (rdI W15 (.slice a2 rs2.length c2) rs2) := hid (r2_14.out.below hba)
  have rA_15 : Hid (ownR 0 W15 (.slice a3 A.length c3) A) := hid (rA_14.out.below hba)
  have K_15 : ∀ o, W15.cell? ⟨kK, o, none⟩ = #[Value.int .i64 n2, .slice a2 rs2.length c2][o]? := fun o => (hba.cell (p := ⟨kK, o, none⟩) lK_14).trans (K_14 o)
  have lK_15 : kK < W15.heap.size := Nat.lt_of_lt_of_le lK_14 hba.size
  have rX_15 : Hid (rdI W15 (.slice aX Y.length cX) Y) := hid (rX_14.out.below hba)
  have X_15 : ∀ o, W15.cell? ⟨kX, o, none⟩ = #[Value.int .i64 P, .slice aX Y.length cX][o]? := fun o => (hba.cell (p := ⟨kX, o, none⟩) lX_14).trans (X_14 o)
  have lX_15 : kX < W15.heap.size := Nat.lt_of_lt_of_le lX_14 hba.size
  have rY_15 : Hid (rdI W15 (.slice aY Y.length cY) Y) := hid (rY_14.out.below hba)
  have Y_15 : ∀ o, W15.cell? ⟨kY, o, none⟩ = #[Value.int .i64 P, .slice aY Y.length cY][o]? := fun o => (hba.cell (p := ⟨kY, o, none⟩) lY_14).trans (Y_14 o)
  have lY_15 : kY < W15.heap.size := Nat.lt_of_lt_of_le lY_14 hba.size
  have rB_15 : Hid (ownR 0 W15 (.slice aB B.length cB) B) := hid (rB_14.out.below hba)
  have rV_15 : Hid (rdI W15 (.slice aV rs2.length cV) rs2) := hid (rV_14.out.below hba)
  clear hE_14 r1_14 G_14 lG_14 rL_14 rM_14 r2_14 rA_14 K_14 lK_14 rX_14 X_14 lX_14 rY_14 Y_14 lY_14 rB_14 rV_14
  have V_15 := cn
  have lV_15 := ln
  clear cn ln hba
  refine (l_likeG n2 _ _ rs2 _ (rV_15.out) (r2_15.out)).mono ?_
  rintro e W16 ⟨rfl, hb⟩
  have hE_16 : Hid (Ext w.heap.size w W16) := hid (hE_15.out.below hb)
  have r1_16 : Hid (rdI W16 (.slice a1 rs1.length c1) rs1) := hid (r1_15.out.below hb)
  have G_16 : ∀ o, W16.cell? ⟨kG, o, none⟩ = #[Value.int .i64 n1, .slice a1 rs1.length c1][o]? := fun o => (hb.cell (p := ⟨kG, o, none⟩) lG_15).trans (G_15 o)
  have lG_16 : kG < W16.heap.size := Nat.lt_of_lt_of_le lG_15 hb.size
  have rL_16 : Hid (rdRR W16 (.slice aL Z.length cL) Z) := hid (rL_15.out.below hb)
  have rM_16 : Hid (rdRR W16 (.slice aM Z.length cM) Z) := hid (rM_15.out.below hb)
  have r2_16 : Hid (rdI W16 (.slice a2 rs2.length c2) rs2) := hid (r2_15.out.below hb)
  have rA_16 : Hid (ownR 0 W16 (.slice a3 A.length c3) A) := hid (rA_15.out.below hb)
  have K_16 : ∀ o, W16.cell? ⟨kK, o, none⟩ = #[Value.int .i64 n2, .slice a2 rs2.length c2][o]? := fun o => (hb.cell (p := ⟨kK, o, none⟩) lK_15).trans (K_15 o)
  have lK_16 : kK < W16.heap.size := Nat.lt_of_lt_of_le lK_15 hb.size
  have rX_16 : Hid (rdI W16 (.slice aX Y.length cX) Y) := hid (rX_15.out.below hb)
  have X_16 : ∀ o, W16.cell? ⟨kX, o, none⟩ = #[Value.int .i64 P, .slice aX Y.length cX][o]? := fun o => (hb.cell (p := ⟨kX, o, none⟩) lX_15).trans (X_15 o)
  have lX_16 : kX < W16.heap.size := Nat.lt_of_lt_of_le lX_15 hb.size
  have rY_16 : Hid (rdI W16 (.slice aY Y.length cY) Y) := hid (rY_15.out.below hb)
  have Y_16 : ∀ o, W16.cell? ⟨kY, o, none⟩ = #[Value.int .i64 P, .slice aY Y.length cY][o]? := fun o => (hb.cell (p := ⟨kY, o, none⟩) lY_15).trans (Y_15 o)
  have lY_16 : kY < W16.heap.size := Nat.lt_of_lt_of_le lY_15 hb.size
  have rB_16 : Hid (ownR 0 W16 (.slice aB B.length cB) B) := hid (rB_15.out.below hb)
  have rV_16 : Hid (rdI W16 (.slice aV rs2.length cV) rs2) := hid (rV_15.out.below hb)
  have V_16 : ∀ o, W16.cell? ⟨kV, o, none⟩ = #[Value.int .i64 n2, .slice aV rs2.length cV][o]? := fun o => (hb.cell (p := ⟨kV, o, none⟩) lV_15).trans (V_15 o)
  have lV_16 : kV < W16.heap.size := Nat.lt_of_lt_of_le lV_15 hb.size
  clear hE_15 r1_15 G_15 lG_15 rL_15 rM_15 r2_15 rA_15 K_15 lK_15 rX_15 X_15 lX_15 rY_15 Y_15 lY_15 rB_15 rV_15 V_15 lV_15
  clear hb
  by_cases hC1 : C1 = 0
  case neg =>
    have hCn : (C1 != 0) = true := by simpa using hC1
    go_wp2_with fail
    go_ret
    exact ⟨rfl, hE_16.out.1⟩
  subst hC1
  obtain ⟨hT, hF⟩ := HF.out rfl
  have HT := hid hT
  have HF2 := hid hF
  have hT7 : tot Z ≤ 1000 := by omega
  clear hT hF HF CI CS HJ HV HIV
  go_wp2_with fail
  have hcl : ∀ i, (hi : i < Z.length) → ∃ b o a' c', aL = some ⟨b, o, none⟩ ∧ W16.cell? ⟨b, o + i, none⟩ = some (.slice a' Z[i].length c') ∧ rdI W16 (.slice a' Z[i].length c') Z[i] := fun i hi => by
    obtain ⟨a', c', e, _, hc⟩ := rL_16.out
    injection e with e1 e2 e3
    subst e1
    obtain ⟨b, o, rfl, hcell⟩ := hc (by intro q; rw [q] at hi; simp at hi)
    obtain ⟨e1, q1, q2⟩ := hcell i hi
    obtain ⟨a5, c5, hsh, _, _⟩ := q2.rd
    subst hsh
    exact ⟨b, o, a5, c5, rfl, q1, q2.rd⟩
  have HCL := hid hcl
  have hZm : Z.length ≤ maxLen := by
    obtain ⟨_, _, _, q, _⟩ := rL_16.out
    exact q
  unfold maxLen at hZm
  have hcm : ∀ i, (hi : i < Z.length) → ∃ b o a' c', aM = some ⟨b, o, none⟩ ∧ W16.cell? ⟨b, o + i, none⟩ = some (.slice a' Z[i].length c') ∧ rdI W16 (.slice a' Z[i].length c') Z[i] := fun i hi => by
    obtain ⟨a', c', e, _, hc⟩ := rM_16.out
    injection e with e1 e2 e3
    subst e1
    obtain ⟨b, o, rfl, hcell⟩ := hc (by intro q; rw [q] at hi; simp at hi)
    obtain ⟨e1, q1, q2⟩ := hcell i hi
    obtain ⟨a5, c5, hsh, _, _⟩ := q2.rd
    subst hsh
    exact ⟨b, o, a5, c5, rfl, q1, q2.rd⟩
  have HCM := hid hcm
  have gG := G_16
  have lG := lG_16
  have R1 := hid (r1_16.out)
  have E9 := hid (hE_16.out)
  clear hcl hcm
  go_loopw [18, 19] (fun t i wr => ∃ (k : Nat) (uu : World), wr = aft W16 uu ∧ k ≤ Z.length ∧ i = .int .i64 k ∧ t = .int .i64 (tot (Z.take k) : Nat)) (fun _ i _ => Z.length - (intOf i).toNat)
  case atStart => exact ⟨0, W16, (aft_of (Below.refl _ _)).symm, by omega, rfl, by simp [tot]⟩
  case round =>
    obtain ⟨k, uu, rfl, hk, rfl, rfl⟩ := hrel
    have zs := size_aft W16 uu
    by_cases hlt : k < Z.length
    · obtain ⟨b, o, a5, c5, rfl, h1, hx1⟩ := HCL.out k hlt
      obtain ⟨b', o', a6, c6, rfl, h2, hx2⟩ := HCM.out k hlt
      have h3 := World.block_lt_of_cell? _ _ h1
      have h4 := World.block_lt_of_cell? _ _ h2
      simp only at h3 h4
      obtain ⟨hp1, hp2, hp3⟩ := HF2.out _ (List.getElem_mem hlt)
      obtain ⟨ht1, ht2⟩ := tot_step hlt
      obtain ⟨X, hX⟩ : ∃ X, X = Z[k] := ⟨_, rfl⟩
      obtain ⟨T1, hT1⟩ : ∃ T, T = tot (Z.take k) := ⟨_, rfl⟩
      obtain ⟨T2, hT2⟩ : ∃ T, T = tot (Z.take (k + 1)) := ⟨_, rfl⟩
      rw [← hX] at h1 h2 hx1 hx2 hp1 hp2 hp3 ht1
      rw [← hT2] at ht1 ht2
      rw [← hT1] at ht1 ⊢
      obtain ⟨_, _, e, _, hxc⟩ := hx1
      injection e with e1 e2 e3
      subst e1
      subst e3
      obtain ⟨b2, o2, rfl, hcell⟩ := hxc (by intro q; rw [q] at hp1; simp at hp1)
      have h5 := hcell 0 hp1
      have h6 := World.block_lt_of_cell? _ _ h5
      simp only at h6
      have hmem := hp3 _ (List.getElem_mem hp1)
      obtain ⟨x, hx⟩ : ∃ x, x = X[0] := ⟨_, rfl⟩
      rw [← hx] at h5 hmem
      rw [Nat.add_zero] at h5
      have HME := hid hmem
      have HT1 := hid hT1
      have HT2 := hid hT2
      have HTS := hid ht1
      have hz : (k : Int) < (Z.length : Int) := by omega
      have hz0 : (0 : Int) ≤ (k : Int) := by omega
      obtain ⟨N, hN⟩ : ∃ N, N = X.length := ⟨_, rfl⟩
      obtain ⟨M, hM⟩ : ∃ M, M = rs1.length := ⟨_, rfl⟩
      have HN := hid hN
      have HM := hid hM
      rw [← hN] at hp1 hp2 ht1 h1 h2
      rw [← hM] at hp2
      have hNz : ((N : Int) == 0) = false := by rw [beq_eq_false_iff_ne]; omega
      have hNp : (0 : Int) < (N : Int) := by omega
      have hr1 : (M : Int).tmod (N : Int) = 0 := Int.tmod_eq_zero_of_dvd (Int.ofNat_dvd.2 hp2)
      have hr2 : (M : Int) % (N : Int) = 0 := Int.emod_eq_zero_of_dvd (Int.ofNat_dvd.2 hp2)
      have hr4 : ((rs1.length : Int) % (N : Int) != 0) = false := by rw [← hM, hr2]; rfl
      have hM7 : M ≤ 1000 := by omega
      have hT27 : T2 ≤ 1000 := by omega
      have hTz : (T1 : Int) + (N : Int) = (T2 : Int) := by omega
      have hN7 : N ≤ 1000 := by omega
      have R1' := R1
      clear hx2 hp2 hp3 hxc hcell hmem hx hX hT1 hT2 hN hM hk ht2 R1 ht1 hr1 hr2
      go_wp2_with fail
      refine wp_region_calm (by kernel_rfl) (by kernel_rfl) ?_
      repeat (go_big_quiet_step (first | (go_at_call 45; exact calmp (l_hasI _ rs1 x _ ((R1'.out.aft _).aft _) HME.out))))
      refine wpQuiet_nil ?_; intro uq zq; try simp at zq
      go_wp2_with fail
      go_roundw
      case rel => exact ⟨k + 1, _, (aft_of ((below_aft W16 uu).trans ((below_aft _ _).mono (size_aft W16 uu)))).symm, by omega, by go_num, by rw [← HT2.out]⟩
      case measure => simp only [intOf]; omega
    · obtain rfl : k = Z.length := by omega
      have hltz : ¬ (Z.length : Int) < (Z.length : Int) := by omega
      rw [List.take_length, HT.out]
      go_wp2_with fail
      go_ret
      exact ⟨by first | rfl | simp, E9.out.1.trans ((below_aft W16 uu).mono E9.out.2)⟩
end Go.Proofs.Ytbkbcbanfnhjpaa
