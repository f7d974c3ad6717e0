/- A generated group has its generators, and the number of permutations divides that of all: the law. (Printed by mkW17.py.) -/
import Derived.Test.YtbkbcbanfnhjpaaW16
import Derived.Test.YtbkbcbanfnhjpaaW6
import Derived.Test.YtbkbcbanfnhjpaaV10
import Derived.Test.YtbkbcbanfnhjpaaT12
namespace Go.Proofs.Ytbkbcbanfnhjpaa
open Go Go.RowKit

theorem genV_code {n : Int} {gs : List (List Int)} (h : (genV n gs).2.2 = 0) : ∃ m : Nat, n = (m : Int) ∧ (1 ≤ m ∧ m ≤ 6) ∧ (∀ a ∈ gs, permB a = true ∧ PermP m a) ∧ (genV n gs).1 = genR m gs ∧ (genV n gs).2.1 = n := by
  by_cases hc : genC n gs = 0
  · have e : genV n gs = (genR n.toNat gs, n, 0) := by unfold genV; rw [if_pos hc]
    unfold genC at hc
    split at hc
    · rename_i hn
      have hnb := inB_iff.1 hn
      split at hc
      · exact absurd hc (by decide)
      · split at hc
        · exact absurd hc (by decide)
        · rename_i h1
          split at hc
          · exact absurd hc (by decide)
          · rename_i h2
            obtain ⟨m, rfl⟩ : ∃ m : Nat, n = (m : Int) := ⟨n.toNat, by omega⟩
            refine ⟨m, rfl, by omega, fun a ha => ?_, by rw [e]; simp, by rw [e]⟩
            have hp : permB a = true := by simpa using any_f (p := fun a => !permB a) (by simpa using h1) a ha
            have hl : a.length = m := by
              have := any_f (p := fun a => (a.length : Int) != (m : Int)) (by simpa using h2) a ha
              simp at this
              omega
            obtain ⟨_, _, hr, hnd⟩ := perm_facts hp
            rw [hl] at hr
            exact ⟨hp, ⟨hl, hr⟩, hnd⟩
    · exact absurd hc (by decide)
  · exfalso
    have e : genV n gs = ([], 0, genC n gs) := by unfold genV; rw [if_neg hc]
    rw [e] at h
    exact hc h
theorem count_code (n : Int) (xs : List Int) : groupB n xs = ((countF n xs).2 == 0) := by
  unfold countF
  cases h : groupB n xs <;> simp
/-- The product of 2 .. as far as k. -/
theorem facN_up (k : Nat) : (facN (k + 1) : Int) = (facN k : Int) * ((k + 1 : Nat) : Int) := by
  show (((k + 1) * facN k : Nat) : Int) = _
  rw [Int.natCast_mul, Int.mul_comm]
set_option maxRecDepth 20000 in
set_option maxHeartbeats 32000000 in
theorem law_Groups (a : Option Addr) (len cap : Nat) (w : World) (h : rdB w.heap.size w a len) :
    Calls Try.prog 6 #[.slice a len cap] w fun e w' => e = .returned (.bool true) ∧ Below w.heap.size w w' := by
  by_cases hl : len ≤ 4096
  case neg =>
    have hd : decide ((4096 : Int) < (len : Int)) = true := by simp; omega
    go_enter Try.func6, Try.ntmps6
    go_wp2_with (go_at_call 8; refine pur (l_big _ _ _ _) ?_)
    go_ret
    exact ⟨rfl, (by refine Ext.bel ?_; repeat (with_reducible first | exact Ext.refl _ | apply Ext.alloc | apply Ext.aft | apply Ext.drew | apply Ext.drewN | apply Ext.setCell | exact Nat.le_add_right _ _ | exact Nat.le_refl _ | (simp; done) | omega))⟩
  have hd : decide ((4096 : Int) < (len : Int)) = false := by simp; omega
  have H := hid h
  clear h
  go_enter Try.func6, Try.ntmps6
  go_wp2_with (go_at_call 8; refine pur (l_big _ _ _ _) ?_)
  have hE_0 : Hid (Ext w.heap.size w w) := hid (Ext.refl w)
  refine (s_DrawGenerateGroup w.heap.size a len cap _ (H.out.ext hE_0.out) hl hE_0.out.2).mono ?_
  rintro e W1 ⟨n, v, gs, rfl, hown, hn, hg5, hx7, hb⟩
  have hE_1 : Hid (Ext w.heap.size w W1) := hid (hE_0.out.below hb)
  clear hE_0
  clear hb
  obtain ⟨es, hown⟩ := hown
  obtain ⟨al, cl, hsh⟩ := rowShV hown.2.1
  subst hsh
  have rL_1 : Hid (rdRR W1 (.slice al gs.length cl) gs) := hid (ownRR.rd ⟨es, hown⟩)
  have hx : ∀ xs ∈ gs, xs.length ≤ 1048576 := fun xs hxs => by have := hx7 xs hxs; omega
  have HX := hid hx
  obtain ⟨ys, hys⟩ : ∃ ys, ys = (genV n gs).1 := ⟨_, rfl⟩
  obtain ⟨C, hC⟩ : ∃ C, C = (genV n gs).2.2 := ⟨_, rfl⟩
  obtain ⟨P, hP⟩ : ∃ P, P = (genV n gs).2.1 := ⟨_, rfl⟩
  have hyl : ys.length ≤ 1000 := by rw [hys]; exact genV_len _ _
  have HI : Hid (∀ v W, rdRR W v gs → Calls Try.prog 25 #[.int .i64 n, v] W fun e w' => ∃ g, e = .returned (.tuple #[.agg #[.int .i64 P, g], .int .i64 C]) ∧ ownR W.heap.size w' g ys ∧ Below W.heap.size W w') := hid (by rw [hys, hC, hP]; exact fun v W h => i_GenerateGroup n v gs W h HX.out)
  have HS : Hid (∀ v W, rdRR W v gs → Calls Try.prog 23 #[.int .i64 n, v] W fun e w' => ∃ g, e = .returned (.tuple #[.agg #[.int .i64 P, g], .int .i64 C]) ∧ ownR W.heap.size w' g ys ∧ Below W.heap.size W w') := hid (by rw [hys, hC, hP]; exact fun v W h => s_GenerateGroup n v gs W h HX.out)
  have HV : Hid (C = 0 → ∃ m : Nat, n = (m : Int) ∧ (1 ≤ m ∧ m ≤ 6) ∧ (∀ a ∈ gs, permB a = true ∧ PermP m a) ∧ ys = genR m gs ∧ P = n) := hid fun e => by
    obtain ⟨m, q1, q2, q3, q4, q5⟩ := genV_code (by rw [← hC]; exact e)
    exact ⟨m, q1, q2, q3, by rw [hys, q4], by rw [hP, q5]⟩
  clear hys hC hP hown hx hx7
  go_wp2_with fail
  refine (HI.out _ _ (rL_1.out)).mono ?_
  rintro e W2 ⟨vg, rfl, ho, hb⟩
  have hE_2 : Hid (Ext w.heap.size w W2) := hid (hE_1.out.below hb)
  have rL_2 : Hid (rdRR W2 (.slice al gs.length cl) gs) := hid (rL_1.out.below hb)
  clear hE_1 rL_1
  clear hb
  obtain ⟨ag, cg, hsh, _, _⟩ := ho.rd
  subst hsh
  have rG_2 : Hid (rdI W2 (.slice ag ys.length cg) ys) := hid (ho.rd)
  clear ho
  go_wp2_with fail
  obtain ⟨W3, hW3⟩ : ∃ X, X = W2.alloc (Obj.cells #[Value.int .i64 P, .slice ag ys.length cg] 26) := ⟨_, rfl⟩
  obtain ⟨kG, hkG⟩ : ∃ k, k = W2.heap.size := ⟨_, rfl⟩
  have hba : Below W2.heap.size W2 W3 := by rw [hW3]; exact (Below.refl _ _).alloc (Nat.le_refl _) _
  have cn : ∀ o, W3.cell? ⟨kG, o, none⟩ = #[Value.int .i64 P, .slice ag ys.length cg][o]? := fun o => by rw [hW3, hkG, alloc_cell, if_pos rfl]
  have ln : kG < W3.heap.size := by rw [hW3, hkG]; simp
  rw [← hW3, ← hkG]
  clear hW3 hkG
  have hE_3 : Hid (Ext w.heap.size w W3) := hid (hE_2.out.below hba)
  have rL_3 : Hid (rdRR W3 (.slice al gs.length cl) gs) := hid (rL_2.out.below hba)
  have rG_3 : Hid (rdI W3 (.slice ag ys.length cg) ys) := hid (rG_2.out.below hba)
  clear hE_2 rL_2 rG_2
  have G_3 := cn
  have lG_3 := ln
  clear cn ln hba
  refine (HS.out _ _ (rL_3.out)).mono ?_
  rintro e W4 ⟨vm, rfl, ho, hb⟩
  have hE_4 : Hid (Ext w.heap.size w W4) := hid (hE_3.out.below hb)
  have rL_4 : Hid (rdRR W4 (.slice al gs.length cl) gs) := hid (rL_3.out.below hb)
  have rG_4 : Hid (rdI W4 (.slice ag ys.length cg) ys) := hid (rG_3.out.below hb)
  have G_4 : ∀ o, W4.cell? ⟨kG, o, none⟩ = #[Value.int .i64 P, .slice ag ys.length cg][o]? := fun o => (hb.cell (p := ⟨kG, o, none⟩) lG_3).trans (G_3 o)
  have lG_4 : kG < W4.heap.size := Nat.lt_of_lt_of_le lG_3 hb.size
  clear hE_3 rL_3 rG_3 G_3 lG_3
  clear hb
  obtain ⟨am, cm, hsh, _, _⟩ := ho.rd
  subst hsh
  have rM_4 : Hid (rdI W4 (.slice am ys.length cm) ys) := hid (ho.rd)
  clear ho
  go_wp2_with fail
  obtain ⟨W5, hW5⟩ : ∃ X, X = W4.alloc (Obj.cells #[Value.int .i64 P, .slice am ys.length cm] 26) := ⟨_, rfl⟩
  obtain ⟨kM, hkM⟩ : ∃ k, k = W4.heap.size := ⟨_, rfl⟩
  have hba : Below W4.heap.size W4 W5 := by rw [hW5]; exact (Below.refl _ _).alloc (Nat.le_refl _) _
  have cn : ∀ o, W5.cell? ⟨kM, o, none⟩ = #[Value.int .i64 P, .slice am ys.length cm][o]? := fun o => by rw [hW5, hkM, alloc_cell, if_pos rfl]
  have ln : kM < W5.heap.size := by rw [hW5, hkM]; simp
  rw [← hW5, ← hkM]
  clear hW5 hkM
  have hE_5 : Hid (Ext w.heap.size w W5) := hid (hE_4.out.below hba)
  have rL_5 : Hid (rdRR W5 (.slice al gs.length cl) gs) := hid (rL_4.out.below hba)
  have rG_5 : Hid (rdI W5 (.slice ag ys.length cg) ys) := hid (rG_4.out.below hba)
  have G_5 : ∀ o, W5.cell? ⟨kG, o, none⟩ = #[Value.int .i64 P, .slice ag ys.length cg][o]? := fun o => (hba.cell (p := ⟨kG, o, none⟩) lG_4).trans (G_4 o)
  have lG_5 : kG < W5.heap.size := Nat.lt_of_lt_of_le lG_4 hba.size
  have rM_5 : Hid (rdI W5 (.slice am ys.length cm) ys) := hid (rM_4.out.below hba)
  clear hE_4 rL_4 rG_4 G_4 lG_4 rM_4
  have M_5 := cn
  have lM_5 := ln
  clear cn ln hba
  refine (s_DrawHasPermutation w.heap.size a len cap _ (H.out.ext hE_5.out) hl hE_5.out.2).mono ?_
  rintro e W6 ⟨v, va, A, rfl, hv, hA, hA7, hb⟩
  have hE_6 : Hid (Ext w.heap.size w W6) := hid (hE_5.out.below hb)
  have rL_6 : Hid (rdRR W6 (.slice al gs.length cl) gs) := hid (rL_5.out.below hb)
  have rG_6 : Hid (rdI W6 (.slice ag ys.length cg) ys) := hid (rG_5.out.below hb)
  have G_6 : ∀ o, W6.cell? ⟨kG, o, none⟩ = #[Value.int .i64 P, .slice ag ys.length cg][o]? := fun o => (hb.cell (p := ⟨kG, o, none⟩) lG_5).trans (G_5 o)
  have lG_6 : kG < W6.heap.size := Nat.lt_of_lt_of_le lG_5 hb.size
  have rM_6 : Hid (rdI W6 (.slice am ys.length cm) ys) := hid (rM_5.out.below hb)
  have M_6 : ∀ o, W6.cell? ⟨kM, o, none⟩ = #[Value.int .i64 P, .slice am ys.length cm][o]? := fun o => (hb.cell (p := ⟨kM, o, none⟩) lM_5).trans (M_5 o)
  have lM_6 : kM < W6.heap.size := Nat.lt_of_lt_of_le lM_5 hb.size
  clear hE_5 rL_5 rG_5 G_5 lG_5 rM_5 M_5 lM_5
  clear hb
  obtain ⟨n2, s2, rs2, rfl, hn2, hr2, _, hrl2⟩ := hv
  obtain ⟨a2, c2, hsh2, _, _⟩ := id hr2
  subst hsh2
  obtain ⟨a3, c3, hsh3, _, _⟩ := hA.rd
  subst hsh3
  have r2_6 : Hid (rdI W6 (.slice a2 rs2.length c2) rs2) := hid (hr2)
  have rA_6 : Hid (ownR 0 W6 (.slice a3 A.length c3) A) := hid (hA.mono (Nat.zero_le _))
  obtain ⟨hb2, hc2⟩ : ∃ b c, hasF n2 rs2 A = (b, c) := ⟨_, _, rfl⟩
  obtain ⟨hcc, hcE⟩ := hc2
  have CI : Hid (∀ W, rdI W (.slice a2 rs2.length c2) rs2 → ownR 0 W (.slice a3 A.length c3) A → Calls Try.prog 38 #[.agg #[.int .i64 n2, .slice a2 rs2.length c2], .slice a3 A.length c3] W fun e w' => e = .returned (.tuple #[.bool hb2, .int .i64 hcc]) ∧ Below W.heap.size W w') := hid fun W q1 q2 => by have := i_Has n2 _ _ rs2 A W q1 (by omega) q2 (by omega); rw [hcE] at this; exact this
  have CS : Hid (∀ W, rdI W (.slice a2 rs2.length c2) rs2 → ownR 0 W (.slice a3 A.length c3) A → Calls Try.prog 39 #[.agg #[.int .i64 n2, .slice a2 rs2.length c2], .slice a3 A.length c3] W fun e w' => e = .returned (.tuple #[.bool hb2, .int .i64 hcc]) ∧ Below W.heap.size W w') := hid fun W q1 q2 => by have := s_Has n2 _ _ rs2 A W q1 (by omega) q2 (by omega); rw [hcE] at this; exact this
  clear hr2 hA hcE
  go_wp2_with fail
  obtain ⟨W7, hW7⟩ : ∃ X, X = W6.alloc (Obj.cells #[Value.int .i64 n2, .slice a2 rs2.length c2] 26) := ⟨_, rfl⟩
  obtain ⟨kK, hkK⟩ : ∃ k, k = W6.heap.size := ⟨_, rfl⟩
  have hba : Below W6.heap.size W6 W7 := by rw [hW7]; exact (Below.refl _ _).alloc (Nat.le_refl _) _
  have cn : ∀ o, W7.cell? ⟨kK, o, none⟩ = #[Value.int .i64 n2, .slice a2 rs2.length c2][o]? := fun o => by rw [hW7, hkK, alloc_cell, if_pos rfl]
  have ln : kK < W7.heap.size := by rw [hW7, hkK]; simp
  rw [← hW7, ← hkK]
  clear hW7 hkK
  have hE_7 : Hid (Ext w.heap.size w W7) := hid (hE_6.out.below hba)
  have rL_7 : Hid (rdRR W7 (.slice al gs.length cl) gs) := hid (rL_6.out.below hba)
  have rG_7 : Hid (rdI W7 (.slice ag ys.length cg) ys) := hid (rG_6.out.below hba)
  have G_7 : ∀ o, W7.cell? ⟨kG, o, none⟩ = #[Value.int .i64 P, .slice ag ys.length cg][o]? := fun o => (hba.cell (p := ⟨kG, o, none⟩) lG_6).trans (G_6 o)
  have lG_7 : kG < W7.heap.size := Nat.lt_of_lt_of_le lG_6 hba.size
  have rM_7 : Hid (rdI W7 (.slice am ys.length cm) ys) := hid (rM_6.out.below hba)
  have M_7 : ∀ o, W7.cell? ⟨kM, o, none⟩ = #[Value.int .i64 P, .slice am ys.length cm][o]? := fun o => (hba.cell (p := ⟨kM, o, none⟩) lM_6).trans (M_6 o)
  have lM_7 : kM < W7.heap.size := Nat.lt_of_lt_of_le lM_6 hba.size
  have r2_7 : Hid (rdI W7 (.slice a2 rs2.length c2) rs2) := hid (r2_6.out.below hba)
  have rA_7 : Hid (ownR 0 W7 (.slice a3 A.length c3) A) := hid (rA_6.out.below hba)
  clear hE_6 rL_6 rG_6 G_6 lG_6 rM_6 M_6 lM_6 r2_6 rA_6
  have K_7 := cn
  have lK_7 := ln
  clear cn ln hba
  refine (CI.out _ (r2_7.out) (rA_7.out)).mono ?_
  rintro e W8 ⟨rfl, hb⟩
  have hE_8 : Hid (Ext w.heap.size w W8) := hid (hE_7.out.below hb)
  have rL_8 : Hid (rdRR W8 (.slice al gs.length cl) gs) := hid (rL_7.out.below hb)
  have rG_8 : Hid (rdI W8 (.slice ag ys.length cg) ys) := hid (rG_7.out.below hb)
  have G_8 : ∀ o, W8.cell? ⟨kG, o, none⟩ = #[Value.int .i64 P, .slice ag ys.length cg][o]? := fun o => (hb.cell (p := ⟨kG, o, none⟩) lG_7).trans (G_7 o)
  have lG_8 : kG < W8.heap.size := Nat.lt_of_lt_of_le lG_7 hb.size
  have rM_8 : Hid (rdI W8 (.slice am ys.length cm) ys) := hid (rM_7.out.below hb)
  have M_8 : ∀ o, W8.cell? ⟨kM, o, none⟩ = #[Value.int .i64 P, .slice am ys.length cm][o]? := fun o => (hb.cell (p := ⟨kM, o, none⟩) lM_7).trans (M_7 o)
  have lM_8 : kM < W8.heap.size := Nat.lt_of_lt_of_le lM_7 hb.size
  have r2_8 : Hid (rdI W8 (.slice a2 rs2.length c2) rs2) := hid (r2_7.out.below hb)
  have rA_8 : Hid (ownR 0 W8 (.slice a3 A.length c3) A) := hid (rA_7.out.below hb)
  have K_8 : ∀ o, W8.cell? ⟨kK, o, none⟩ = #[Value.int .i64 n2, .slice a2 rs2.length c2][o]? := fun o => (hb.cell (p := ⟨kK, o, none⟩) lK_7).trans (K_7 o)
  have lK_8 : kK < W8.heap.size := Nat.lt_of_lt_of_le lK_7 hb.size
  clear hE_7 rL_7 rG_7 G_7 lG_7 rM_7 M_7 lM_7 r2_7 rA_7 K_7 lK_7
  clear hb
  go_wp2_with fail
  refine (CS.out _ (r2_8.out) (rA_8.out)).mono ?_
  rintro e W9 ⟨rfl, hb⟩
  have hE_9 : Hid (Ext w.heap.size w W9) := hid (hE_8.out.below hb)
  have rL_9 : Hid (rdRR W9 (.slice al gs.length cl) gs) := hid (rL_8.out.below hb)
  have rG_9 : Hid (rdI W9 (.slice ag ys.length cg) ys) := hid (rG_8.out.below hb)
  have G_9 : ∀ o, W9.cell? ⟨kG, o, none⟩ = #[Value.int .i64 P, .slice ag ys.length cg][o]? := fun o => (hb.cell (p := ⟨kG, o, none⟩) lG_8).trans (G_8 o)
  have lG_9 : kG < W9.heap.size := Nat.lt_of_lt_of_le lG_8 hb.size
  have rM_9 : Hid (rdI W9 (.slice am ys.length cm) ys) := hid (rM_8.out.below hb)
  have M_9 : ∀ o, W9.cell? ⟨kM, o, none⟩ = #[Value.int .i64 P, .slice am ys.length cm][o]? := fun o => (hb.cell (p := ⟨kM, o, none⟩) lM_8).trans (M_8 o)
  have lM_9 : kM < W9.heap.size := Nat.lt_of_lt_of_le lM_8 hb.size
  have r2_9 : Hid (rdI W9 (.slice a2 rs2.length c2) rs2) := hid (r2_8.out.below hb)
  have rA_9 : Hid (ownR 0 W9 (.slice a3 A.length c3) A) := hid (rA_8.out.below hb)
  have K_9 : ∀ o, W9.cell? ⟨kK, o, none⟩ = #[Value.int .i64 n2, .slice a2 rs2.length c2][o]? := fun o => (hb.cell (p := ⟨kK, o, none⟩) lK_8).trans (K_8 o)
  have lK_9 : kK < W9.heap.size := Nat.lt_of_lt_of_le lK_8 hb.size
  clear hE_8 rL_8 rG_8 G_8 lG_8 rM_8 M_8 lM_8 r2_8 rA_8 K_8 lK_8
  clear hb
  go_wp2_with fail
  refine (s_DrawCountElements w.heap.size a len cap _ (H.out.ext hE_9.out) hl hE_9.out.2).mono ?_
  rintro e W10 ⟨v, rfl, hv, hb⟩
  have hE_10 : Hid (Ext w.heap.size w W10) := hid (hE_9.out.below hb)
  have rL_10 : Hid (rdRR W10 (.slice al gs.length cl) gs) := hid (rL_9.out.below hb)
  have rG_10 : Hid (rdI W10 (.slice ag ys.length cg) ys) := hid (rG_9.out.below hb)
  have G_10 : ∀ o, W10.cell? ⟨kG, o, none⟩ = #[Value.int .i64 P, .slice ag ys.length cg][o]? := fun o => (hb.cell (p := ⟨kG, o, none⟩) lG_9).trans (G_9 o)
  have lG_10 : kG < W10.heap.size := Nat.lt_of_lt_of_le lG_9 hb.size
  have rM_10 : Hid (rdI W10 (.slice am ys.length cm) ys) := hid (rM_9.out.below hb)
  have M_10 : ∀ o, W10.cell? ⟨kM, o, none⟩ = #[Value.int .i64 P, .slice am ys.length cm][o]? := fun o => (hb.cell (p := ⟨kM, o, none⟩) lM_9).trans (M_9 o)
  have lM_10 : kM < W10.heap.size := Nat.lt_of_lt_of_le lM_9 hb.size
  have r2_10 : Hid (rdI W10 (.slice a2 rs2.length c2) rs2) := hid (r2_9.out.below hb)
  have rA_10 : Hid (ownR 0 W10 (.slice a3 A.length c3) A) := hid (rA_9.out.below hb)
  have K_10 : ∀ o, W10.cell? ⟨kK, o, none⟩ = #[Value.int .i64 n2, .slice a2 rs2.length c2][o]? := fun o => (hb.cell (p := ⟨kK, o, none⟩) lK_9).trans (K_9 o)
  have lK_10 : kK < W10.heap.size := Nat.lt_of_lt_of_le lK_9 hb.size
  clear hE_9 rL_9 rG_9 G_9 lG_9 rM_9 M_9 lM_9 r2_9 rA_9 K_9 lK_9
  clear hb
  obtain ⟨n4, s4, rs4, rfl, hn4, hr4, _, hrl4⟩ := hv
  obtain ⟨a4, c4, hsh4, _, _⟩ := id hr4
  subst hsh4
  have r4_10 : Hid (rdI W10 (.slice a4 rs4.length c4) rs4) := hid (hr4)
  obtain ⟨q1, q2, hcE⟩ : ∃ b c, countF n4 rs4 = (b, c) := ⟨_, _, rfl⟩
  have DI : Hid (∀ W, rdI W (.slice a4 rs4.length c4) rs4 → Calls Try.prog 41 #[.agg #[.int .i64 n4, .slice a4 rs4.length c4]] W fun e w' => e = .returned (.tuple #[.int .i64 q1, .int .i64 q2]) ∧ Below W.heap.size W w') := hid fun W q => by have := i_Count n4 _ rs4 W q (by omega); rw [hcE] at this; exact this
  have DS : Hid (∀ W, rdI W (.slice a4 rs4.length c4) rs4 → Calls Try.prog 42 #[.agg #[.int .i64 n4, .slice a4 rs4.length c4]] W fun e w' => e = .returned (.tuple #[.int .i64 q1, .int .i64 q2]) ∧ Below W.heap.size W w') := hid fun W q => by have := s_Count n4 _ rs4 W q (by omega); rw [hcE] at this; exact this
  have hgc : groupB n4 rs4 = (q2 == 0) := by rw [count_code, hcE]
  have HGC := hid hgc
  clear hr4 hcE hgc
  go_wp2_with fail
  obtain ⟨W11, hW11⟩ : ∃ X, X = W10.alloc (Obj.cells #[Value.int .i64 n4, .slice a4 rs4.length c4] 26) := ⟨_, rfl⟩
  obtain ⟨kN, hkN⟩ : ∃ k, k = W10.heap.size := ⟨_, rfl⟩
  have hba : Below W10.heap.size W10 W11 := by rw [hW11]; exact (Below.refl _ _).alloc (Nat.le_refl _) _
  have cn : ∀ o, W11.cell? ⟨kN, o, none⟩ = #[Value.int .i64 n4, .slice a4 rs4.length c4][o]? := fun o => by rw [hW11, hkN, alloc_cell, if_pos rfl]
  have ln : kN < W11.heap.size := by rw [hW11, hkN]; simp
  rw [← hW11, ← hkN]
  clear hW11 hkN
  have hE_11 : Hid (Ext w.heap.size w W11) := hid (hE_10.out.below hba)
  have rL_11 : Hid (rdRR W11 (.slice al gs.length cl) gs) := hid (rL_10.out.below hba)
  have rG_11 : Hid (rdI W11 (.slice ag ys.length cg) ys) := hid (rG_10.out.below hba)
  have G_11 : ∀ o, W11.cell? ⟨kG, o, none⟩ = #[Value.int .i64 P, .slice ag ys.length cg][o]? := fun o => (hba.cell (p := ⟨kG, o, none⟩) lG_10).trans (G_10 o)
  have lG_11 : kG < W11.heap.size := Nat.lt_of_lt_of_le lG_10 hba.size
  have rM_11 : Hid (rdI W11 (.slice am ys.length cm) ys) := hid (rM_10.out.below hba)
  have M_11 : ∀ o, W11.cell? ⟨kM, o, none⟩ = #[Value.int .i64 P, .slice am ys.length cm][o]? := fun o => (hba.cell (p := ⟨kM, o, none⟩) lM_10).trans (M_10 o)
  have lM_11 : kM < W11.heap.size := Nat.lt_of_lt_of_le lM_10 hba.size
  have r2_11 : Hid (rdI W11 (.slice a2 rs2.length c2) rs2) := hid (r2_10.out.below hba)
  have rA_11 : Hid (ownR 0 W11 (.slice a3 A.length c3) A) := hid (rA_10.out.below hba)
  have K_11 : ∀ o, W11.cell? ⟨kK, o, none⟩ = #[Value.int .i64 n2, .slice a2 rs2.length c2][o]? := fun o => (hba.cell (p := ⟨kK, o, none⟩) lK_10).trans (K_10 o)
  have lK_11 : kK < W11.heap.size := Nat.lt_of_lt_of_le lK_10 hba.size
  have r4_11 : Hid (rdI W11 (.slice a4 rs4.length c4) rs4) := hid (r4_10.out.below hba)
  clear hE_10 rL_10 rG_10 G_10 lG_10 rM_10 M_10 lM_10 r2_10 rA_10 K_10 lK_10 r4_10
  have N_11 := cn
  have lN_11 := ln
  clear cn ln hba
  refine (DI.out _ (r4_11.out)).mono ?_
  rintro e W12 ⟨rfl, hb⟩
  have hE_12 : Hid (Ext w.heap.size w W12) := hid (hE_11.out.below hb)
  have rL_12 : Hid (rdRR W12 (.slice al gs.length cl) gs) := hid (rL_11.out.below hb)
  have rG_12 : Hid (rdI W12 (.slice ag ys.length cg) ys) := hid (rG_11.out.below hb)
  have G_12 : ∀ o, W12.cell? ⟨kG, o, none⟩ = #[Value.int .i64 P, .slice ag ys.length cg][o]? := fun o => (hb.cell (p := ⟨kG, o, none⟩) lG_11).trans (G_11 o)
  have lG_12 : kG < W12.heap.size := Nat.lt_of_lt_of_le lG_11 hb.size
  have rM_12 : Hid (rdI W12 (.slice am ys.length cm) ys) := hid (rM_11.out.below hb)
  have M_12 : ∀ o, W12.cell? ⟨kM, o, none⟩ = #[Value.int .i64 P, .slice am ys.length cm][o]? := fun o => (hb.cell (p := ⟨kM, o, none⟩) lM_11).trans (M_11 o)
  have lM_12 : kM < W12.heap.size := Nat.lt_of_lt_of_le lM_11 hb.size
  have r2_12 : Hid (rdI W12 (.slice a2 rs2.length c2) rs2) := hid (r2_11.out.below hb)
  have rA_12 : Hid (ownR 0 W12 (.slice a3 A.length c3) A) := hid (rA_11.out.below hb)
  have K_12 : ∀ o, W12.cell? ⟨kK, o, none⟩ = #[Value.int .i64 n2, .slice a2 rs2.length c2][o]? := fun o => (hb.cell (p := ⟨kK, o, none⟩) lK_11).trans (K_11 o)
  have lK_12 : kK < W12.heap.size := Nat.lt_of_lt_of_le lK_11 hb.size
  have r4_12 : Hid (rdI W12 (.slice a4 rs4.length c4) rs4) := hid (r4_11.out.below hb)
  have N_12 : ∀ o, W12.cell? ⟨kN, o, none⟩ = #[Value.int .i64 n4, .slice a4 rs4.length c4][o]? := fun o => (hb.cell (p := ⟨kN, o, none⟩) lN_11).trans (N_11 o)
  have lN_12 : kN < W12.heap.size := Nat.lt_of_lt_of_le lN_11 hb.size
  clear hE_11 rL_11 rG_11 G_11 lG_11 rM_11 M_11 lM_11 r2_11 rA_11 K_11 lK_11 r4_11 N_11 lN_11
  clear hb
  go_wp2_with fail
  refine (DS.out _ (r4_12.out)).mono ?_
  rintro e W13 ⟨rfl, hb⟩
  have hE_13 : Hid (Ext w.heap.size w W13) := hid (hE_12.out.below hb)
  have rL_13 : Hid (rdRR W13 (.slice al gs.length cl) gs) := hid (rL_12.out.below hb)
  have rG_13 : Hid (rdI W13 (.slice ag ys.length cg) ys) := hid (rG_12.out.below hb)
  have G_13 : ∀ o, W13.cell? ⟨kG, o, none⟩ = #[Value.int .i64 P, .slice ag ys.length cg][o]? := fun o => (hb.cell (p := ⟨kG, o, none⟩) lG_12).trans (G_12 o)
  have lG_13 : kG < W13.heap.size := Nat.lt_of_lt_of_le lG_12 hb.size
  have rM_13 : Hid (rdI W13 (.slice am ys.length cm) ys) := hid (rM_12.out.below hb)
  have M_13 : ∀ o, W13.cell? ⟨kM, o, none⟩ = #[Value.int .i64 P, .slice am ys.length cm][o]? := fun o => (hb.cell (p := ⟨kM, o, none⟩) lM_12).trans (M_12 o)
  have lM_13 : kM < W13.heap.size := Nat.lt_of_lt_of_le lM_12 hb.size
  have r2_13 : Hid (rdI W13 (.slice a2 rs2.length c2) rs2) := hid (r2_12.out.below hb)
  have rA_13 : Hid (ownR 0 W13 (.slice a3 A.length c3) A) := hid (rA_12.out.below hb)
  have K_13 : ∀ o, W13.cell? ⟨kK, o, none⟩ = #[Value.int .i64 n2, .slice a2 rs2.length c2][o]? := fun o => (hb.cell (p := ⟨kK, o, none⟩) lK_12).trans (K_12 o)
  have lK_13 : kK < W13.heap.size := Nat.lt_of_lt_of_le lK_12 hb.size
  have r4_13 : Hid (rdI W13 (.slice a4 rs4.length c4) rs4) := hid (r4_12.out.below hb)
  have N_13 : ∀ o, W13.cell? ⟨kN, o, none⟩ = #[Value.int .i64 n4, .slice a4 rs4.length c4][o]? := fun o => (hb.cell (p := ⟨kN, o, none⟩) lN_12).trans (N_12 o)
  have lN_13 : kN < W13.heap.size := Nat.lt_of_lt_of_le lN_12 hb.size
  clear hE_12 rL_12 rG_12 G_12 lG_12 rM_12 M_12 lM_12 r2_12 rA_12 K_12 lK_12 r4_12 N_12 lN_12
  clear hb
  go_wp2_with fail
  refine (l_likeG P _ _ ys _ (rG_13.out) (rM_13.out)).mono ?_
  rintro e W14 ⟨rfl, hb⟩
  have hE_14 : Hid (Ext w.heap.size w W14) := hid (hE_13.out.below hb)
  have rL_14 : Hid (rdRR W14 (.slice al gs.length cl) gs) := hid (rL_13.out.below hb)
  have rG_14 : Hid (rdI W14 (.slice ag ys.length cg) ys) := hid (rG_13.out.below hb)
  have G_14 : ∀ o, W14.cell? ⟨kG, o, none⟩ = #[Value.int .i64 P, .slice ag ys.length cg][o]? := fun o => (hb.cell (p := ⟨kG, o, none⟩) lG_13).trans (G_13 o)
  have lG_14 : kG < W14.heap.size := Nat.lt_of_lt_of_le lG_13 hb.size
  have rM_14 : Hid (rdI W14 (.slice am ys.length cm) ys) := hid (rM_13.out.below hb)
  have M_14 : ∀ o, W14.cell? ⟨kM, o, none⟩ = #[Value.int .i64 P, .slice am ys.length cm][o]? := fun o => (hb.cell (p := ⟨kM, o, none⟩) lM_13).trans (M_13 o)
  have lM_14 : kM < W14.heap.size := Nat.lt_of_lt_of_le lM_13 hb.size
  have r2_14 : Hid (rdI W14 (.slice a2 rs2.length c2) rs2) := hid (r2_13.out.below hb)
  have rA_14 : Hid (ownR 0 W14 (.slice a3 A.length c3) A) := hid (rA_13.out.below hb)
  have K_14 : ∀ o, W14.cell? ⟨kK, o, none⟩ = #[Value.int .i64 n2, .slice a2 rs2.length c2][o]? := fun o => (hb.cell (p := ⟨kK, o, none⟩) lK_13).trans (K_13 o)
  have lK_14 : kK < W14.heap.size := Nat.lt_of_lt_of_le lK_13 hb.size
  have r4_14 : Hid (rdI W14 (.slice a4 rs4.length c4) rs4) := hid (r4_13.out.below hb)
  have N_14 : ∀ o, W14.cell? ⟨kN, o, none⟩ = #[Value.int .i64 n4, .slice a4 rs4.length c4][o]? := fun o => (hb.cell (p := ⟨kN, o, none⟩) lN_13).trans (N_13 o)
  have lN_14 : kN < W14.heap.size := Nat.lt_of_lt_of_le lN_13 hb.size
  clear hE_13 rL_13 rG_13 G_13 lG_13 rM_13 M_13 lM_13 r2_13 rA_13 K_13 lK_13 r4_13 N_13 lN_13
  clear hb
  go_wp2_with fail
  refine (i_IsGroupE n4 _ rs4 _ (q2 == 0) (r4_14.out) (by omega) HGC.out).mono ?_
  rintro e W15 ⟨rfl, hb⟩
  have hE_15 : Hid (Ext w.heap.size w W15) := hid (hE_14.out.below hb)
  have rL_15 : Hid (rdRR W15 (.slice al gs.length cl) gs) := hid (rL_14.out.below hb)
  have rG_15 : Hid (rdI W15 (.slice ag ys.length cg) ys) := hid (rG_14.out.below hb)
  have G_15 : ∀ o, W15.cell? ⟨kG, o, none⟩ = #[Value.int .i64 P, .slice ag ys.length cg][o]? := fun o => (hb.cell (p := ⟨kG, o, none⟩) lG_14).trans (G_14 o)
  have lG_15 : kG < W15.heap.size := Nat.lt_of_lt_of_le lG_14 hb.size
  have rM_15 : Hid (rdI W15 (.slice am ys.length cm) ys) := hid (rM_14.out.below hb)
  have M_15 : ∀ o, W15.cell? ⟨kM, o, none⟩ = #[Value.int .i64 P, .slice am ys.length cm][o]? := fun o => (hb.cell (p := ⟨kM, o, none⟩) lM_14).trans (M_14 o)
  have lM_15 : kM < W15.heap.size := Nat.lt_of_lt_of_le lM_14 hb.size
  have r2_15 : Hid (rdI W15 (.slice a2 rs2.length c2) rs2) := hid (r2_14.out.below hb)
  have rA_15 : Hid (ownR 0 W15 (.slice a3 A.length c3) A) := hid (rA_14.out.below hb)
  have K_15 : ∀ o, W15.cell? ⟨kK, o, none⟩ = #[Value.int .i64 n2, .slice a2 rs2.length c2][o]? := fun o => (hb.cell (p := ⟨kK, o, none⟩) lK_14).trans (K_14 o)
  have lK_15 : kK < W15.heap.size := Nat.lt_of_lt_of_le lK_14 hb.size
  have r4_15 : Hid (rdI W15 (.slice a4 rs4.length c4) rs4) := hid (r4_14.out.below hb)
  have N_15 : ∀ o, W15.cell? ⟨kN, o, none⟩ = #[Value.int .i64 n4, .slice a4 rs4.length c4][o]? := fun o => (hb.cell (p := ⟨kN, o, none⟩) lN_14).trans (N_14 o)
  have lN_15 : kN < W15.heap.size := Nat.lt_of_lt_of_le lN_14 hb.size
  clear hE_14 rL_14 rG_14 G_14 lG_14 rM_14 M_14 lM_14 r2_14 rA_14 K_14 lK_14 r4_14 N_14 lN_14
  clear hb
  by_cases hC0 : C = 0
  case neg =>
    have hC1 : (C != 0) = true := by simpa using hC0
    go_wp2_with fail
    go_ret
    exact ⟨rfl, hE_15.out.1⟩
  subst hC0
  obtain ⟨m, hnm, hm, hpm, hyg, hPn⟩ := HV.out rfl
  subst hnm
  have HPM := hid hpm
  have HYG := hid hyg
  clear hpm hyg HV HI HS
  go_wp2_with fail
  have hgm : ∀ i, (hi : i < gs.length) → ∃ b o e1, al = some ⟨b, o, none⟩ ∧ W15.cell? ⟨b, o + i, none⟩ = some e1 ∧ ownR 0 W15 e1 gs[i] := fun i hi => by
    obtain ⟨a', c', e, _, hc⟩ := rL_15.out
    injection e with e1 e2 e3
    subst e1
    obtain ⟨b, o, rfl, hcell⟩ := hc (by intro q; rw [q] at hi; simp at hi)
    obtain ⟨e1, q1, q2⟩ := hcell i hi
    exact ⟨b, o, e1, rfl, q1, q2⟩
  have HGM := hid hgm
  have hg5' : gs.length ≤ 5 := hg5
  clear hgm
  go_loopw [20] (fun i wr => ∃ k : Nat, k ≤ gs.length ∧ i = .int .i64 k ∧ Hid (Below W15.heap.size W15 wr)) (fun i _ => gs.length - (intOf i).toNat)
  case atStart => exact ⟨0, by omega, rfl, hid (Below.refl _ _)⟩
  case round =>
    obtain ⟨k, hk, rfl, HB⟩ := hrel
    have E9 := hid (hE_15.out.below HB.out)
    have gG : ∀ o, wr.cell? ⟨kG, o, none⟩ = #[Value.int .i64 P, .slice ag ys.length cg][o]? := fun o => (HB.out.cell (p := ⟨kG, o, none⟩) lG_15).trans (G_15 o)
    have gM : ∀ o, wr.cell? ⟨kM, o, none⟩ = #[Value.int .i64 P, .slice am ys.length cm][o]? := fun o => (HB.out.cell (p := ⟨kM, o, none⟩) lM_15).trans (M_15 o)
    have lG : kG < wr.heap.size := Nat.lt_of_lt_of_le lG_15 HB.out.size
    have RG := hid (rG_15.out.below HB.out)
    by_cases hlt : k < gs.length
    · have hltz : (k : Int) < (gs.length : Int) := by omega
      obtain ⟨b, o, e1, rfl, c1, ho1⟩ := HGM.out k hlt
      have hb1 := World.block_lt_of_cell? _ _ c1
      simp only at hb1
      have c2 := (HB.out.cell (p := ⟨b, o + k, none⟩) hb1).trans c1
      have ho2 := ho1.below HB.out
      obtain ⟨hp1, hp2⟩ := HPM.out _ (List.getElem_mem hlt)
      have hmem : rankF gs[k] ∈ ys := by
        rw [HYG.out]
        unfold genR
        have h1 := genM_gen (n := m) (gs := gs) (fun a ha => (HPM.out a ha).2) _ (List.getElem_mem hlt)
        exact listedU_mem.2 ⟨hp2.1.rk.1, hp2.1.rk.2, h1⟩
      obtain ⟨X, hX⟩ : ∃ X, X = gs[k] := ⟨_, rfl⟩
      rw [← hX] at ho2 hp1 hmem
      obtain ⟨q, hq⟩ : ∃ q, rankF X = q := ⟨_, rfl⟩
      rw [hq] at hmem
      have HQ := hid hq
      have HO := hid ho2
      have HP := hid hp1
      have HME := hid hmem
      clear ho1 ho2 hp1 hp2 hmem hX hq c1
      go_wp2_with fail
      refine (i_RankOf e1 X _ q HO.out HP.out HQ.out).mono ?_
      rintro e Wn ⟨rfl, hb⟩
      have gG2 : ∀ o, Wn.cell? ⟨kG, o, none⟩ = #[Value.int .i64 P, .slice ag ys.length cg][o]? := fun o => (hb.cell (p := ⟨kG, o, none⟩) lG).trans (gG o)
      have RG2 := hid (RG.out.below hb)
      have HB2 := hid (HB.out.trans (hb.mono HB.out.size))
      clear hb
      go_wp2_with fail
      refine pur (l_hasI _ ys q _ RG2.out HME.out) ?_
      go_wp2_with fail
      go_roundw
      case rel => exact ⟨k + 1, by omega, by go_num, HB2⟩
      case measure => simp only [intOf]; omega
    · obtain rfl : k = gs.length := by omega
      have hltz : ¬ (gs.length : Int) < (gs.length : Int) := by omega
      obtain ⟨hpos, hdvd⟩ := genR_dvd (n := m) (gs := gs) (by omega) (fun a ha => (HPM.out a ha).2)
      rw [← HYG.out] at hpos hdvd
      have hposz : (0 : Int) < (ys.length : Int) := by omega
      have hyz : ((ys.length : Int) == 0) = false := by rw [beq_eq_false_iff_ne]; omega
      have hrem : (((facN m : Nat) : Int).tmod (ys.length : Int) == 0) = true := by
        rw [beq_iff_eq]
        exact Int.tmod_eq_zero_of_dvd (Int.ofNat_dvd.2 hdvd)
      have hrem2 : ((facN m : Nat) : Int) % (ys.length : Int) = 0 := Int.emod_eq_zero_of_dvd (Int.ofNat_dvd.2 hdvd)
      have hf7 := facN_le (show m ≤ 6 by omega)
      obtain ⟨F, hF⟩ : ∃ F, F = facN m := ⟨_, rfl⟩
      have HF := hid hF
      rw [← hF] at hrem hrem2 hf7
      clear hdvd hF
      go_wp2_with fail
      go_loop [23, 24] (fun p i => ∃ j : Nat, (1 ≤ j ∧ j ≤ m) ∧ i = .int .i64 ((j : Int) + 1) ∧ p = .int .i64 (facN j : Int)) (fun _ i => 8 - (intOf i).toNat)
      case atStart => exact ⟨1, by omega, by rfl, by rfl⟩
      case round =>
        obtain ⟨j, hj, rfl, rfl⟩ := hrel
        have hfj := facN_le (show j ≤ 6 by omega)
        by_cases hjm : j < m
        · have hjz : (j : Int) + 1 ≤ (m : Int) := by omega
          have hup := facN_up j
          have hfj2 := facN_le (show j + 1 ≤ 6 by omega)
          obtain ⟨G2, hG2⟩ : ∃ G2, G2 = facN j := ⟨_, rfl⟩
          obtain ⟨G3, hG3⟩ : ∃ G3, G3 = facN (j + 1) := ⟨_, rfl⟩
          rw [← hG2] at hup hfj ⊢
          rw [← hG3] at hup hfj2
          have hG3' := hid hG3
          have hup2 : (G2 : Int) * ((j : Int) + 1) = (G3 : Int) := by rw [hup]; simp
          clear hup hG2 hG3
          go_wp2_with fail
          go_round
          case rel => exact ⟨j + 1, by omega, by go_num, by rw [← hG3'.out]⟩
          case measure => simp only [intOf]; omega
        · obtain rfl : j = m := by omega
          have hjz : ¬ (j : Int) + 1 ≤ (j : Int) := by omega
          rw [← HF.out]
          go_wp2_with fail
          go_ret
          exact ⟨by first | rfl | (simp; done) | simp [hrem2], E9.out.1⟩
end Go.Proofs.Ytbkbcbanfnhjpaa
