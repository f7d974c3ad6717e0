/- SimpleRoots: both texts. -/
import Derived.Test.YtganmeiaflkkoaaZC
namespace Go.Proofs.Ytganmeiaflkkoaa
open Go Go.RowKit

set_option maxRecDepth 20000 in
set_option maxHeartbeats 8000000 in
theorem i_SimpleRoots (p n : Int) (r : Value) (xs : List Int) (w : World) (h : rdI w r xs) :
    Calls Try.prog 26 #[(.agg #[.int .i64 p, .int .i64 n]), r] w fun e w' => ∃ v, e = .returned (.tuple #[v, .int .i64 (simF p n xs).2]) ∧ ownR w.heap.size w' v (simF p n xs).1 ∧ Below w.heap.size w w' := by
  have H := hid h
  cases h1 : ringB p n
  · have e : (simF p n xs) = ([], 1) := by simp [simF, h1]
    rw [e]; clear e
    go_enter Try.func26, Try.ntmps26
    go_wp2_with (first | (go_at_call 51; refine via (i_IsRing _ _ _) ?_; intro uu zz; try simp at zz))
    go_ret2
    exact ⟨.slice none 0 0, rfl, ownR.nil _ _, (by refine Ext.bel ?_; repeat (with_reducible first | exact Ext.refl _ | apply Ext.alloc | apply Ext.aft | apply Ext.drew | apply Ext.drewN | apply Ext.setCell | exact Nat.le_add_right _ _ | exact Nat.le_refl _ | (simp; done) | omega))⟩
  cases h2 : polyB xs
  · have e : (simF p n xs) = ([], 1) := by simp [simF, h2]
    rw [e]; clear e
    go_enter Try.func26, Try.ntmps26
    go_wp2_with (first | (go_at_call 51; refine via (i_IsRing _ _ _) ?_; intro uu zz; try simp at zz) | (go_at_call 52; refine via (i_IsPolynomial _ xs _ (by repeat (with_reducible first | assumption | apply rdI.aft | apply rdI.alloc | apply rdI.drew | apply rdI.drewN))) ?_; intro uu zz; try simp at zz) | (go_at_call 52; refine pur (i_IsPolynomial _ xs _ (by repeat (with_reducible first | assumption | apply rdI.aft | apply rdI.alloc | apply rdI.drew | apply rdI.drewN))) ?_))
    go_ret2
    exact ⟨.slice none 0 0, rfl, ownR.nil _ _, (by refine Ext.bel ?_; repeat (with_reducible first | exact Ext.refl _ | apply Ext.alloc | apply Ext.aft | apply Ext.drew | apply Ext.drewN | apply Ext.setCell | exact Nat.le_add_right _ _ | exact Nat.le_refl _ | (simp; done) | omega))⟩
  have e : (simF p n xs) = (simL p n xs p.toNat, 0) := by simp [simF, h1, h2]
  rw [e]; clear e
  obtain ⟨r1, r2, r3, r4, _, _, _⟩ := ring_facts2 h1
  obtain ⟨i0, hi, hz0, hz1, hz2⟩ := info_parts infoI
  obtain ⟨P, rfl⟩ : ∃ P : Nat, p = (P : Int) := ⟨p.toNat, by omega⟩
  have HR := hid h1
  have HPO := hid h2
  have hP : 2 ≤ P ∧ P ≤ 97 := by omega
  rw [Int.toNat_natCast]
  go_enter Try.func26, Try.ntmps26
  go_wp2_with fail
  refine via (i_IsRing _ _ _) ?_
  intro u1 z1
  try simp at z1
  go_wp2_with fail
  refine via (i_IsPolynomial _ xs _ ((H.out.alloc _).aft _)) ?_
  intro u2 z2
  try simp at z2
  go_wp2_with fail
  obtain ⟨W0, hW0⟩ : ∃ W0, W0 = aft (aft (w.alloc (Obj.cells #[.int .i64 P, .int .i64 n] 25)) u1) u2 := ⟨_, rfl⟩
  have c0 : ∀ o, W0.cell? ⟨w.heap.size, o, none⟩ = #[Value.int .i64 P, .int .i64 n][o]? := fun o => by rw [hW0]; rw [aft_cell, if_pos (by omega), aft_cell, if_pos (by simp), alloc_cell, if_pos rfl]
  have E0 : Hid (Ext w.heap.size w W0) := hid (by rw [hW0]; exact (((Ext.refl w).alloc _).aft _).aft _)
  have l0 : w.heap.size < W0.heap.size := by rw [hW0]; omega
  have R0 : Hid (rdI W0 r xs) := hid (by rw [hW0]; exact ((H.out.alloc _).aft _).aft _)
  rw [← hW0]
  clear hW0
  go_loopw [6, 20] (fun v i wr => ∃ (k : Nat) (uu : World), wr = aft W0 uu ∧ k ≤ P ∧ i = .int .i64 k ∧ Hid (ownR W0.heap.size wr v (simL (P : Int) n xs k))) (fun _ i _ => P - (intOf i).toNat)
  case atStart => exact ⟨0, _, (aft_of (Below.refl _ _)).symm, by omega, rfl, hid (ownR.nil _ _)⟩
  case round =>
    obtain ⟨k, uu, rfl, hk, rfl, HO⟩ := hrel
    have zs := size_aft W0 uu
    have HSL := hid (simL_len (P : Int) n xs k)
    by_cases hlt : k < P
    · have hltz : (k : Int) < (P : Int) := by omega
      go_wp2_with fail
      have hcon := i_lift (P : Int) n (k : Int) r xs (aft W0 uu) (R0.out.aft _) HR.out HPO.out (by omega)
      cases hs : simpB (P : Int) xs (k : Int)
      · rw [if_neg (by rw [hs]; simp)] at hcon
        have HS := hid hs
        clear hs
        refine via hcon ?_
        intro u3 z3
        try simp at z3
        go_wp2_with fail
        go_roundw
        case rel => exact ⟨k + 1, _, (aft_of ((below_aft W0 uu).trans ((below_aft _ _).mono (by omega)))).symm, by omega, by go_num, hid (by rw [simL_succ, HS.out]; simp; exact HO.out.aft _)⟩
        case measure => simp only [intOf]; omega
      rw [if_pos hs] at hcon
      have HS := hid hs
      obtain ⟨y, hy⟩ : ∃ y, y = lifF (P : Int) n xs (k : Int) := ⟨_, rfl⟩
      rw [← hy] at hcon
      have HY := hid hy.symm
      clear hs hy
      refine via hcon ?_
      intro u3 z3
      try simp at z3
      have hown := HO.out.aft u3
      have hgs := own_row_ge hown
      go_wp2_with (at_builtin; refine wpList_append_own _ rfl _ _ 26 rfl (W0.heap.size) 2 i0 (.int .i64 0) 1 8 Try.underlying26 hi hz0 hz1 hz2 rfl (by decide) _ _ _ rfl (hown.alloc _) ⟨_, 0, none⟩ 1 1 [.int .i64 (y)] rfl rfl ?c1 ?c2 ?c3 ?c4 ?c5 ?_)
      try case c1 => exact cell_one_new _ _ _
      case c2 => first | rfl | (intro u hu; simp at hu; subst hu; rfl)
      case c3 => have := HSL.out; unfold maxLen; omega
      case c4 => have := HSL.out; omega
      case c5 => first | omega | (simp; omega)
      intro v' w1 hown' hgrow _
      obtain ⟨u', rfl⟩ := grown_aft (W := W0) (by repeat (with_reducible first | exact Ext.refl _ | apply Ext.alloc | apply Ext.aft)) hgrow hgs
      have HO1 : Hid (ownR W0.heap.size (aft W0 u') v' (simL (P : Int) n xs (k + 1))) := hid (by rw [simL_succ, if_pos HS.out, HY.out]; exact ownR.snocK rfl hown')
      clear hown' hgrow hown
      go_wp2_with fail
      go_roundw
      case rel => exact ⟨k + 1, u', rfl, by omega, by go_num, HO1⟩
      case measure => simp only [intOf]; omega
    · obtain rfl : k = P := by omega
      have hltz : ¬ (k : Int) < (k : Int) := by omega
      go_wp2_with fail
      go_ret2
      exact ⟨_, rfl, HO.out.mono (by omega), Ext.bel (E0.out.aft _)⟩

set_option maxRecDepth 20000 in
set_option maxHeartbeats 8000000 in
theorem s_SimpleRoots (p n : Int) (r : Value) (xs : List Int) (w : World) (h : rdI w r xs) :
    Calls Try.prog 27 #[(.agg #[.int .i64 p, .int .i64 n]), r] w fun e w' => ∃ v, e = .returned (.tuple #[v, .int .i64 (simF p n xs).2]) ∧ ownR w.heap.size w' v (simF p n xs).1 ∧ Below w.heap.size w w' := by
  have H := hid h
  cases h1 : ringB p n
  · have e : (simF p n xs) = ([], 1) := by simp [simF, h1]
    rw [e]; clear e
    go_enter Try.func27, Try.ntmps27
    go_wp2_with (first | (go_at_call 43; refine via (s_IsRing _ _ _) ?_; intro uu zz; try simp at zz))
    go_ret2
    exact ⟨.slice none 0 0, rfl, ownR.nil _ _, (by refine Ext.bel ?_; repeat (with_reducible first | exact Ext.refl _ | apply Ext.alloc | apply Ext.aft | apply Ext.drew | apply Ext.drewN | apply Ext.setCell | exact Nat.le_add_right _ _ | exact Nat.le_refl _ | (simp; done) | omega))⟩
  cases h2 : polyB xs
  · have e : (simF p n xs) = ([], 1) := by simp [simF, h2]
    rw [e]; clear e
    go_enter Try.func27, Try.ntmps27
    go_wp2_with (first | (go_at_call 43; refine via (s_IsRing _ _ _) ?_; intro uu zz; try simp at zz) | (go_at_call 53; refine via (s_IsPolynomial _ xs _ (by repeat (with_reducible first | assumption | apply rdI.aft | apply rdI.alloc | apply rdI.drew | apply rdI.drewN))) ?_; intro uu zz; try simp at zz) | (go_at_call 53; refine pur (s_IsPolynomial _ xs _ (by repeat (with_reducible first | assumption | apply rdI.aft | apply rdI.alloc | apply rdI.drew | apply rdI.drewN))) ?_))
    go_ret2
    exact ⟨.slice none 0 0, rfl, ownR.nil _ _, (by refine Ext.bel ?_; repeat (with_reducible first | exact Ext.refl _ | apply Ext.alloc | apply Ext.aft | apply Ext.drew | apply Ext.drewN | apply Ext.setCell | exact Nat.le_add_right _ _ | exact Nat.le_refl _ | (simp; done) | omega))⟩
  have e : (simF p n xs) = (simL p n xs p.toNat, 0) := by simp [simF, h1, h2]
  rw [e]; clear e
  obtain ⟨r1, r2, r3, r4, _, _, _⟩ := ring_facts2 h1
  obtain ⟨i0, hi, hz0, hz1, hz2⟩ := info_parts infoI
  obtain ⟨P, rfl⟩ : ∃ P : Nat, p = (P : Int) := ⟨p.toNat, by omega⟩
  have HR := hid h1
  have HPO := hid h2
  have hP : 2 ≤ P ∧ P ≤ 97 := by omega
  rw [Int.toNat_natCast]
  go_enter Try.func27, Try.ntmps27
  go_wp2_with fail
  refine via (s_IsRing _ _ _) ?_
  intro u1 z1
  try simp at z1
  go_wp2_with fail
  refine pur (s_IsPolynomial _ xs _ ((H.out.alloc _).aft _)) ?_
  go_wp2_with fail
  obtain ⟨W0, hW0⟩ : ∃ W0, W0 = aft (w.alloc (Obj.cells #[.int .i64 P, .int .i64 n] 25)) u1 := ⟨_, rfl⟩
  have c0 : ∀ o, W0.cell? ⟨w.heap.size, o, none⟩ = #[Value.int .i64 P, .int .i64 n][o]? := fun o => by rw [hW0]; rw [aft_cell, if_pos (by simp), alloc_cell, if_pos rfl]
  have E0 : Hid (Ext w.heap.size w W0) := hid (by rw [hW0]; exact ((Ext.refl w).alloc _).aft _)
  have l0 : w.heap.size < W0.heap.size := by rw [hW0]; omega
  have R0 : Hid (rdI W0 r xs) := hid (by rw [hW0]; exact (H.out.alloc _).aft _)
  rw [← hW0]
  clear hW0
  go_loopw [6, 7] (fun v i wr => ∃ (k : Nat) (uu : World), wr = aft W0 uu ∧ k ≤ P ∧ i = .int .i64 k ∧ Hid (ownR W0.heap.size wr v (simL (P : Int) n xs k))) (fun _ i _ => P - (intOf i).toNat)
  case atStart => exact ⟨0, _, (aft_of ((Below.refl _ W0).alloc (Nat.le_refl _) _)).symm, by omega, rfl, hid (own_made W0)⟩
  case round =>
    obtain ⟨k, uu, rfl, hk, rfl, HO⟩ := hrel
    have zs := size_aft W0 uu
    have HSL := hid (simL_len (P : Int) n xs k)
    by_cases hlt : k < P
    · have hltz : (k : Int) < (P : Int) := by omega
      go_wp2_with fail
      have hcon := s_simple (P : Int) (k : Int) r xs (aft W0 uu) (R0.out.aft _) (by omega) HPO.out (by omega)
      cases hs : simpB (P : Int) xs (k : Int)
      · rw [hs] at hcon
        have HS := hid hs
        clear hs
        refine via hcon ?_
        intro u3 z3
        try simp at z3
        go_wp2_with fail
        go_roundw
        case rel => exact ⟨k + 1, _, (aft_of ((below_aft W0 uu).trans ((below_aft _ _).mono (by omega)))).symm, by omega, by go_num, hid (by rw [simL_succ, HS.out]; simp; exact HO.out.aft _)⟩
        case measure => simp only [intOf]; omega
      rw [hs] at hcon
      have HS := hid hs
      have hcon2 := fun W q => s_lift (P : Int) n (k : Int) r xs W q HR.out HPO.out (by omega) hs
      obtain ⟨y, hy⟩ : ∃ y, y = lifF (P : Int) n xs (k : Int) := ⟨_, rfl⟩
      rw [← hy] at hcon2
      have HY := hid hy.symm
      have HC := hid hcon2
      clear hs hy hcon2
      refine via hcon ?_
      intro u4 z4
      try simp at z4
      go_wp2_with fail
      refine via (HC.out _ ((R0.out.aft _).aft _)) ?_
      intro u3 z3
      try simp at z3
      have hown := (HO.out.aft u4).aft u3
      have hgs := own_row_ge hown
      go_wp2_with (at_builtin; refine wpList_append_own _ rfl _ _ 26 rfl (W0.heap.size) 2 i0 (.int .i64 0) 1 8 Try.underlying26 hi hz0 hz1 hz2 rfl (by decide) _ _ _ rfl (hown.alloc _) ⟨_, 0, none⟩ 1 1 [.int .i64 (y)] rfl rfl ?c1 ?c2 ?c3 ?c4 ?c5 ?_)
      try case c1 => exact cell_one_new _ _ _
      case c2 => first | rfl | (intro u hu; simp at hu; subst hu; rfl)
      case c3 => have := HSL.out; unfold maxLen; omega
      case c4 => have := HSL.out; omega
      case c5 => first | omega | (simp; omega)
      intro v' w1 hown' hgrow _
      obtain ⟨u', rfl⟩ := grown_aft (W := W0) (by repeat (with_reducible first | exact Ext.refl _ | apply Ext.alloc | apply Ext.aft)) hgrow hgs
      have HO1 : Hid (ownR W0.heap.size (aft W0 u') v' (simL (P : Int) n xs (k + 1))) := hid (by rw [simL_succ, if_pos HS.out, HY.out]; exact ownR.snocK rfl hown')
      clear hown' hgrow hown
      go_wp2_with fail
      go_roundw
      case rel => exact ⟨k + 1, u', rfl, by omega, by go_num, HO1⟩
      case measure => simp only [intOf]; omega
    · obtain rfl : k = P := by omega
      have hltz : ¬ (k : Int) < (k : Int) := by omega
      go_wp2_with fail
      go_ret2
      exact ⟨_, rfl, HO.out.mono (by omega), Ext.bel (E0.out.aft _)⟩
end Go.Proofs.Ytganmeiaflkkoaa
