/- Lifts of simple roots: both texts. -/
import Derived.Test.YtganmeiaflkkoaaZA
import Derived.Test.YtganmeiaflkkoaaH10
import Derived.Deep.LoopGhost
namespace Go.Proofs.Ytganmeiaflkkoaa
open Go Go.RowKit

/-- What is known of a ring and a polynomial that fit. -/
theorem poly_bd {xs : List Int} (h : polyB xs = true) : xs.length ≤ 9 ∧ (∀ c ∈ xs, -1000000 ≤ c ∧ c ≤ 1000000) := by
  have b := polyB_iff.1 h
  exact ⟨b.1, coef_bd b.2.1⟩
set_option maxRecDepth 20000 in
set_option maxHeartbeats 4000000 in
theorem i_lift (p n a : Int) (r : Value) (xs : List Int) (w : World) (h : rdI w r xs) (hr : ringB p n = true) (hpo : polyB xs = true) (ha : 0 ≤ a ∧ a ≤ p - 1) :
    Calls Try.prog 62 #[(.agg #[.int .i64 p, .int .i64 n]), r, .int .i64 a] w fun e w' => e = .returned (if simpB p xs a = true then .tuple #[.int .i64 (lifF p n xs a), .bool true] else .tuple #[.int .i64 0, .bool false]) ∧ Below w.heap.size w w' := by
  obtain ⟨r1, r2, r3, r4, _, _, _⟩ := ring_facts2 hr
  obtain ⟨hl, hc⟩ := poly_bd hpo
  have HR := hid hr
  have HPO := hid hpo
  have H := hid h
  have Hc1 := hid hc
  have Hc := hid (widen hc)
  have Hd := hid (derF_bd hl hc)
  have Hl := hid hl
  have HPm : Hid (1 ≤ p ∧ p ≤ 1000000000) := hid (by omega)
  have ha9 : 0 ≤ a ∧ a ≤ 1000000000 := by omega
  have hsd : simpB p xs a = (valF p a xs == 0 && valF p a (derF xs) != 0) := rfl
  obtain ⟨T, hT⟩ : ∃ T, valF p a xs = T := ⟨_, rfl⟩
  obtain ⟨D, hD⟩ : ∃ D, valF p a (derF xs) = D := ⟨_, rfl⟩
  rw [hT, hD] at hsd
  have HT := hid hT
  have HD := hid hD
  have HSD := hid hsd
  clear hT hD hsd hl hc hpo
  by_cases hT0 : T = 0
  · have HT0 := hid hT0
    have hTb : (T != 0) = false := by simpa using hT0
    by_cases hD0 : D = 0
    · rw [if_neg (by rw [HSD.out]; simp [hD0])]
      have hDb : (D == 0) = true := by simpa using hD0
      clear hD0 hT0 hr
      go_enter Try.func62, Try.ntmps62
      go_wp2_with fail
      refine pur (i_valueByE _ r xs _ _ _ (by repeat (with_reducible first | assumption | apply rdI.aft | apply rdI.alloc | apply rdI.drew | apply rdI.drewN)) HPm.out ha9 Hc.out HT.out) ?_
      go_wp2_with fail
      refine viaI (g := id) (i_derivative _ _ _ (by repeat (with_reducible first | assumption | apply rdI.aft | apply rdI.alloc | apply rdI.drew | apply rdI.drewN)) Hl.out Hc1.out) ?_
      intro rr ur zr hown
      (try simp at zr)
      have hrd := hown.rd
      go_wp2_with fail
      refine pur (i_valueByE _ rr (derF xs) _ _ _ (by repeat (with_reducible first | assumption | apply rdI.aft | apply rdI.alloc | apply rdI.drew | apply rdI.drewN)) HPm.out ha9 Hd.out HD.out) ?_
      go_wp2_with fail
      go_ret2
      exact ⟨rfl, (by refine Ext.bel ?_; repeat (with_reducible first | exact Ext.refl _ | apply Ext.alloc | apply Ext.aft | apply Ext.drew | apply Ext.drewN | apply Ext.setCell | exact Nat.le_add_right _ _ | exact Nat.le_refl _ | (simp; done) | omega))⟩
    · have hs : simpB p xs a = true := by rw [HSD.out]; simp [hT0, hD0]
      rw [if_pos hs]
      have HS := hid hs
      have HSA : Hid (0 ≤ a ∧ a ≤ p - 1) := hid ha
      have hDb : (D == 0) = false := by simpa using hD0
      obtain ⟨M, hM⟩ : ∃ M, M = p ^ n.toNat := ⟨_, rfl⟩
      rw [← hM] at r3 r4
      have HME := hid hM
      have HMod : Hid (∀ W : World, Calls Try.prog 37 #[.agg #[.int .i64 p, .int .i64 n]] W fun e w' => e = .returned (.int .i64 M) ∧ Below W.heap.size W w') := hid fun W => by rw [hM]; exact i_modulus p n W HR.out
      clear hD0 hT0 hr hs hM
      go_enter Try.func62, Try.ntmps62
      go_wp2_with fail
      refine pur (i_valueByE _ r xs _ _ _ (by repeat (with_reducible first | assumption | apply rdI.aft | apply rdI.alloc | apply rdI.drew | apply rdI.drewN)) HPm.out ha9 Hc.out HT.out) ?_
      go_wp2_with fail
      refine viaI (g := id) (i_derivative _ _ _ (by repeat (with_reducible first | assumption | apply rdI.aft | apply rdI.alloc | apply rdI.drew | apply rdI.drewN)) Hl.out Hc1.out) ?_
      intro rr ur zr hown
      (try simp at zr)
      have hrd := hown.rd
      go_wp2_with fail
      refine pur (i_valueByE _ rr (derF xs) _ _ _ (by repeat (with_reducible first | assumption | apply rdI.aft | apply rdI.alloc | apply rdI.drew | apply rdI.drewN)) HPm.out ha9 Hd.out HD.out) ?_
      go_wp2_with fail
      obtain ⟨W0, hW0⟩ : ∃ W0, W0 = aft (w.alloc (Obj.cells #[.int .i64 p, .int .i64 n] 25)) ur := ⟨_, rfl⟩
      have c0 : ∀ o, W0.cell? ⟨w.heap.size, o, none⟩ = #[Value.int .i64 p, .int .i64 n][o]? := fun o => by rw [hW0, aft_cell, if_pos (by simp), alloc_cell, if_pos rfl]
      have E0 : Hid (Ext w.heap.size w W0) := hid (by rw [hW0]; exact ((Ext.refl w).alloc _).aft _)
      have l0 : w.heap.size < W0.heap.size := by rw [hW0]; omega
      have R0 : Hid (rdI W0 r xs) := hid (by rw [hW0]; exact (H.out.alloc _).aft _)
      rw [← hW0]
      clear hW0 hown hrd zr
      go_loopg [9] (stepsN n) (fun f v wr => ∃ (j : Nat) (uu : World), wr = aft W0 uu ∧ j + f = stepsN n ∧ v = .int .i64 (sq M xs a j))
      case atStart => exact ⟨0, _, (aft_of (Below.refl _ _)).symm, by omega, rfl⟩
      case round =>
        obtain ⟨j, uu, rfl, hj, rfl⟩ := hrel
        have zs := size_aft W0 uu
        have hsq := sq_good (n := n) HR.out HSA.out HS.out j
        rw [← HME.out] at hsq
        have hsb := hsq.1
        have h0 : ringedF p n xs (sq M xs a j) = 0 := by
          unfold ringedF
          rw [if_pos ⟨HR.out, HPO.out⟩, if_pos (by rw [← HME.out]; exact inB_iff.2 hsb)]
        have hnt := i_newton p n r xs (sq M xs a j)
        have hdu : ¬ valF M (sq M xs a j) (derF xs) % p = 0 := by
          have h4 := hsq.2.2.2
          rw [ev_mod, Int.emod_emod_of_dvd _ (by rw [HME.out]; exact dvd_pow (by omega))]
          exact h4
        have HN : Hid (∀ W, rdI W r xs → Calls Try.prog 67 #[.agg #[.int .i64 p, .int .i64 n], r, .int .i64 (sq M xs a j)] W fun e w' => e = .returned (.tuple #[.int .i64 (sq M xs a (j + 1)), .bool true]) ∧ Below W.heap.size W w') := hid fun W q => by
          have := hnt W q h0
          rw [← HME.out, if_neg hdu] at this
          exact this
        have hfin : Hid (valF M (sq M xs a j) xs = 0 → sq M xs a j = lifF p n xs a) := hid fun e => by
          have := lif_at (n := n) HR.out HSA.out HS.out (j := j) (by omega) (by rw [← HME.out]; exact e)
          rw [← HME.out] at this
          exact this
        have hlast : Hid (j = stepsN n → valF M (sq M xs a j) xs = 0) := hid fun e => by
          subst e
          have := sq_zero (n := n) HR.out HSA.out HS.out
          rw [← HME.out] at this
          exact this
        obtain ⟨V, hV⟩ : ∃ V, valF M (sq M xs a j) xs = V := ⟨_, rfl⟩
        rw [hV] at hfin hlast
        have HV := hid hV
        obtain ⟨y, hy⟩ : ∃ y, y = sq M xs a j := ⟨_, rfl⟩
        rw [← hy] at HN hfin HV hsb ⊢
        clear hnt hsq h0 hdu hV hy
        have hM9 : Hid (1 ≤ M ∧ M ≤ 1000000000) := hid (by omega)
        have hy9 : 0 ≤ y ∧ y ≤ 1000000000 := by omega
        go_wp2_with fail
        refine via (HMod.out _) ?_
        intro u2 z2
        (try simp at z2)
        go_wp2_with fail
        refine pur (i_valueByE _ r xs _ _ _ (by exact (R0.out.aft _).aft _) hM9.out hy9 Hc.out HV.out) ?_
        by_cases hV0 : V = 0
        · have hVb : (V != 0) = false := by simpa using hV0
          have HF := hid (hfin.out hV0)
          clear hV0 HV
          go_wp2_with fail
          go_ret2
          exact ⟨by rw [← HF.out]; rfl, Ext.bel ((E0.out.aft _).aft _)⟩
        · have hVb : (V != 0) = true := by simpa using hV0
          have hjl : j ≠ stepsN n := fun e => hV0 (hlast.out e)
          clear hV0 HV
          obtain ⟨f', rfl⟩ : ∃ f', gk = f' + 1 := ⟨gk - 1, by omega⟩
          go_wp2_with fail
          refine via (HN.out _ ((R0.out.aft _).aft _)) ?_
          intro u3 z3
          (try simp at z3)
          go_wp2_with fail
          go_roundg f'
          case rel => exact ⟨j + 1, _, (aft_of (((below_aft W0 uu).trans ((below_aft _ _).mono (by omega))).trans ((below_aft _ _).mono (by omega)))).symm, by omega, rfl⟩
          case measure => omega
  · rw [if_neg (by rw [HSD.out]; simp [hT0])]
    have hTb : (T != 0) = true := by simpa using hT0
    clear hT0 hr
    go_enter Try.func62, Try.ntmps62
    go_wp2_with fail
    refine pur (i_valueByE _ r xs _ _ _ (by repeat (with_reducible first | assumption | apply rdI.aft | apply rdI.alloc | apply rdI.drew | apply rdI.drewN)) HPm.out ha9 Hc.out HT.out) ?_
    go_wp2_with fail
    go_ret2
    exact ⟨rfl, (by refine Ext.bel ?_; repeat (with_reducible first | exact Ext.refl _ | apply Ext.alloc | apply Ext.aft | apply Ext.drew | apply Ext.drewN | apply Ext.setCell | exact Nat.le_add_right _ _ | exact Nat.le_refl _ | (simp; done) | omega))⟩

set_option maxRecDepth 20000 in
set_option maxHeartbeats 4000000 in
theorem s_simple (p a : Int) (r : Value) (xs : List Int) (w : World) (h : rdI w r xs) (hp : 1 ≤ p ∧ p ≤ 1000000000) (hpo : polyB xs = true) (ha : 0 ≤ a ∧ a ≤ p - 1) :
    Calls Try.prog 63 #[r, .int .i64 a, .int .i64 p] w fun e w' => e = .returned (.bool (simpB p xs a)) ∧ Below w.heap.size w w' := by
  obtain ⟨hl, hc⟩ := poly_bd hpo
  have Hc1 := hid hc
  have Hc := hid (widen hc)
  have Hd := hid (derF_bd hl hc)
  have Hl := hid hl
  have HPm := hid hp
  have ha9 : 0 ≤ a ∧ a ≤ 1000000000 := by omega
  have hsd : simpB p xs a = (valF p a xs == 0 && valF p a (derF xs) != 0) := rfl
  obtain ⟨T, hT⟩ : ∃ T, valF p a xs = T := ⟨_, rfl⟩
  obtain ⟨D, hD⟩ : ∃ D, valF p a (derF xs) = D := ⟨_, rfl⟩
  rw [hT, hD] at hsd
  have HT := hid hT
  have HD := hid hD
  rw [hsd]
  clear hT hD hsd hl hc hpo
  cases hTb : (T == 0)
  · go_enter Try.func63, Try.ntmps63
    go_wp2_with fail
    refine pur (s_valueE _ r xs _ _ _ (by repeat (with_reducible first | assumption | apply rdI.aft | apply rdI.alloc | apply rdI.drew | apply rdI.drewN)) HPm.out ha9 Hc.out HT.out) ?_
    go_wp2_with fail
    go_ret
    exact ⟨by simp, (by refine Ext.bel ?_; repeat (with_reducible first | exact Ext.refl _ | apply Ext.alloc | apply Ext.aft | apply Ext.drew | apply Ext.drewN | apply Ext.setCell | exact Nat.le_add_right _ _ | exact Nat.le_refl _ | (simp; done) | omega))⟩
  · go_enter Try.func63, Try.ntmps63
    go_wp2_with fail
    refine pur (s_valueE _ r xs _ _ _ (by repeat (with_reducible first | assumption | apply rdI.aft | apply rdI.alloc | apply rdI.drew | apply rdI.drewN)) HPm.out ha9 Hc.out HT.out) ?_
    go_wp2_with fail
    refine viaI (g := id) (s_derivative _ _ _ (by repeat (with_reducible first | assumption | apply rdI.aft | apply rdI.alloc | apply rdI.drew | apply rdI.drewN)) Hl.out Hc1.out) ?_
    intro rr ur zr hown
    (try simp at zr)
    have hrd := hown.rd
    go_wp2_with fail
    refine pur (s_valueE _ rr (derF xs) _ _ _ (by repeat (with_reducible first | assumption | apply rdI.aft | apply rdI.alloc | apply rdI.drew | apply rdI.drewN)) HPm.out ha9 Hd.out HD.out) ?_
    go_wp2_with fail
    go_ret
    exact ⟨by simp, (by refine Ext.bel ?_; repeat (with_reducible first | exact Ext.refl _ | apply Ext.alloc | apply Ext.aft | apply Ext.drew | apply Ext.drewN | apply Ext.setCell | exact Nat.le_add_right _ _ | exact Nat.le_refl _ | (simp; done) | omega))⟩

set_option maxRecDepth 20000 in
set_option maxHeartbeats 4000000 in
theorem s_lift (p n a : Int) (r : Value) (xs : List Int) (w : World) (h : rdI w r xs) (hr : ringB p n = true) (hpo : polyB xs = true) (ha : 0 ≤ a ∧ a ≤ p - 1) (hs : simpB p xs a = true) :
    Calls Try.prog 64 #[(.agg #[.int .i64 p, .int .i64 n]), r, .int .i64 a] w fun e w' => e = .returned (.int .i64 (lifF p n xs a)) ∧ Below w.heap.size w w' := by
  obtain ⟨r1, r2, r3, r4, _, _, _⟩ := ring_facts2 hr
  obtain ⟨hl, hc⟩ := poly_bd hpo
  have HR := hid hr
  have H := hid h
  have Hc1 := hid hc
  have Hl := hid hl
  have HS := hid hs
  have HSA := hid ha
  have HM : Hid (∀ W : World, Calls Try.prog 41 #[.int .i64 p, .int .i64 n] W fun e w' => e = .returned (.int .i64 (p ^ n.toNat)) ∧ W = w') := hid fun W => by
    have := s_modulus p n W (by omega) (by omega) (by omega)
    rw [modu_ring hr] at this
    exact this
  unfold lifF
  obtain ⟨M, hM⟩ : ∃ M, M = p ^ n.toNat := ⟨_, rfl⟩
  rw [← hM] at HM r3 r4 ⊢
  have HME := hid hM
  have hM9 : Hid (1 ≤ M ∧ M ≤ 1000000000) := hid (by omega)
  clear hM hl hc hpo h hr hs
  go_enter Try.func64, Try.ntmps64
  go_wp2_with (go_at_call 41; refine pur (HM.out _) ?_)
  obtain ⟨W0, hW0⟩ : ∃ W0, W0 = w.alloc (Obj.cells #[.int .i64 p, .int .i64 n] 25) := ⟨_, rfl⟩
  have c0 : ∀ o, W0.cell? ⟨w.heap.size, o, none⟩ = #[Value.int .i64 p, .int .i64 n][o]? := fun o => by rw [hW0, alloc_cell, if_pos rfl]
  have E0 : Hid (Ext w.heap.size w W0) := hid (by rw [hW0]; exact (Ext.refl w).alloc _)
  have l0 : w.heap.size < W0.heap.size := by rw [hW0]; simp
  have R0 : Hid (rdI W0 r xs) := hid (by rw [hW0]; exact H.out.alloc _)
  rw [← hW0]
  clear hW0
  go_loopw [2, 8] (fun v i wr => ∃ (j : Nat) (uu : World) (t : Int), wr = aft W0 uu ∧ j ≤ stepsN n ∧ i = .int .i64 t ∧ Hid (t = 2 ^ j) ∧ v = .int .i64 (sq M xs a j)) (fun _ i _ => (128 - intOf i).toNat)
  case atStart => exact ⟨0, _, 1, (aft_of (Below.refl _ _)).symm, by omega, rfl, hid rfl, rfl⟩
  case round =>
    obtain ⟨j, uu, t, rfl, hj, rfl, HTJ, rfl⟩ := hrel
    have zs := size_aft W0 uu
    have hsq := (sq_good (n := n) HR.out HSA.out HS.out j).1
    rw [← HME.out] at hsq
    obtain ⟨hit, ht6⟩ := steps_iff r2 hj
    rw [← HTJ.out] at hit ht6
    have ht1 : 1 ≤ t := by rw [HTJ.out]; exact pow_pos' (by omega) j
    obtain ⟨y, hy⟩ : ∃ y, y = sq M xs a j := ⟨_, rfl⟩
    have HY := hid hy
    rw [← hy] at hsq ⊢
    have hy9 : 0 ≤ y ∧ y ≤ 1000000000 := by omega
    clear hy
    by_cases hlt : j < stepsN n
    · have htn := hit.2 hlt
      clear hit
      go_wp2_with fail
      refine via (s_step M r xs y _ (R0.out.aft _) hM9.out hy9 Hc1.out Hl.out) ?_
      intro u2 z2
      (try simp at z2)
      go_wp2_with fail
      go_roundw
      case rel => exact ⟨j + 1, _, 2 * t, (aft_of ((below_aft W0 uu).trans ((below_aft _ _).mono (by omega)))).symm, by omega, by go_num, hid (by rw [HTJ.out, Int.pow_succ]; omega), by rw [HY.out]; rfl⟩
      case measure => simp only [intOf]; omega
    · have htn : ¬ t < n := fun e => hlt (hit.1 e)
      obtain rfl : j = stepsN n := by omega
      clear hit
      go_wp2_with fail
      go_ret
      exact ⟨by rw [← HY.out]; rfl, Ext.bel (E0.out.aft _)⟩
end Go.Proofs.Ytganmeiaflkkoaa
