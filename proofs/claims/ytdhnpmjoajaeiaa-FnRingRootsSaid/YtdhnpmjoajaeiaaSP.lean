/- RootsInRing: both texts. -/
import Derived.Test.YtdhnpmjoajaeiaaSN
namespace Go.Proofs.Ytdhnpmjoajaeiaa
open Go Go.RowKit

def rinF (p n : Int) (f : List Int) : List Int × Int := if ringB p n = true ∧ polyB f = true then rootsZ p n.toNat f else ([], 1)
theorem poly_bd {xs : List Int} (h : polyB xs = true) : xs.length ≤ 9 ∧ ∀ c ∈ xs, -1000000000 ≤ c ∧ c ≤ 1000000000 := by
  have b := polyB_iff.1 h
  refine ⟨b.1, fun c hc => ?_⟩
  have h2 : noCoef c = false := by
    cases hh : noCoef c
    · rfl
    · have := List.any_eq_true.2 ⟨c, hc, hh⟩
      rw [b.2.1] at this; cases this
  unfold noCoef inB at h2
  simp at h2
  omega
set_option maxRecDepth 20000 in
set_option maxHeartbeats 8000000 in
theorem i_RootsInRing (p n : Int) (r : Value) (xs : List Int) (w : World) (h : rdI w r xs) :
    Calls Try.prog 13 #[(.agg #[.int .i64 p, .int .i64 n]), r] w fun e w' => ∃ v, e = .returned (.tuple #[v, .int .i64 (rinF p n xs).2]) ∧ ownR w.heap.size w' v (rinF p n xs).1 ∧ Below w.heap.size w w' := by
  have H := hid h
  cases h1 : ringB p n
  · have e : (rinF p n xs) = ([], 1) := by simp [rinF, h1]
    rw [e]; clear e
    go_enter Try.func13, Try.ntmps13
    go_wp2_with (first | (go_at_call 30; refine via (i_IsRing _ _ _) ?_; intro uu zz; try simp at zz))
    go_ret2
    exact ⟨.slice none 0 0, rfl, ownR.nil _ _, (by refine Ext.bel ?_; repeat (with_reducible first | exact Ext.refl _ | apply Ext.alloc | apply Ext.aft | apply Ext.drew | apply Ext.drewN | apply Ext.setCell | exact Nat.le_add_right _ _ | exact Nat.le_refl _ | (simp; done) | omega))⟩
  cases h2 : polyB xs
  · have e : (rinF p n xs) = ([], 1) := by simp [rinF, h2]
    rw [e]; clear e
    go_enter Try.func13, Try.ntmps13
    go_wp2_with (first | (go_at_call 30; refine via (i_IsRing _ _ _) ?_; intro uu zz; try simp at zz) | (go_at_call 35; refine via (i_IsPolynomial _ xs _ (by repeat (with_reducible first | assumption | apply rdI.aft | apply rdI.alloc | apply rdI.drew | apply rdI.drewN))) ?_; intro uu zz; try simp at zz) | (go_at_call 35; refine pur (i_IsPolynomial _ xs _ (by repeat (with_reducible first | assumption | apply rdI.aft | apply rdI.alloc | apply rdI.drew | apply rdI.drewN))) ?_))
    go_ret2
    exact ⟨.slice none 0 0, rfl, ownR.nil _ _, (by refine Ext.bel ?_; repeat (with_reducible first | exact Ext.refl _ | apply Ext.alloc | apply Ext.aft | apply Ext.drew | apply Ext.drewN | apply Ext.setCell | exact Nat.le_add_right _ _ | exact Nat.le_refl _ | (simp; done) | omega))⟩
  have e : (rinF p n xs) = rootsZ p n.toNat xs := by simp [rinF, h1, h2]
  rw [e]; clear e
  obtain ⟨hp, hn, hM1, hM9⟩ := ring_facts h1
  obtain ⟨b1, b2⟩ := poly_bd h2
  have HRT := hid (fun (r : Value) (W : World) (hW : rdI W r xs) => i_rootsIn p n (p ^ n.toNat) n.toNat r xs W hW (by omega) h1 hp ⟨by omega, by omega, by omega⟩ rfl hM9)
  obtain ⟨FZ, hFZ⟩ : ∃ FZ, FZ = rootsZ p n.toNat xs := ⟨_, rfl⟩
  rw [← hFZ] at HRT ⊢
  have HR := hid h1
  have HPO := hid h2
  clear h1 h2 hFZ hM1 hM9 h b1 b2 hp hn
  go_enter Try.func13, Try.ntmps13
  go_wp2_with fail
  refine via (i_IsRing _ _ _) ?_
  rw [HR.out]; intro u1 z1
  try simp at z1
  go_wp2_with fail
  refine via (i_IsPolynomial _ xs _ ((H.out.alloc _).aft _)) ?_
  rw [HPO.out]; intro u2 z2
  try simp at z2
  go_wp2_with fail
  refine viaI (g := fun v => .tuple #[v, .int .i64 FZ.2]) (HRT.out _ _ (((H.out.alloc _).aft _).aft _)) ?_
  intro v7 u7 z7 o7
  have O7 := hid o7
  clear o7
  try simp at z7
  go_wp2_with fail
  go_ret2
  exact ⟨_, rfl, O7.out.mono (by first | omega | (simp; done) | (simp; omega)), (by refine Ext.bel ?_; repeat (with_reducible first | exact Ext.refl _ | apply Ext.alloc | apply Ext.aft | apply Ext.drew | apply Ext.drewN | apply Ext.setCell | exact Nat.le_add_right _ _ | exact Nat.le_refl _ | (simp; done) | omega))⟩
set_option maxRecDepth 20000 in
set_option maxHeartbeats 8000000 in
theorem s_RootsInRing (p n : Int) (r : Value) (xs : List Int) (w : World) (h : rdI w r xs) :
    Calls Try.prog 14 #[(.agg #[.int .i64 p, .int .i64 n]), r] w fun e w' => ∃ v, e = .returned (.tuple #[v, .int .i64 (rinF p n xs).2]) ∧ ownR w.heap.size w' v (rinF p n xs).1 ∧ Below w.heap.size w w' := by
  have H := hid h
  cases h1 : ringB p n
  · have e : (rinF p n xs) = ([], 1) := by simp [rinF, h1]
    rw [e]; clear e
    go_enter Try.func14, Try.ntmps14
    go_wp2_with (first | (go_at_call 36; refine via (s_IsRing _ _ _) ?_; intro uu zz; try simp at zz))
    go_ret2
    exact ⟨.slice none 0 0, rfl, ownR.nil _ _, (by refine Ext.bel ?_; repeat (with_reducible first | exact Ext.refl _ | apply Ext.alloc | apply Ext.aft | apply Ext.drew | apply Ext.drewN | apply Ext.setCell | exact Nat.le_add_right _ _ | exact Nat.le_refl _ | (simp; done) | omega))⟩
  cases h2 : polyB xs
  · have e : (rinF p n xs) = ([], 1) := by simp [rinF, h2]
    rw [e]; clear e
    go_enter Try.func14, Try.ntmps14
    go_wp2_with (first | (go_at_call 36; refine via (s_IsRing _ _ _) ?_; intro uu zz; try simp at zz) | (go_at_call 37; refine via (s_IsPolynomial _ xs _ (by repeat (with_reducible first | assumption | apply rdI.aft | apply rdI.alloc | apply rdI.drew | apply rdI.drewN))) ?_; intro uu zz; try simp at zz) | (go_at_call 37; refine pur (s_IsPolynomial _ xs _ (by repeat (with_reducible first | assumption | apply rdI.aft | apply rdI.alloc | apply rdI.drew | apply rdI.drewN))) ?_))
    go_ret2
    exact ⟨.slice none 0 0, rfl, ownR.nil _ _, (by refine Ext.bel ?_; repeat (with_reducible first | exact Ext.refl _ | apply Ext.alloc | apply Ext.aft | apply Ext.drew | apply Ext.drewN | apply Ext.setCell | exact Nat.le_add_right _ _ | exact Nat.le_refl _ | (simp; done) | omega))⟩
  have e : (rinF p n xs) = rootsZ p n.toNat xs := by simp [rinF, h1, h2]
  rw [e]; clear e
  obtain ⟨hp, hn, hM1, hM9⟩ := ring_facts h1
  obtain ⟨b1, b2⟩ := poly_bd h2
  have HRT := hid (fun (r : Value) (W : World) (hW : rdI W r xs) => s_roots p n xs r W hW h1 hp hn hM9 b2)
  obtain ⟨Z1, Z2⟩ := rootsZ_cases p n.toNat xs
  obtain ⟨F, hF⟩ : ∃ F, F = deepF p n.toNat xs n.toNat 0 := ⟨_, rfl⟩
  obtain ⟨FZ, hFZ⟩ : ∃ FZ, FZ = rootsZ p n.toNat xs := ⟨_, rfl⟩
  rw [← hF, ← hFZ] at Z1 Z2
  rw [← hF] at HRT
  rw [← hFZ]
  have HZ1 := hid Z1
  have HZ2 := hid Z2
  obtain ⟨LS, ok⟩ := F
  have HR := hid h1
  have HPO := hid h2
  clear h h1 h2 hF hFZ Z1 Z2 hM1 hM9 b1 b2 hp hn
  go_enter Try.func14, Try.ntmps14
  go_wp2_with fail
  refine via (s_IsRing _ _ _) ?_
  rw [HR.out]; intro u1 z1
  try simp at z1
  go_wp2_with fail
  refine pur (s_IsPolynomial _ xs _ ((H.out.alloc _).aft _)) ?_
  rw [HPO.out]
  go_wp2_with fail
  refine viaI (g := fun v => .tuple #[v, .bool ok]) (HRT.out _ _ ((H.out.alloc _).aft _)) ?_
  intro v7 u7 z7 o7
  have O7 := hid o7
  clear o7
  try simp at z7
  cases ok with
  | false =>
    have HF := hid (HZ2.out rfl)
    go_wp2_with fail
    go_ret2
    exact ⟨_, by rw [HF.out]; rfl, by rw [HF.out]; exact ownR.nil _ _, (by refine Ext.bel ?_; repeat (with_reducible first | exact Ext.refl _ | apply Ext.alloc | apply Ext.aft | apply Ext.drew | apply Ext.drewN | apply Ext.setCell | exact Nat.le_add_right _ _ | exact Nat.le_refl _ | (simp; done) | omega))⟩
  | true =>
    have HF := hid (HZ1.out rfl).1
    have hl60 := (HZ1.out rfl).2
    (try dsimp only at hl60)
    go_wp2_with fail
    refine viaI (g := id) (s_sorted _ LS _ O7.out.rd (by omega)) ?_
    intro v8 u8 z8 o8
    try simp at z8
    have O8 := hid o8
    clear o8
    go_wp2_with fail
    go_ret2
    exact ⟨_, by rw [HF.out]; rfl, by rw [HF.out]; exact O8.out.mono (by first | omega | (simp; done) | (simp; omega)), (by refine Ext.bel ?_; repeat (with_reducible first | exact Ext.refl _ | apply Ext.alloc | apply Ext.aft | apply Ext.drew | apply Ext.drewN | apply Ext.setCell | exact Nat.le_add_right _ _ | exact Nat.le_refl _ | (simp; done) | omega))⟩
end Go.Proofs.Ytdhnpmjoajaeiaa
