/- Remainders of polynomials by a ring's modulus: both texts. -/
import Derived.Test.YtganmeiaflkkoaaH5
import Derived.Test.YtganmeiaflkkoaaZ1
import Derived.Test.YtganmeiaflkkoaaT27
namespace Go.Proofs.Ytganmeiaflkkoaa
open Go Go.RowKit

def redToF (p n : Int) (xs : List Int) : List Int × Int := if ringB p n = true ∧ polyB xs = true then (redF (p ^ n.toNat) xs, 0) else ([], 1)
theorem redTo_in {p n : Int} {xs ys : List Int} (h : redToF p n xs = (ys, 0)) : inRingB p n ys = true := by
  unfold redToF at h
  split at h
  · rename_i hr
    simp only [Prod.mk.injEq, and_true] at h
    subst h
    obtain ⟨_, _, r3, _⟩ := ring_facts2 hr.1
    have hl := (polyB_iff.1 hr.2).1
    have h1 := redF_len (p ^ n.toNat) xs
    have h2 : (redF (p ^ n.toNat) xs).any (noRes p n) = false := by
      rw [List.any_eq_false]
      intro c hc
      have h3 := modL_mem (m := p ^ n.toNat) (xs := xs) (by omega) c (trimF_mem hc)
      simp only [noRes, Bool.not_eq_true, Bool.not_eq_false']
      exact inB_iff.2 h3
    unfold inRingB
    rw [hr.1, h2, show lastNZ (redF (p ^ n.toNat) xs) = true from lastNZ_trim _]
    simp only [Bool.true_and, Bool.not_false, Bool.and_true, decide_eq_true_eq]
    omega
  · simp at h
theorem redTo_len (p n : Int) (xs : List Int) : (redToF p n xs).1.length ≤ xs.length := by
  unfold redToF
  split
  · exact redF_len _ _
  · simp
set_option maxRecDepth 20000 in
set_option maxHeartbeats 2000000 in
theorem i_ReduceToRing (p n : Int) (r : Value) (xs : List Int) (w : World) (h : rdI w r xs) :
    Calls Try.prog 16 #[(.agg #[.int .i64 p, .int .i64 n]), r] w fun e w' => ∃ v, e = .returned (.tuple #[v, .int .i64 (redToF p n xs).2]) ∧ ownR w.heap.size w' v (redToF p n xs).1 ∧ Below w.heap.size w w' := by
  have H := hid h
  cases h1 : ringB p n
  · have e : redToF p n xs = ([], 1) := by simp [redToF, h1]
    rw [e]; clear e
    go_enter Try.func16, Try.ntmps16
    go_wp2_with (first | (go_at_call 51; refine via (i_IsRing _ _ _) ?_; intro uu zz; try simp at zz))
    go_ret2
    exact ⟨.slice none 0 0, rfl, ownR.nil _ _, (by refine Ext.bel ?_; repeat (with_reducible first | exact Ext.refl _ | apply Ext.alloc | apply Ext.aft | apply Ext.drew | apply Ext.drewN | apply Ext.setCell | exact Nat.le_add_right _ _ | exact Nat.le_refl _ | (simp; done) | omega))⟩
  cases h2 : polyB xs
  · have e : redToF p n xs = ([], 1) := by simp [redToF, h2]
    rw [e]; clear e
    go_enter Try.func16, Try.ntmps16
    go_wp2_with (first | (go_at_call 51; refine via (i_IsRing _ _ _) ?_; intro uu zz; try simp at zz) | (go_at_call 52; refine via (i_IsPolynomial _ xs _ (by repeat (with_reducible first | assumption | apply rdI.aft | apply rdI.alloc | apply rdI.drew | apply rdI.drewN))) ?_; intro uu zz; try simp at zz) | (go_at_call 52; refine pur (i_IsPolynomial _ xs _ (by repeat (with_reducible first | assumption | apply rdI.aft | apply rdI.alloc | apply rdI.drew | apply rdI.drewN))) ?_))
    go_ret2
    exact ⟨.slice none 0 0, rfl, ownR.nil _ _, (by refine Ext.bel ?_; repeat (with_reducible first | exact Ext.refl _ | apply Ext.alloc | apply Ext.aft | apply Ext.drew | apply Ext.drewN | apply Ext.setCell | exact Nat.le_add_right _ _ | exact Nat.le_refl _ | (simp; done) | omega))⟩
  · have e : redToF p n xs = (redF (p ^ n.toNat) xs, 0) := by simp [redToF, h1, h2]
    rw [e]; clear e
    obtain ⟨r1, r2, r3, r4, _, _, _⟩ := ring_facts2 h1
    have hl : xs.length ≤ 1000000 := by have := (polyB_iff.1 h2).1; omega
    have HMI : Hid (∀ W : World, Calls Try.prog 37 #[.agg #[.int .i64 p, .int .i64 n]] W fun e w' => e = .returned (.int .i64 (p ^ n.toNat)) ∧ Below W.heap.size W w') := hid fun W => i_modulus p n W h1
    have HMS : Hid (∀ W : World, Calls Try.prog 41 #[.int .i64 p, .int .i64 n] W fun e w' => e = .returned (.int .i64 (p ^ n.toNat)) ∧ W = w') := hid fun W => by
      have := s_modulus p n W (by omega) (by omega) (by omega)
      rw [modu_ring h1] at this
      exact this
    obtain ⟨M, hM⟩ : ∃ M, M = p ^ n.toNat := ⟨_, rfl⟩
    rw [← hM] at HMI HMS r3 r4 ⊢
    clear hM
    go_enter Try.func16, Try.ntmps16
    go_wp2_with (first | (go_at_call 51; refine via (i_IsRing _ _ _) ?_; intro uu zz; try simp at zz) | (go_at_call 52; refine via (i_IsPolynomial _ xs _ (by repeat (with_reducible first | assumption | apply rdI.aft | apply rdI.alloc | apply rdI.drew | apply rdI.drewN))) ?_; intro uu zz; try simp at zz) | (go_at_call 52; refine pur (i_IsPolynomial _ xs _ (by repeat (with_reducible first | assumption | apply rdI.aft | apply rdI.alloc | apply rdI.drew | apply rdI.drewN))) ?_) | (go_at_call 37; refine via (HMI.out _) ?_; intro uu zz; try simp at zz) | (go_at_call 41; refine pur (HMS.out _) ?_) | (go_at_call 47; refine viaI (g := id) (i_reduce _ _ xs _ (by repeat (with_reducible first | exact H.out | apply rdI.aft | apply rdI.alloc | apply rdI.drew)) (by omega) hl) ?_; intro rr ur zr hown; (try simp at zr)))
    go_ret2
    exact ⟨_, rfl, hown.mono (by first | omega | (simp; omega)), (by refine Ext.bel ?_; repeat (with_reducible first | exact Ext.refl _ | apply Ext.alloc | apply Ext.aft | apply Ext.drew | apply Ext.drewN | apply Ext.setCell | exact Nat.le_add_right _ _ | exact Nat.le_refl _ | (simp; done) | omega))⟩
set_option maxRecDepth 20000 in
set_option maxHeartbeats 2000000 in
theorem s_ReduceToRing (p n : Int) (r : Value) (xs : List Int) (w : World) (h : rdI w r xs) :
    Calls Try.prog 17 #[(.agg #[.int .i64 p, .int .i64 n]), r] w fun e w' => ∃ v, e = .returned (.tuple #[v, .int .i64 (redToF p n xs).2]) ∧ ownR w.heap.size w' v (redToF p n xs).1 ∧ Below w.heap.size w w' := by
  have H := hid h
  cases h1 : ringB p n
  · have e : redToF p n xs = ([], 1) := by simp [redToF, h1]
    rw [e]; clear e
    go_enter Try.func17, Try.ntmps17
    go_wp2_with (first | (go_at_call 43; refine via (s_IsRing _ _ _) ?_; intro uu zz; try simp at zz))
    go_ret2
    exact ⟨.slice none 0 0, rfl, ownR.nil _ _, (by refine Ext.bel ?_; repeat (with_reducible first | exact Ext.refl _ | apply Ext.alloc | apply Ext.aft | apply Ext.drew | apply Ext.drewN | apply Ext.setCell | exact Nat.le_add_right _ _ | exact Nat.le_refl _ | (simp; done) | omega))⟩
  cases h2 : polyB xs
  · have e : redToF p n xs = ([], 1) := by simp [redToF, h2]
    rw [e]; clear e
    go_enter Try.func17, Try.ntmps17
    go_wp2_with (first | (go_at_call 43; refine via (s_IsRing _ _ _) ?_; intro uu zz; try simp at zz) | (go_at_call 53; refine via (s_IsPolynomial _ xs _ (by repeat (with_reducible first | assumption | apply rdI.aft | apply rdI.alloc | apply rdI.drew | apply rdI.drewN))) ?_; intro uu zz; try simp at zz) | (go_at_call 53; refine pur (s_IsPolynomial _ xs _ (by repeat (with_reducible first | assumption | apply rdI.aft | apply rdI.alloc | apply rdI.drew | apply rdI.drewN))) ?_))
    go_ret2
    exact ⟨.slice none 0 0, rfl, ownR.nil _ _, (by refine Ext.bel ?_; repeat (with_reducible first | exact Ext.refl _ | apply Ext.alloc | apply Ext.aft | apply Ext.drew | apply Ext.drewN | apply Ext.setCell | exact Nat.le_add_right _ _ | exact Nat.le_refl _ | (simp; done) | omega))⟩
  · have e : redToF p n xs = (redF (p ^ n.toNat) xs, 0) := by simp [redToF, h1, h2]
    rw [e]; clear e
    obtain ⟨r1, r2, r3, r4, _, _, _⟩ := ring_facts2 h1
    have hl : xs.length ≤ 1000000 := by have := (polyB_iff.1 h2).1; omega
    have HMI : Hid (∀ W : World, Calls Try.prog 37 #[.agg #[.int .i64 p, .int .i64 n]] W fun e w' => e = .returned (.int .i64 (p ^ n.toNat)) ∧ Below W.heap.size W w') := hid fun W => i_modulus p n W h1
    have HMS : Hid (∀ W : World, Calls Try.prog 41 #[.int .i64 p, .int .i64 n] W fun e w' => e = .returned (.int .i64 (p ^ n.toNat)) ∧ W = w') := hid fun W => by
      have := s_modulus p n W (by omega) (by omega) (by omega)
      rw [modu_ring h1] at this
      exact this
    obtain ⟨M, hM⟩ : ∃ M, M = p ^ n.toNat := ⟨_, rfl⟩
    rw [← hM] at HMI HMS r3 r4 ⊢
    clear hM
    go_enter Try.func17, Try.ntmps17
    go_wp2_with (first | (go_at_call 43; refine via (s_IsRing _ _ _) ?_; intro uu zz; try simp at zz) | (go_at_call 53; refine via (s_IsPolynomial _ xs _ (by repeat (with_reducible first | assumption | apply rdI.aft | apply rdI.alloc | apply rdI.drew | apply rdI.drewN))) ?_; intro uu zz; try simp at zz) | (go_at_call 53; refine pur (s_IsPolynomial _ xs _ (by repeat (with_reducible first | assumption | apply rdI.aft | apply rdI.alloc | apply rdI.drew | apply rdI.drewN))) ?_) | (go_at_call 37; refine via (HMI.out _) ?_; intro uu zz; try simp at zz) | (go_at_call 41; refine pur (HMS.out _) ?_) | (go_at_call 48; refine viaI (g := id) (s_reduce _ _ xs _ (by repeat (with_reducible first | exact H.out | apply rdI.aft | apply rdI.alloc | apply rdI.drew)) (by omega) hl) ?_; intro rr ur zr hown; (try simp at zr)))
    go_ret2
    exact ⟨_, rfl, hown.mono (by first | omega | (simp; omega)), (by refine Ext.bel ?_; repeat (with_reducible first | exact Ext.refl _ | apply Ext.alloc | apply Ext.aft | apply Ext.drew | apply Ext.drewN | apply Ext.setCell | exact Nat.le_add_right _ _ | exact Nat.le_refl _ | (simp; done) | omega))⟩
end Go.Proofs.Ytganmeiaflkkoaa
