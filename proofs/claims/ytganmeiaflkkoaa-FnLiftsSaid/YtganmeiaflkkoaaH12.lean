/- Division by a monic polynomial in a ring: the program's text. -/
import Derived.Test.YtganmeiaflkkoaaH11
import Derived.Test.YtganmeiaflkkoaaH5
namespace Go.Proofs.Ytganmeiaflkkoaa
open Go Go.RowKit

/-- A monic polynomial. -/
def monicB (xs : List Int) : Bool := xs.getLast? == some 1
theorem monicB_nil : monicB [] = false := rfl
theorem monicB_at {xs : List Int} {k : Nat} (h : xs.length = k + 1) : monicB xs = (xs.getD k 0 == 1) := by
  unfold monicB
  have e : xs.getLast? = some (xs[k]'(by omega)) := by
    rw [List.getLast?_eq_getElem?, show xs.length - 1 = k by omega, List.getElem?_eq_getElem]
  rw [e, getD_lt (by omega)]
  cases h : (xs[k]'(by omega) == 1) <;> simp_all

set_option maxHeartbeats 1000000 in
theorem i_isMonic (r : Value) (xs : List Int) (w : World) (h : rdI w r xs) :
    Calls Try.prog 34 #[r] w fun e w' => e = .returned (.bool (monicB xs)) ∧ w = w' := by
  obtain ⟨a, cap, rfl, hm, _⟩ := id h
  unfold maxLen at hm
  rcases Nat.eq_zero_or_pos xs.length with h0 | h0
  · obtain rfl : xs = [] := List.eq_nil_of_length_eq_zero h0
    rw [monicB_nil]
    simp only [List.length_nil]
    go_enter Try.func34, Try.ntmps34
    go_wp2_with fail
    go_ret
    exact ⟨rfl, rfl⟩
  · obtain ⟨k, hk⟩ : ∃ k, xs.length = k + 1 := ⟨xs.length - 1, by omega⟩
    rw [monicB_at hk]
    obtain ⟨b, o, rfl⟩ := rd_head h (by intro e; subst e; simp at h0)
    have h1 := rd_at h (j := k) (by omega)
    obtain ⟨x, hx⟩ : ∃ x, x = xs.getD k 0 := ⟨_, rfl⟩
    rw [← hx] at h1 ⊢
    rw [hk]
    clear h hx h0
    have hk0 : 0 ≤ (k : Int) := by omega
    cases hx1 : (x == 1)
    all_goals
      go_enter Try.func34, Try.ntmps34
      go_wp2_with fail
      go_ret
      exact ⟨by simp [hx1], rfl⟩
set_option maxHeartbeats 1000000 in
theorem s_isMonic (r : Value) (xs : List Int) (w : World) (h : rdI w r xs) :
    Calls Try.prog 39 #[r] w fun e w' => e = .returned (.bool (monicB xs)) ∧ w = w' := by
  obtain ⟨a, cap, rfl, hm, _⟩ := id h
  unfold maxLen at hm
  rcases Nat.eq_zero_or_pos xs.length with h0 | h0
  · obtain rfl : xs = [] := List.eq_nil_of_length_eq_zero h0
    rw [monicB_nil]
    simp only [List.length_nil]
    go_enter Try.func39, Try.ntmps39
    go_wp2_with fail
    go_ret
    exact ⟨rfl, rfl⟩
  · obtain ⟨k, hk⟩ : ∃ k, xs.length = k + 1 := ⟨xs.length - 1, by omega⟩
    rw [monicB_at hk]
    obtain ⟨b, o, rfl⟩ := rd_head h (by intro e; subst e; simp at h0)
    have h1 := rd_at h (j := k) (by omega)
    obtain ⟨x, hx⟩ : ∃ x, x = xs.getD k 0 := ⟨_, rfl⟩
    rw [← hx] at h1 ⊢
    rw [hk]
    clear h hx h0
    have hk0 : 0 ≤ (k : Int) := by omega
    cases hx1 : (x == 1)
    all_goals
      go_enter Try.func39, Try.ntmps39
      go_wp2_with fail
      go_ret
      exact ⟨by simp [hx1], rfl⟩

/-- Division by a monic polynomial in a ring, with its error. -/
def divideInRingF (p n : Int) (f g : List Int) : List Int × List Int × Int :=
  if inRingB p n f = true ∧ inRingB p n g = true then (if monicB g = true then (quoF (p ^ n.toNat) (fun x => x) f g, remF (p ^ n.toNat) (fun x => x) f g, 0) else ([], [], 5)) else ([], [], 1)
theorem monic_len {g : List Int} (h : monicB g = true) : 1 ≤ g.length := by
  rcases Nat.eq_zero_or_pos g.length with h0 | h0
  · rw [List.eq_nil_of_length_eq_zero h0] at h; cases h
  · exact h0

set_option maxRecDepth 20000 in
set_option maxHeartbeats 4000000 in
theorem s_DivideInRing (p n : Int) (r1 r2 : Value) (f g : List Int) (w : World) (h1 : rdI w r1 f) (h2 : rdI w r2 g) :
    Calls Try.prog 8 #[(.agg #[.int .i64 p, .int .i64 n]), r1, r2] w fun e w' => ∃ v1 v2, e = .returned (.tuple #[v1, v2, .int .i64 (divideInRingF p n f g).2.2]) ∧ ownR w.heap.size w' v1 (divideInRingF p n f g).1 ∧ ownR w.heap.size w' v2 (divideInRingF p n f g).2.1 ∧ rowNe v1 v2.ownBlock ∧ rowNe v2 v1.ownBlock ∧ Below w.heap.size w w' := by
  cases hx : inRingB p n f
  · have e : (divideInRingF p n f g) = ([], [], 1) := by unfold divideInRingF; rw [if_neg (by simp [hx])]
    rw [e]; clear e
    go_enter Try.func8, Try.ntmps8
    go_wp2_with fail
    refine via (s_IsInRing _ _ r1 f _ (by repeat (with_reducible first | assumption | apply rdI.aft | apply rdI.alloc | apply rdI.drew | apply rdI.drewN))) ?_
    intro uu zz; try simp at zz
    go_wp2_with fail
    go_ret3
    exact ⟨.slice none 0 0, .slice none 0 0, rfl, ownR.nil _ _, ownR.nil _ _, (fun k hk => by cases hk), (fun k hk => by cases hk), (by refine Ext.bel ?_; repeat (with_reducible first | exact Ext.refl _ | apply Ext.alloc | apply Ext.aft | apply Ext.drew | apply Ext.drewN | apply Ext.setCell | exact Nat.le_add_right _ _ | exact Nat.le_refl _ | (simp; done) | omega))⟩
  cases hy : inRingB p n g
  · have e : (divideInRingF p n f g) = ([], [], 1) := by unfold divideInRingF; rw [if_neg (by simp [hy])]
    rw [e]; clear e
    go_enter Try.func8, Try.ntmps8
    go_wp2_with fail
    refine via (s_IsInRing _ _ r1 f _ (by repeat (with_reducible first | assumption | apply rdI.aft | apply rdI.alloc | apply rdI.drew | apply rdI.drewN))) ?_
    intro uu zz; try simp at zz
    go_wp2_with fail
    refine via (s_IsInRing _ _ r2 g _ (by repeat (with_reducible first | assumption | apply rdI.aft | apply rdI.alloc | apply rdI.drew | apply rdI.drewN))) ?_
    intro uu zz; try simp at zz
    go_wp2_with fail
    go_ret3
    exact ⟨.slice none 0 0, .slice none 0 0, rfl, ownR.nil _ _, ownR.nil _ _, (fun k hk => by cases hk), (fun k hk => by cases hk), (by refine Ext.bel ?_; repeat (with_reducible first | exact Ext.refl _ | apply Ext.alloc | apply Ext.aft | apply Ext.drew | apply Ext.drewN | apply Ext.setCell | exact Nat.le_add_right _ _ | exact Nat.le_refl _ | (simp; done) | omega))⟩
  cases hmo : monicB g
  · have e : (divideInRingF p n f g) = ([], [], 5) := by unfold divideInRingF; rw [if_pos ⟨hx, hy⟩, if_neg (by simp [hmo])]
    rw [e]; clear e
    go_enter Try.func8, Try.ntmps8
    go_wp2_with fail
    refine via (s_IsInRing _ _ r1 f _ (by repeat (with_reducible first | assumption | apply rdI.aft | apply rdI.alloc | apply rdI.drew | apply rdI.drewN))) ?_
    intro uu zz; try simp at zz
    go_wp2_with fail
    refine via (s_IsInRing _ _ r2 g _ (by repeat (with_reducible first | assumption | apply rdI.aft | apply rdI.alloc | apply rdI.drew | apply rdI.drewN))) ?_
    intro uu zz; try simp at zz
    go_wp2_with (go_at_call 39; refine pur (s_isMonic _ g _ (by repeat (with_reducible first | assumption | apply rdI.aft | apply rdI.alloc | apply rdI.drew | apply rdI.drewN))) ?_)
    go_ret3
    exact ⟨.slice none 0 0, .slice none 0 0, rfl, ownR.nil _ _, ownR.nil _ _, (fun k hk => by cases hk), (fun k hk => by cases hk), (by refine Ext.bel ?_; repeat (with_reducible first | exact Ext.refl _ | apply Ext.alloc | apply Ext.aft | apply Ext.drew | apply Ext.drewN | apply Ext.setCell | exact Nat.le_add_right _ _ | exact Nat.le_refl _ | (simp; done) | omega))⟩
  obtain ⟨hp, hn, hM⟩ := inRing_M hx
  have fx := inRing_facts hx
  have fy := inRing_facts hy
  have hlg := monic_len hmo
  have e : (divideInRingF p n f g) = (quoF (p ^ n.toNat) (fun x => x) f g, remF (p ^ n.toNat) (fun x => x) f g, 0) := by unfold divideInRingF; rw [if_pos ⟨hx, hy⟩, if_pos hmo]
  rw [e]; clear e
  obtain ⟨M, hMM⟩ : ∃ M, M = p ^ n.toNat := ⟨_, rfl⟩
  have HMM : Hid (modu p n = M) := hid (by rw [modu_ring fx.1, hMM])
  rw [← hMM] at hM fx fy ⊢
  have Hm := hid hM
  have Hf := hid fx.2.2.1
  have Hg := hid fy.2.2.1
  have hlf : f.length ≤ 1000 := by have := fx.2.1; omega
  have hlg2 : 1 ≤ g.length ∧ g.length ≤ 1000 := by have := fy.2.1; omega
  clear fx fy hMM hM hlg
  go_enter Try.func8, Try.ntmps8
  go_wp2_with fail
  refine via (s_IsInRing _ _ r1 f _ (by repeat (with_reducible first | assumption | apply rdI.aft | apply rdI.alloc | apply rdI.drew | apply rdI.drewN))) ?_
  intro uu zz; try simp at zz
  go_wp2_with fail
  refine via (s_IsInRing _ _ r2 g _ (by repeat (with_reducible first | assumption | apply rdI.aft | apply rdI.alloc | apply rdI.drew | apply rdI.drewN))) ?_
  intro uu2 zz2; try simp at zz2
  go_wp2_with (first | (go_at_call 39; refine pur (s_isMonic _ g _ (by repeat (with_reducible first | assumption | apply rdI.aft | apply rdI.alloc | apply rdI.drew | apply rdI.drewN))) ?_) | (go_at_call 41; refine pur (s_modulus _ _ _ (by omega) (by omega) (by omega)) ?_; rw [HMM.out]))
  refine viaI2 (g := fun r q => .tuple #[r, q]) (s_divRing _ _ f g M _ (by repeat (with_reducible first | assumption | apply rdI.aft | apply rdI.alloc | apply rdI.drew | apply rdI.drewN)) (by repeat (with_reducible first | assumption | apply rdI.aft | apply rdI.alloc | apply rdI.drew | apply rdI.drewN)) Hm.out Hf.out Hg.out hlf hlg2) ?_
  intro v1 v2 u3 z3 o1 o2 n1 n2
  try simp at z3
  go_wp2_with fail
  go_ret3
  exact ⟨v1, v2, rfl, o1.mono (by first | omega | (simp; omega)), o2.mono (by first | omega | (simp; omega)), n1, n2, (by refine Ext.bel ?_; repeat (with_reducible first | exact Ext.refl _ | apply Ext.alloc | apply Ext.aft | apply Ext.drew | apply Ext.drewN | apply Ext.setCell | exact Nat.le_add_right _ _ | exact Nat.le_refl _ | (simp; done) | omega))⟩

end Go.Proofs.Ytganmeiaflkkoaa
