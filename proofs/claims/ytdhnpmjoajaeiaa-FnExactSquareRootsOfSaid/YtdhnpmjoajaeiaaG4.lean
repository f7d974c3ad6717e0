/- The value of a polynomial in a ring: both texts, the law. -/
import Derived.Test.YtdhnpmjoajaeiaaG3
import Derived.Test.YtdhnpmjoajaeiaaMA
import Derived.Test.YtdhnpmjoajaeiaaB9
namespace Go.Proofs.Ytdhnpmjoajaeiaa
open Go Go.RowKit

set_option maxHeartbeats 400000 in
theorem l_toRing' (p n : Int) (w : World) :
    Calls Try.prog 6 #[(.agg #[.int .i64 p, .int .i64 n])] w fun e w' => e = .returned (.agg #[.int .i64 p, .int .i64 n]) ∧ Below w.heap.size w w' := by
  go_enter Try.func6, Try.ntmps6
  go_wp2
  exact bodyPost_ret (v := (.agg #[.int .i64 p, .int .i64 n])) (by first | (simp [results, go_sem]; done) | simp [results, go_sem, ↓IntWalk.iteOmega]) rfl ⟨rfl, (by refine Ext.bel ?_; repeat (with_reducible first | exact Ext.refl _ | apply Ext.alloc | apply Ext.aft | apply Ext.drew | apply Ext.drewN | apply Ext.setCell | exact Nat.le_add_right _ _ | exact Nat.le_refl _ | (simp; done) | omega))⟩

/-- The first error of a ring, a polynomial and a residue. -/
def ringedF (p n : Int) (xs : List Int) (x : Int) : Int := if ringB p n = true ∧ polyB xs = true then (if inB x 0 (p ^ n.toNat - 1) = true then 0 else 2) else 1
theorem ringedF_0 {p n : Int} {xs : List Int} {x : Int} (h : ringedF p n xs x = 0) : ringB p n = true ∧ polyB xs = true ∧ inB x 0 (p ^ n.toNat - 1) = true := by
  unfold ringedF at h
  split at h
  · split at h
    · rename_i h1 h2; exact ⟨h1.1, h1.2, h2⟩
    · omega
  · omega
theorem ringedF_cases (p n : Int) (xs : List Int) (x : Int) : ringedF p n xs x = 0 ∨ ringedF p n xs x = 1 ∨ ringedF p n xs x = 2 := by
  unfold ringedF; split <;> (try split) <;> simp

set_option maxHeartbeats 1000000 in
theorem i_ringed (p n : Int) (r : Value) (xs : List Int) (x : Int) (w : World) (h : rdI w r xs) :
    Calls Try.prog 45 #[(.agg #[.int .i64 p, .int .i64 n]), r, .int .i64 x] w fun e w' => e = .returned (.int .i64 (ringedF p n xs x)) ∧ Below w.heap.size w w' := by
  cases h1 : ringB p n
  · have e : ringedF p n xs x = 1 := by simp [ringedF, h1]
    rw [e]; clear e
    go_enter Try.func45, Try.ntmps45
    go_wp2_with (first | (go_at_call 30; refine via (i_IsRing _ _ _) ?_; intro uu zz; try simp at zz))
    go_ret
    exact ⟨rfl, (by refine Ext.bel ?_; repeat (with_reducible first | exact Ext.refl _ | apply Ext.alloc | apply Ext.aft | apply Ext.drew | apply Ext.drewN | apply Ext.setCell | exact Nat.le_add_right _ _ | exact Nat.le_refl _ | (simp; done) | omega))⟩
  cases h2 : polyB xs
  · have e : ringedF p n xs x = 1 := by simp [ringedF, h2]
    rw [e]; clear e
    go_enter Try.func45, Try.ntmps45
    go_wp2_with (first | (go_at_call 30; refine via (i_IsRing _ _ _) ?_; intro uu zz; try simp at zz) | (go_at_call 35; refine via (i_IsPolynomial _ _ _ (by repeat (with_reducible first | assumption | apply rdI.aft | apply rdI.alloc | apply rdI.drew | apply rdI.drewN))) ?_; intro uu zz; try simp at zz))
    go_ret
    exact ⟨rfl, (by refine Ext.bel ?_; repeat (with_reducible first | exact Ext.refl _ | apply Ext.alloc | apply Ext.aft | apply Ext.drew | apply Ext.drewN | apply Ext.setCell | exact Nat.le_add_right _ _ | exact Nat.le_refl _ | (simp; done) | omega))⟩
  have H1 := hid h1
  cases h3 : inB x 0 (p ^ n.toNat - 1)
  all_goals
    have e := hid (show ringedF p n xs x = _ by unfold ringedF; rw [if_pos ⟨h1, h2⟩, h3])
    go_enter Try.func45, Try.ntmps45
    go_wp2_with (first | (go_at_call 30; refine via (i_IsRing _ _ _) ?_; intro uu zz; try simp at zz) | (go_at_call 35; refine via (i_IsPolynomial _ _ _ (by repeat (with_reducible first | assumption | apply rdI.aft | apply rdI.alloc | apply rdI.drew | apply rdI.drewN))) ?_; intro uu zz; try simp at zz) | (go_at_call 31; refine via (i_has _ _ _ _ H1.out) ?_; intro uu zz; try simp at zz))
    go_ret
    exact ⟨ret_i (by rw [e.out]; simp), (by refine Ext.bel ?_; repeat (with_reducible first | exact Ext.refl _ | apply Ext.alloc | apply Ext.aft | apply Ext.drew | apply Ext.drewN | apply Ext.setCell | exact Nat.le_add_right _ _ | exact Nat.le_refl _ | (simp; done) | omega))⟩

set_option maxHeartbeats 1000000 in
theorem s_ringed (p n : Int) (r : Value) (xs : List Int) (x : Int) (w : World) (h : rdI w r xs) :
    Calls Try.prog 49 #[(.agg #[.int .i64 p, .int .i64 n]), r, .int .i64 x] w fun e w' => e = .returned (.int .i64 (ringedF p n xs x)) ∧ Below w.heap.size w w' := by
  cases h2 : polyB xs
  · have e : ringedF p n xs x = 1 := by simp [ringedF, h2]
    rw [e]; clear e
    go_enter Try.func49, Try.ntmps49
    go_wp2_with (first | (go_at_call 37; refine pur (s_IsPolynomial _ _ _ (by repeat (with_reducible first | assumption | apply rdI.aft | apply rdI.alloc | apply rdI.drew | apply rdI.drewN))) ?_))
    go_ret
    exact ⟨rfl, (by refine Ext.bel ?_; repeat (with_reducible first | exact Ext.refl _ | apply Ext.alloc | apply Ext.aft | apply Ext.drew | apply Ext.drewN | apply Ext.setCell | exact Nat.le_add_right _ _ | exact Nat.le_refl _ | (simp; done) | omega))⟩
  · have e : ringedF p n xs x = codeF p n x := by
      unfold ringedF codeF; cases h1 : ringB p n <;> simp [h2]
    rw [e]; clear e
    go_enter Try.func49, Try.ntmps49
    go_wp2_with (first | (go_at_call 37; refine pur (s_IsPolynomial _ _ _ (by repeat (with_reducible first | assumption | apply rdI.aft | apply rdI.alloc | apply rdI.drew | apply rdI.drewN))) ?_) | (go_at_call 27; refine via (s_code _ _ _ _) ?_; intro uu zz; try simp at zz))
    go_ret
    exact ⟨rfl, (by refine Ext.bel ?_; repeat (with_reducible first | exact Ext.refl _ | apply Ext.alloc | apply Ext.aft | apply Ext.drew | apply Ext.drewN | apply Ext.setCell | exact Nat.le_add_right _ _ | exact Nat.le_refl _ | (simp; done) | omega))⟩

/-- What is known of a ring, a polynomial and a residue that fit. -/
theorem ringed_facts {p n : Int} {xs : List Int} {x : Int} (h : ringedF p n xs x = 0) :
    (2 ≤ p ∧ p ≤ 97) ∧ (1 ≤ n ∧ n ≤ 40) ∧ (1 ≤ p ^ n.toNat ∧ p ^ n.toNat ≤ 1000000000) ∧ (0 ≤ x ∧ x ≤ 1000000000) ∧ (∀ c ∈ xs, -1000000 ≤ c ∧ c ≤ 1000000) ∧ xs.length ≤ 9 ∧ x ≤ p ^ n.toNat - 1 := by
  obtain ⟨h1, h2, h3⟩ := ringedF_0 h
  have a := ringB_iff.1 h1
  have hp := smallP_bd a.1
  have b := polyB_iff.1 h2
  have c := inB_iff.1 h3
  have d := pow_pos' (show 1 ≤ p by omega) n.toNat
  exact ⟨hp, ⟨a.2.1, a.2.2.1⟩, ⟨d, a.2.2.2⟩, ⟨c.1, by omega⟩, coef_bd b.2.1, b.1, c.2⟩
theorem widen {xs : List Int} (h : ∀ c ∈ xs, -1000000 ≤ c ∧ c ≤ 1000000) : ∀ c ∈ xs, -1000000000 ≤ c ∧ c ≤ 1000000000 := fun c hc => by have := h c hc; omega

def virF (p n : Int) (xs : List Int) (x : Int) : Int × Int := if ringedF p n xs x = 0 then (valF (p ^ n.toNat) x xs, 0) else (0, ringedF p n xs x)

set_option maxHeartbeats 1000000 in
theorem i_ValueInRing (p n : Int) (r : Value) (xs : List Int) (x : Int) (w : World) (h : rdI w r xs) :
    Calls Try.prog 23 #[(.agg #[.int .i64 p, .int .i64 n]), r, .int .i64 x] w fun e w' => e = .returned (.tuple #[.int .i64 (virF p n xs x).1, .int .i64 (virF p n xs x).2]) ∧ Below w.heap.size w w' := by
  by_cases h0 : ringedF p n xs x = 0
  · have e : (virF p n xs x) = (valF (p ^ n.toNat) x xs, 0) := by unfold virF; rw [if_pos h0]
    rw [e]; clear e
    obtain ⟨hp, hn, hm, hx, hc, _, _⟩ := ringed_facts h0
    have H1 := hid (ringedF_0 h0).1
    have Hc := hid (widen hc)
    clear hc
    go_enter Try.func23, Try.ntmps23
    go_wp2_with (first | (go_at_call 45; refine via (i_ringed _ _ _ _ _ _ (by repeat (with_reducible first | assumption | apply rdI.aft | apply rdI.alloc | apply rdI.drew | apply rdI.drewN))) ?_; intro uu zz; try simp at zz) | (go_at_call 40; refine via (i_modulus _ _ _ H1.out) ?_; intro uu zz; try simp at zz) | (go_at_call 47; refine pur (i_valueBy _ _ _ _ _ (by repeat (with_reducible first | assumption | apply rdI.aft | apply rdI.alloc | apply rdI.drew | apply rdI.drewN)) hm hx Hc.out) ?_))
    go_ret2
    exact ⟨rfl, (by refine Ext.bel ?_; repeat (with_reducible first | exact Ext.refl _ | apply Ext.alloc | apply Ext.aft | apply Ext.drew | apply Ext.drewN | apply Ext.setCell | exact Nat.le_add_right _ _ | exact Nat.le_refl _ | (simp; done) | omega))⟩
  · have e : (virF p n xs x) = (0, ringedF p n xs x) := by unfold virF; rw [if_neg h0]
    rw [e]; clear e
    have h0' : (ringedF p n xs x != 0) = true := by simpa using h0
    clear h0
    go_enter Try.func23, Try.ntmps23
    go_wp2_with (first | (go_at_call 45; refine via (i_ringed _ _ _ _ _ _ (by repeat (with_reducible first | assumption | apply rdI.aft | apply rdI.alloc | apply rdI.drew | apply rdI.drewN))) ?_; intro uu zz; try simp at zz))
    go_ret2
    exact ⟨rfl, (by refine Ext.bel ?_; repeat (with_reducible first | exact Ext.refl _ | apply Ext.alloc | apply Ext.aft | apply Ext.drew | apply Ext.drewN | apply Ext.setCell | exact Nat.le_add_right _ _ | exact Nat.le_refl _ | (simp; done) | omega))⟩

set_option maxHeartbeats 1000000 in
theorem s_ValueInRing (p n : Int) (r : Value) (xs : List Int) (x : Int) (w : World) (h : rdI w r xs) :
    Calls Try.prog 24 #[(.agg #[.int .i64 p, .int .i64 n]), r, .int .i64 x] w fun e w' => e = .returned (.tuple #[.int .i64 (virF p n xs x).1, .int .i64 (virF p n xs x).2]) ∧ Below w.heap.size w w' := by
  by_cases h0 : ringedF p n xs x = 0
  · have hr := (ringedF_0 h0).1
    have e : (virF p n xs x) = (valF (modu p n) x xs, 0) := by unfold virF; rw [if_pos h0, modu_ring hr]
    rw [e]; clear e
    obtain ⟨hp, hn, hm, hx, hc, _, _⟩ := ringed_facts h0
    rw [← modu_ring hr] at hm
    have Hc := hid (widen hc)
    clear hc hr
    go_enter Try.func24, Try.ntmps24
    go_wp2_with (first | (go_at_call 49; refine via (s_ringed _ _ _ _ _ _ (by repeat (with_reducible first | assumption | apply rdI.aft | apply rdI.alloc | apply rdI.drew | apply rdI.drewN))) ?_; intro uu zz; try simp at zz) | (go_at_call 38; refine pur (s_modulus _ _ _ (by omega) (by omega) (by omega)) ?_) | (go_at_call 42; refine pur (s_value _ _ _ _ _ (by repeat (with_reducible first | assumption | apply rdI.aft | apply rdI.alloc | apply rdI.drew | apply rdI.drewN)) hm hx Hc.out) ?_))
    go_ret2
    exact ⟨rfl, (by refine Ext.bel ?_; repeat (with_reducible first | exact Ext.refl _ | apply Ext.alloc | apply Ext.aft | apply Ext.drew | apply Ext.drewN | apply Ext.setCell | exact Nat.le_add_right _ _ | exact Nat.le_refl _ | (simp; done) | omega))⟩
  · have e : (virF p n xs x) = (0, ringedF p n xs x) := by unfold virF; rw [if_neg h0]
    rw [e]; clear e
    have h0' : (ringedF p n xs x != 0) = true := by simpa using h0
    clear h0
    go_enter Try.func24, Try.ntmps24
    go_wp2_with (first | (go_at_call 49; refine via (s_ringed _ _ _ _ _ _ (by repeat (with_reducible first | assumption | apply rdI.aft | apply rdI.alloc | apply rdI.drew | apply rdI.drewN))) ?_; intro uu zz; try simp at zz))
    go_ret2
    exact ⟨rfl, (by refine Ext.bel ?_; repeat (with_reducible first | exact Ext.refl _ | apply Ext.alloc | apply Ext.aft | apply Ext.drew | apply Ext.drewN | apply Ext.setCell | exact Nat.le_add_right _ _ | exact Nat.le_refl _ | (simp; done) | omega))⟩

end Go.Proofs.Ytdhnpmjoajaeiaa
