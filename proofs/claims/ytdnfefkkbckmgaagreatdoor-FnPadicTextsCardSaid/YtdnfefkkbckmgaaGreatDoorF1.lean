/- A number from its digits: both texts. -/
import Derived.Test.YtdnfefkkbckmgaaGreatDoorE7
import Derived.Test.YtdnfefkkbckmgaaGreatDoorE6
import Derived.Test.YtdnfefkkbckmgaaGreatDoorB7
namespace Go.Proofs.YtdnfefkkbckmgaaGreatDoor
open Go Go.RowKit

/-- A number that is no digit. -/
def noDigit (p : Int) : Int → Bool := fun d => !inB d 0 (p - 1)
/-- The number with some digits from a place on, with its error. -/
def fdF (p v : Int) (xs : List Int) : Pd × Int :=
  if smallP p = true then (if inB v (-60) 60 = true ∧ xs.any (noDigit p) = false then (if xs = [] ∨ ringB p xs.length = true then limF (knownF p v (dval p xs) xs.length) else (⟨0, 0, 0, 0⟩, 3)) else (⟨0, 0, 0, 0⟩, 2)) else (⟨0, 0, 0, 0⟩, 1)
theorem fd_digit {p : Int} {xs : List Int} (h : xs.any (noDigit p) = false) : ∀ x ∈ xs, 0 ≤ x ∧ x ≤ p - 1 := by
  intro x hx
  have := List.any_eq_false.1 h x hx
  simp [noDigit] at this
  exact inB_iff.1 this
theorem fd_bound {p : Int} {xs : List Int} (h : xs = [] ∨ ringB p xs.length = true) : xs.length ≤ 40 ∧ p ^ xs.length ≤ 1000000000 := by
  rcases h with rfl | h
  · simp
  · have := ringB_iff.1 h
    simp at this
    exact ⟨by omega, this.2.2.2⟩

set_option maxHeartbeats 400000 in
theorem pred_digits (p : Int) (B : Nat) (w : World) (hp : 2 ≤ p ∧ p ≤ 97) (hB : B < w.heap.size) (hc : w.cell? ⟨B, 0, none⟩ = some (.int .i64 p)) :
    predC 47 #[.pointer (some ⟨B, 0, none⟩)] (noDigit p) w := fun W x hb => by
  have hc' := (hb.cell (p := ⟨B, 0, none⟩) hB).trans hc
  have HB := hid hb
  unfold noDigit
  clear hb hc
  show Calls Tryz.prog 47 #[.int .i64 x, .pointer (some ⟨B, 0, none⟩)] W _
  cases h : inB x 0 (p - 1)
  all_goals
    go_enter Tryz.func47, Tryz.ntmps47
    go_wp2_with (go_at_call 48; refine pur (i_within _ _ _ _) ?_)
    go_ret
    exact ⟨rfl, HB.out⟩

theorem make_dval {p v : Int} {xs : List Int} (hp : 2 ≤ p) (h : ∀ x ∈ xs, 0 ≤ x ∧ x ≤ p - 1) : makeF p v (dval p xs) (v + xs.length) = knownF p v (dval p xs) xs.length := by
  obtain ⟨h1, h2⟩ := dval_bd hp xs h
  unfold makeF
  split
  · have : xs = [] := List.eq_nil_of_length_eq_zero (by omega)
    subst this
    simp [dval, knownF]
  · rw [show (v + (xs.length : Int) - v).toNat = xs.length by omega, Int.emod_eq_of_lt h1 (by omega), show v + (xs.length : Int) - v = xs.length by omega]

set_option maxHeartbeats 2000000 in
theorem i_FromDigits (p v : Int) (r : Value) (xs : List Int) (w : World) (h : rdI w r xs) :
    Calls Tryz.prog 22 #[.int .i64 p, .int .i64 v, r] w fun e w' => e = .returned (.tuple #[.agg #[.int .i64 (fdF p v xs).1.p, .int .i64 (fdF p v xs).1.v, .int .i64 (fdF p v xs).1.u, .int .i64 (fdF p v xs).1.n], .int .i64 (fdF p v xs).2]) ∧ Below w.heap.size w w' := by
  cases h1 : smallP p
  · have e : (fdF p v xs) = (⟨0, 0, 0, 0⟩, 1) := by simp [fdF, h1]
    rw [e]; clear e
    go_enter Tryz.func22, Tryz.ntmps22
    go_wp2_with (first | (go_at_call 44; refine pur (i_small _ _) ?_))
    exact bodyPost_ret (v := .tuple #[(.agg #[.int .i64 0, .int .i64 0, .int .i64 0, .int .i64 0]), .int .i64 1]) (by first | (simp [results, go_sem]; done) | simp [results, go_sem, ↓IntWalk.iteOmega]) rfl ⟨rfl, (by refine Ext.bel ?_; repeat (with_reducible first | exact Ext.refl _ | apply Ext.alloc | apply Ext.aft | apply Ext.drew | apply Ext.drewN | apply Ext.setCell | exact Nat.le_add_right _ _ | exact Nat.le_refl _ | (simp; done) | omega))⟩
  have hp := smallP_bd h1
  cases h2 : inB v (-60) 60
  · have e : (fdF p v xs) = (⟨0, 0, 0, 0⟩, 2) := by simp [fdF, h1, h2]
    rw [e]; clear e
    go_enter Tryz.func22, Tryz.ntmps22
    go_wp2_with (first | (go_at_call 44; refine pur (i_small _ _) ?_) | (go_at_call 45; refine pur (i_isPlace _ _) ?_))
    exact bodyPost_ret (v := .tuple #[(.agg #[.int .i64 0, .int .i64 0, .int .i64 0, .int .i64 0]), .int .i64 2]) (by first | (simp [results, go_sem]; done) | simp [results, go_sem, ↓IntWalk.iteOmega]) rfl ⟨rfl, (by refine Ext.bel ?_; repeat (with_reducible first | exact Ext.refl _ | apply Ext.alloc | apply Ext.aft | apply Ext.drew | apply Ext.drewN | apply Ext.setCell | exact Nat.le_add_right _ _ | exact Nat.le_refl _ | (simp; done) | omega))⟩
  obtain ⟨a, cap, rfl, _, _⟩ := id h
  have eg : ∀ args w, (callFunc 47 args).run Tryz.prog w = .ok (.enter 47 args) w := entersT Tryz.func47 (by kernel_rfl) rfl
  obtain ⟨B, hB⟩ : ∃ B, B = xs.any (noDigit p) := ⟨_, rfl⟩
  have H3 := hid hB.symm
  cases B
  · clear hB
    have hv := inB_iff.1 h2
    have hlen : xs.length ≤ maxLen := by obtain ⟨a, cap, _, hm, _⟩ := h; exact hm
    unfold maxLen at hlen
    by_cases h4 : xs = [] ∨ ringB p xs.length = true
    · have e : (fdF p v xs) = (limF (knownF p v (dval p xs) xs.length)) := by unfold fdF; rw [if_pos h1, if_pos ⟨h2, H3.out⟩, if_pos h4]
      rw [e]; clear e
      obtain ⟨hl, hb⟩ := fd_bound h4
      have hl2 : xs.length ≤ 1000 := by omega
      have Hd := hid (fd_digit H3.out)
      have Hb := hid hb
      rcases h4 with h0 | h4
      · have hpos : ¬ 0 < xs.length := by rw [h0]; simp
        have hdec : decide (0 < xs.length) = false := by simpa using hpos
        clear hb hl h0
        go_enter Tryz.func22, Tryz.ntmps22
        go_wp2_with (first | (go_at_call 44; refine pur (i_small _ _) ?_) | (go_at_call 45; refine pur (i_isPlace _ _) ?_) | (go_at_call 46; refine via (lib_containsB _ _ _ eg _ _ _ (by repeat (with_reducible first | assumption | apply rdI.aft | apply rdI.alloc | apply rdI.drew | apply rdI.drewN)) (pred_digits p _ _ hp (by first | (simp; done) | (simp; omega)) (by simp [go_sem])) _ H3.out) ?_; intro uu zz; try simp at zz))
        refine wp_region_calm (by kernel_rfl) (by kernel_rfl) ?_
        repeat (go_big_quiet_step (fail))
        refine wpQuiet_nil ?_; intro uq zq; try simp at zq
        go_wp2_with (first | (go_at_call 52; refine via (i_fromDigits _ _ _ _ _ (by repeat (with_reducible first | assumption | apply rdI.aft | apply rdI.alloc | apply rdI.drew | apply rdI.drewN)) hp (by omega) Hd.out hl2 Hb.out) ?_; intro uu zz; try simp at zz) | (go_at_call 51; refine via (i_orLimit _ _ _ _ _) ?_; intro uu zz; try simp at zz))
        exact bodyPost_ret (v := (.tuple #[.agg #[.int .i64 (limF (knownF p v (dval p xs) xs.length)).1.p, .int .i64 (limF (knownF p v (dval p xs) xs.length)).1.v, .int .i64 (limF (knownF p v (dval p xs) xs.length)).1.u, .int .i64 (limF (knownF p v (dval p xs) xs.length)).1.n], .int .i64 (limF (knownF p v (dval p xs) xs.length)).2])) (by first | (simp [results, go_sem]; done) | simp [results, go_sem, ↓IntWalk.iteOmega]) rfl ⟨rfl, (by refine Ext.bel ?_; repeat (with_reducible first | exact Ext.refl _ | apply Ext.alloc | apply Ext.aft | apply Ext.drew | apply Ext.drewN | apply Ext.setCell | exact Nat.le_add_right _ _ | exact Nat.le_refl _ | (simp; done) | omega))⟩
      · have hpos : 0 < xs.length := by have := ringB_iff.1 h4; omega
        have hdec : decide (0 < xs.length) = true := by simpa using hpos
        clear hb
        go_enter Tryz.func22, Tryz.ntmps22
        go_wp2_with (first | (go_at_call 44; refine pur (i_small _ _) ?_) | (go_at_call 45; refine pur (i_isPlace _ _) ?_) | (go_at_call 46; refine via (lib_containsB _ _ _ eg _ _ _ (by repeat (with_reducible first | assumption | apply rdI.aft | apply rdI.alloc | apply rdI.drew | apply rdI.drewN)) (pred_digits p _ _ hp (by first | (simp; done) | (simp; omega)) (by simp [go_sem])) _ H3.out) ?_; intro uu zz; try simp at zz))
        refine wp_region_calm (by kernel_rfl) (by kernel_rfl) ?_
        repeat (go_big_quiet_step (first | (go_at_call 50; exact calmp (i_size _ _ _ (by repeat (with_reducible first | assumption | apply rdI.aft | apply rdI.alloc | apply rdI.drew | apply rdI.drewN)))) | (go_at_call 49; exact calmb (i_IsRing _ _ _) h4)))
        refine wpQuiet_nil ?_; intro uq zq; try simp at zq
        go_wp2_with (first | (go_at_call 52; refine via (i_fromDigits _ _ _ _ _ (by repeat (with_reducible first | assumption | apply rdI.aft | apply rdI.alloc | apply rdI.drew | apply rdI.drewN)) hp (by omega) Hd.out hl2 Hb.out) ?_; intro uu zz; try simp at zz) | (go_at_call 51; refine via (i_orLimit _ _ _ _ _) ?_; intro uu zz; try simp at zz))
        exact bodyPost_ret (v := (.tuple #[.agg #[.int .i64 (limF (knownF p v (dval p xs) xs.length)).1.p, .int .i64 (limF (knownF p v (dval p xs) xs.length)).1.v, .int .i64 (limF (knownF p v (dval p xs) xs.length)).1.u, .int .i64 (limF (knownF p v (dval p xs) xs.length)).1.n], .int .i64 (limF (knownF p v (dval p xs) xs.length)).2])) (by first | (simp [results, go_sem]; done) | simp [results, go_sem, ↓IntWalk.iteOmega]) rfl ⟨rfl, (by refine Ext.bel ?_; repeat (with_reducible first | exact Ext.refl _ | apply Ext.alloc | apply Ext.aft | apply Ext.drew | apply Ext.drewN | apply Ext.setCell | exact Nat.le_add_right _ _ | exact Nat.le_refl _ | (simp; done) | omega))⟩
    · have e : (fdF p v xs) = (⟨0, 0, 0, 0⟩, 3) := by unfold fdF; rw [if_pos h1, if_pos ⟨h2, H3.out⟩, if_neg h4]
      rw [e]; clear e
      have hr : ringB p xs.length = false := by cases hh : ringB p xs.length; rfl; exact absurd (.inr hh) h4
      have hpos : 0 < xs.length := by
        rcases Nat.eq_zero_or_pos xs.length with h0 | h0
        · exact absurd (.inl (List.eq_nil_of_length_eq_zero h0)) h4
        · exact h0
      have hdec : decide (0 < xs.length) = true := by simpa using hpos
      clear h4
      go_enter Tryz.func22, Tryz.ntmps22
      go_wp2_with (first | (go_at_call 44; refine pur (i_small _ _) ?_) | (go_at_call 45; refine pur (i_isPlace _ _) ?_) | (go_at_call 46; refine via (lib_containsB _ _ _ eg _ _ _ (by repeat (with_reducible first | assumption | apply rdI.aft | apply rdI.alloc | apply rdI.drew | apply rdI.drewN)) (pred_digits p _ _ hp (by first | (simp; done) | (simp; omega)) (by simp [go_sem])) _ H3.out) ?_; intro uu zz; try simp at zz))
      refine wp_region_calm (by kernel_rfl) (by kernel_rfl) ?_
      repeat (go_big_quiet_step (first | (go_at_call 50; exact calmp (i_size _ _ _ (by repeat (with_reducible first | assumption | apply rdI.aft | apply rdI.alloc | apply rdI.drew | apply rdI.drewN)))) | (go_at_call 49; exact calmb (i_IsRing _ _ _) hr)))
      refine wpQuiet_nil ?_; intro uq zq; try simp at zq
      go_wp2_with fail
      exact bodyPost_ret (v := .tuple #[(.agg #[.int .i64 0, .int .i64 0, .int .i64 0, .int .i64 0]), .int .i64 3]) (by first | (simp [results, go_sem]; done) | simp [results, go_sem, ↓IntWalk.iteOmega]) rfl ⟨rfl, (by refine Ext.bel ?_; repeat (with_reducible first | exact Ext.refl _ | apply Ext.alloc | apply Ext.aft | apply Ext.drew | apply Ext.drewN | apply Ext.setCell | exact Nat.le_add_right _ _ | exact Nat.le_refl _ | (simp; done) | omega))⟩
  · have e : (fdF p v xs) = (⟨0, 0, 0, 0⟩, 2) := by unfold fdF; rw [if_pos h1, if_neg (by rw [← hB]; simp)]
    rw [e]; clear e hB
    go_enter Tryz.func22, Tryz.ntmps22
    go_wp2_with (first | (go_at_call 44; refine pur (i_small _ _) ?_) | (go_at_call 45; refine pur (i_isPlace _ _) ?_) | (go_at_call 46; refine via (lib_containsB _ _ _ eg _ _ _ (by repeat (with_reducible first | assumption | apply rdI.aft | apply rdI.alloc | apply rdI.drew | apply rdI.drewN)) (pred_digits p _ _ hp (by first | (simp; done) | (simp; omega)) (by simp [go_sem])) _ H3.out) ?_; intro uu zz; try simp at zz))
    exact bodyPost_ret (v := .tuple #[(.agg #[.int .i64 0, .int .i64 0, .int .i64 0, .int .i64 0]), .int .i64 2]) (by first | (simp [results, go_sem]; done) | simp [results, go_sem, ↓IntWalk.iteOmega]) rfl ⟨rfl, (by refine Ext.bel ?_; repeat (with_reducible first | exact Ext.refl _ | apply Ext.alloc | apply Ext.aft | apply Ext.drew | apply Ext.drewN | apply Ext.setCell | exact Nat.le_add_right _ _ | exact Nat.le_refl _ | (simp; done) | omega))⟩
end Go.Proofs.YtdnfefkkbckmgaaGreatDoor
