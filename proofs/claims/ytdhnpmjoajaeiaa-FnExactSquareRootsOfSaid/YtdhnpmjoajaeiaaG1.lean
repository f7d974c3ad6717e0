/- Polynomials with valid coefficients: both texts. -/
import Derived.Test.YtdhnpmjoajaeiaaMA
import Derived.Test.YtdhnpmjoajaeiaaA9
namespace Go.Proofs.Ytdhnpmjoajaeiaa
open Go Go.RowKit

/-- A number that is no coefficient. -/
def noCoef : Int → Bool := fun c => !inB c (-1000000) 1000000
/-- The last one is not 0. -/
def lastNZ (xs : List Int) : Bool := xs.getLast? != some 0
/-- A valid polynomial. -/
def polyB (xs : List Int) : Bool := decide (xs.length ≤ 9) && !(xs.any noCoef) && lastNZ xs
theorem polyB_iff {xs : List Int} : polyB xs = true ↔ xs.length ≤ 9 ∧ xs.any noCoef = false ∧ lastNZ xs = true := by
  simp [polyB, and_assoc]
theorem coef_bd {xs : List Int} (h : xs.any noCoef = false) : ∀ x ∈ xs, -1000000 ≤ x ∧ x ≤ 1000000 := by
  intro x hx
  have := List.any_eq_false.1 h x hx
  simp [noCoef] at this
  exact inB_iff.1 this
theorem lastNZ_nil : lastNZ [] = true := rfl
theorem lastNZ_at {xs : List Int} {k : Nat} (h : xs.length = k + 1) : lastNZ xs = (xs[k]'(by omega) != 0) := by
  unfold lastNZ
  have e : xs.getLast? = some (xs[k]'(by omega)) := by
    rw [List.getLast?_eq_getElem?, show xs.length - 1 = k by omega, List.getElem?_eq_getElem]
  rw [e]
  simp [bne]

set_option maxHeartbeats 400000 in
theorem pred_coef (w : World) : predC 62 #[] noCoef w := fun W x hb => by
  have HB := hid hb
  unfold noCoef
  clear hb
  show Calls Try.prog 62 #[.int .i64 x] W _
  cases h : inB x (-1000000) 1000000
  all_goals
    go_enter Try.func62, Try.ntmps62
    go_wp2_with (go_at_call 56; refine pur (i_within _ _ _ _) ?_)
    go_ret
    exact ⟨rfl, HB.out⟩

set_option maxHeartbeats 2000000 in
theorem i_IsPolynomial (r : Value) (xs : List Int) (w : World) (h : rdI w r xs) :
    Calls Try.prog 35 #[r] w fun e w' => e = .returned (.bool (polyB xs)) ∧ Below w.heap.size w w' := by
  have eg : ∀ args w, (callFunc 62 args).run Try.prog w = .ok (.enter 62 args) w := entersT Try.func62 (by kernel_rfl) rfl
  have hlen : xs.length ≤ maxLen := by obtain ⟨a, cap, _, hm, _⟩ := h; exact hm
  unfold maxLen at hlen
  by_cases hl : xs.length ≤ 9
  · obtain ⟨B, hB⟩ : ∃ B, B = xs.any noCoef := ⟨_, rfl⟩
    have H3 := hid hB.symm
    cases B
    · have e : polyB xs = lastNZ xs := by unfold polyB; rw [← hB]; simp [hl]
      rw [e]; clear e hB
      rcases Nat.eq_zero_or_pos xs.length with h0 | h0
      · obtain rfl : xs = [] := List.eq_nil_of_length_eq_zero h0
        rw [lastNZ_nil]
        obtain ⟨a, cap, rfl, _, _⟩ := id h
        change rdI w (.slice a 0 cap) [] at h
        go_enter Try.func35, Try.ntmps35
        go_wp2_with (go_at_call 61; refine via (lib_containsB _ _ _ eg _ _ _ (by repeat (with_reducible first | assumption | apply rdI.aft | apply rdI.alloc | apply rdI.drew | apply rdI.drewN)) (pred_coef _) _ H3.out) ?_; intro uu zz; try simp at zz)
        go_ret
        exact ⟨rfl, (by refine Ext.bel ?_; repeat (with_reducible first | exact Ext.refl _ | apply Ext.alloc | apply Ext.aft | apply Ext.drew | apply Ext.drewN | apply Ext.setCell | exact Nat.le_add_right _ _ | exact Nat.le_refl _ | (simp; done) | omega))⟩
      · obtain ⟨k, hk⟩ : ∃ k, xs.length = k + 1 := ⟨xs.length - 1, by omega⟩
        rw [lastNZ_at hk]
        obtain ⟨a, cap, rfl, _, hc⟩ := id h
        obtain ⟨b, o, rfl, hcell⟩ := hc (by intro e; subst e; simp at h0)
        have h1 := hcell k (by omega)
        have h1b := World.block_lt_of_cell? w _ h1
        obtain ⟨x, hx⟩ : ∃ x, x = xs[k] := ⟨_, rfl⟩
        rw [← hx] at h1 ⊢
        clear hx hcell hc
        rw [hk] at h ⊢
        have hl2 : k + 1 ≤ 9 := by omega
        have hk9 : (k : Int) + 1 ≤ 9 := by omega
        have hk0 : 0 ≤ (k : Int) := by omega
        clear hl hlen h0
        cases hx0 : (x == 0)
        all_goals
          go_enter Try.func35, Try.ntmps35
          go_wp2_with (go_at_call 61; refine via (lib_containsB _ _ _ eg _ _ _ (by repeat (with_reducible first | assumption | apply rdI.aft | apply rdI.alloc | apply rdI.drew | apply rdI.drewN)) (pred_coef _) _ H3.out) ?_; intro uu zz; try simp at zz)
          go_ret
          exact ⟨by simp [bne, hx0]; try omega, (by refine Ext.bel ?_; repeat (with_reducible first | exact Ext.refl _ | apply Ext.alloc | apply Ext.aft | apply Ext.drew | apply Ext.drewN | apply Ext.setCell | exact Nat.le_add_right _ _ | exact Nat.le_refl _ | (simp; done) | omega))⟩
    · have e : polyB xs = false := by unfold polyB; rw [← hB]; simp
      rw [e]; clear e hB
      obtain ⟨a, cap, rfl, _, _⟩ := id h
      go_enter Try.func35, Try.ntmps35
      go_wp2_with (go_at_call 61; refine via (lib_containsB _ _ _ eg _ _ _ (by repeat (with_reducible first | assumption | apply rdI.aft | apply rdI.alloc | apply rdI.drew | apply rdI.drewN)) (pred_coef _) _ H3.out) ?_; intro uu zz; try simp at zz)
      go_ret
      exact ⟨rfl, (by refine Ext.bel ?_; repeat (with_reducible first | exact Ext.refl _ | apply Ext.alloc | apply Ext.aft | apply Ext.drew | apply Ext.drewN | apply Ext.setCell | exact Nat.le_add_right _ _ | exact Nat.le_refl _ | (simp; done) | omega))⟩
  · have e : polyB xs = false := by unfold polyB; simp [hl]
    rw [e]; clear e
    obtain ⟨a, cap, rfl, _, _⟩ := id h
    have hl' : ¬ (xs.length : Int) ≤ 9 := by omega
    go_enter Try.func35, Try.ntmps35
    go_wp2_with fail
    go_ret
    exact ⟨rfl, (by refine Ext.bel ?_; repeat (with_reducible first | exact Ext.refl _ | apply Ext.alloc | apply Ext.aft | apply Ext.drew | apply Ext.drewN | apply Ext.setCell | exact Nat.le_add_right _ _ | exact Nat.le_refl _ | (simp; done) | omega))⟩
end Go.Proofs.Ytdhnpmjoajaeiaa
