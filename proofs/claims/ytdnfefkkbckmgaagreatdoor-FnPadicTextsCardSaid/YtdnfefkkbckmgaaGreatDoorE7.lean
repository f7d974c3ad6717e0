/- A number from its digits: the program's text. -/
import Derived.Test.YtdnfefkkbckmgaaGreatDoorD6
import Derived.Test.YtdnfefkkbckmgaaGreatDoorC6
namespace Go.Proofs.YtdnfefkkbckmgaaGreatDoor
open Go Go.RowKit

/-- The number with some digits. -/
def dval (p : Int) : List Int → Int
  | [] => 0
  | x :: xs => p * dval p xs + x
theorem dval_bd {p : Int} (hp : 2 ≤ p) : ∀ (xs : List Int), (∀ x ∈ xs, 0 ≤ x ∧ x ≤ p - 1) → 0 ≤ dval p xs ∧ dval p xs ≤ p ^ xs.length - 1 := by
  intro xs
  induction xs with
  | nil => intro _; simp [dval]
  | cons x xs ih =>
    intro h
    obtain ⟨h1, h2⟩ := ih fun y hy => h y (List.mem_cons_of_mem _ hy)
    have h3 := h x (List.mem_cons_self ..)
    have h4 := Int.mul_nonneg (show 0 ≤ p by omega) h1
    have h5 : p * dval p xs ≤ p * (p ^ xs.length - 1) := Int.mul_le_mul_of_nonneg_left h2 (by omega)
    rw [Int.mul_sub, Int.mul_one] at h5
    simp only [dval, List.length_cons]
    rw [Int.pow_succ, Int.mul_comm _ p]
    omega
theorem dval_drop {p : Int} {xs : List Int} {k : Nat} (h : k < xs.length) : dval p (xs.drop k) = p * dval p (xs.drop (k + 1)) + xs[k] := by
  rw [List.drop_eq_getElem_cons h]; rfl
theorem dval_drop_bd {p : Int} {xs : List Int} (hp : 2 ≤ p ∧ p ≤ 97) (h : ∀ x ∈ xs, 0 ≤ x ∧ x ≤ p - 1) (hb : p ^ xs.length ≤ 1000000000) (k : Nat) : 0 ≤ dval p (xs.drop k) ∧ dval p (xs.drop k) ≤ 1000000000 ∧ 0 ≤ p * dval p (xs.drop k) ∧ p * dval p (xs.drop k) ≤ 97000000000 := by
  obtain ⟨h1, h2⟩ := dval_bd hp.1 (xs.drop k) fun x hx => h x (List.mem_of_mem_drop hx)
  have h3 := pow_mono (show 1 ≤ p by omega) (show (xs.drop k).length ≤ xs.length by simp)
  have h4 := Int.mul_nonneg (show 0 ≤ p by omega) h1
  have h5 : p * dval p (xs.drop k) ≤ 97 * 1000000000 := Int.mul_le_mul hp.2 (by omega) h1 (by omega)
  exact ⟨h1, by omega, h4, by omega⟩

set_option maxHeartbeats 400000 in
theorem i_size (r : Value) (xs : List Int) (w : World) (h : rdI w r xs) :
    Calls Tryz.prog 50 #[r] w fun e w' => e = .returned (.int .i64 xs.length) ∧ w = w' := by
  obtain ⟨a, cap, rfl, hm, hc⟩ := h
  clear hc
  go_enter Tryz.func50, Tryz.ntmps50
  go_wp2
  go_ret
  exact ⟨rfl, rfl⟩

set_option maxHeartbeats 1000000 in
theorem i_fromDigits (p v : Int) (r : Value) (xs : List Int) (w : World) (h : rdI w r xs) (hp : 2 ≤ p ∧ p ≤ 97) (hv : -1000 ≤ v ∧ v ≤ 1000) (hx : ∀ x ∈ xs, 0 ≤ x ∧ x ≤ p - 1) (hl : xs.length ≤ 1000) (hb : p ^ xs.length ≤ 1000000000) :
    Calls Tryz.prog 52 #[.int .i64 p, .int .i64 v, r] w fun e w' => e = .returned (.agg #[.int .i64 (knownF p v (dval p xs) xs.length).p, .int .i64 (knownF p v (dval p xs) xs.length).v, .int .i64 (knownF p v (dval p xs) xs.length).u, .int .i64 (knownF p v (dval p xs) xs.length).n]) ∧ Below w.heap.size w w' := by
  have hR := h.alloc (.cells #[.int .i64 0, .int .i64 0, .int .i64 0, .int .i64 0] 23)
  obtain ⟨a, cap, rfl, hm, _⟩ := h
  have HR := hid hR
  obtain ⟨a', cap', he, _, hc⟩ := hR
  cases he
  have Hx := hid hx
  have Hs := hid (dval_drop_bd hp hx hb)
  have Hc := hid hc
  clear hx hb hc
  go_enter Tryz.func52, Tryz.ntmps52
  go_wp2_with fail
  go_loop [7, 8] (fun s i => ∃ k : Nat, k ≤ xs.length ∧ i = .int .i64 ((k : Int) - 1) ∧ s = .int .i64 (dval p (xs.drop k))) (fun _ i => (intOf i + 1).toNat)
  case atStart => exact ⟨xs.length, by omega, rfl, by simp [dval]⟩
  case round =>
    obtain ⟨k, hk, rfl, rfl⟩ := hrel
    rcases Nat.eq_zero_or_pos k with rfl | hpos
    · have h2 := Hs.out 0
      simp only [List.drop_zero] at h2 ⊢
      go_wp2_with (first | (go_at_call 50; refine pur (i_size _ _ _ HR.out) ?_) | (go_at_call 74; refine via (i_known _ _ _ _ _ hp hv (by omega) (by omega)) ?_; intro uu zz; try simp at zz))
      exact bodyPost_ret (v := (.agg #[.int .i64 (knownF p v (dval p xs) xs.length).p, .int .i64 (knownF p v (dval p xs) xs.length).v, .int .i64 (knownF p v (dval p xs) xs.length).u, .int .i64 (knownF p v (dval p xs) xs.length).n])) (by first | (simp [results, go_sem]; done) | simp [results, go_sem, ↓IntWalk.iteOmega]) rfl ⟨rfl, (by refine Ext.bel ?_; repeat (with_reducible first | exact Ext.refl _ | apply Ext.alloc | apply Ext.aft | apply Ext.drew | apply Ext.drewN | apply Ext.setCell | exact Nat.le_add_right _ _ | exact Nat.le_refl _ | (simp; done) | omega))⟩
    · obtain ⟨j, rfl⟩ : ∃ j, k = j + 1 := ⟨k - 1, by omega⟩
      have hj : j < xs.length := by omega
      obtain ⟨b, o, rfl, hcell⟩ := Hc.out (by intro e; subst e; simp at hj)
      have h1 := hcell j hj
      have h2 := Hs.out (j + 1)
      have h3 := Hx.out xs[j] (List.getElem_mem hj)
      obtain ⟨x, hx⟩ : ∃ x, x = xs[j] := ⟨_, rfl⟩
      rw [← hx] at h1 h3
      have HX := hid hx
      clear hx hcell
      rw [show (((j + 1 : Nat) : Int) - 1) = (j : Int) by omega]
      go_wp2
      go_round
      case rel => exact ⟨j, by omega, by go_num, by rw [dval_drop hj, ← HX.out]⟩
      case measure => first | (simp [intOf]; done) | (simp [intOf]; omega)
end Go.Proofs.YtdnfefkkbckmgaaGreatDoor
