/- The order of a unit: the statement's text walked. -/
import Derived.Test.YtehdkbopkkgabaaT37
import Derived.Test.YtehdkbopkkgabaaT35
namespace Go.Proofs.Ytehdkbopkkgabaa
open Go Go.RowKit

def ordS (a M : Int) : List (Int × Int) → Int → Int
  | [], e => e
  | x :: r, e => ordS a M r (stripK a M x.1 (vl e x.1) e)
theorem vl_succ {e q : Int} (hq : 2 ≤ q) (he : 1 ≤ e) (h : e % q = 0) : vl e q = vl (e / q) q + 1 ∧ 1 ≤ e / q := by
  have h1 : e / q * q = e := Int.ediv_mul_cancel (Int.dvd_of_emod_eq_zero h)
  have h2 : 1 ≤ e / q := by
    rcases Int.lt_or_le 0 (e / q) with h3 | h3
    · omega
    · have := Int.mul_nonpos_of_nonpos_of_nonneg h3 (show 0 ≤ q by omega); omega
  obtain ⟨c, e1, e2, e3⟩ := vl_spec hq (show e / q ≠ 0 by omega)
  refine ⟨vl_eq hq (c := c) ?_ e2, h2⟩
  rw [Int.pow_succ, ← Int.mul_assoc, ← e1, h1]
theorem strip_ge {a M q : Int} (hq : 2 ≤ q) : ∀ (k : Nat) (e : Int), 1 ≤ e → vl e q = k → 1 ≤ stripK a M q k e := by
  intro k
  induction k with
  | zero => intro e h _; exact h
  | succ k ih =>
    intro e h hv
    unfold stripK
    split
    · have hz : e % q = 0 := by
        rcases Int.emod_two_eq (0 : Int) with _ | _
        all_goals
          by_cases hz : e % q = 0
          · exact hz
          · have := vl_eq hq (n := e) (c := e) (k := 0) (by simp) hz
            omega
      obtain ⟨h1, h2⟩ := vl_succ hq h hz
      exact ih (e / q) h2 (by omega)
    · exact h
theorem facS_mem : ∀ (f : Nat) (n p : Int), 2 ≤ p → p ≤ 1000000001 → 1 ≤ n → n ≤ 1000000000 → ∀ x ∈ facS f n p, (2 ≤ x.1 ∧ x.1 ≤ 1000000001) := by
  intro f
  induction f with
  | zero => intro n p _ _ _ _ x hx; simp [facS] at hx
  | succ f ih =>
    intro n p hp hp2 hn hn2 x hx
    unfold facS at hx
    split at hx
    · split at hx
      · simp at hx; subst hx; simp only; omega
      · simp at hx
    · rename_i hc
      have h9 := Int.mul_le_mul_of_nonneg_right hp (show 0 ≤ p by omega)
      obtain ⟨k1, k2, k3, k4⟩ := @quo_le n p hp hn
      rw [List.mem_append] at hx
      rcases hx with hx | hx
      · split at hx
        · simp at hx
        · simp at hx; subst hx; simp only; omega
      · exact ih _ _ (by omega) (by omega) k1 (by omega) x hx

theorem s_units (p n : Int) (w : World) (h : ringB p n = true) :
    Calls Try.prog 141 #[(.agg #[.int .i64 p, .int .i64 n])] w fun e w' => e = .returned (.int .i64 (p ^ n.toNat - p ^ (n.toNat - 1))) ∧ Below w.heap.size w w' := by
  obtain ⟨r1, r2, r3, r4, r5, r6, r7⟩ := ring_facts2 h
  have HM : Hid (∀ W : World, Calls Try.prog 95 #[.int .i64 p, .int .i64 n] W fun e w' => e = .returned (.int .i64 (p ^ n.toNat)) ∧ W = w') := hid fun W => by
    have := s_modulus p n W (by omega) (by omega) (by omega)
    rw [modu_ring h] at this
    exact this
  have q3 := Int.mul_le_mul_of_nonneg_left (show (1 : Int) ≤ p by omega) (show 0 ≤ p ^ (n.toNat - 1) by omega)
  have e9 : p ^ (n.toNat - 1) * (p - 1) = p ^ n.toNat - p ^ (n.toNat - 1) := by rw [r5, Int.mul_sub, Int.mul_one]
  obtain ⟨M, hM⟩ : ∃ M, M = p ^ n.toNat := ⟨_, rfl⟩
  obtain ⟨E, hE⟩ : ∃ E, E = p ^ (n.toNat - 1) := ⟨_, rfl⟩
  rw [← hE, ← hM] at r7 e9 ⊢
  rw [← hM] at HM
  have p0 : (p == 0) = false := by rw [beq_eq_false_iff_ne]; omega
  have p1 : p ≠ 0 := by omega
  have e0 : 1 ≤ E ∧ E ≤ M ∧ M ≤ 1000000000 := by rw [hE, hM]; omega
  have E9 := hid e9
  have e10 : -1000000000000 ≤ E * (p - 1) ∧ E * (p - 1) ≤ 1000000000000 := by rw [e9]; omega
  clear hM hE r3 r4 r5 r6 q3 h e9
  go_enter Try.func141, Try.ntmps141
  go_wp2_with fail
  try refine wp_region_calm (by kernel_rfl) (by kernel_rfl) ?_
  repeat (go_big_quiet_step (first | (go_at_call 95; exact calmp (HM.out _))))
  refine wpQuiet_nil ?_; intro uq zq; try simp at zq
  go_wp2_with fail
  go_ret
  exact ⟨by rw [← E9.out]; rfl, (by refine Ext.bel ?_; repeat (with_reducible first | exact Ext.refl _ | apply Ext.alloc | apply Ext.aft | apply Ext.drew | apply Ext.drewN | apply Ext.setCell | exact Nat.le_add_right _ _ | exact Nat.le_refl _ | (simp; done) | omega))⟩
end Go.Proofs.Ytehdkbopkkgabaa
