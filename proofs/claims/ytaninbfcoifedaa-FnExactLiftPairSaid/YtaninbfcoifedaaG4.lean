/- The value of a polynomial in a ring: both texts, the law. -/
import Derived.Test.YtaninbfcoifedaaG3
import Derived.Test.YtaninbfcoifedaaMA
import Derived.Test.YtaninbfcoifedaaB9
namespace Go.Proofs.Ytaninbfcoifedaa
open Go Go.RowKit

set_option maxHeartbeats 400000 in
theorem l_toRing' (p n : Int) (w : World) :
    Calls Try.prog 6 #[(.agg #[.int .i64 p, .int .i64 n])] w fun e w' => e = .returned (.agg #[.int .i64 p, .int .i64 n]) ∧ Below w.heap.size w w' := by
  go_enter Try.func6, Try.ntmps6
  go_wp2
  exact bodyPost_ret (v := (.agg #[.int .i64 p, .int .i64 n])) (by first | (simp [results, go_sem]; done) | simp [results, go_sem, ↓IntWalk.iteOmega]) rfl ⟨rfl, (by refine Ext.bel ?_; repeat (with_reducible first | exact Ext.refl _ | apply Ext.alloc | apply Ext.aft | apply Ext.drew | apply Ext.drewN | apply Ext.setCell | exact Nat.le_add_right _ _ | exact Nat.le_refl _ | (simp; done) | omega))⟩

/-- The first error of a ring, a polynomial and a residue. -/
def ringedF (p n : Int) (xs : List Int) (x : Int) : Int := if ringB p n = true ∧ polyB xs = true then (if inB x 0 (p ^ n.toNat - 1) = true then 0 else 2) else 1
theorem ringedF_0 {p n : Int} {xs : List Int} {x : Int} (h : ringedF p n xs x = 0) : ringB p n = true ∧ polyB xs = true ∧ inB x 0 (p ^ n.toNat - 1) = true := by
  unfold ringedF at h
  split at h
  · split at h
    · rename_i h1 h2; exact ⟨h1.1, h1.2, h2⟩
    · omega
  · omega
theorem ringedF_cases (p n : Int) (xs : List Int) (x : Int) : ringedF p n xs x = 0 ∨ ringedF p n xs x = 1 ∨ ringedF p n xs x = 2 := by
  unfold ringedF; split <;> (try split) <;> simp

/-- What is known of a ring, a polynomial and a residue that fit. -/
theorem ringed_facts {p n : Int} {xs : List Int} {x : Int} (h : ringedF p n xs x = 0) :
    (2 ≤ p ∧ p ≤ 97) ∧ (1 ≤ n ∧ n ≤ 40) ∧ (1 ≤ p ^ n.toNat ∧ p ^ n.toNat ≤ 1000000000) ∧ (0 ≤ x ∧ x ≤ 1000000000) ∧ (∀ c ∈ xs, -1000000 ≤ c ∧ c ≤ 1000000) ∧ xs.length ≤ 9 ∧ x ≤ p ^ n.toNat - 1 := by
  obtain ⟨h1, h2, h3⟩ := ringedF_0 h
  have a := ringB_iff.1 h1
  have hp := smallP_bd a.1
  have b := polyB_iff.1 h2
  have c := inB_iff.1 h3
  have d := pow_pos' (show 1 ≤ p by omega) n.toNat
  exact ⟨hp, ⟨a.2.1, a.2.2.1⟩, ⟨d, a.2.2.2⟩, ⟨c.1, by omega⟩, coef_bd b.2.1, b.1, c.2⟩
theorem widen {xs : List Int} (h : ∀ c ∈ xs, -1000000 ≤ c ∧ c ≤ 1000000) : ∀ c ∈ xs, -1000000000 ≤ c ∧ c ≤ 1000000000 := fun c hc => by have := h c hc; omega

def virF (p n : Int) (xs : List Int) (x : Int) : Int × Int := if ringedF p n xs x = 0 then (valF (p ^ n.toNat) x xs, 0) else (0, ringedF p n xs x)

end Go.Proofs.Ytaninbfcoifedaa
