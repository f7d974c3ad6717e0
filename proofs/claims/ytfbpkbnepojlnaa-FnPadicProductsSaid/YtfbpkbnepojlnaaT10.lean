/- Comparing p-adic numbers by the language. -/
import Derived.Test.YtfbpkbnepojlnaaT9
namespace Go.Proofs.Ytfbpkbnepojlnaa
open Go Go.RowKit

theorem eq_padic (a b c d a' b' c' d' : Int) (w : World) : (binOp .eql 27 (.agg #[.int .i64 a, .int .i64 b, .int .i64 c, .int .i64 d]) (.agg #[.int .i64 a', .int .i64 b', .int .i64 c', .int .i64 d'])).run Try.prog w = .ok (.bool (a == a' && b == b' && c == c' && d == d')) w := by
  have u3 := Try.underlying2
  have hS : Try.prog.underlying 27 = some (.struct (Try.prog.fieldsOf 27)) := by kernel_rfl
  have hp : Try.prog.stoodInHeld 27 = false := by kernel_rfl
  rw [run_eql_struct, show (10000 : Nat) = 9999 + 1 from rfl, run_equalIn_agg w 9999 27 _ _ hS hp]
  simp only [Program.fieldsOf, Try.underlying27]
  go_simp
  by_cases h1 : a = a' <;> by_cases h2 : b = b' <;> by_cases h3 : c = c' <;> by_cases h4 : d = d' <;> simp [h1, h2, h3, h4]
theorem ne_padic (a b c d a' b' c' d' : Int) (w : World) : (binOp .neq 27 (.agg #[.int .i64 a, .int .i64 b, .int .i64 c, .int .i64 d]) (.agg #[.int .i64 a', .int .i64 b', .int .i64 c', .int .i64 d'])).run Try.prog w = .ok (.bool (!(a == a' && b == b' && c == c' && d == d'))) w := by
  have h := eq_padic a b c d a' b' c' d' w
  rw [run_eql_struct] at h
  rw [run_neq_struct]
  generalize ((Op.equalIn 10000 27 (.agg #[.int .i64 a, .int .i64 b, .int .i64 c, .int .i64 d]) (.agg #[.int .i64 a', .int .i64 b', .int .i64 c', .int .i64 d'])).run Try.prog w) = r at h ⊢
  cases r <;> simp [Result.andThen] at h ⊢
  obtain ⟨h1, h2⟩ := h
  subst h1 h2
  exact ⟨rfl, rfl⟩
attribute [go_sem high] eq_padic ne_padic
theorem guard_padic (op : BinOp) (x y : Operand) (a b : Array Value) (w : World) : (eqGuard op 27 x y (.agg a) (.agg b)).run Try.prog w = .ok () w := run_eqGuard_agg w op 27 x y a b (by kernel_rfl)
attribute [go_sem high] guard_padic
end Go.Proofs.Ytfbpkbnepojlnaa
