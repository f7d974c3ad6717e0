/- What the draws' laws want and T7, T9, T10 hold too (never import both): calls known up to what was drawn; comparing p-adic numbers. -/
import Derived.Test.YtdeehgcabnoclaaT5
namespace Go.Proofs.Ytdeehgcabnoclaa
open Go Go.RowKit

theorem l_big (a : Option Addr) (len cap : Nat) (w : World) :
    Calls Try.prog 4 #[.slice a len cap] w fun e w' => e = .returned (.bool (decide ((4096 : Int) < (len : Int)))) ∧ w = w' := by
  go_enter Try.func4, Try.ntmps4
  go_wp2_with fail
  go_ret
  exact ⟨rfl, rfl⟩

/-- A call of which the value is known up to what was drawn. -/
theorem viaV {P : Program} {f : FuncId} {args : Array Value} {w : World} {α : Type} {g : α → Value} {R : Ending → World → Prop}
    (h : Calls P f args w fun e w' => ∃ x, e = .returned (g x) ∧ Below w.heap.size w w') (hR : ∀ x u, w.heap.size ≤ (aft w u).heap.size → R (.returned (g x)) (aft w u)) : Calls P f args w R :=
  h.mono fun e w' ⟨x, he, hb⟩ => by subst he; obtain ⟨u, rfl⟩ := aft_ex hb; exact hR x u (size_aft w u)

theorem drewC_cell (w : World) (a : Addr) : w.drew.cell? a = w.cell? a := rfl
theorem rdB.ext {w W : World} {a : Option Addr} {len : Nat} (h : rdB w.heap.size w a len) (hE : Ext w.heap.size w W) : rdB w.heap.size W a len :=
  h.of fun k o v hk hv => (hE.1.cell (p := ⟨k, o, none⟩) hk).trans hv

theorem eq_padic (a b c d a' b' c' d' : Int) (w : World) : (binOp .eql 29 (.agg #[.int .i64 a, .int .i64 b, .int .i64 c, .int .i64 d]) (.agg #[.int .i64 a', .int .i64 b', .int .i64 c', .int .i64 d'])).run Try.prog w = .ok (.bool (a == a' && b == b' && c == c' && d == d')) w := by
  have u3 := Try.underlying2
  have hS : Try.prog.underlying 29 = some (.struct (Try.prog.fieldsOf 29)) := by kernel_rfl
  have hp : Try.prog.stoodInHeld 29 = false := by kernel_rfl
  rw [run_eql_struct, show (10000 : Nat) = 9999 + 1 from rfl, run_equalIn_agg w 9999 29 _ _ hS hp]
  simp only [Program.fieldsOf, Try.underlying29]
  go_simp
  by_cases h1 : a = a' <;> by_cases h2 : b = b' <;> by_cases h3 : c = c' <;> by_cases h4 : d = d' <;> simp [h1, h2, h3, h4]
theorem ne_padic (a b c d a' b' c' d' : Int) (w : World) : (binOp .neq 29 (.agg #[.int .i64 a, .int .i64 b, .int .i64 c, .int .i64 d]) (.agg #[.int .i64 a', .int .i64 b', .int .i64 c', .int .i64 d'])).run Try.prog w = .ok (.bool (!(a == a' && b == b' && c == c' && d == d'))) w := by
  have h := eq_padic a b c d a' b' c' d' w
  rw [run_eql_struct] at h
  rw [run_neq_struct]
  generalize ((Op.equalIn 10000 29 (.agg #[.int .i64 a, .int .i64 b, .int .i64 c, .int .i64 d]) (.agg #[.int .i64 a', .int .i64 b', .int .i64 c', .int .i64 d'])).run Try.prog w) = r at h ⊢
  cases r <;> simp [Result.andThen] at h ⊢
  obtain ⟨h1, h2⟩ := h
  subst h1 h2
  exact ⟨rfl, rfl⟩
attribute [go_sem high] eq_padic ne_padic
theorem guard_padic (op : BinOp) (x y : Operand) (a b : Array Value) (w : World) : (eqGuard op 29 x y (.agg a) (.agg b)).run Try.prog w = .ok () w := run_eqGuard_agg w op 29 x y a b (by kernel_rfl)
attribute [go_sem high] guard_padic
end Go.Proofs.Ytdeehgcabnoclaa
