/- slices.IndexFunc and slices.ContainsFunc over numbers, for whatever predicate. -/
import Derived.Test.YtbifkabjkpljjaaB3
namespace Go.Proofs.Ytbifkabjkpljjaa
open Go Go.RowKit

/-- What is asked of a predicate: in every world in which all that lay in w lies, it tells p and leaves such a world. -/
def predC (g : Nat) (lb : Array Value) (p : Int → Bool) (w : World) : Prop :=
  ∀ (W : World) (x : Int), Below w.heap.size w W → Calls Try.prog g (#[.int .i64 x] ++ lb) W fun e w' => e = .returned (.bool (p x)) ∧ Below w.heap.size w w'

/-- A call of a function with a body enters it. -/
theorem entersT {f : FuncId} {fn : Func} {c : Code} (hf : Try.prog.funcs[f]? = some fn) (hname : (fn.name == "runtime.NumGoroutine") = false) (hb : fn.body = some c) : ∀ (args : Array Value) (w : World), (callFunc f args).run Try.prog w = .ok (.enter f args) w := by
  intro args w
  have h1 : fn.name ≠ "runtime.NumGoroutine" := by simpa using hname
  simp [callFunc, hf, h1, hb, mark]
theorem any_take_f {xs : List Int} {p : Int → Bool} {k : Nat} (h : k < xs.length) (h1 : (xs.take k).any p = false) (h2 : p xs[k] = false) : (xs.take (k + 1)).any p = false := by
  rw [take_snocI _ _ h, List.any_append, h1]; simp [h2]
theorem any_hit {xs : List Int} {p : Int → Bool} {k : Nat} (h : k < xs.length) (h2 : p xs[k] = true) : xs.any p = true := List.any_eq_true.2 ⟨_, List.getElem_mem h, h2⟩

end Go.Proofs.Ytbifkabjkpljjaa
