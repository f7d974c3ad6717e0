/- Draws for powers of residues. -/
import Derived.Test.YtflmoopiajhadaaT29
namespace Go.Proofs.Ytflmoopiajhadaa
open Go Go.RowKit

theorem l_big (a : Option Addr) (len cap : Nat) (w : World) :
    Calls Try.prog 4 #[.slice a len cap] w fun e w' => e = .returned (.bool (decide ((4096 : Int) < (len : Int)))) ∧ w = w' := by
  go_enter Try.func4, Try.ntmps4
  go_wp2_with fail
  go_ret
  exact ⟨rfl, rfl⟩
/-- A call of which the value is known up to what was drawn. -/
theorem viaV {P : Program} {f : FuncId} {args : Array Value} {w : World} {α : Type} {g : α → Value} {R : Ending → World → Prop}
    (h : Calls P f args w fun e w' => ∃ x, e = .returned (g x) ∧ Below w.heap.size w w') (hR : ∀ x u, w.heap.size ≤ (aft w u).heap.size → R (.returned (g x)) (aft w u)) : Calls P f args w R :=
  h.mono fun e w' ⟨x, he, hb⟩ => by subst he; obtain ⟨u, rfl⟩ := aft_ex hb; exact hR x u (size_aft w u)
theorem rdB.below {B : Nat} {w w' : World} {a : Option Addr} {len : Nat} (h : rdB B w a len) (k : Below w.heap.size w w') : rdB B w' a len :=
  h.of fun j o v _ hv => (k.cell (p := ⟨j, o, none⟩) (World.block_lt_of_cell? w _ hv)).trans hv
theorem rdB.ext {w W : World} {a : Option Addr} {len : Nat} (h : rdB w.heap.size w a len) (hE : Ext w.heap.size w W) : rdB w.heap.size W a len :=
  h.of fun k o v hk hv => (hE.1.cell (p := ⟨k, o, none⟩) hk).trans hv

end Go.Proofs.Ytflmoopiajhadaa
