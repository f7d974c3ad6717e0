/- The prime powers of the numbers of units: by evaluation over all rings. -/
import Derived.Test.YtehdkbopkkgabaaT40
namespace Go.Proofs.Ytehdkbopkkgabaa

def chkN (p n : Nat) : Bool :=
  match p ^ n - p ^ (n - 1) with
  | 0 => false
  | u + 1 => match facN 300 (u + 1) 2 with
    | none => false
    | some L => (L.map (fun x => (x.1 : Int)) == (if n = 1 then (facS (3 * ((p : Int) - 1).toNat + 300) ((p : Int) - 1) 2).map Prod.fst else (facS (3 * ((p : Int) - 1).toNat + 300) ((p : Int) - 1) 2 ++ [((p : Int), 0)]).map Prod.fst)) &&
      L.all (fun x => smallP (x.1 : Int) && x.2 == (vN 64 (u + 1) x.1).1) && decide (L.map Prod.fst).Nodup
set_option maxRecDepth 100000 in
theorem chk_all : ∀ p : Fin 98, ∀ n : Fin 30, ringB (p.val : Int) (n.val : Int) = true → chkN p.val n.val = true := by decide +kernel
theorem prime_div2 : ∀ p : Fin 98, primeB (p.val : Int) = true → ∀ d : Fin 98, p.val % d.val = 0 → d.val = 1 ∨ d.val = p.val := by decide +kernel
end Go.Proofs.Ytehdkbopkkgabaa
