/- Contracts: Bezout, inverses. -/
import Derived.Test.YtdeehgcabnoclaaA9
import Derived.Test.YtdeehgcabnoclaaM2
namespace Go.Proofs.Ytdeehgcabnoclaa
open Go Go.RowKit

theorem div_mod_sub {r s : Int} : r - r / s * s = r % s := by have := Int.emod_add_mul_ediv r s; rw [Int.mul_comm]; omega

/-- The first error of a ring and a residue that has to be a unit. -/
def unitF (p n a : Int) : Int := if ringB p n = true then (if inB a 0 (p ^ n.toNat - 1) = true then (if a % p = 0 then 5 else 0) else 2) else 1
def codeF (p n a : Int) : Int := if ringB p n = true then (if inB a 0 (p ^ n.toNat - 1) = true then 0 else 2) else 1
end Go.Proofs.Ytdeehgcabnoclaa
