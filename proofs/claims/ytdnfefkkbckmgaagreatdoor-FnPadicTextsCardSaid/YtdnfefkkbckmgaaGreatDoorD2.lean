/- IsSquarePadic: both texts, the law. -/
import Derived.Test.YtdnfefkkbckmgaaGreatDoorD1
import Derived.Test.YtdnfefkkbckmgaaGreatDoorC1
namespace Go.Proofs.YtdnfefkkbckmgaaGreatDoor
open Go Go.RowKit

def isqF (p v u n : Int) : Bool × Int :=
  if padicB p v u n = true then (if n = 0 ∨ (p = 2 ∧ n < 3) then (false, 4) else (decide (v % 2 = 0) && sqrB p u, 0)) else (false, 1)

theorem tmod2 {v : Int} : (v.tmod 2 == 0) = decide (v % 2 = 0) := by
  by_cases h : v % 2 = 0
  · have : v.tmod 2 = 0 := tmod_zero_iff.2 h
    rw [this]; simp [h]
  · have : ¬ v.tmod 2 = 0 := fun h' => h (tmod_zero_iff.1 h')
    simp [this, h]

end Go.Proofs.YtdnfefkkbckmgaaGreatDoor
