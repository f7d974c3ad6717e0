/- Primitive roots of the small primes, by evaluation. -/
import Derived.Test.YtehdkbopkkgabaaT43
namespace Go.Proofs.Ytehdkbopkkgabaa

def rootTable : List (Int × Int) := [(2, 1), (3, 2), (5, 2), (7, 3), (11, 2), (13, 2), (17, 3), (19, 2), (23, 5), (29, 2), (31, 3), (37, 2), (41, 6), (43, 3), (47, 5), (53, 2), (59, 2), (61, 2), (67, 2), (71, 7), (73, 5), (79, 3), (83, 2), (89, 3), (97, 5)]
set_option maxRecDepth 100000 in
theorem root_table : rootTable.all (fun x => ordV x.1 1 x.2 == x.1 - 1) = true := by decide +kernel
theorem table_primes : ∀ p : Fin 98, primeB (p.val : Int) = true → rootTable.any (fun x => x.1 == (p.val : Int)) = true := by decide +kernel
/-- Each small prime has a primitive root below it. -/
theorem root_ex {p : Int} (hs : smallP p = true) : ∃ g, 1 ≤ g ∧ g ≤ 7 ∧ g < p ∧ ordV p 1 g = p - 1 := by
  have hp := smallP_bd hs
  obtain ⟨P, rfl⟩ : ∃ P : Nat, p = (P : Int) := ⟨p.toNat, by omega⟩
  have h := table_primes ⟨P, by omega⟩ (smallP_prime hs)
  rw [List.any_eq_true] at h
  obtain ⟨x, hx, he⟩ := h
  have h2 := List.all_eq_true.1 root_table x hx
  have e1 := eq_of_beq he
  have e2 := eq_of_beq h2
  simp only at e1
  rw [e1] at e2
  have hb : ∀ y ∈ rootTable, 1 ≤ y.2 ∧ y.2 ≤ 7 ∧ y.2 < y.1 := by decide
  exact ⟨x.2, (hb x hx).1, (hb x hx).2.1, by have := (hb x hx).2.2; omega, e2⟩
end Go.Proofs.Ytehdkbopkkgabaa
