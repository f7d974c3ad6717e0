/- Permutations and groups of at most six points: plain. -/
import Derived.Test.YtbkbcbanfnhjpaaMA
namespace Go.Proofs.Ytbkbcbanfnhjpaa
open Go Go.RowKit

/-- The number of permutations of n points. -/
def facN : Nat → Nat
  | 0 => 1
  | k + 1 => (k + 1) * facN k
theorem facN_pos (k : Nat) : 0 < facN k := by
  induction k with
  | zero => simp [facN]
  | succ k ih => exact Nat.mul_pos (by omega) ih
def facB : Nat → Bool := fun k => decide (facN k ≤ 720)
theorem facN_le {k : Nat} (h : k ≤ 6) : facN k ≤ 720 := by
  have : ∀ k : Fin 7, facN k ≤ 720 := by decide
  exact this ⟨k, by omega⟩
/-- The list 0, 1, .. -/
def idP (n : Nat) : List Int := (List.range n).map fun (i : Nat) => (i : Int)
theorem idP_len (n : Nat) : (idP n).length = n := by simp [idP]
theorem idP_succ (n : Nat) : idP (n + 1) = idP n ++ [(n : Int)] := by simp [idP, List.range_succ]
/-- The rest of the permutation with rank r on the points that are left. -/
def withG : Nat → Int → List Int → List Int
  | 0, _, _ => []
  | k + 1, r, left => left.getD (r / (facN k : Int)).toNat 0 :: withG k (r % (facN k : Int)) (left.eraseIdx (r / (facN k : Int)).toNat)
def withF (n : Nat) (r : Int) : List Int := withG n r (idP n)
/-- The product of two permutations. -/
def prodF (a b : List Int) : List Int := b.map fun i => a.getD i.toNat 0
theorem prodF_len (a b : List Int) : (prodF a b).length = b.length := by simp [prodF]
/-- How many of a list are less. -/
def lessN (x : Int) (r : List Int) : Nat := r.countP fun y => decide (y < x)
theorem lessN_le (x : Int) (r : List Int) : lessN x r ≤ r.length := List.countP_le_length
theorem lessN_nil (x : Int) : lessN x [] = 0 := rfl
theorem lessN_snoc (x y : Int) (r : List Int) : lessN x (r ++ [y]) = lessN x r + (if y < x then 1 else 0) := by
  simp [lessN, List.countP_append, List.countP_cons]
def rankG : Int → List Int → Int
  | n, [] => n
  | n, x :: r => rankG (n * ((r.length + 1 : Nat) : Int) + (lessN x r : Int)) r
/-- The rank of a permutation. -/
def rankF (a : List Int) : Int := rankG 0 a
theorem rankG_bd (a : List Int) : ∀ n : Int, 0 ≤ n → n * (facN a.length : Int) ≤ rankG n a ∧ rankG n a < (n + 1) * (facN a.length : Int) := by
  induction a with
  | nil => intro n h; simp [rankG, facN]; omega
  | cons x r ih =>
    intro n h
    have hl := lessN_le x r
    have hn : 0 ≤ n * ((r.length + 1 : Nat) : Int) := Int.mul_nonneg h (by omega)
    obtain ⟨h1, h2⟩ := ih (n * ((r.length + 1 : Nat) : Int) + (lessN x r : Int)) (by omega)
    have hf := facN_pos r.length
    show n * ((((r.length + 1) * facN r.length : Nat)) : Int) ≤ rankG _ r ∧ rankG _ r < (n + 1) * ((((r.length + 1) * facN r.length : Nat)) : Int)
    rw [Int.natCast_mul, ← Int.mul_assoc, ← Int.mul_assoc]
    refine ⟨Int.le_trans (Int.mul_le_mul_of_nonneg_right ?_ (by omega)) h1, Int.lt_of_lt_of_le h2 (Int.mul_le_mul_of_nonneg_right ?_ (by omega))⟩
    · omega
    · rw [Int.add_mul]; omega
theorem rankF_bd (a : List Int) : 0 ≤ rankF a ∧ rankF a < (facN a.length : Int) := by
  have := rankG_bd a 0 (by omega)
  unfold rankF; omega
theorem rankF_720 {a : List Int} (h : a.length ≤ 6) : 0 ≤ rankF a ∧ rankF a ≤ 719 := by
  have h1 := rankF_bd a
  have h2 := facN_le h
  omega

/-- What is checked of each rank: length, range, and that its rank is the rank. -/
def withOk (n r : Nat) : Bool := (withF n r).length == n && (withF n r).all (fun x => decide (0 ≤ x ∧ x < n)) && (rankF (withF n r) == (r : Int)) && decide (withF n r).Nodup
def allOk : Bool := (List.range 7).all fun n => (List.range (facN n)).all fun r => withOk n r
set_option maxRecDepth 100000 in
theorem allOk_t : allOk = true := by decide +kernel
theorem withOk_t {n r : Nat} (h : n ≤ 6) (hr : r < facN n) : withOk n r = true := by
  have := allOk_t
  unfold allOk at this
  rw [List.all_eq_true] at this
  have := this n (by simp; omega)
  rw [List.all_eq_true] at this
  exact this r (by simp; omega)
structure WithOk (n : Nat) (r : Int) : Prop where
  len : (withF n r).length = n
  rng : ∀ x ∈ withF n r, 0 ≤ x ∧ x < n
  rank : rankF (withF n r) = r
  nodup : (withF n r).Nodup
theorem with_ok {n : Nat} {r : Int} (h : n ≤ 6) (h0 : 0 ≤ r) (hr : r < (facN n : Int)) : WithOk n r := by
  obtain ⟨k, rfl⟩ : ∃ k : Nat, r = k := ⟨r.toNat, by omega⟩
  have := withOk_t h (show k < facN n by omega)
  unfold withOk at this
  simp only [Bool.and_eq_true, beq_iff_eq, List.all_eq_true, decide_eq_true_eq] at this
  exact ⟨this.1.1.1, this.1.1.2, this.1.2, this.2⟩

/-- A list that rises, within 0 and below F. -/
def risesB (F : Int) : Int → List Int → Bool
  | _, [] => true
  | p, x :: r => decide (p < x) && decide (x < F) && risesB F x r
def closedB (n : Nat) (rs : List Int) : Bool := rs.all fun x => rs.all fun y => rs.contains (rankF (prodF (withF n x) (withF n y)))
def groupB (n : Int) (rs : List Int) : Bool := decide (1 ≤ n ∧ n ≤ 6) && (rs.head? == some 0) && risesB (facN n.toNat : Int) (-1) rs && closedB n.toNat rs
theorem rises_mem {F : Int} : ∀ (rs : List Int) (p : Int), risesB F p rs = true → ∀ x ∈ rs, p < x ∧ x < F := by
  intro rs
  induction rs with
  | nil => intro p _ x hx; simp at hx
  | cons y r ih =>
    intro p h x hx
    simp only [risesB, Bool.and_eq_true, decide_eq_true_eq] at h
    rcases List.mem_cons.1 hx with rfl | hx
    · exact h.1
    · have := ih y h.2 x hx; omega
theorem rises_pair {F : Int} : ∀ (rs : List Int) (p : Int), risesB F p rs = true → rs.Pairwise (· < ·) := by
  intro rs
  induction rs with
  | nil => intro p _; exact List.Pairwise.nil
  | cons y r ih =>
    intro p h
    simp only [risesB, Bool.and_eq_true, decide_eq_true_eq] at h
    exact List.Pairwise.cons (fun x hx => (rises_mem r y h.2 x hx).1) (ih y h.2)
end Go.Proofs.Ytbkbcbanfnhjpaa
