/- Prime powers: rows of them, and what the texts list. -/
import Derived.Test.YtdeehgcabnoclaaB3
import Derived.Test.YtdeehgcabnoclaaMA
namespace Go.Proofs.Ytdeehgcabnoclaa
open Go Go.RowKit

/-- The cells of some prime powers. -/
def vP : List (Int × Int) → List Value
  | [] => []
  | x :: r => .int .i64 x.1 :: .int .i64 x.2 :: vP r
theorem vP_append (a b : List (Int × Int)) : vP (a ++ b) = vP a ++ vP b := by
  induction a with
  | nil => rfl
  | cons x a ih => simp [vP, ih]
theorem vP_len (a : List (Int × Int)) : (vP a).length = 2 * a.length := by
  induction a with
  | nil => rfl
  | cons x a ih => simp [vP, ih]; omega
theorem vP_at (a : List (Int × Int)) (i : Nat) (h : i < a.length) : (vP a)[2 * i]? = some (.int .i64 a[i].1) ∧ (vP a)[2 * i + 1]? = some (.int .i64 a[i].2) := by
  induction a generalizing i with
  | nil => simp at h
  | cons x a ih =>
    cases i with
    | zero => exact ⟨rfl, rfl⟩
    | succ i =>
      have h2 := ih i (by simpa using h)
      rw [show 2 * (i + 1) = 2 * i + 2 by omega, show 2 * i + 2 + 1 = (2 * i + 1) + 2 by omega]
      simpa [vP] using h2
/-- v owns, from block B on, a row of just these prime powers. -/
def ownP (B : Nat) (w : World) (v : Value) (ps : List (Int × Int)) : Prop := w.ownsRow B 56 2 v ps.length (vP ps)
theorem ownP.nil (B : Nat) (w : World) : ownP B w (.slice none 0 0) [] := World.ownsRow_nil _ _ _ _
theorem ownP.kept {B : Nat} {w w' : World} {v : Value} {xs : List (Int × Int)} (h : ownP B w v xs) (hb : ∀ k, k < w.heap.size → v.ownBlock = some k → w'.heap[k]? = w.heap[k]?) : ownP B w' v xs := by
  unfold ownP at *
  refine ⟨h.1, ?_⟩
  rcases h.2 with hn | ⟨g, cap, cur, rfl, hg, hh, r⟩
  · exact .inl hn
  · have hlt : g < w.heap.size := (Array.getElem?_eq_some_iff.1 hh).1
    exact .inr ⟨g, cap, cur, rfl, hg, by rw [hb g hlt rfl]; exact hh, r⟩
theorem ownP.below {B : Nat} {w w' : World} {v : Value} {xs : List (Int × Int)} (h : ownP B w v xs) (hb : Below w.heap.size w w') : ownP B w' v xs := h.kept fun k hk _ => hb.block k hk
theorem ownP.alloc {B : Nat} {w : World} {v : Value} {xs : List (Int × Int)} (h : ownP B w v xs) (o : Obj) : ownP B (w.alloc o) v xs := h.below (Below.alloc (Below.refl _ _) (Nat.le_refl _) o)
theorem ownP.aft {B : Nat} {w : World} {v : Value} {xs : List (Int × Int)} (h : ownP B w v xs) (u : World) : ownP B (aft w u) v xs := h.below (below_aft w u)
theorem ownP.mono {B B' : Nat} {w : World} {v : Value} {xs : List (Int × Int)} (h : ownP B w v xs) (hB : B' ≤ B) : ownP B' w v xs := by
  refine ⟨h.1, ?_⟩
  rcases h.2 with hn | ⟨g, cap, cur, rfl, hg, r⟩
  · exact .inl hn
  · exact .inr ⟨g, cap, cur, rfl, Nat.le_trans hB hg, r⟩
theorem ownP_ge {B : Nat} {w : World} {v : Value} {xs : List (Int × Int)} (h : ownP B w v xs) : ∀ k, v.ownBlock = some k → B ≤ k := fun k hk => (World.ownsRow.lt h k hk).1
theorem ownP.snoc {B : Nat} {w : World} {v : Value} {xs : List (Int × Int)} {x : Int × Int} (h : w.ownsRow B 56 2 v (xs.length + 1) (vP xs ++ [.int .i64 x.1, .int .i64 x.2])) : ownP B w v (xs ++ [x]) := by
  unfold ownP
  rw [vP_append]
  simpa [vP] using h
theorem infoP : (Try.prog.info? 56).map (fun i => (i.zero, i.size, i.bytes)) = some (some (.agg #[.int .i64 0, .int .i64 0]), 2, 16) := by kernel_rfl

/-- The program's list of prime powers. -/
def facI : Nat → Int → Int → List (Int × Int)
  | 0, _, _ => []
  | f + 1, n, p => if n ≤ 1 then [] else
      (if vl n (if n < p * p then n else p) = 0 then [] else [((if n < p * p then n else p), (vl n (if n < p * p then n else p) : Int))]) ++ facI f (n / (if n < p * p then n else p) ^ vl n (if n < p * p then n else p)) ((if n < p * p then n else p) + 1)
/-- The statement's list. -/
def facS : Nat → Int → Int → List (Int × Int)
  | 0, _, _ => []
  | f + 1, n, p => if n < p * p then (if 1 < n then [(n, 1)] else []) else
      (if vl n p = 0 then [] else [(p, (vl n p : Int))]) ++ facS f (n / p ^ vl n p) (p + 1)
theorem quo_le {n p : Int} (hp : 2 ≤ p) (hn : 1 ≤ n) : 1 ≤ n / p ^ vl n p ∧ (vl n p = 0 → n / p ^ vl n p = n) ∧ (vl n p ≠ 0 → 2 * (n / p ^ vl n p) ≤ n) ∧ n / p ^ vl n p ≤ n := by
  obtain ⟨c, h1, h2, h3⟩ := vl_spec hp (show n ≠ 0 by omega)
  have h4 := pow_pos' (show 1 ≤ p by omega) (vl n p)
  have h5 : 1 ≤ c := by
    rcases Int.lt_or_le 0 c with h | h
    · omega
    · have := Int.mul_nonpos_of_nonpos_of_nonneg h (show 0 ≤ p ^ vl n p by omega); omega
  rw [h3]
  have h8 : c * 1 ≤ c * p ^ vl n p := Int.mul_le_mul_of_nonneg_left h4 (by omega)
  refine ⟨h5, fun h => ?_, fun h => ?_, by omega⟩
  · rw [h, Int.pow_zero, Int.mul_one] at h1; exact h1.symm
  · have h6 := pow_mono (show 1 ≤ p by omega) (show 1 ≤ vl n p by omega)
    rw [Int.pow_succ, Int.pow_zero, Int.one_mul] at h6
    have h7 : c * 2 ≤ c * p ^ vl n p := Int.mul_le_mul_of_nonneg_left (by omega) (by omega)
    omega
end Go.Proofs.Ytdeehgcabnoclaa
