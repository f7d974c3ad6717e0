/- Groups in the laws: sizes, copies, comparisons. -/
import Derived.Test.YtbkbcbanfnhjpaaK9
import Derived.Test.YtbkbcbanfnhjpaaN2
namespace Go.Proofs.Ytbkbcbanfnhjpaa
open Go Go.RowKit

theorem l_szI (r : Value) (xs : List Int) (L : Int) (w : World) (h : rdI w r xs) (hL : 0 ≤ L ∧ L ≤ 1048576) :
    Calls Try.prog 68 #[r, .int .i64 L] w fun e w' => e = .returned (.int .i64 (if L < xs.length then -1 else L - xs.length)) ∧ w = w' := by
  obtain ⟨a, cap, rfl, hm, _⟩ := h
  unfold maxLen at hm
  by_cases hl : L < xs.length
  · rw [if_pos hl]
    go_enter Try.func68, Try.ntmps68
    go_wp2_with fail
    go_ret
    exact ⟨rfl, rfl⟩
  · rw [if_neg hl]
    go_enter Try.func68, Try.ntmps68
    go_wp2_with fail
    go_ret
    exact ⟨rfl, rfl⟩
theorem l_szG (n : Int) (r : Value) (xs : List Int) (L : Int) (w : World) (h : rdI w r xs) (hL : 0 ≤ L ∧ L ≤ 1048576) :
    Calls Try.prog 31 #[(.agg #[.int .i64 n, r]), .int .i64 L] w fun e w' => e = .returned (.int .i64 (if L < xs.length then -1 else L - xs.length)) ∧ Below w.heap.size w w' := by
  have hR := h.alloc (Obj.cells #[.int .i64 n, r] 44)
  by_cases hl : L < xs.length
  · rw [if_pos hl]
    go_enter Try.func31, Try.ntmps31
    go_wp2_with (go_at_call 68; refine pur (l_szI _ xs L _ hR hL) ?_; rw [if_pos hl])
    go_ret
    exact ⟨rfl, (by refine Ext.bel ?_; repeat (with_reducible first | exact Ext.refl _ | apply Ext.alloc | apply Ext.aft | apply Ext.drew | apply Ext.drewN | apply Ext.setCell | exact Nat.le_add_right _ _ | exact Nat.le_refl _ | (simp; done) | omega))⟩
  · rw [if_neg hl]
    go_enter Try.func31, Try.ntmps31
    go_wp2_with (go_at_call 68; refine pur (l_szI _ xs L _ hR hL) ?_; rw [if_neg hl])
    go_ret
    exact ⟨rfl, (by refine Ext.bel ?_; repeat (with_reducible first | exact Ext.refl _ | apply Ext.alloc | apply Ext.aft | apply Ext.drew | apply Ext.drewN | apply Ext.setCell | exact Nat.le_add_right _ _ | exact Nat.le_refl _ | (simp; done) | omega))⟩
theorem l_szGp (n : Int) (r : Value) (xs : List Int) (L : Int) (w : World) (h : rdI w r xs) (hL : 0 ≤ L ∧ L ≤ 1048576) (hl : ¬ L < xs.length) :
    Calls Try.prog 31 #[(.agg #[.int .i64 n, r]), .int .i64 L] w fun e w' => e = .returned (.int .i64 (L - xs.length)) ∧ Below w.heap.size w w' := by
  have := l_szG n r xs L w h hL; rwa [if_neg hl] at this
theorem l_szGn (n : Int) (r : Value) (xs : List Int) (L : Int) (w : World) (h : rdI w r xs) (hL : 0 ≤ L ∧ L ≤ 1048576) (hl : L < xs.length) :
    Calls Try.prog 31 #[(.agg #[.int .i64 n, r]), .int .i64 L] w fun e w' => e = .returned (.int .i64 (-1)) ∧ Below w.heap.size w w' := by
  have := l_szG n r xs L w h hL; rwa [if_pos hl] at this
set_option maxHeartbeats 4000000 in
theorem l_toG (n : Int) (r : Value) (xs : List Int) (w : World) (h : rdI w r xs) (hl : xs.length ≤ 1048576) :
    Calls Try.prog 33 #[(.agg #[.int .i64 n, r])] w fun e w' => ∃ v, e = .returned (.agg #[.int .i64 n, v]) ∧ ownR w.heap.size w' v xs ∧ Below w.heap.size w w' := by
  go_enter Try.func33, Try.ntmps33
  go_wp2_with fail
  refine viaI (g := id) (l_toI _ _ _ (h.below (by refine Ext.bel ?_; repeat (with_reducible first | exact Ext.refl _ | apply Ext.alloc | apply Ext.aft | apply Ext.drew | apply Ext.drewN | apply Ext.setCell | exact Nat.le_add_right _ _ | exact Nat.le_refl _ | (simp; done) | omega))) hl) ?_
  intro v1 u1 z1 own1
  try simp at z1
  obtain ⟨a1, c1, hsh, _, _⟩ := own1.rd
  subst hsh
  go_wp2_with fail
  exact bodyPost_ret (v := .agg #[.int .i64 n, .slice a1 xs.length c1]) (by first | (simp [results, go_sem]; done) | simp [results, go_sem, ↓IntWalk.iteOmega]) rfl ⟨_, rfl, (((own1.setCell _ _ _ _ (by simp)).setCell _ _ _ _ (by simp)).setCell _ _ _ _ (by simp)).mono (by simp; omega), (by refine Ext.bel ?_; repeat (with_reducible first | exact Ext.refl _ | apply Ext.alloc | apply Ext.aft | apply Ext.drew | apply Ext.drewN | apply Ext.setCell | exact Nat.le_add_right _ _ | exact Nat.le_refl _ | (simp; done) | omega))⟩
set_option maxHeartbeats 4000000 in
theorem l_eqG (n : Int) (r1 r2 : Value) (xs : List Int) (w : World) (h1 : rdI w r1 xs) (h2 : rdI w r2 xs) :
    Calls Try.prog 26 #[.agg #[.int .i64 n, r1], .agg #[.int .i64 n, r2]] w fun e w' => e = .returned (.bool true) ∧ Below w.heap.size w w' := by
  go_enter Try.func26, Try.ntmps26
  go_wp2_with (first | (go_at_call 80; refine via (l_eqI _ _ xs _ (by exact (h1.alloc _).alloc _) (by exact (h2.alloc _).alloc _)) ?_; intro uu zz; try simp at zz))
  go_ret
  exact ⟨rfl, (by refine Ext.bel ?_; repeat (with_reducible first | exact Ext.refl _ | apply Ext.alloc | apply Ext.aft | apply Ext.drew | apply Ext.drewN | apply Ext.setCell | exact Nat.le_add_right _ _ | exact Nat.le_refl _ | (simp; done) | omega))⟩
end Go.Proofs.Ytbkbcbanfnhjpaa
