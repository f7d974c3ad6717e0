/- IsGroup, CountElements: the laws. -/
import Derived.Test.YtbkbcbanfnhjpaaP1
namespace Go.Proofs.Ytbkbcbanfnhjpaa
open Go Go.RowKit

theorem i_size (r : Value) (xs : List Int) (w : World) (h : rdI w r xs) :
    Calls Try.prog 78 #[r] w fun e w' => e = .returned (.int .i64 xs.length) ∧ w = w' := by
  obtain ⟨a, cap, rfl, hm, _⟩ := h
  unfold maxLen at hm
  go_enter Try.func78, Try.ntmps78
  go_wp2
  go_ret
  exact ⟨rfl, rfl⟩
def countF (n : Int) (xs : List Int) : Int × Int := if groupB n xs = true then ((xs.length : Int), 0) else (0, 1)
theorem i_IsGroupE (n : Int) (r : Value) (rs : List Int) (w : World) (b : Bool) (h : rdI w r rs) (hl : rs.length ≤ 1048576) (hb : groupB n rs = b) :
    Calls Try.prog 43 #[(.agg #[.int .i64 n, r])] w fun e w' => e = .returned (.bool b) ∧ Below w.heap.size w w' := by subst hb; exact i_IsGroup n r rs w h hl
theorem s_IsGroupE (n : Int) (r : Value) (rs : List Int) (w : World) (b : Bool) (h : rdI w r rs) (hl : rs.length ≤ 1048576) (hb : groupB n rs = b) :
    Calls Try.prog 57 #[(.agg #[.int .i64 n, r])] w fun e w' => e = .returned (.bool b) ∧ Below w.heap.size w w' := by subst hb; exact s_IsGroup n r rs w h hl
set_option maxHeartbeats 1000000 in
theorem i_Count (n : Int) (r : Value) (xs : List Int) (w : World) (h : rdI w r xs) (hl : xs.length ≤ 1048576) :
    Calls Try.prog 41 #[(.agg #[.int .i64 n, r])] w fun e w' => e = .returned (.tuple #[.int .i64 (countF n xs).1, .int .i64 (countF n xs).2]) ∧ Below w.heap.size w w' := by
  have hR := h.alloc (Obj.cells #[.int .i64 n, r] 26)
  cases hg : groupB n xs
  · have e : countF n xs = (0, 1) := by simp [countF, hg]
    rw [e]; clear e
    go_enter Try.func41, Try.ntmps41
    go_wp2_with (first | (go_at_call 43; refine via (i_IsGroupE _ _ xs _ false hR hl hg) ?_; intro uu zz; try simp at zz))
    exact bodyPost_ret (v := .tuple #[.int .i64 0, .int .i64 1]) (by first | (simp [results, go_sem]; done) | simp [results, go_sem, ↓IntWalk.iteOmega]) rfl ⟨rfl, (by refine Ext.bel ?_; repeat (with_reducible first | exact Ext.refl _ | apply Ext.alloc | apply Ext.aft | apply Ext.drew | apply Ext.drewN | apply Ext.setCell | exact Nat.le_add_right _ _ | exact Nat.le_refl _ | (simp; done) | omega))⟩
  · have e : countF n xs = ((xs.length : Int), 0) := by simp [countF, hg]
    rw [e]; clear e
    have HG := hid hg
    obtain ⟨a, c, hsh, hm, _⟩ := id h
    unfold maxLen at hm
    subst hsh
    clear hg
    go_enter Try.func41, Try.ntmps41
    go_wp2_with (first | (go_at_call 43; refine via (i_IsGroupE _ _ xs _ true hR hl HG.out) ?_; intro uu zz; try simp at zz) | (go_at_call 78; refine pur (i_size _ xs _ (hR.aft _)) ?_))
    exact bodyPost_ret (v := .tuple #[.int .i64 xs.length, .int .i64 0]) (by first | (simp [results, go_sem]; done) | simp [results, go_sem, ↓IntWalk.iteOmega]) rfl ⟨rfl, (by refine Ext.bel ?_; repeat (with_reducible first | exact Ext.refl _ | apply Ext.alloc | apply Ext.aft | apply Ext.drew | apply Ext.drewN | apply Ext.setCell | exact Nat.le_add_right _ _ | exact Nat.le_refl _ | (simp; done) | omega))⟩
set_option maxHeartbeats 1000000 in
theorem s_Count (n : Int) (r : Value) (xs : List Int) (w : World) (h : rdI w r xs) (hl : xs.length ≤ 1048576) :
    Calls Try.prog 42 #[(.agg #[.int .i64 n, r])] w fun e w' => e = .returned (.tuple #[.int .i64 (countF n xs).1, .int .i64 (countF n xs).2]) ∧ Below w.heap.size w w' := by
  have hR := h.alloc (Obj.cells #[.int .i64 n, r] 26)
  cases hg : groupB n xs
  · have e : countF n xs = (0, 1) := by simp [countF, hg]
    rw [e]; clear e
    go_enter Try.func42, Try.ntmps42
    go_wp2_with (first | (go_at_call 57; refine via (s_IsGroupE _ _ xs _ false hR hl hg) ?_; intro uu zz; try simp at zz))
    exact bodyPost_ret (v := .tuple #[.int .i64 0, .int .i64 1]) (by first | (simp [results, go_sem]; done) | simp [results, go_sem, ↓IntWalk.iteOmega]) rfl ⟨rfl, (by refine Ext.bel ?_; repeat (with_reducible first | exact Ext.refl _ | apply Ext.alloc | apply Ext.aft | apply Ext.drew | apply Ext.drewN | apply Ext.setCell | exact Nat.le_add_right _ _ | exact Nat.le_refl _ | (simp; done) | omega))⟩
  · have e : countF n xs = ((xs.length : Int), 0) := by simp [countF, hg]
    rw [e]; clear e
    have HG := hid hg
    obtain ⟨a, c, hsh, hm, _⟩ := id h
    unfold maxLen at hm
    subst hsh
    clear hg
    go_enter Try.func42, Try.ntmps42
    go_wp2_with (first | (go_at_call 57; refine via (s_IsGroupE _ _ xs _ true hR hl HG.out) ?_; intro uu zz; try simp at zz) | (go_at_call 78; refine pur (i_size _ xs _ (hR.aft _)) ?_))
    exact bodyPost_ret (v := .tuple #[.int .i64 xs.length, .int .i64 0]) (by first | (simp [results, go_sem]; done) | simp [results, go_sem, ↓IntWalk.iteOmega]) rfl ⟨rfl, (by refine Ext.bel ?_; repeat (with_reducible first | exact Ext.refl _ | apply Ext.alloc | apply Ext.aft | apply Ext.drew | apply Ext.drewN | apply Ext.setCell | exact Nat.le_add_right _ _ | exact Nat.le_refl _ | (simp; done) | omega))⟩

end Go.Proofs.Ytbkbcbanfnhjpaa
