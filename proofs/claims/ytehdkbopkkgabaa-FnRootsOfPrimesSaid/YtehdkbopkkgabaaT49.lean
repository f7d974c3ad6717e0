/- Squares by a prime: both texts of IsSquareResidue; the draws. -/
import Derived.Test.YtehdkbopkkgabaaD1
import Derived.Test.YtehdkbopkkgabaaT30
import Derived.Test.YtehdkbopkkgabaaT48
namespace Go.Proofs.Ytehdkbopkkgabaa
open Go Go.RowKit

def sqrpF (p a : Int) : Int × Int := if smallP p = true then (if inB a (-1000000000000) 1000000000000 = true then (sqF p a, 0) else (0, 2)) else (0, 1)
theorem sqF_bd2 (p a : Int) : -1 ≤ sqF p a ∧ sqF p a ≤ 1 := by have := sqF_bd p a; omega
set_option maxHeartbeats 1000000 in
theorem i_IsSquareResidue (p a : Int) (w : World) :
    Calls Try.prog 14 #[.int .i64 p, .int .i64 a] w fun e w' => e = .returned (.tuple #[.int .i64 (sqrpF p a).1, .int .i64 (sqrpF p a).2]) ∧ Below w.heap.size w w' := by
  by_cases hs : smallP p = true
  · have hp := smallP_bd hs
    by_cases hb : inB a (-1000000000000) 1000000000000 = true
    · have e : sqrpF p a = (sqF p a, 0) := by simp [sqrpF, hs, hb]
      rw [e]; clear e
      have hB := inB_iff.1 hb
      have hq := sqF_bd2 p a
      go_enter Try.func14, Try.ntmps14
      go_wp2_with (first | (go_at_call 69; refine pur (i_small _ _) ?_) | (go_at_call 76; refine pur (i_isValue _ _) ?_) | (go_at_call 77; refine pur (i_sq _ _ _ (by omega) (by omega)) ?_))
      go_ret2
      exact ⟨rfl, (by refine Ext.bel ?_; repeat (with_reducible first | exact Ext.refl _ | apply Ext.alloc | apply Ext.aft | apply Ext.drew | apply Ext.drewN | apply Ext.setCell | exact Nat.le_add_right _ _ | exact Nat.le_refl _ | (simp; done) | omega))⟩
    · have e : sqrpF p a = (0, 2) := by simp [sqrpF, hs, hb]
      rw [e]; clear e
      have hb' : inB a (-1000000000000) 1000000000000 = false := by simpa using hb
      clear hb
      go_enter Try.func14, Try.ntmps14
      go_wp2_with (first | (go_at_call 69; refine pur (i_small _ _) ?_) | (go_at_call 76; refine pur (i_isValue _ _) ?_))
      go_ret2
      exact ⟨rfl, (by refine Ext.bel ?_; repeat (with_reducible first | exact Ext.refl _ | apply Ext.alloc | apply Ext.aft | apply Ext.drew | apply Ext.drewN | apply Ext.setCell | exact Nat.le_add_right _ _ | exact Nat.le_refl _ | (simp; done) | omega))⟩
  · have e : sqrpF p a = (0, 1) := by simp [sqrpF, hs]
    rw [e]; clear e
    have hs' : smallP p = false := by simpa using hs
    clear hs
    go_enter Try.func14, Try.ntmps14
    go_wp2_with (first | (go_at_call 69; refine pur (i_small _ _) ?_))
    go_ret2
    exact ⟨rfl, (by refine Ext.bel ?_; repeat (with_reducible first | exact Ext.refl _ | apply Ext.alloc | apply Ext.aft | apply Ext.drew | apply Ext.drewN | apply Ext.setCell | exact Nat.le_add_right _ _ | exact Nat.le_refl _ | (simp; done) | omega))⟩
set_option maxHeartbeats 1000000 in
theorem s_IsSquareResidue (p a : Int) (w : World) :
    Calls Try.prog 15 #[.int .i64 p, .int .i64 a] w fun e w' => e = .returned (.tuple #[.int .i64 (sqrpF p a).1, .int .i64 (sqrpF p a).2]) ∧ Below w.heap.size w w' := by
  by_cases hs : smallP p = true
  · have hp := smallP_bd hs
    by_cases hb : inB a (-1000000000000) 1000000000000 = true
    · have e : sqrpF p a = (sqF p a, 0) := by simp [sqrpF, hs, hb]
      rw [e]; clear e
      have hB := inB_iff.1 hb
      have hq := sqF_bd2 p a
      go_enter Try.func15, Try.ntmps15
      go_wp2_with (first | (go_at_call 71; refine pur (s_small _ _) ?_) | (go_at_call 78; refine pur (s_is _ _) ?_) | (go_at_call 79; refine pur (s_sq _ _ _ (by omega)) ?_))
      go_ret2
      exact ⟨rfl, (by refine Ext.bel ?_; repeat (with_reducible first | exact Ext.refl _ | apply Ext.alloc | apply Ext.aft | apply Ext.drew | apply Ext.drewN | apply Ext.setCell | exact Nat.le_add_right _ _ | exact Nat.le_refl _ | (simp; done) | omega))⟩
    · have e : sqrpF p a = (0, 2) := by simp [sqrpF, hs, hb]
      rw [e]; clear e
      have hb' : inB a (-1000000000000) 1000000000000 = false := by simpa using hb
      clear hb
      go_enter Try.func15, Try.ntmps15
      go_wp2_with (first | (go_at_call 71; refine pur (s_small _ _) ?_) | (go_at_call 78; refine pur (s_is _ _) ?_))
      go_ret2
      exact ⟨rfl, (by refine Ext.bel ?_; repeat (with_reducible first | exact Ext.refl _ | apply Ext.alloc | apply Ext.aft | apply Ext.drew | apply Ext.drewN | apply Ext.setCell | exact Nat.le_add_right _ _ | exact Nat.le_refl _ | (simp; done) | omega))⟩
  · have e : sqrpF p a = (0, 1) := by simp [sqrpF, hs]
    rw [e]; clear e
    have hs' : smallP p = false := by simpa using hs
    clear hs
    go_enter Try.func15, Try.ntmps15
    go_wp2_with (first | (go_at_call 71; refine pur (s_small _ _) ?_))
    go_ret2
    exact ⟨rfl, (by refine Ext.bel ?_; repeat (with_reducible first | exact Ext.refl _ | apply Ext.alloc | apply Ext.aft | apply Ext.drew | apply Ext.drewN | apply Ext.setCell | exact Nat.le_add_right _ _ | exact Nat.le_refl _ | (simp; done) | omega))⟩

set_option maxHeartbeats 1000000 in
theorem s_DrawPrimitiveRoot (B : Nat) (a : Option Addr) (len cap : Nat) (w : World) (h : rdB B w a len) (hl : len ≤ 4096) (hB : B ≤ w.heap.size) :
    Calls Try.prog 10 #[.slice a len cap] w fun e w' => ∃ z : Int, e = .returned (.int .i64 z) ∧ Below w.heap.size w w' := by
  go_enter Try.func10, Try.ntmps10
  go_wp2_with fail
  refine viaF (s_from B a len cap _ h hl hB) ?_
  intro b u0 hs0 hb0 hl0 hl1
  (try simp at hb0 hl0)
  go_wp2_with fail
  refine viaDr (s_drawPrime B b _ hs0) ?_
  intro x u1 hx hs1 hl2
  clear hx
  have hE : Hid (Ext w.heap.size w (aftD b (aft w u0) u1)) := hid (((Ext.refl w).aft _).aftD _ (by omega))
  go_wp2_with fail
  go_ret
  exact ⟨x, rfl, Ext.bel hE.out⟩

set_option maxRecDepth 20000 in
set_option maxHeartbeats 4000000 in
theorem s_DrawIsSquareResidue (B : Nat) (a : Option Addr) (len cap : Nat) (w : World) (h : rdB B w a len) (hl : len ≤ 4096) (hB : B ≤ w.heap.size) :
    Calls Try.prog 13 #[.slice a len cap] w fun e w' => ∃ z : Int × Int, e = .returned ((fun z : Int × Int => .tuple #[.int .i64 z.1, .int .i64 z.2]) z) ∧ Below w.heap.size w w' := by
  go_enter Try.func13, Try.ntmps13
  go_wp2_with fail
  refine viaF (s_from B a len cap _ h hl hB) ?_
  intro b u0 hs0 hb0 hl0 hl1
  (try simp at hb0 hl0)
  go_wp2_with fail
  refine viaDr (s_drawPrime B b _ hs0) ?_
  intro p u1 hx hs1 hl2
  clear hx
  go_wp2_with fail
  refine viaDr (s_next B b _ _ hs1 (by omega)) ?_
  intro x1 u2 hp1 hs2 hl3
  (try dsimp only at hp1)
  go_wp2_with fail
  refine viaDr (s_drawValue B b _ hs2) ?_
  intro x2 u3 hp2 hs3 hl4
  clear hp2
  go_wp2_with fail
  refine viaDr (s_pickA B b _ _ _ [x1 - 200, x2, p, 0] _ _ _ (by simp) rfl rfl hs3 (by decide) (by decide)) ?_
  intro q u4 hq hs4 hl5
  clear hq
  have hE : Hid (Ext w.heap.size w (aftD b ((aftD b (aftD b (aftD b (aft w u0) u1) u2) u3).alloc (Obj.cells #[Value.int IntKind.i64 (x1 - 200), Value.int IntKind.i64 x2, Value.int IntKind.i64 p, Value.int IntKind.i64 0] 2)) u4)) := hid ((((((Ext.refl w).aft _).aftD _ (by omega)).aftD _ (by omega)).aftD _ (by omega)).alloc _ |>.aftD _ (by omega))
  go_wp2_with fail
  go_ret2
  exact ⟨(p, q), rfl, Ext.bel hE.out⟩
end Go.Proofs.Ytehdkbopkkgabaa
