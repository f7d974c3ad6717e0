/- What a law on sums calls: opposite numbers, ends, draws. -/
import Derived.Test.YtfbpkbnepojlnaaT6
import Derived.Test.YtfbpkbnepojlnaaE1
import Derived.Test.YtfbpkbnepojlnaaE4
namespace Go.Proofs.Ytfbpkbnepojlnaa
open Go Go.RowKit

def ngpF (p v u n : Int) : Pd × Int := if padicB p v u n = true then (⟨p, v, ngF p u n, n⟩, 0) else (⟨0, 0, 0, 0⟩, 1)
set_option maxHeartbeats 1000000 in
theorem i_NegatePadic (p v u n : Int) (w : World) :
    Calls Try.prog 21 #[(.agg #[.int .i64 p, .int .i64 v, .int .i64 u, .int .i64 n])] w fun e w' => e = .returned (.tuple #[.agg #[.int .i64 (ngpF p v u n).1.p, .int .i64 (ngpF p v u n).1.v, .int .i64 (ngpF p v u n).1.u, .int .i64 (ngpF p v u n).1.n], .int .i64 (ngpF p v u n).2]) ∧ Below w.heap.size w w' := by
  cases h : padicB p v u n
  · have e : (ngpF p v u n) = (⟨0, 0, 0, 0⟩, 1) := by simp [ngpF, h]
    rw [e]; clear e
    go_enter Try.func21, Try.ntmps21
    go_wp2_with (go_at_call 16; refine via (i_IsPadic _ _ _ _ _) ?_; intro uu zz; try simp at zz)
    exact bodyPost_ret (v := .tuple #[(.agg #[.int .i64 0, .int .i64 0, .int .i64 0, .int .i64 0]), .int .i64 1]) (by first | (simp [results, go_sem]; done) | simp [results, go_sem, ↓IntWalk.iteOmega]) rfl ⟨rfl, (by refine Ext.bel ?_; repeat (with_reducible first | exact Ext.refl _ | apply Ext.alloc | apply Ext.aft | apply Ext.drew | apply Ext.drewN | apply Ext.setCell | exact Nat.le_add_right _ _ | exact Nat.le_refl _ | (simp; done) | omega))⟩
  · have e : (ngpF p v u n) = (⟨p, v, ngF p u n, n⟩, 0) := by simp [ngpF, h]
    rw [e]; clear e
    have H := hid h
    go_enter Try.func21, Try.ntmps21
    go_wp2_with (first | (go_at_call 16; refine via (i_IsPadic _ _ _ _ _) ?_; intro uu zz; try simp at zz) | (go_at_call 69; refine via (i_negate _ _ _ _ _ H.out) ?_; intro uu zz; try simp at zz))
    exact bodyPost_ret (v := .tuple #[.agg #[.int .i64 p, .int .i64 v, .int .i64 (ngF p u n), .int .i64 n], .int .i64 0]) (by first | (simp [results, go_sem]; done) | simp [results, go_sem, ↓IntWalk.iteOmega]) rfl ⟨rfl, (by refine Ext.bel ?_; repeat (with_reducible first | exact Ext.refl _ | apply Ext.alloc | apply Ext.aft | apply Ext.drew | apply Ext.drewN | apply Ext.setCell | exact Nat.le_add_right _ _ | exact Nat.le_refl _ | (simp; done) | omega))⟩
set_option maxHeartbeats 1000000 in
theorem s_NegatePadic (p v u n : Int) (w : World) :
    Calls Try.prog 22 #[(.agg #[.int .i64 p, .int .i64 v, .int .i64 u, .int .i64 n])] w fun e w' => e = .returned (.tuple #[.agg #[.int .i64 (ngpF p v u n).1.p, .int .i64 (ngpF p v u n).1.v, .int .i64 (ngpF p v u n).1.u, .int .i64 (ngpF p v u n).1.n], .int .i64 (ngpF p v u n).2]) ∧ Below w.heap.size w w' := by
  cases h : padicB p v u n
  · have e : (ngpF p v u n) = (⟨0, 0, 0, 0⟩, 1) := by simp [ngpF, h]
    rw [e]; clear e
    go_enter Try.func22, Try.ntmps22
    go_wp2_with (go_at_call 54; refine via (s_IsPadic _ _ _ _ _) ?_; intro uu zz; try simp at zz)
    exact bodyPost_ret (v := .tuple #[(.agg #[.int .i64 0, .int .i64 0, .int .i64 0, .int .i64 0]), .int .i64 1]) (by first | (simp [results, go_sem]; done) | simp [results, go_sem, ↓IntWalk.iteOmega]) rfl ⟨rfl, (by refine Ext.bel ?_; repeat (with_reducible first | exact Ext.refl _ | apply Ext.alloc | apply Ext.aft | apply Ext.drew | apply Ext.drewN | apply Ext.setCell | exact Nat.le_add_right _ _ | exact Nat.le_refl _ | (simp; done) | omega))⟩
  · have e : (ngpF p v u n) = (⟨p, v, ngF p u n, n⟩, 0) := by simp [ngpF, h]
    rw [e]; clear e
    have H := hid h
    go_enter Try.func22, Try.ntmps22
    go_wp2_with (first | (go_at_call 54; refine via (s_IsPadic _ _ _ _ _) ?_; intro uu zz; try simp at zz) | (go_at_call 70; refine via (s_negate _ _ _ _ _ H.out) ?_; intro uu zz; try simp at zz))
    exact bodyPost_ret (v := .tuple #[.agg #[.int .i64 p, .int .i64 v, .int .i64 (ngF p u n), .int .i64 n], .int .i64 0]) (by first | (simp [results, go_sem]; done) | simp [results, go_sem, ↓IntWalk.iteOmega]) rfl ⟨rfl, (by refine Ext.bel ?_; repeat (with_reducible first | exact Ext.refl _ | apply Ext.alloc | apply Ext.aft | apply Ext.drew | apply Ext.drewN | apply Ext.setCell | exact Nat.le_add_right _ _ | exact Nat.le_refl _ | (simp; done) | omega))⟩

set_option maxHeartbeats 1000000 in
theorem i_EndOf (p v u n : Int) (w : World) (h : padicB p v u n = true) :
    Calls Try.prog 14 #[(.agg #[.int .i64 p, .int .i64 v, .int .i64 u, .int .i64 n])] w fun e w' => e = .returned (.tuple #[.int .i64 (v + n), .int .i64 0]) ∧ Below w.heap.size w w' := by
  obtain ⟨hp, hv, hu, hn, hb⟩ := padic_facts h
  clear hb
  go_enter Try.func14, Try.ntmps14
  go_wp2_with (first | (go_at_call 16; refine via (i_IsPadic _ _ _ _ _) ?_; intro uu zz; try simp at zz) | (go_at_call 52; refine via (i_end _ _ _ _ _ (by omega) (by omega)) ?_; intro uu zz; try simp at zz))
  go_ret2
  exact ⟨rfl, (by refine Ext.bel ?_; repeat (with_reducible first | exact Ext.refl _ | apply Ext.alloc | apply Ext.aft | apply Ext.drew | apply Ext.drewN | apply Ext.setCell | exact Nat.le_add_right _ _ | exact Nat.le_refl _ | (simp; done) | omega))⟩

theorem l_big (a : Option Addr) (len cap : Nat) (w : World) :
    Calls Try.prog 6 #[.slice a len cap] w fun e w' => e = .returned (.bool (decide ((4096 : Int) < (len : Int)))) ∧ w = w' := by
  go_enter Try.func6, Try.ntmps6
  go_wp2_with fail
  go_ret
  exact ⟨rfl, rfl⟩

/-- A call of which the value is known up to what was drawn. -/
theorem viaV {P : Program} {f : FuncId} {args : Array Value} {w : World} {α : Type} {g : α → Value} {R : Ending → World → Prop}
    (h : Calls P f args w fun e w' => ∃ x, e = .returned (g x) ∧ Below w.heap.size w w') (hR : ∀ x u, w.heap.size ≤ (aft w u).heap.size → R (.returned (g x)) (aft w u)) : Calls P f args w R :=
  h.mono fun e w' ⟨x, he, hb⟩ => by subst he; obtain ⟨u, rfl⟩ := aft_ex hb; exact hR x u (size_aft w u)

set_option maxHeartbeats 1000000 in
theorem s_DrawAddPadics (B : Nat) (a : Option Addr) (len cap : Nat) (w : World) (h : rdB B w a len) (hl : len ≤ 4096) (hB : B ≤ w.heap.size) :
    Calls Try.prog 17 #[.slice a len cap] w fun e w' => ∃ z : Pd × Pd, e = .returned ((fun z : Pd × Pd => .tuple #[(fun x : Pd => .agg #[.int .i64 x.p, .int .i64 x.v, .int .i64 x.u, .int .i64 x.n]) z.1, (fun x : Pd => .agg #[.int .i64 x.p, .int .i64 x.v, .int .i64 x.u, .int .i64 x.n]) z.2]) z) ∧ Below w.heap.size w w' := by
  go_enter Try.func17, Try.ntmps17
  go_wp2_with fail
  refine viaV (α := Pd × Pd) (g := (fun z : Pd × Pd => .tuple #[(fun x : Pd => .agg #[.int .i64 x.p, .int .i64 x.v, .int .i64 x.u, .int .i64 x.n]) z.1, (fun x : Pd => .agg #[.int .i64 x.p, .int .i64 x.v, .int .i64 x.u, .int .i64 x.n]) z.2])) ((s_drawTwo B a len cap _ (h.of fun j o v hj hv => by rw [alloc_cell, if_neg (by simp; omega), alloc_cell, if_neg (by omega)]; exact hv) hl (by simp; omega)).mono fun e w' ⟨x, y, he, hb⟩ => ⟨(x, y), he, hb⟩) ?_
  intro z u hz
  obtain ⟨⟨x1, x2, x3, x4⟩, ⟨y1, y2, y3, y4⟩⟩ := z
  (try simp at hz)
  dsimp only
  go_wp2_with fail
  exact bodyPost_ret (v := .tuple #[.agg #[.int .i64 x1, .int .i64 x2, .int .i64 x3, .int .i64 x4], .agg #[.int .i64 y1, .int .i64 y2, .int .i64 y3, .int .i64 y4]]) (by first | (simp [results, go_sem]; done) | simp [results, go_sem, ↓IntWalk.iteOmega]) rfl ⟨(⟨x1, x2, x3, x4⟩, ⟨y1, y2, y3, y4⟩), rfl, (by refine Ext.bel ?_; repeat (with_reducible first | exact Ext.refl _ | apply Ext.alloc | apply Ext.aft | apply Ext.drew | apply Ext.drewN | apply Ext.setCell | exact Nat.le_add_right _ _ | exact Nat.le_refl _ | (simp; done) | omega))⟩

set_option maxHeartbeats 1000000 in
theorem s_DrawNegatePadic (B : Nat) (a : Option Addr) (len cap : Nat) (w : World) (h : rdB B w a len) (hl : len ≤ 4096) (hB : B ≤ w.heap.size) :
    Calls Try.prog 20 #[.slice a len cap] w fun e w' => ∃ z : Pd, e = .returned ((fun x : Pd => .agg #[.int .i64 x.p, .int .i64 x.v, .int .i64 x.u, .int .i64 x.n]) z) ∧ Below w.heap.size w w' := by
  go_enter Try.func20, Try.ntmps20
  go_wp2_with fail
  refine viaF (s_from B a len cap _ (h.of fun j o v hj hv => by rw [alloc_cell, if_neg (by omega)]; exact hv) hl (by simp; omega)) ?_
  intro b u0 hs0 hb0 hl0 hl1
  simp at hb0 hl0
  go_wp2_with fail
  refine viaDr (s_draw3 B b _ hs0) ?_
  intro x u1 htr hs1 hl2
  clear htr
  obtain ⟨x1, x2, x3, x4⟩ := x
  dsimp only
  go_wp2_with fail
  exact bodyPost_ret (v := .agg #[.int .i64 x1, .int .i64 x2, .int .i64 x3, .int .i64 x4]) (by first | (simp [results, go_sem]; done) | simp [results, go_sem, ↓IntWalk.iteOmega]) rfl ⟨⟨x1, x2, x3, x4⟩, rfl, (by refine Ext.bel ?_; exact ((((((((Ext.refl w).alloc _).aft _).aftD _ (by omega)).setCell _ _ _ _ (by omega)).setCell _ _ _ _ (by omega)).setCell _ _ _ _ (by omega)).setCell _ _ _ _ (by omega)))⟩
end Go.Proofs.Ytfbpkbnepojlnaa
