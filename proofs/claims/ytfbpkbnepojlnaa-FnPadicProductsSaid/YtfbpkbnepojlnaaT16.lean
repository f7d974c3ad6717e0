/- Draws for the number of an integer, a digit, an end. -/
import Derived.Test.YtfbpkbnepojlnaaT15
import Derived.Test.YtfbpkbnepojlnaaT7
namespace Go.Proofs.Ytfbpkbnepojlnaa
open Go Go.RowKit

def endF (p v u n : Int) : Int × Int := if padicB p v u n = true then (v + n, 0) else (0, 1)
set_option maxHeartbeats 1000000 in
theorem i_EndOfA (p v u n : Int) (w : World) :
    Calls Try.prog 14 #[(.agg #[.int .i64 p, .int .i64 v, .int .i64 u, .int .i64 n])] w fun e w' => e = .returned (.tuple #[.int .i64 (endF p v u n).1, .int .i64 (endF p v u n).2]) ∧ Below w.heap.size w w' := by
  cases h : padicB p v u n
  · have e : (endF p v u n) = (0, 1) := by simp [endF, h]
    rw [e]; clear e
    go_enter Try.func14, Try.ntmps14
    go_wp2_with (go_at_call 16; refine via (i_IsPadic _ _ _ _ _) ?_; intro uu zz; try simp at zz)
    go_ret2
    exact ⟨rfl, (by refine Ext.bel ?_; repeat (with_reducible first | exact Ext.refl _ | apply Ext.alloc | apply Ext.aft | apply Ext.drew | apply Ext.drewN | apply Ext.setCell | exact Nat.le_add_right _ _ | exact Nat.le_refl _ | (simp; done) | omega))⟩
  · have e : (endF p v u n) = (v + n, 0) := by simp [endF, h]
    rw [e]
    exact i_EndOf p v u n w h
set_option maxHeartbeats 1000000 in
theorem s_EndOfA (p v u n : Int) (w : World) :
    Calls Try.prog 15 #[(.agg #[.int .i64 p, .int .i64 v, .int .i64 u, .int .i64 n])] w fun e w' => e = .returned (.tuple #[.int .i64 (endF p v u n).1, .int .i64 (endF p v u n).2]) ∧ Below w.heap.size w w' := by
  cases h : padicB p v u n
  · have e : (endF p v u n) = (0, 1) := by simp [endF, h]
    rw [e]; clear e
    go_enter Try.func15, Try.ntmps15
    go_wp2_with (go_at_call 54; refine via (s_IsPadic _ _ _ _ _) ?_; intro uu zz; try simp at zz)
    go_ret2
    exact ⟨rfl, (by refine Ext.bel ?_; repeat (with_reducible first | exact Ext.refl _ | apply Ext.alloc | apply Ext.aft | apply Ext.drew | apply Ext.drewN | apply Ext.setCell | exact Nat.le_add_right _ _ | exact Nat.le_refl _ | (simp; done) | omega))⟩
  · obtain ⟨hp, hv, hu, hn, hb⟩ := padic_facts h
    have e : (endF p v u n) = (v + n, 0) := by simp [endF, h]
    rw [e]; clear e hb
    go_enter Try.func15, Try.ntmps15
    go_wp2_with (go_at_call 54; refine via (s_IsPadic _ _ _ _ _) ?_; intro uu zz; try simp at zz)
    go_ret2
    exact ⟨rfl, (by refine Ext.bel ?_; repeat (with_reducible first | exact Ext.refl _ | apply Ext.alloc | apply Ext.aft | apply Ext.drew | apply Ext.drewN | apply Ext.setCell | exact Nat.le_add_right _ _ | exact Nat.le_refl _ | (simp; done) | omega))⟩

theorem mul_bd {m p : Int} {A : Nat} (hm : -(A : Int) ≤ m ∧ m ≤ A) (hp : -101 ≤ p ∧ p ≤ 101) : -(101 * (A : Int)) ≤ m * p ∧ m * p ≤ 101 * A := by
  have h1 : (m * p).natAbs ≤ A * 101 := by rw [Int.natAbs_mul]; exact Nat.mul_le_mul (by omega) (by omega)
  omega

set_option maxHeartbeats 2000000 in
theorem s_drawValue (B b : Nat) (w : World) (h : src B b w) :
    Calls Try.prog 78 #[.pointer (some ⟨b, 0, none⟩)] w (Draws B b w (fun x => .int .i64 x) (fun _ => True)) := by
  go_enter Try.func78, Try.ntmps78
  go_wp2_with fail
  refine viaDr (s_next B b _ _ h (by omega)) ?_
  intro x u hp hs hl
  by_cases hx : x = 0
  · subst hx
    go_wp2_with fail
    refine viaDr (s_pickA B b _ _ _ [0, 1000000000000, 1000000000001, -1000000000000, -1000000000001, 1] _ _ _ (by simp) rfl rfl (by repeat (with_reducible first | assumption | apply src.aft | apply src.alloc | apply src.drew | (refine src.set ?_ ?_ ?_ _) | (simp; done) | (simp; omega) | omega)) (by decide) (by decide)) ?_
    intro y v hy hs2 hl2
    clear hy
    go_wp2_with fail
    go_ret
    exact ⟨y, rfl, trivial, (by show Gr _ _ _; repeat (with_reducible first | exact Gr.refl _ _ | apply Gr.aftD | apply Gr.aft | apply Gr.alloc | apply Gr.drew | apply Gr.set | (simp; done) | (simp; omega) | omega)), hs2⟩
  · have hx' : (x == 0) = false := by simpa using hx
    clear hp hx
    go_wp2_with fail
    refine viaDr (s_next B b _ _ hs (by omega)) ?_
    intro x1 u1 hp1 hs1 hl1
    (try dsimp only at hp1)
    go_wp2_with fail
    refine viaDr (s_next B b _ _ hs1 (by omega)) ?_
    intro x2 u2 hp2 hs2 hl2
    (try dsimp only at hp2)
    go_wp2_with fail
    refine viaDr (s_next B b _ _ hs2 (by omega)) ?_
    intro x3 u3 hp3 hs3 hl3
    (try dsimp only at hp3)
    go_wp2_with fail
    refine viaDr (s_pickA B b _ _ _ [x1 - 20, x2 - 1000, x3 - 1000000000] _ _ _ (by simp) rfl rfl (by repeat (with_reducible first | assumption | apply src.aft | apply src.alloc | apply src.drew | (refine src.set ?_ ?_ ?_ _) | (simp; done) | (simp; omega) | omega)) (by decide) (by decide)) ?_
    intro y v hy hs4 hl4
    clear hy
    go_wp2_with fail
    go_ret
    exact ⟨y, rfl, trivial, (by show Gr _ _ _; repeat (with_reducible first | exact Gr.refl _ _ | apply Gr.aftD | apply Gr.aft | apply Gr.alloc | apply Gr.drew | apply Gr.set | (simp; done) | (simp; omega) | omega)), hs4⟩

theorem rdB.below {B : Nat} {w w' : World} {a : Option Addr} {len : Nat} (h : rdB B w a len) (k : Below w.heap.size w w') : rdB B w' a len :=
  h.of fun j o v _ hv => (k.cell (p := ⟨j, o, none⟩) (World.block_lt_of_cell? w _ hv)).trans hv

set_option maxHeartbeats 4000000 in
theorem s_DrawValuationOf (B : Nat) (a : Option Addr) (len cap : Nat) (w : World) (h : rdB B w a len) (hl : len ≤ 4096) (hB : B ≤ w.heap.size) :
    Calls Try.prog 36 #[.slice a len cap] w fun e w' => ∃ z : Int × Int, e = .returned (.tuple #[.int .i64 z.1, .int .i64 z.2]) ∧ Below w.heap.size w w' := by
  go_enter Try.func36, Try.ntmps36
  go_wp2_with fail
  refine viaF (s_from B a len cap _ h hl hB) ?_
  intro b u0 hs0 hb0 hl0 hl1
  go_wp2_with fail
  refine viaDr (s_drawPrime B b _ hs0) ?_
  intro p u1 hp hs1 hl2
  (try dsimp only at hp)
  go_wp2_with fail
  refine viaDr (s_next B b _ _ hs1 (by omega)) ?_
  intro x u2 hx hs2 hl3
  (try dsimp only at hx)
  go_wp2_with fail
  refine viaDr (s_next B b _ _ hs2 (by omega)) ?_
  intro y u3 hy hs3 hl4
  (try dsimp only at hy)
  obtain ⟨W, hW⟩ : ∃ W, W = aftD b (aftD b (aftD b (aft w u0) u1) u2) u3 := ⟨_, rfl⟩
  have HE : Hid (Ext w.heap.size w W) := hid (by rw [hW]; exact ((((Ext.refl w).aft _).aftD _ hb0).aftD _ hb0).aftD _ hb0)
  rw [← hW] at hs3 ⊢
  clear hW hl0 hl1 hl2 hl3 hl4 hs0 hs1 hs2
  go_wp2_with fail
  go_loop [6, 7] (fun n k => ∃ m j : Int, n = .int .i64 m ∧ k = .int .i64 j ∧ 0 ≤ j ∧ j ≤ 4 ∧ (-10406040100 ≤ m ∧ m ≤ 10406040100) ∧ (1 ≤ j → -103030100 ≤ m ∧ m ≤ 103030100) ∧ (2 ≤ j → -1020100 ≤ m ∧ m ≤ 1020100) ∧ (3 ≤ j → -10100 ≤ m ∧ m ≤ 10100) ∧ (4 ≤ j → -100 ≤ m ∧ m ≤ 100)) (fun _ k => (intOf k).toNat)
  case atStart => exact ⟨_, _, rfl, rfl, by omega, by omega, by omega, by omega, by omega, by omega, by omega⟩
  case round =>
    obtain ⟨m, j, rfl, rfl, j0, j4, r0, r1, r2, r3, r4⟩ := hrel
    by_cases hj : 0 < j
    · have q0 := @mul_bd m p 103030100 (by omega) (by omega)
      have q1 : 2 ≤ j → -103030100 ≤ m * p ∧ m * p ≤ 103030100 := fun q => by have := @mul_bd m p 1020100 (by omega) (by omega); omega
      have q2 : 3 ≤ j → -1020100 ≤ m * p ∧ m * p ≤ 1020100 := fun q => by have := @mul_bd m p 10100 (by omega) (by omega); omega
      have q3 : 4 ≤ j → -10100 ≤ m * p ∧ m * p ≤ 10100 := fun q => by have := @mul_bd m p 100 (by omega) (by omega); omega
      have Q1 := hid q1
      have Q2 := hid q2
      have Q3 := hid q3
      clear q1 q2 q3 r0 r1 r2 r3 r4 
      have q4 : -10406040100 ≤ m * p ∧ m * p ≤ 10406040100 := by omega
      clear q0
      go_wp2_with fail
      go_round
      case rel => exact ⟨_, _, rfl, rfl, by omega, by omega, by omega, fun q => by have := Q1.out (by omega); omega, fun q => by have := Q2.out (by omega); omega, fun q => by have := Q3.out (by omega); omega, fun q => by omega⟩
      case measure => simp [intOf]; omega
    · have j0' : j = 0 := by omega
      subst j0'
      clear r1 r2 r3 r4 
      go_wp2_with fail
      refine viaDr (s_drawValue B b _ hs3) ?_
      intro y v hy hs4 hl4
      go_wp2_with fail
      refine viaDr (s_pickA B b _ _ _ [m, m, y] _ _ _ (by simp) rfl rfl (by repeat (with_reducible first | assumption | apply src.aft | apply src.alloc | apply src.drew | (refine src.set ?_ ?_ ?_ _) | (simp; done) | (simp; omega) | omega)) (by decide) (by decide)) ?_
      intro z v2 hz hs5 hl5
      clear hz
      go_wp2_with fail
      go_ret2
      exact ⟨(z, p), rfl, Ext.bel (((HE.out.aftD _ hb0).alloc _).aftD _ hb0)⟩

set_option maxHeartbeats 4000000 in
theorem s_DrawMakePadic (B : Nat) (a : Option Addr) (len cap : Nat) (w : World) (h : rdB B w a len) (hl : len ≤ 4096) (hB : B ≤ w.heap.size) :
    Calls Try.prog 7 #[.slice a len cap] w fun e w' => ∃ z : Int × Int × Int, e = .returned (.tuple #[.int .i64 z.1, .int .i64 z.2.1, .int .i64 z.2.2]) ∧ Below w.heap.size w w' := by
  have H := hid h
  go_enter Try.func7, Try.ntmps7
  go_wp2_with fail
  refine viaF (s_from B a len cap _ h hl hB) ?_
  intro b u0 hs0 hb0 hl0 hl1
  clear h
  go_wp2_with fail
  refine viaV (α := Int × Int) (g := fun z => .tuple #[.int .i64 z.1, .int .i64 z.2]) (s_DrawValuationOf B a len cap _ (H.out.below (below_aft _ _)) hl (by omega)) ?_
  intro n u1 hz1
  dsimp only
  go_wp2_with fail
  refine viaDr (s_drawPrime B b _ (hs0.aft _)) ?_
  intro p u2 hp hs1 hl2
  (try dsimp only at hp)
  go_wp2_with fail
  refine viaDr (s_next B b _ _ hs1 (by omega)) ?_
  intro x u3 hx hs2 hl3
  (try dsimp only at hx)
  go_wp2_with fail
  refine viaDr (s_pickA B b _ _ _ [x - 1000, n.1, 0, 64, 81, 3125] _ _ _ (by simp) rfl rfl (by repeat (with_reducible first | assumption | apply src.aft | apply src.alloc | apply src.drew | (refine src.set ?_ ?_ ?_ _) | (simp; done) | (simp; omega) | omega)) (by decide) (by decide)) ?_
  intro y u4 hy hs3 hl4
  clear hy
  go_wp2_with fail
  refine viaDr (s_pickA B b _ _ _ [1, 2, 3, 4, 5, 0, 30] _ _ _ (by simp) rfl rfl (by repeat (with_reducible first | assumption | apply src.aft | apply src.alloc | apply src.drew | (refine src.set ?_ ?_ ?_ _) | (simp; done) | (simp; omega) | omega)) (by decide) (by decide)) ?_
  intro z u5 hz hs4 hl5
  clear hz
  go_wp2_with fail
  exact bodyPost_ret (v := .tuple #[.int .i64 p, .int .i64 y, .int .i64 z]) (by first | (simp [results, go_sem]; done) | simp [results, go_sem, ↓IntWalk.iteOmega]) rfl ⟨(p, y, z), rfl, Ext.bel ((((((((Ext.refl w).aft _).aft _).aftD _ hb0).aftD _ hb0).alloc _).aftD _ hb0).alloc _ |>.aftD _ hb0)⟩
end Go.Proofs.Ytfbpkbnepojlnaa
