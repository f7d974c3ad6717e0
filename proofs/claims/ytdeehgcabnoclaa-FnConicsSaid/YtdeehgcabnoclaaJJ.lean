/- Draws of the law on conics. (Printed by mkJJ.py.) -/
import Derived.Test.YtdeehgcabnoclaaJI
import Derived.Test.YtdeehgcabnoclaaT56
namespace Go.Proofs.Ytdeehgcabnoclaa
open Go Go.RowKit

set_option maxHeartbeats 2000000 in
theorem s_drawValue (B b : Nat) (w : World) (h : src B b w) :
    Calls Try.prog 42 #[.pointer (some ⟨b, 0, none⟩)] w (Draws B b w (fun x => .int .i64 x) (fun _ => True)) := by
  go_enter Try.func42, Try.ntmps42
  go_wp2_with fail
  refine viaDr (s_next B b _ _ h (by omega)) ?_
  intro x u hp hs hl
  by_cases hx : x = 0
  · subst hx
    go_wp2_with fail
    refine viaDr (s_pickA B b _ _ _ [0, 1000000000000, 1000000000001, -1000000000000, -1000000000001, 1] _ _ _ (by simp) rfl rfl (by repeat (with_reducible first | assumption | apply src.aft | apply src.alloc | apply src.drew | (refine src.set ?_ ?_ ?_ _) | (simp; done) | (simp; omega) | omega)) (by decide) (by decide)) ?_
    intro y v hy hs2 hl2
    clear hy
    go_wp2_with fail
    go_ret
    exact ⟨y, rfl, trivial, (by show Gr _ _ _; repeat (with_reducible first | exact Gr.refl _ _ | apply Gr.aftD | apply Gr.aft | apply Gr.alloc | apply Gr.drew | apply Gr.set | (simp; done) | (simp; omega) | omega)), hs2⟩
  · have hx' : (x == 0) = false := by simpa using hx
    clear hp hx
    go_wp2_with fail
    refine viaDr (s_next B b _ _ hs (by omega)) ?_
    intro x1 u1 hp1 hs1 hl1
    (try dsimp only at hp1)
    go_wp2_with fail
    refine viaDr (s_next B b _ _ hs1 (by omega)) ?_
    intro x2 u2 hp2 hs2 hl2
    (try dsimp only at hp2)
    go_wp2_with fail
    refine viaDr (s_next B b _ _ hs2 (by omega)) ?_
    intro x3 u3 hp3 hs3 hl3
    (try dsimp only at hp3)
    go_wp2_with fail
    refine viaDr (s_pickA B b _ _ _ [x1 - 20, x2 - 1000, x3 - 1000000000] _ _ _ (by simp) rfl rfl (by repeat (with_reducible first | assumption | apply src.aft | apply src.alloc | apply src.drew | (refine src.set ?_ ?_ ?_ _) | (simp; done) | (simp; omega) | omega)) (by decide) (by decide)) ?_
    intro y v hy hs4 hl4
    clear hy
    go_wp2_with fail
    go_ret
    exact ⟨y, rfl, trivial, (by show Gr _ _ _; repeat (with_reducible first | exact Gr.refl _ _ | apply Gr.aftD | apply Gr.aft | apply Gr.alloc | apply Gr.drew | apply Gr.set | (simp; done) | (simp; omega) | omega)), hs4⟩


set_option maxHeartbeats 4000000 in
theorem s_16DrawValue (B b : Nat) (w : World) (h : src B b w) :
    Calls Try.prog 35 #[.pointer (some ⟨b, 0, none⟩)] w (Draws B b w (fun x => .int .i64 x) (fun _ => True)) := by
  go_enter Try.func35, Try.ntmps35
  go_wp2_with fail
  refine viaDr (s_next B b _ _ h (by omega)) ?_
  intro x u hx hs hl
  (try dsimp only at hx)
  have hx2 : 0 ≤ x ∧ x < 30 := by first | exact hx (by decide) | omega
  clear hx
  go_wp2_with fail
  refine viaDr (s_next B b _ _ hs (by omega)) ?_
  intro y u2 hy hs2 hl2
  clear hy
  by_cases hy : y = 0
  · have hy' : (y == 0) = true := by simpa using hy
    clear hy
    go_wp2_with fail
    refine viaDr (s_next B b _ _ hs2 (by omega)) ?_
    intro z u3 hz hs3 hl3
    (try dsimp only at hz)
    have hz2 : 0 ≤ z ∧ z < 90 := by first | exact hz (by decide) | omega
    clear hz
    have hm : 0 ≤ (1 + x) * (1 + z) ∧ (1 + x) * (1 + z) ≤ 30 * 90 := ⟨Int.mul_nonneg (by omega) (by omega), Int.mul_le_mul (by omega) (by omega) (by omega) (by omega)⟩
    go_wp2_with fail
    refine viaDr (s_next B b _ _ hs3 (by omega)) ?_
    intro c u4 hc hs4 hl4
    clear hc
    by_cases hc : c = 0
    · have hc' : (c == 0) = true := by simpa using hc
      clear hc
      go_wp2_with fail
      refine viaDr (s_drawValue B b _ hs4) ?_
      intro d u5 hd hs5 hl5
      clear hd
      go_wp2_with fail
      refine viaDr (s_pickA B b _ _ _ [-((1 + x) * (1 + z)), -((1 + x) * (1 + z)), -((1 + x) * (1 + z)), -((1 + x) * (1 + z)), -((1 + x) * (1 + z)), -((1 + x) * (1 + z)), 0, d] _ _ _ (by simp) rfl rfl (by repeat (with_reducible first | assumption | apply src.aft | apply src.alloc | apply src.drew | (refine src.set ?_ ?_ ?_ _) | (simp; done) | (simp; omega) | omega)) (by decide) (by decide)) ?_
      intro r u6 hr hs6 hl6
      clear hr
      go_wp2_with fail
      go_ret
      exact ⟨r, rfl, trivial, (by show Gr _ _ _; repeat (with_reducible first | exact Gr.refl _ _ | apply Gr.aftD | apply Gr.aft | apply Gr.alloc | apply Gr.drew | apply Gr.set | (simp; done) | (simp; omega) | omega)), hs6⟩
    · have hc' : (c == 0) = false := by simpa using hc
      clear hc
      go_wp2_with fail
      refine viaDr (s_drawValue B b _ hs4) ?_
      intro d u5 hd hs5 hl5
      clear hd
      go_wp2_with fail
      refine viaDr (s_pickA B b _ _ _ [((1 + x) * (1 + z)), ((1 + x) * (1 + z)), ((1 + x) * (1 + z)), ((1 + x) * (1 + z)), ((1 + x) * (1 + z)), ((1 + x) * (1 + z)), 0, d] _ _ _ (by simp) rfl rfl (by repeat (with_reducible first | assumption | apply src.aft | apply src.alloc | apply src.drew | (refine src.set ?_ ?_ ?_ _) | (simp; done) | (simp; omega) | omega)) (by decide) (by decide)) ?_
      intro r u6 hr hs6 hl6
      clear hr
      go_wp2_with fail
      go_ret
      exact ⟨r, rfl, trivial, (by show Gr _ _ _; repeat (with_reducible first | exact Gr.refl _ _ | apply Gr.aftD | apply Gr.aft | apply Gr.alloc | apply Gr.drew | apply Gr.set | (simp; done) | (simp; omega) | omega)), hs6⟩
  · have hy' : (y == 0) = false := by simpa using hy
    clear hy
    have hm : 0 ≤ 1 + x ∧ 1 + x ≤ 30 * 90 := by omega
    go_wp2_with fail
    refine viaDr (s_next B b _ _ hs2 (by omega)) ?_
    intro c u4 hc hs4 hl4
    clear hc
    by_cases hc : c = 0
    · have hc' : (c == 0) = true := by simpa using hc
      clear hc
      go_wp2_with fail
      refine viaDr (s_drawValue B b _ hs4) ?_
      intro d u5 hd hs5 hl5
      clear hd
      go_wp2_with fail
      refine viaDr (s_pickA B b _ _ _ [-(1 + x), -(1 + x), -(1 + x), -(1 + x), -(1 + x), -(1 + x), 0, d] _ _ _ (by simp) rfl rfl (by repeat (with_reducible first | assumption | apply src.aft | apply src.alloc | apply src.drew | (refine src.set ?_ ?_ ?_ _) | (simp; done) | (simp; omega) | omega)) (by decide) (by decide)) ?_
      intro r u6 hr hs6 hl6
      clear hr
      go_wp2_with fail
      go_ret
      exact ⟨r, rfl, trivial, (by show Gr _ _ _; repeat (with_reducible first | exact Gr.refl _ _ | apply Gr.aftD | apply Gr.aft | apply Gr.alloc | apply Gr.drew | apply Gr.set | (simp; done) | (simp; omega) | omega)), hs6⟩
    · have hc' : (c == 0) = false := by simpa using hc
      clear hc
      go_wp2_with fail
      refine viaDr (s_drawValue B b _ hs4) ?_
      intro d u5 hd hs5 hl5
      clear hd
      go_wp2_with fail
      refine viaDr (s_pickA B b _ _ _ [(1 + x), (1 + x), (1 + x), (1 + x), (1 + x), (1 + x), 0, d] _ _ _ (by simp) rfl rfl (by repeat (with_reducible first | assumption | apply src.aft | apply src.alloc | apply src.drew | (refine src.set ?_ ?_ ?_ _) | (simp; done) | (simp; omega) | omega)) (by decide) (by decide)) ?_
      intro r u6 hr hs6 hl6
      clear hr
      go_wp2_with fail
      go_ret
      exact ⟨r, rfl, trivial, (by show Gr _ _ _; repeat (with_reducible first | exact Gr.refl _ _ | apply Gr.aftD | apply Gr.aft | apply Gr.alloc | apply Gr.drew | apply Gr.set | (simp; done) | (simp; omega) | omega)), hs6⟩

set_option maxHeartbeats 4000000 in
theorem s_16DrawTwo (B : Nat) (a : Option Addr) (len cap : Nat) (w : World) (h : rdB B w a len) (hl : len ≤ 4096) (hB : B ≤ w.heap.size) :
    Calls Try.prog 21 #[.slice a len cap] w fun e w' => ∃ z : Int × Int, e = .returned ((fun z : Int × Int => .tuple #[.int .i64 z.1, .int .i64 z.2]) z) ∧ Below w.heap.size w w' := by
  go_enter Try.func21, Try.ntmps21
  go_wp2_with fail
  refine viaF (s_from B a len cap _ h hl hB) ?_
  intro b u0 hs0 hb0 hl0 hl1
  (try simp at hb0 hl0)
  go_wp2_with fail
  refine viaDr (s_16DrawValue B b _ hs0) ?_
  intro x u1 htr hs1 hl2
  clear htr
  go_wp2_with fail
  refine viaDr (s_16DrawValue B b _ hs1) ?_
  intro y u2 htr hs2 hl3
  clear htr
  go_wp2_with fail
  go_ret2
  exact ⟨(x, y), rfl, (by refine Ext.bel ?_; repeat (with_reducible first | exact Ext.refl _ | apply Ext.aftD | apply Ext.aft | apply Ext.alloc | apply Ext.drew | apply Ext.setCell | exact Nat.le_refl _ | omega))⟩

set_option maxHeartbeats 4000000 in
theorem s_DrawSquareClass (B : Nat) (a : Option Addr) (len cap : Nat) (w : World) (h : rdB B w a len) (hl : len ≤ 4096) (hB : B ≤ w.heap.size) :
    Calls Try.prog 11 #[.slice a len cap] w fun e w' => ∃ z : Int × Int, e = .returned ((fun z : Int × Int => .tuple #[.int .i64 z.1, .int .i64 z.2]) z) ∧ Below w.heap.size w w' := by
  go_enter Try.func11, Try.ntmps11
  go_wp2_with fail
  refine viaF (s_from B a len cap _ h hl hB) ?_
  intro b u0 hs0 hb0 hl0 hl1
  (try simp at hb0 hl0)
  go_wp2_with fail
  refine viaDr (s_drawPrime B b _ hs0) ?_
  intro x u1 htr hs1 hl2
  clear htr
  go_wp2_with fail
  refine viaDr (s_16DrawValue B b _ hs1) ?_
  intro y u2 htr hs2 hl3
  clear htr
  go_wp2_with fail
  go_ret2
  exact ⟨(x, y), rfl, (by refine Ext.bel ?_; repeat (with_reducible first | exact Ext.refl _ | apply Ext.aftD | apply Ext.aft | apply Ext.alloc | apply Ext.drew | apply Ext.setCell | exact Nat.le_refl _ | omega))⟩

set_option maxHeartbeats 4000000 in
theorem s_DrawFindConic (B : Nat) (a : Option Addr) (len cap : Nat) (w : World) (h : rdB B w a len) (hl : len ≤ 4096) (hB : B ≤ w.heap.size) :
    Calls Try.prog 5 #[.slice a len cap] w fun e w' => ∃ z : Int × Int × Int, e = .returned ((fun z : Int × Int × Int => .tuple #[.int .i64 z.1, .int .i64 z.2.1, .int .i64 z.2.2]) z) ∧ Below w.heap.size w w' := by
  go_enter Try.func5, Try.ntmps5
  go_wp2_with fail
  refine viaF (s_from B a len cap _ h hl hB) ?_
  intro b u0 hs0 hb0 hl0 hl1
  (try simp at hb0 hl0)
  go_wp2_with fail
  refine viaV (α := Int × Int) (g := (fun z : Int × Int => .tuple #[.int .i64 z.1, .int .i64 z.2])) (s_16DrawTwo B a len cap _ (h.of fun j o v hj hv => by rw [aft_cell, if_pos (by omega)]; exact hv) hl (by omega)) ?_
  intro z u1 hl2
  obtain ⟨x, y⟩ := z
  dsimp only
  have hs1 := hs0.aft u1
  go_wp2_with fail
  refine viaDr (s_next B b _ _ hs1 (by omega)) ?_
  intro n u2 hn hs2 hl3
  clear hn
  go_wp2_with fail
  refine viaDr (s_pickA B b _ _ _ [20, 30, 10, n, 100, 101, 0, -1] _ _ _ (by simp) rfl rfl (by repeat (with_reducible first | assumption | apply src.aft | apply src.alloc | apply src.drew | (refine src.set ?_ ?_ ?_ _) | (simp; done) | (simp; omega) | omega)) (by decide) (by decide)) ?_
  intro m u3 hm hs3 hl4
  clear hm
  go_wp2_with fail
  go_ret3
  exact ⟨(x, y, m), rfl, (by refine Ext.bel ?_; repeat (with_reducible first | exact Ext.refl _ | apply Ext.aftD | apply Ext.aft | apply Ext.alloc | apply Ext.drew | apply Ext.setCell | exact Nat.le_refl _ | omega))⟩

set_option maxHeartbeats 4000000 in
theorem s_DrawJacobiSymbol (B : Nat) (a : Option Addr) (len cap : Nat) (w : World) (h : rdB B w a len) (hl : len ≤ 4096) (hB : B ≤ w.heap.size) :
    Calls Try.prog 14 #[.slice a len cap] w fun e w' => ∃ z : Int × Int, e = .returned ((fun z : Int × Int => .tuple #[.int .i64 z.1, .int .i64 z.2]) z) ∧ Below w.heap.size w w' := by
  go_enter Try.func14, Try.ntmps14
  go_wp2_with fail
  refine viaF (s_from B a len cap _ h hl hB) ?_
  intro b u0 hs0 hb0 hl0 hl1
  (try simp at hb0 hl0)
  go_wp2_with fail
  refine viaDr (s_next B b _ _ hs0 (by omega)) ?_
  intro x u1 hx hs1 hl2
  (try dsimp only at hx)
  have hx2 : 0 ≤ x ∧ x < 401 := by first | exact hx (by decide) | omega
  clear hx
  go_wp2_with fail
  refine viaDr (s_drawValue B b _ hs1) ?_
  intro y u2 hy hs2 hl3
  clear hy
  go_wp2_with fail
  refine viaDr (s_pickA B b _ _ _ [x - 200, y] _ _ _ (by simp) rfl rfl (by repeat (with_reducible first | assumption | apply src.aft | apply src.alloc | apply src.drew | (refine src.set ?_ ?_ ?_ _) | (simp; done) | (simp; omega) | omega)) (by decide) (by decide)) ?_
  intro r u3 hr hs3 hl4
  clear hr
  go_wp2_with fail
  refine viaDr (s_next B b _ _ hs3 (by omega)) ?_
  intro z u4 hz hs4 hl5
  (try dsimp only at hz)
  have hz2 : 0 ≤ z ∧ z < 500 := by first | exact hz (by decide) | omega
  clear hz
  go_wp2_with fail
  refine viaDr (s_next B b _ _ hs4 (by omega)) ?_
  intro t u5 ht hs5 hl6
  (try dsimp only at ht)
  have ht2 : 0 ≤ t ∧ t < 500 := by first | exact ht (by decide) | omega
  clear ht
  go_wp2_with fail
  refine viaDr (s_pickA B b _ _ _ [2 * z + 1, 2 * t + 1, 1, 4, 999999, 0, 1000001] _ _ _ (by simp) rfl rfl (by repeat (with_reducible first | assumption | apply src.aft | apply src.alloc | apply src.drew | (refine src.set ?_ ?_ ?_ _) | (simp; done) | (simp; omega) | omega)) (by decide) (by decide)) ?_
  intro m u6 hm hs6 hl7
  clear hm
  go_wp2_with fail
  go_ret2
  exact ⟨(r, m), rfl, (by refine Ext.bel ?_; repeat (with_reducible first | exact Ext.refl _ | apply Ext.aftD | apply Ext.aft | apply Ext.alloc | apply Ext.drew | apply Ext.setCell | exact Nat.le_refl _ | omega))⟩
end Go.Proofs.Ytdeehgcabnoclaa
