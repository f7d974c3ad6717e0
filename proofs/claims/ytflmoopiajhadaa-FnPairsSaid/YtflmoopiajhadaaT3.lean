/- Draws: a source is made; a prime is drawn. -/
import Derived.Test.YtflmoopiajhadaaT2
import Derived.Test.YtflmoopiajhadaaMA
namespace Go.Proofs.Ytflmoopiajhadaa
open Go Go.RowKit

/-- A call that makes a source. -/
theorem viaF {P : Program} {f : FuncId} {args : Array Value} {B : Nat} {w : World} {R : Ending → World → Prop}
    (h : Calls P f args w fun e w' => ∃ b, e = .returned (.pointer (some ⟨b, 0, none⟩)) ∧ src B b w' ∧ w.heap.size ≤ b ∧ Below w.heap.size w w')
    (hR : ∀ b u, src B b (aft w u) → w.heap.size ≤ b → w.heap.size ≤ (aft w u).heap.size → b < (aft w u).heap.size → R (.returned (.pointer (some ⟨b, 0, none⟩))) (aft w u)) : Calls P f args w R :=
  h.mono fun e w' ⟨b, he, hs, hb, hg⟩ => by subst he; obtain ⟨u, rfl⟩ := aft_ex hg; exact hR b u hs hb (size_aft w u) hs.lt

set_option maxRecDepth 20000 in
set_option maxHeartbeats 4000000 in
theorem s_from (B : Nat) (a : Option Addr) (len cap : Nat) (w : World) (h : rdB B w a len) (hl : len ≤ 4096) (hB : B ≤ w.heap.size) :
    Calls Try.prog 24 #[.slice a len cap] w fun e w' => ∃ b, e = .returned (.pointer (some ⟨b, 0, none⟩)) ∧ src B b w' ∧ w.heap.size ≤ b ∧ Below w.heap.size w w' := by
  have H := hid h
  clear h
  go_enter Try.func24, Try.ntmps24
  go_wp2_with fail
  obtain ⟨W, hW⟩ : ∃ W, W = w.alloc (Obj.cells #[.slice a len cap, .int .i64 0, .int .i64 31019] 69) := ⟨_, rfl⟩
  rw [← hW]
  have HS : Hid (srcC B w.heap.size W a len cap 0 31019) := hid (by
    rw [hW]
    refine ⟨hB, by simp, fun o => by rw [alloc_cell, if_pos rfl], fun o => by rw [alloc_frozen, if_pos rfl], by omega, by omega, by omega, by omega, hl, H.out.of fun j o x hj hv => ?_⟩
    rw [alloc_cell, if_neg (by omega)]; exact hv)
  have HE : Hid (Ext w.heap.size w W) := hid (by rw [hW]; exact (Ext.refl _).alloc _)
  clear hW H
  go_loopw [4] (fun i wr => ∃ (j : Nat) (sd : Int), i = .int .i64 j ∧ j ≤ len ∧ srcC B w.heap.size wr a len cap 0 sd ∧ Ext w.heap.size w wr) (fun i _ => len - (intOf i).toNat)
  case atStart => exact ⟨0, 31019, rfl, by omega, HS.out, HE.out⟩
  case round =>
    obtain ⟨j, sd, rfl, hj, hs, he⟩ := hrel
    have HS1 := hid hs
    have HE1 := hid he
    obtain ⟨_, hb, hc, hf, _, _, h2, h3, _, h5⟩ := id hs
    by_cases hlt : j < len ∧ j < 64
    · have hj1 : j < len := hlt.1
      have hd1 : decide ((j : Int) < (len : Int)) = true := by simp; omega
      have hd2 : decide ((j : Int) < 64) = true := by simp; omega
      rcases h5 with h5 | ⟨ab, ao, rfl, hab, hx⟩
      · omega
      obtain ⟨x, x0, x1, hx⟩ := hx j hj1
      have hab' : ab < wr.heap.size := World.block_lt_of_cell? wr _ hx
      have hj0 : (0 : Int) ≤ (j : Int) := by omega
      have hc2 := hc 2
      simp at hc2
      have hf2 := hf 2
      have s0 : 0 ≤ (sd * 61 + x) % 2147483647 ∧ (sd * 61 + x) % 2147483647 ≤ 2147483646 := by omega
      have HN : Hid (∀ u, srcC B w.heap.size ((aft wr u).setCell ⟨w.heap.size, 2, none⟩ (.int .i64 ((sd * 61 + x) % 2147483647))) (some ⟨ab, ao, none⟩) len cap 0 ((sd * 61 + x) % 2147483647)) := hid fun u => (hs.below (below_aft _ _)).seed _ s0
      have HN2 : Hid (∀ u, Ext w.heap.size w ((aft wr u).setCell ⟨w.heap.size, 2, none⟩ (.int .i64 ((sd * 61 + x) % 2147483647)))) := hid fun u => (he.aft u).setCell _ _ _ _ (Nat.le_refl _)
      clear hs he hc hf s0 hlt
      go_wp2_with fail
      refine wp_region_calm_tail 15 (by kernel_rfl) (by kernel_rfl) ?_
      simp only [List.take_succ_cons, List.take_zero, List.drop_succ_cons, List.drop_zero]
      repeat (go_big_quiet_step (fail))
      refine wpQuiet_nil ?_; intro uq zq; try simp at zq
      go_wp2_with fail
      go_roundw
      case rel => exact ⟨j + 1, _, by go_num, by omega, HN.out _, HN2.out _⟩
      case measure => simp [intOf]; omega
    · clear hs he hc hf h5
      by_cases hj1 : j < len
      · have hd1 : decide ((j : Int) < (len : Int)) = true := by simp; omega
        have hd2 : decide ((j : Int) < 64) = false := by simp; omega
        clear hlt
        go_wp2_with fail
        go_ret
        exact ⟨_, rfl, ⟨_, _, _, _, _, HS1.out⟩, Nat.le_refl _, HE1.out.1⟩
      · have hd1 : decide ((j : Int) < (len : Int)) = false := by simp; omega
        clear hlt
        go_wp2_with fail
        go_ret
        exact ⟨_, rfl, ⟨_, _, _, _, _, HS1.out⟩, Nat.le_refl _, HE1.out.1⟩

/-- What came to be but for the source: closed under each step. -/
def Gr (b : Nat) (w W : World) : Prop := w.grownBy W (some b)
theorem Gr.refl (b : Nat) (w : World) : Gr b w w := grownBy_refl _ _
theorem Gr.aftD {b : Nat} {w W : World} (h : Gr b w W) (u : World) : Gr b w (aftD b W u) := grownBy_trans h (aftD_grown b W u)
theorem Gr.aft {b : Nat} {w W : World} (h : Gr b w W) (u : World) : Gr b w (aft W u) := grown_aftD h u
theorem Gr.below {b : Nat} {w W W' : World} (h : Gr b w W) (k : Below W.heap.size W W') : Gr b w W' := grownBy_trans h ⟨k.os, k.tape, k.output, k.size, fun i hi _ => k.block i hi⟩
theorem Gr.alloc {b : Nat} {w W : World} (h : Gr b w W) (o : Obj) : Gr b w (W.alloc o) := h.below ((Below.refl _ _).alloc (Nat.le_refl _) o)
theorem Gr.drew {b : Nat} {w W : World} (h : Gr b w W) : Gr b w W.drew := h.below (Below.drew (Below.refl _ _))
theorem Gr.set {b k o : Nat} {v : Value} {w W : World} (h : Gr b w W) (hk : w.heap.size ≤ k) : Gr b w (W.setCell ⟨k, o, none⟩ v) := by
  refine ⟨h.os, h.tape, h.output, by simpa using h.size, fun i hi hn => ?_⟩
  rw [← h.block i hi hn]
  exact (grown_set W k o v).block i (Nat.lt_of_lt_of_le hi h.size) (fun e => by injection e with e; omega)
theorem Gr.ext {b B : Nat} {w W : World} (h : Gr b w W) (hB : B ≤ b) (hw : B ≤ w.heap.size) : Ext B w W := ⟨Below.grown (Below.refl _ _) h hw (fun k e => by injection e with e; omega), Nat.le_trans hw h.size⟩

/-- One of some numbers that were just laid down. -/
theorem s_pickA (B b n cap k : Nat) (xs : List Int) (T : TypeId) (zs : Array Value) (w : World) (hk : k = w.heap.size) (hz : zs = (xs.map (fun x => Value.int .i64 x)).toArray) (hn : xs.length = n) (h : src B b w) (h0 : 0 < n) (h1 : n ≤ 1000) :
    Calls Try.prog 66 #[.pointer (some ⟨b, 0, none⟩), .slice (some ⟨k, 0, none⟩) n cap] (w.alloc (.cells zs T)) (Draws B b (w.alloc (.cells zs T)) (fun x => .int .i64 x) (fun x => x ∈ xs)) := by
  subst hn hz hk
  refine s_pick B b w.heap.size cap xs _ (h.alloc _) (by have := h.lt; omega) h0 h1 (by simp) fun j hj => ?_
  rw [alloc_cell, if_pos rfl]
  simp [List.getElem?_eq_getElem hj]

set_option maxHeartbeats 2000000 in
theorem s_drawPrime (B b : Nat) (w : World) (h : src B b w) :
    Calls Try.prog 83 #[.pointer (some ⟨b, 0, none⟩)] w (Draws B b w (fun x => .int .i64 x) (fun x => -3 ≤ x ∧ x ≤ 101)) := by
  go_enter Try.func83, Try.ntmps83
  go_wp2_with fail
  refine viaDr (s_next B b _ _ h (by omega)) ?_
  intro x u hp hs hl
  by_cases hx : x = 0
  · subst hx
    go_wp2_with fail
    refine viaDr (s_pickA B b _ _ _ [1, 4, 0, 97, 101, -3, 9] _ _ _ (by simp) rfl rfl (by repeat (with_reducible first | assumption | apply src.aft | apply src.alloc | apply src.drew | (refine src.set ?_ ?_ ?_ _) | (simp; done) | (simp; omega) | omega)) (by decide) (by decide)) ?_
    intro y v hy hs2 hl2
    go_wp2_with fail
    go_ret
    refine ⟨y, rfl, ?_, (by show Gr _ _ _; repeat (with_reducible first | exact Gr.refl _ _ | apply Gr.aftD | apply Gr.aft | apply Gr.alloc | apply Gr.drew | apply Gr.set | (simp; done) | (simp; omega) | omega)), hs2⟩
    simp at hy
    omega
  · have hx' : (x == 0) = false := by simpa using hx
    go_wp2_with fail
    refine viaDr (s_pickA B b _ _ _ [2, 3, 5, 7, 2, 3, 5, 11, 13, 17, 31] _ _ _ (by simp) rfl rfl (by repeat (with_reducible first | assumption | apply src.aft | apply src.alloc | apply src.drew | (refine src.set ?_ ?_ ?_ _) | (simp; done) | (simp; omega) | omega)) (by decide) (by decide)) ?_
    intro y v hy hs2 hl2
    go_wp2_with fail
    go_ret
    refine ⟨y, rfl, ?_, (by show Gr _ _ _; repeat (with_reducible first | exact Gr.refl _ _ | apply Gr.aftD | apply Gr.aft | apply Gr.alloc | apply Gr.drew | apply Gr.set | (simp; done) | (simp; omega) | omega)), hs2⟩
    simp at hy
    omega
end Go.Proofs.Ytflmoopiajhadaa
