/- The dice of the laws: roll and below. -/
import Derived.Test.YtehdkbopkkgabaaT3
import Derived.Laws.Bits64b
namespace Go.Proofs.Ytehdkbopkkgabaa
open Go Go.RowKit

/-- Block b is a dice: bytes, how many are read, and a number. -/
def dcC (B b : Nat) (w : World) (a : Option Addr) (len cap : Nat) (i sd : Int) : Prop :=
  B ≤ b ∧ b < w.heap.size ∧ (∀ o, w.cell? ⟨b, o, none⟩ = #[Value.slice a len cap, .int .i64 i, .int .u64 sd][o]?) ∧ (∀ o, w.frozen? ⟨b, o, none⟩ = false) ∧ 0 ≤ i ∧ i ≤ len ∧ 0 ≤ sd ∧ sd ≤ 18446744073709551615 ∧ len ≤ 4096 ∧ rdB B w a len
def dc (B b : Nat) (w : World) : Prop := ∃ a len cap i sd, dcC B b w a len cap i sd
theorem dcC.below {B b len cap : Nat} {a : Option Addr} {i sd : Int} {w w' : World} (h : dcC B b w a len cap i sd) (k : Below w.heap.size w w') : dcC B b w' a len cap i sd := by
  obtain ⟨hB, hb, hc, hf, h0, h1, h2, h3, h4, h5⟩ := h
  exact ⟨hB, Nat.lt_of_lt_of_le hb k.size, fun o => (k.cell (p := ⟨b, o, none⟩) hb).trans (hc o), fun o => (k.frozen (p := ⟨b, o, none⟩) hb).trans (hf o), h0, h1, h2, h3, h4, h5.of fun j o v hj hv => (k.cell (p := ⟨j, o, none⟩) (World.block_lt_of_cell? w _ hv)).trans hv⟩
theorem dcC.seed {B b len cap : Nat} {a : Option Addr} {i sd : Int} {w : World} (h : dcC B b w a len cap i sd) (s : Int) (s0 : 0 ≤ s ∧ s ≤ 18446744073709551615) : dcC B b (w.setCell ⟨b, 2, none⟩ (.int .u64 s)) a len cap i s := by
  obtain ⟨hB, hb, hc, hf, h0, h1, h2, h3, h4, h5⟩ := h
  refine ⟨hB, by simpa using hb, fun o' => ?_, fun o' => ?_, h0, h1, s0.1, s0.2, h4, h5.of fun j o' x hj hv => ?_⟩
  · rw [set_cell]
    split
    · rename_i e; obtain ⟨_, rfl⟩ := e; rw [hc]; rfl
    · rename_i e
      rw [hc]
      match o' with
      | 0 => rfl
      | 1 => rfl
      | 2 => exact absurd ⟨rfl, rfl⟩ e
      | n + 3 => simp
  · rw [World.frozen?_setCell]; exact hf o'
  · rw [set_cell, if_neg (by omega)]; exact hv

theorem u64_bd (x : Int) : 0 ≤ IntKind.u64.wrap x ∧ IntKind.u64.wrap x ≤ 18446744073709551615 := by
  unfold IntKind.wrap
  simp [IntKind.signed, IntKind.bits]
  omega
set_option maxRecDepth 20000 in
set_option maxHeartbeats 4000000 in
theorem l_roll (B : Nat) (a : Option Addr) (len cap : Nat) (sd0 : Int) (w : World) (h : rdB B w a len) (hl : len ≤ 4096) (hB : B ≤ w.heap.size) (hsd : 0 ≤ sd0 ∧ sd0 ≤ 1000000) :
    Calls Try.prog 17 #[.slice a len cap, .int .u64 sd0] w fun e w' => ∃ b, e = .returned (.pointer (some ⟨b, 0, none⟩)) ∧ (∃ sd, dcC B b w' a len cap 0 sd) ∧ w.heap.size ≤ b ∧ Below w.heap.size w w' := by
  have H := hid h
  clear h
  go_enter Try.func17, Try.ntmps17
  go_wp2_with fail
  obtain ⟨W, hW⟩ : ∃ W, W = w.alloc (Obj.cells #[.slice a len cap, .int .i64 0, .int .u64 (sd0 * 7919 + (len : Int))] 87) := ⟨_, rfl⟩
  rw [← hW]
  have HS : Hid (dcC B w.heap.size W a len cap 0 (sd0 * 7919 + (len : Int))) := hid (by
    rw [hW]
    refine ⟨hB, by simp, fun o => by rw [alloc_cell, if_pos rfl], fun o => by rw [alloc_frozen, if_pos rfl], by omega, by omega, by omega, by omega, hl, H.out.of fun j o x hj hv => ?_⟩
    rw [alloc_cell, if_neg (by omega)]; exact hv)
  have HE : Hid (Ext w.heap.size w W) := hid (by rw [hW]; exact (Ext.refl _).alloc _)
  clear hW H
  go_loopw [6] (fun i wr => ∃ (j : Nat) (sd : Int), i = .int .i64 j ∧ j ≤ len ∧ dcC B w.heap.size wr a len cap 0 sd ∧ Ext w.heap.size w wr) (fun i _ => len - (intOf i).toNat)
  case atStart => exact ⟨0, _, rfl, by omega, HS.out, HE.out⟩
  case round =>
    obtain ⟨j, sd, rfl, hj, hs, he⟩ := hrel
    have HS1 := hid hs
    have HE1 := hid he
    obtain ⟨_, hb, hc, hf, _, _, h2, h3, _, h5⟩ := id hs
    by_cases hlt : j < len
    · have hd1 : decide ((j : Int) < (len : Int)) = true := by simp; omega
      rcases h5 with h5 | ⟨ab, ao, rfl, hab, hx⟩
      · omega
      obtain ⟨x, x0, x1, hx⟩ := hx j hlt
      have hab' : ab < wr.heap.size := World.block_lt_of_cell? wr _ hx
      have hj0 : (0 : Int) ≤ (j : Int) := by omega
      have hc2 := hc 2
      simp at hc2
      have hf2 := hf 2
      have HN : Hid (∀ u (s : Int), 0 ≤ s ∧ s ≤ 18446744073709551615 → dcC B w.heap.size ((aft wr u).setCell ⟨w.heap.size, 2, none⟩ (.int .u64 s)) (some ⟨ab, ao, none⟩) len cap 0 s) := hid fun u s s0 => (hs.below (below_aft _ _)).seed _ s0
      have HN2 : Hid (∀ u (s : Int), Ext w.heap.size w ((aft wr u).setCell ⟨w.heap.size, 2, none⟩ (.int .u64 s))) := hid fun u s => (he.aft u).setCell _ _ _ _ (Nat.le_refl _)
      clear hs he hc hf
      go_wp2_with fail
      refine wp_region_calm_tail 15 (by kernel_rfl) (by kernel_rfl) ?_
      simp only [List.take_succ_cons, List.take_zero, List.drop_succ_cons, List.drop_zero]
      repeat (go_big_quiet_step (fail))
      refine wpQuiet_nil ?_; intro uq zq; try simp at zq
      go_wp2_with fail
      go_roundw
      case rel => exact ⟨j + 1, _, by go_num, by omega, HN.out _ _ (u64_bd _), HN2.out _ _⟩
      case measure => simp [intOf]; omega
    · clear hs he hc hf h5
      have hd1 : decide ((j : Int) < (len : Int)) = false := by simp; omega
      go_wp2_with fail
      go_ret
      exact ⟨_, rfl, ⟨_, HS1.out⟩, Nat.le_refl _, HE1.out.1⟩

theorem dcC.at {B b len cap : Nat} {a : Option Addr} {i sd : Int} {w : World} (h : dcC B b w a len cap i sd) (s : Int) (s0 : 0 ≤ s ∧ s ≤ len) : dcC B b (w.setCell ⟨b, 1, none⟩ (.int .i64 s)) a len cap s sd := by
  obtain ⟨hB, hb, hc, hf, h0, h1, h2, h3, h4, h5⟩ := h
  refine ⟨hB, by simpa using hb, fun o' => ?_, fun o' => ?_, s0.1, s0.2, h2, h3, h4, h5.of fun j o' x hj hv => ?_⟩
  · rw [set_cell]
    split
    · rename_i e; obtain ⟨_, rfl⟩ := e; rw [hc]; rfl
    · rename_i e
      rw [hc]
      match o' with
      | 0 => rfl
      | 1 => exact absurd ⟨rfl, rfl⟩ e
      | 2 => rfl
      | n + 3 => simp
  · rw [World.frozen?_setCell]; exact hf o'
  · rw [set_cell, if_neg (by omega)]; exact hv
theorem grow_set (w : World) (b o : Nat) (v : Value) : w.grownBy (w.setCell ⟨b, o, none⟩ v) (some b) := by
  refine ⟨rfl, rfl, rfl, by simp, fun k hk hn => ?_⟩
  have hne : b ≠ k := fun e => hn (by rw [e])
  show (w.setCell ⟨b, o, none⟩ v).heap[k]? = w.heap[k]?
  simp only [World.setCell, Array.getElem?_modify]
  rw [if_neg hne]
theorem grow_aft {b : Nat} {w w1 : World} (h : w.grownBy w1 (some b)) (u : World) : w.grownBy (aft w1 u) (some b) :=
  grownBy_trans h ⟨(below_aft w1 u).os, (below_aft w1 u).tape, (below_aft w1 u).output, (below_aft w1 u).size, fun k hk _ => (below_aft w1 u).block k hk⟩
theorem low24 (s : Int) (hs : 0 ≤ s ∧ s ≤ 18446744073709551615) : ∃ y : Int, wrap64 (bits BinOp.and IntKind.u64 (s / 8589934592) 16777215) = y ∧ 0 ≤ y ∧ y ≤ 16777215 := by
  refine ⟨_, rfl, ?_⟩
  obtain ⟨m, hm⟩ : ∃ m : Nat, s / 8589934592 = (m : Int) := ⟨(s / 8589934592).toNat, by omega⟩
  rw [hm]
  have h := bits_and_u64_nat m 16777215 (by omega) (by omega)
  have h2 : m &&& 16777215 ≤ 16777215 := Nat.and_le_right
  rw [show (16777215 : Int) = ((16777215 : Nat) : Int) from rfl, h]
  unfold wrap64
  omega
set_option maxRecDepth 20000 in
set_option maxHeartbeats 4000000 in
theorem l_below (B b : Nat) (n : Int) (w : World) (h : dc B b w) (hn : 1 ≤ n ∧ n ≤ 1000000000000) :
    Calls Try.prog 18 #[.pointer (some ⟨b, 0, none⟩), .int .i64 n] w fun e w' => ∃ x : Int, e = .returned (.int .i64 x) ∧ (0 ≤ x ∧ x < n) ∧ w.grownBy w' (some b) := by
  obtain ⟨a, len, cap, i, sd, h⟩ := h
  obtain ⟨hB, hb, hc, hf, h0, hi, h2, h3, h4, h5⟩ := id h
  have hc2 := hc 2
  simp at hc2
  have hf2 := hf 2
  go_enter Try.func18, Try.ntmps18
  go_wp2_with fail
  obtain ⟨sd1, hsd⟩ : ∃ y, y = IntKind.u64.wrap (IntKind.u64.wrap (sd * 6364136223846793005) + 1442695040888963407) := ⟨_, rfl⟩
  have s0 : 0 ≤ sd1 ∧ sd1 ≤ 18446744073709551615 := by rw [hsd]; exact u64_bd _
  rw [← hsd]
  clear hsd
  obtain ⟨y, hy, y0, y1⟩ := low24 sd1 s0
  rw [hy]
  clear hy
  have H0 := hid (h.seed _ s0)
  obtain ⟨W, hW⟩ : ∃ W, W = w.setCell ⟨b, 2, none⟩ (.int .u64 sd1) := ⟨_, rfl⟩
  have G0 : Hid (w.grownBy W (some b)) := hid (by rw [hW]; exact grow_set _ _ _ _)
  rw [← hW] at H0 ⊢
  clear hW hc hf hc2 hf2 h h5 h2 h3 hb
  have HW := hid H0.out
  obtain ⟨_, hb, hc, hf, _, _, _, _, _, h5⟩ := H0.out
  have hc0 := hc 0
  have hc1 := hc 1
  simp at hc0 hc1
  have n0 : (n == 0) = false := by rw [beq_eq_false_iff_ne]; omega
  by_cases hl : i < (len : Int)
  case neg =>
    have hl' : decide (i < (len : Int)) = false := by simpa using hl
    have hm : y.tmod n = y % n := Int.tmod_eq_emod_of_nonneg y0
    have hm0 := Int.emod_nonneg y (show n ≠ 0 by omega)
    have hm1 := Int.emod_lt_of_pos y (show 0 < n by omega)
    refine wp_region_calm (by kernel_rfl) (by kernel_rfl) ?_
    repeat (go_big_quiet_step (fail))
    refine wpQuiet_nil ?_; intro uq zq; try simp at zq
    go_wp2_with fail
    go_ret
    exact ⟨_, rfl, by first | exact ⟨hm0, hm1⟩ | (rw [hm]; exact ⟨hm0, hm1⟩), grow_aft G0.out _⟩
  have hl' : decide (i < (len : Int)) = true := by simpa using hl
  obtain ⟨j, rfl⟩ : ∃ j : Nat, i = (j : Int) := ⟨i.toNat, by omega⟩
  rcases h5 with h5 | ⟨ab, ao, rfl, hab, hx⟩
  · omega
  obtain ⟨x, x0, x1, hx⟩ := hx j (by omega)
  have hab' : ab < W.heap.size := by omega
  have hj0 : (0 : Int) ≤ (j : Int) := by omega
  have hj1 : j < len := by omega
  have HG2 : Hid (∀ u v, w.grownBy ((aft (aft W u) v).setCell ⟨b, 1, none⟩ (.int .i64 ((j : Int) + 1))) (some b)) := hid fun u v => grownBy_trans (grow_aft (grow_aft G0.out u) v) (grow_set _ b 1 (.int .i64 ((j : Int) + 1)))
  have hm : (y + x).tmod n = (y + x) % n := Int.tmod_eq_emod_of_nonneg (by omega)
  have hm0 := Int.emod_nonneg (y + x) (show n ≠ 0 by omega)
  have hm1 := Int.emod_lt_of_pos (y + x) (show 0 < n by omega)
  refine wp_region_calm (by kernel_rfl) (by kernel_rfl) ?_
  repeat (go_big_quiet_step (fail))
  refine wpQuiet_nil ?_; intro uq zq; try simp at zq
  go_wp2_with fail
  refine wp_region_calm (by kernel_rfl) (by kernel_rfl) ?_
  repeat (go_big_quiet_step (fail))
  refine wpQuiet_nil ?_; intro uq zq; try simp at zq
  go_wp2_with fail
  go_ret
  exact ⟨_, rfl, by first | exact ⟨hm0, hm1⟩ | (rw [hm]; exact ⟨hm0, hm1⟩), HG2.out _ _⟩
end Go.Proofs.Ytehdkbopkkgabaa
