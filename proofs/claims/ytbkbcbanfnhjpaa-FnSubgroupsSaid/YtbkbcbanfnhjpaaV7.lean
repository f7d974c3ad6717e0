/- Draws of groups for the laws. -/
import Derived.Test.YtbkbcbanfnhjpaaV6
namespace Go.Proofs.Ytbkbcbanfnhjpaa
open Go Go.RowKit

theorem grpX.set {L : Nat} {w : World} {v : Value} (h : grpX L w v) (b o : Nat) (x : Value) (hb : b < L) : grpX L (w.setCell ⟨b, o, none⟩ x) v := by
  obtain ⟨n, s, rs, e, hn, hr, hk, hl⟩ := h
  exact ⟨n, s, rs, e, hn, hr.setB b o x hk hb, hk, hl⟩
theorem grpX.mono {L L' : Nat} {w : World} {v : Value} (h : grpX L w v) (hl : L' ≤ L) : grpX L' w v := by
  obtain ⟨n, s, rs, e, hn, hr, hk, hll⟩ := h
  exact ⟨n, s, rs, e, hn, hr, fun k hq => Nat.le_trans hl (hk k hq), hll⟩
set_option maxRecDepth 20000 in
set_option maxHeartbeats 4000000 in
theorem s_DrawCountElements (B : Nat) (a : Option Addr) (len cap : Nat) (w : World) (h : rdB B w a len) (hl : len ≤ 4096) (hB : B ≤ w.heap.size) :
    Calls Try.prog 40 #[.slice a len cap] w fun e w' => ∃ v, e = .returned v ∧ grpX w.heap.size w' v ∧ Below w.heap.size w w' := by
  go_enter Try.func40, Try.ntmps40
  go_wp2_with fail
  refine viaF (s_from B a len cap _ (h.of fun j o v hj hv => by rw [alloc_cell, if_neg (by omega)]; exact hv) hl (by simp; omega)) ?_
  intro b u0 hs0 hb0 hl0 hl1
  simp at hb0 hl0
  go_wp2_with fail
  refine viaDX (s_draw22 B b _ hs0) ?_
  intro v u hv hs hl2
  obtain ⟨n, s, rs, rfl, hn, hr, hk, hrl⟩ := hv
  obtain ⟨a5, c5, hsh, _, _⟩ := id hr
  subst hsh
  obtain ⟨V, hV⟩ : ∃ V, V = aftD b (aft (w.alloc (Obj.cells #[.int .i64 0, .slice none 0 0] 26)) u0) u := ⟨_, rfl⟩
  have hE : Ext w.heap.size w V := by rw [hV]; exact (((Ext.refl w).alloc _).aft _).aftD _ (by omega)
  have hw0 : w.heap.size < (aft (w.alloc (Obj.cells #[.int .i64 0, .slice none 0 0] 26)) u0).heap.size := by omega
  have hres : resOK w.heap.size V := by
    intro j hj
    obtain rfl | rfl : j = 0 ∨ j = 1 := by omega
    all_goals (rw [hV]; simp [go_sem, ↓IntWalk.iteOmega]; try omega)
  rw [← hV] at hr ⊢
  obtain ⟨y0, hy0⟩ := Option.isSome_iff_exists.1 (hres 0 (by omega)).2
  obtain ⟨y1, hy1⟩ := Option.isSome_iff_exists.1 (hres 1 (by omega)).2
  have hf0 := (hres 0 (by omega)).1
  have hf1 := (hres 1 (by omega)).1
  have HR := hid hr
  have HK := hid hk
  have HE := hid hE
  clear hV hs0 hs hres hr hk hE
  go_wp2_with fail
  exact bodyPost_ret (v := .agg #[.int .i64 n, .slice a5 rs.length c5]) (by simp [results, go_sem, hy0, hy1]) rfl ⟨_, rfl, ⟨n, _, rs, rfl, hn, (HR.out.setB _ _ _ HK.out (by omega)).setB _ _ _ HK.out (by omega), fun k hq => by have := HK.out k hq; omega, hrl⟩, Ext.bel ((HE.out.setCell _ _ _ _ (by omega)).setCell _ _ _ _ (by omega))⟩
set_option maxRecDepth 20000 in
set_option maxHeartbeats 4000000 in
theorem s_DrawClassesOf (B : Nat) (a : Option Addr) (len cap : Nat) (w : World) (h : rdB B w a len) (hl : len ≤ 4096) (hB : B ≤ w.heap.size) :
    Calls Try.prog 46 #[.slice a len cap] w fun e w' => ∃ v, e = .returned v ∧ grpX w.heap.size w' v ∧ Below w.heap.size w w' := by
  go_enter Try.func46, Try.ntmps46
  go_wp2_with fail
  refine viaF (s_from B a len cap _ (h.of fun j o v hj hv => by rw [alloc_cell, if_neg (by omega)]; exact hv) hl (by simp; omega)) ?_
  intro b u0 hs0 hb0 hl0 hl1
  simp at hb0 hl0
  go_wp2_with fail
  refine viaDX (s_draw22 B b _ hs0) ?_
  intro v u hv hs hl2
  obtain ⟨n, s, rs, rfl, hn, hr, hk, hrl⟩ := hv
  obtain ⟨a5, c5, hsh, _, _⟩ := id hr
  subst hsh
  obtain ⟨V, hV⟩ : ∃ V, V = aftD b (aft (w.alloc (Obj.cells #[.int .i64 0, .slice none 0 0] 26)) u0) u := ⟨_, rfl⟩
  have hE : Ext w.heap.size w V := by rw [hV]; exact (((Ext.refl w).alloc _).aft _).aftD _ (by omega)
  have hw0 : w.heap.size < (aft (w.alloc (Obj.cells #[.int .i64 0, .slice none 0 0] 26)) u0).heap.size := by omega
  have hres : resOK w.heap.size V := by
    intro j hj
    obtain rfl | rfl : j = 0 ∨ j = 1 := by omega
    all_goals (rw [hV]; simp [go_sem, ↓IntWalk.iteOmega]; try omega)
  rw [← hV] at hr ⊢
  obtain ⟨y0, hy0⟩ := Option.isSome_iff_exists.1 (hres 0 (by omega)).2
  obtain ⟨y1, hy1⟩ := Option.isSome_iff_exists.1 (hres 1 (by omega)).2
  have hf0 := (hres 0 (by omega)).1
  have hf1 := (hres 1 (by omega)).1
  have HR := hid hr
  have HK := hid hk
  have HE := hid hE
  clear hV hs0 hs hres hr hk hE
  go_wp2_with fail
  exact bodyPost_ret (v := .agg #[.int .i64 n, .slice a5 rs.length c5]) (by simp [results, go_sem, hy0, hy1]) rfl ⟨_, rfl, ⟨n, _, rs, rfl, hn, (HR.out.setB _ _ _ HK.out (by omega)).setB _ _ _ HK.out (by omega), fun k hq => by have := HK.out k hq; omega, hrl⟩, Ext.bel ((HE.out.setCell _ _ _ _ (by omega)).setCell _ _ _ _ (by omega))⟩
set_option maxRecDepth 20000 in
set_option maxHeartbeats 4000000 in
theorem s_DrawEvenPart (B : Nat) (a : Option Addr) (len cap : Nat) (w : World) (h : rdB B w a len) (hl : len ≤ 4096) (hB : B ≤ w.heap.size) :
    Calls Try.prog 9 #[.slice a len cap] w fun e w' => ∃ v, e = .returned v ∧ grpX w.heap.size w' v ∧ Below w.heap.size w w' := by
  go_enter Try.func9, Try.ntmps9
  go_wp2_with fail
  refine viaF (s_from B a len cap _ (h.of fun j o v hj hv => by rw [alloc_cell, if_neg (by omega)]; exact hv) hl (by simp; omega)) ?_
  intro b u0 hs0 hb0 hl0 hl1
  simp at hb0 hl0
  go_wp2_with fail
  refine viaDX (s_draw22 B b _ hs0) ?_
  intro v u hv hs hl2
  obtain ⟨n, s, rs, rfl, hn, hr, hk, hrl⟩ := hv
  obtain ⟨a5, c5, hsh, _, _⟩ := id hr
  subst hsh
  obtain ⟨V, hV⟩ : ∃ V, V = aftD b (aft (w.alloc (Obj.cells #[.int .i64 0, .slice none 0 0] 26)) u0) u := ⟨_, rfl⟩
  have hE : Ext w.heap.size w V := by rw [hV]; exact (((Ext.refl w).alloc _).aft _).aftD _ (by omega)
  have hw0 : w.heap.size < (aft (w.alloc (Obj.cells #[.int .i64 0, .slice none 0 0] 26)) u0).heap.size := by omega
  have hres : resOK w.heap.size V := by
    intro j hj
    obtain rfl | rfl : j = 0 ∨ j = 1 := by omega
    all_goals (rw [hV]; simp [go_sem, ↓IntWalk.iteOmega]; try omega)
  rw [← hV] at hr ⊢
  obtain ⟨y0, hy0⟩ := Option.isSome_iff_exists.1 (hres 0 (by omega)).2
  obtain ⟨y1, hy1⟩ := Option.isSome_iff_exists.1 (hres 1 (by omega)).2
  have hf0 := (hres 0 (by omega)).1
  have hf1 := (hres 1 (by omega)).1
  have HR := hid hr
  have HK := hid hk
  have HE := hid hE
  clear hV hs0 hs hres hr hk hE
  go_wp2_with fail
  exact bodyPost_ret (v := .agg #[.int .i64 n, .slice a5 rs.length c5]) (by simp [results, go_sem, hy0, hy1]) rfl ⟨_, rfl, ⟨n, _, rs, rfl, hn, (HR.out.setB _ _ _ HK.out (by omega)).setB _ _ _ HK.out (by omega), fun k hq => by have := HK.out k hq; omega, hrl⟩, Ext.bel ((HE.out.setCell _ _ _ _ (by omega)).setCell _ _ _ _ (by omega))⟩
end Go.Proofs.Ytbkbcbanfnhjpaa
