/- Draws: a rational number and a ring, a rational number and a p-adic one, a p-adic number. (Printed by mkT65.py.) -/
import Derived.Test.YtehdkbopkkgabaaT64
import Derived.Test.YtehdkbopkkgabaaT57
import Derived.Test.YtehdkbopkkgabaaF5
namespace Go.Proofs.Ytehdkbopkkgabaa
open Go Go.RowKit

/-- Block k holds just these values. -/
def Cl (W : World) (k : Nat) (xs : Array Value) : Prop := (∀ o, W.cell? ⟨k, o, none⟩ = xs[o]?) ∧ (∀ o, W.frozen? ⟨k, o, none⟩ = false) ∧ k < W.heap.size
theorem Cl.new (W : World) (xs : Array Value) (T : TypeId) : Cl (W.alloc (Obj.cells xs T)) W.heap.size xs :=
  ⟨fun o => by rw [alloc_cell, if_pos rfl], fun o => by rw [alloc_frozen, if_pos rfl], by simp⟩
theorem Cl.aft {W : World} {k : Nat} {xs : Array Value} (h : Cl W k xs) (u : World) : Cl (aft W u) k xs :=
  ⟨fun o => by rw [aft_cell, if_pos h.2.2]; exact h.1 o, fun o => by rw [aft_frozen, if_pos h.2.2]; exact h.2.1 o, Nat.lt_of_lt_of_le h.2.2 (size_aft W u)⟩
theorem Cl.aftD {W : World} {k b : Nat} {xs : Array Value} (h : Cl W k xs) (u : World) (hb : k ≠ b) : Cl (aftD b W u) k xs :=
  ⟨fun o => by rw [aftD_cell, if_pos ⟨h.2.2, hb⟩]; exact h.1 o, fun o => by rw [aftD_frozen, if_pos ⟨h.2.2, hb⟩]; exact h.2.1 o, Nat.lt_of_lt_of_le h.2.2 (size_aftD b W u)⟩
theorem Cl.alloc {W : World} {k : Nat} {xs : Array Value} (h : Cl W k xs) (zs : Array Value) (T : TypeId) : Cl (W.alloc (Obj.cells zs T)) k xs := by
  have h2 := h.2.2
  exact ⟨fun o => by rw [alloc_cell, if_neg (by omega)]; exact h.1 o, fun o => by rw [alloc_frozen, if_neg (by omega)]; exact h.2.1 o, by simp; omega⟩

theorem rdB.below {B : Nat} {w w' : World} {a : Option Addr} {len : Nat} (h : rdB B w a len) (k : Below w.heap.size w w') : rdB B w' a len :=
  h.of fun j o v _ hv => (k.cell (p := ⟨j, o, none⟩) (World.block_lt_of_cell? w _ hv)).trans hv
set_option maxHeartbeats 1000000 in
theorem s_PadicOf (nu de p n : Int) (w : World) :
    Calls Try.prog 46 #[(.agg #[.int .i64 nu, .int .i64 de]), (.agg #[.int .i64 p, .int .i64 n])] w fun e w' => e = .returned (.tuple #[.agg #[.int .i64 (popF nu de p n).1.p, .int .i64 (popF nu de p n).1.v, .int .i64 (popF nu de p n).1.u, .int .i64 (popF nu de p n).1.n], .int .i64 (popF nu de p n).2]) ∧ Below w.heap.size w w' := by
  cases h1 : ratB nu de
  · have e : (popF nu de p n) = (⟨0, 0, 0, 0⟩, 1) := by simp [popF, h1]
    rw [e]; clear e
    go_enter Try.func46, Try.ntmps46
    go_wp2_with (first | (go_at_call 115; refine via (s_IsRational _ _ _) ?_; intro uu zz; try simp at zz) | (go_at_call 116; refine via (s_IsRing _ _ _) ?_; intro uu zz; try simp at zz))
    exact bodyPost_ret (v := .tuple #[(.agg #[.int .i64 0, .int .i64 0, .int .i64 0, .int .i64 0]), .int .i64 1]) (by first | (simp [results, go_sem]; done) | simp [results, go_sem, ↓IntWalk.iteOmega]) rfl ⟨rfl, (by refine Ext.bel ?_; repeat (with_reducible first | exact Ext.refl _ | apply Ext.alloc | apply Ext.aft | apply Ext.drew | apply Ext.drewN | apply Ext.setCell | exact Nat.le_add_right _ _ | exact Nat.le_refl _ | (simp; done) | omega))⟩
  cases h2 : ringB p n
  · have e : (popF nu de p n) = (⟨0, 0, 0, 0⟩, 1) := by simp [popF, h2]
    rw [e]; clear e
    go_enter Try.func46, Try.ntmps46
    go_wp2_with (first | (go_at_call 115; refine via (s_IsRational _ _ _) ?_; intro uu zz; try simp at zz) | (go_at_call 116; refine via (s_IsRing _ _ _) ?_; intro uu zz; try simp at zz))
    exact bodyPost_ret (v := .tuple #[(.agg #[.int .i64 0, .int .i64 0, .int .i64 0, .int .i64 0]), .int .i64 1]) (by first | (simp [results, go_sem]; done) | simp [results, go_sem, ↓IntWalk.iteOmega]) rfl ⟨rfl, (by refine Ext.bel ?_; repeat (with_reducible first | exact Ext.refl _ | apply Ext.alloc | apply Ext.aft | apply Ext.drew | apply Ext.drewN | apply Ext.setCell | exact Nat.le_add_right _ _ | exact Nat.le_refl _ | (simp; done) | omega))⟩
  by_cases h0 : nu = 0
  · have e : (popF nu de p n) = (⟨0, 0, 0, 0⟩, 5) := by unfold popF; rw [if_pos ⟨h1, h2⟩, if_pos h0]
    rw [e]; clear e
    subst h0
    go_enter Try.func46, Try.ntmps46
    go_wp2_with (first | (go_at_call 115; refine via (s_IsRational _ _ _) ?_; intro uu zz; try simp at zz) | (go_at_call 116; refine via (s_IsRing _ _ _) ?_; intro uu zz; try simp at zz))
    exact bodyPost_ret (v := .tuple #[(.agg #[.int .i64 0, .int .i64 0, .int .i64 0, .int .i64 0]), .int .i64 5]) (by first | (simp [results, go_sem]; done) | simp [results, go_sem, ↓IntWalk.iteOmega]) rfl ⟨rfl, (by refine Ext.bel ?_; repeat (with_reducible first | exact Ext.refl _ | apply Ext.alloc | apply Ext.aft | apply Ext.drew | apply Ext.drewN | apply Ext.setCell | exact Nat.le_add_right _ _ | exact Nat.le_refl _ | (simp; done) | omega))⟩
  have e : (popF nu de p n) = ((pofF p n nu de), 0) := by unfold popF; rw [if_pos ⟨h1, h2⟩, if_neg h0]
  rw [e]; clear e
  have h0' : (nu == 0) = false := by simpa using h0
  have H := hid (fun W => s_padicOf p n nu de W h1 h2 h0)
  clear h0
  go_enter Try.func46, Try.ntmps46
  go_wp2_with (first | (go_at_call 115; refine via (s_IsRational _ _ _) ?_; intro uu zz; try simp at zz) | (go_at_call 116; refine via (s_IsRing _ _ _) ?_; intro uu zz; try simp at zz) | (go_at_call 117; refine via (H.out _) ?_; intro uu zz; try simp at zz))
  exact bodyPost_ret (v := .tuple #[.agg #[.int .i64 (pofF p n nu de).p, .int .i64 (pofF p n nu de).v, .int .i64 (pofF p n nu de).u, .int .i64 (pofF p n nu de).n], .int .i64 0]) (by first | (simp [results, go_sem]; done) | simp [results, go_sem, ↓IntWalk.iteOmega]) rfl ⟨rfl, (by refine Ext.bel ?_; repeat (with_reducible first | exact Ext.refl _ | apply Ext.alloc | apply Ext.aft | apply Ext.drew | apply Ext.drewN | apply Ext.setCell | exact Nat.le_add_right _ _ | exact Nat.le_refl _ | (simp; done) | omega))⟩
theorem pop_bd {nu de p n a1 a2 a3 a4 : Int} (h : popF nu de p n = (⟨a1, a2, a3, a4⟩, 0)) : -1000000000000 ≤ a2 ∧ a2 ≤ 1000000000000 := by
  unfold popF at h
  split at h
  · rename_i h1
    split at h
    · injection h with _ h2; omega
    · rename_i h0
      have hr := rat_facts h1.1
      have hp := smallP_bd (ringB_iff.1 h1.2).1
      have v1 := (vl_pow_le hp.1 h0 hr.1).2.1
      have v2 := (vl_pow_le hp.1 (show de ≠ 0 by omega) (show -1000000000000 ≤ de ∧ de ≤ 1000000000000 by omega)).2.1
      injection h with h1 _
      have h2 : vl nu p - vl de p = a2 := by unfold pofF at h1; injection h1
      omega
  · injection h with _ h2; omega

set_option maxRecDepth 20000 in
set_option maxHeartbeats 4000000 in
theorem s_DrawPadicOf (B : Nat) (a : Option Addr) (len cap : Nat) (w : World) (h : rdB B w a len) (hl : len ≤ 4096) (hB : B ≤ w.heap.size) :
    Calls Try.prog 45 #[.slice a len cap] w fun e w' => ∃ z : (Int × Int) × (Int × Int), e = .returned ((fun z : (Int × Int) × (Int × Int) => .tuple #[.agg #[.int .i64 z.1.1, .int .i64 z.1.2], .agg #[.int .i64 z.2.1, .int .i64 z.2.2]]) z) ∧ Below w.heap.size w w' := by
  go_enter Try.func45, Try.ntmps45
  go_wp2_with fail
  have K1 : Cl ((w.alloc (Obj.cells #[Value.int IntKind.i64 0, Value.int IntKind.i64 0] 57)).alloc (Obj.cells #[Value.int IntKind.i64 0, Value.int IntKind.i64 0] 36)) w.heap.size #[Value.int IntKind.i64 0, Value.int IntKind.i64 0] := (Cl.new w _ _).alloc _ _
  have K2 : Cl ((w.alloc (Obj.cells #[Value.int IntKind.i64 0, Value.int IntKind.i64 0] 57)).alloc (Obj.cells #[Value.int IntKind.i64 0, Value.int IntKind.i64 0] 36)) (w.heap.size + 1) #[Value.int IntKind.i64 0, Value.int IntKind.i64 0] := by have := Cl.new (w.alloc (Obj.cells #[Value.int IntKind.i64 0, Value.int IntKind.i64 0] 57)) #[Value.int IntKind.i64 0, Value.int IntKind.i64 0] 36; simpa using this
  refine viaF (s_from B a len cap _ (h.of fun j o v hj hv => by rw [alloc_cell, if_neg (by simp; omega), alloc_cell, if_neg (by omega)]; exact hv) hl (by simp; omega)) ?_
  intro b u0 hs0 hb0 hl0 hl1
  (try simp at hb0 hl0)
  have K1 := K1.aft u0
  have K2 := K2.aft u0
  go_wp2_with fail
  refine viaDr (s_drawQ B b _ hs0) ?_
  intro q u1 hx hs1 hl2
  clear hx
  obtain ⟨q1, q2⟩ := q
  dsimp only
  have K1 := K1.aftD u1 (show w.heap.size ≠ b by omega)
  have K2 := K2.aftD u1 (show w.heap.size + 1 ≠ b by omega)
  go_wp2_with fail
  obtain ⟨V, hV⟩ : ∃ V, V = aftD b (aft ((w.alloc (Obj.cells #[Value.int IntKind.i64 0, Value.int IntKind.i64 0] 57)).alloc (Obj.cells #[Value.int IntKind.i64 0, Value.int IntKind.i64 0] 36)) u0) u1 := ⟨_, rfl⟩
  have hE : Hid (Ext w.heap.size w V) := hid (by rw [hV]; exact ((((Ext.refl w).alloc _).alloc _).aft _).aftD _ (by omega))
  have hBb := hs0.ge
  rw [← hV] at hs1 K1 K2 ⊢
  clear hV hs0 hl0 hl1 hl2 h hl
  obtain ⟨k, hk⟩ : ∃ k, k = V.heap.size := ⟨_, rfl⟩
  obtain ⟨W, hW⟩ : ∃ W, W = V.alloc (Obj.cells #[Value.int IntKind.i64 q1, Value.int IntKind.i64 q2] 57) := ⟨_, rfl⟩
  have K3 : Cl W k #[Value.int IntKind.i64 q1, Value.int IntKind.i64 q2] := by rw [hW, hk]; exact Cl.new V _ _
  have K1 : Cl W w.heap.size #[Value.int IntKind.i64 0, Value.int IntKind.i64 0] := by rw [hW]; exact K1.alloc _ _
  have K2 : Cl W (w.heap.size + 1) #[Value.int IntKind.i64 0, Value.int IntKind.i64 0] := by rw [hW]; exact K2.alloc _ _
  have hG : Hid (Ext w.heap.size w W) := hid (by rw [hW]; exact hE.out.alloc _)
  have hbV := hs1.lt
  have hsW : src B b W := by rw [hW]; exact hs1.alloc _
  rw [← hW, ← hk]
  have hbk : b < k := by omega
  have hb1 : w.heap.size + 1 < b := by omega
  clear hW hk hs1 hE hb0 hbV
  obtain ⟨c1, f1, l1⟩ := K1
  obtain ⟨c2, f2, l2⟩ := K2
  obtain ⟨cK, fK, lW⟩ := K3
  obtain ⟨j, hj⟩ : ∃ j, j = k := ⟨_, rfl⟩
  obtain ⟨J, hJ⟩ : ∃ J, J = #[Value.int IntKind.i64 q1, Value.int IntKind.i64 q2] := ⟨_, rfl⟩
  have cJ : ∀ o, W.cell? ⟨j, o, none⟩ = J[o]? := by rw [hj, hJ]; exact cK
  have hjb : j ≠ b ∧ j < W.heap.size ∧ w.heap.size + 1 < j := by omega
  clear hj hJ
  (refine wp_region_held_drew (S := (fun w' => (∀ o, w'.cell? ⟨k, o, none⟩ = #[Value.int IntKind.i64 q1, Value.int IntKind.i64 q2][o]?) ∧ ∀ o, w'.cell? ⟨j, o, none⟩ = J[o]?)) (by kernel_rfl) ?_ (fun hHeld => ?_); focus ((try dsimp only); (first | exact ⟨cK, cJ⟩ | (refine ⟨fun o => ?_, fun o => ?_⟩; (focus (repeat (with_reducible first | exact cK o | exact hHeld.1 o | rw [drewC_cell] | (rw [aftD_cell, if_pos (by first | omega | (simp; omega))]) | (rw [alloc_cell, if_neg (by first | omega | (simp; omega))]) | (rw [set_cell, if_neg (by omega)])))); (focus (repeat (with_reducible first | exact cJ o | exact hHeld.2 o | rw [drewC_cell] | (rw [aftD_cell, if_pos (by first | omega | (simp; omega))]) | (rw [alloc_cell, if_neg (by first | omega | (simp; omega))]) | (rw [set_cell, if_neg (by omega)]))))))))
  (refine wpAnyH_take (i := 0) (oi := ?ho1) (v := ?hv1) ?hi1 (by kernel_rfl) (by kernel_rfl) (by kernel_rfl) ?hq1 ?hy1 (by assumption) ?hr1; (case hi1 => (simp only [List.getElem?_toArray, List.getElem?_cons_succ, List.getElem?_cons_zero]; first | done | rfl)); (case hq1 => exact fun _ _ _ h => h); (case hy1 => (refine Or.inl ⟨by rfl, ?_⟩; intro w hSw; (try dsimp only at hSw); go_simp; first | done | with_reducible rfl)); (try simp only [Act.put, List.setIfInBounds_toArray, List.set_cons_zero, List.set_cons_succ]))
  (refine wpAnyH_take (i := 1) (oi := ?ho2) (v := ?hv2) ?hi2 (by kernel_rfl) (by kernel_rfl) (by kernel_rfl) ?hq2 ?hy2 (by assumption) ?hr2; (case hi2 => (simp only [List.getElem?_toArray, List.getElem?_cons_succ, List.getElem?_cons_zero]; first | done | rfl)); (case hq2 => exact fun _ _ _ h => h); (case hy2 => (refine Or.inl ⟨by rfl, ?_⟩; intro w hSw; (try dsimp only at hSw); go_simp; first | done | with_reducible rfl)); (try simp only [Act.put, List.setIfInBounds_toArray, List.set_cons_zero, List.set_cons_succ]))
  (refine wpAnyH_ready (rs := [2]) (by decide +kernel) (by simp) ?_; refine AllReadyH.cons (o := ?ho3) ?hi3 (fun K hK => ?hr3) AllReadyH.nil; (case hi3 => (simp only [List.getElem?_toArray, List.getElem?_cons_succ, List.getElem?_cons_zero]; first | done | rfl)))
  (go_simp; go_at_call 114; refine viaDr (s_draw2 B b _ hsW.drew) ?_; intro y v3 hy hs4 hl4; (try simp at hl4); clear hy; obtain ⟨r1, r2⟩ := y; dsimp only; go_wp2_with fail)
  (refine hK.out _ _ ?_ (fun hHeld => ?_); focus ((try dsimp only); (first | exact ⟨cK, cJ⟩ | (refine ⟨fun o => ?_, fun o => ?_⟩; (focus (repeat (with_reducible first | exact cK o | exact hHeld.1 o | rw [drewC_cell] | (rw [aftD_cell, if_pos (by first | omega | (simp; omega))]) | (rw [alloc_cell, if_neg (by first | omega | (simp; omega))]) | (rw [set_cell, if_neg (by omega)])))); (focus (repeat (with_reducible first | exact cJ o | exact hHeld.2 o | rw [drewC_cell] | (rw [aftD_cell, if_pos (by first | omega | (simp; omega))]) | (rw [alloc_cell, if_neg (by first | omega | (simp; omega))]) | (rw [set_cell, if_neg (by omega)]))))))))
  (clear hK K; (try simp only [Act.put, List.setIfInBounds_toArray, List.set_cons_zero, List.set_cons_succ]))
  (refine wpAnyH_ready (rs := [3]) (by decide +kernel) (by simp) ?_; refine AllReadyH.cons (o := ?ho4) ?hi4 (fun K hK => ?hr4) AllReadyH.nil; (case hi4 => (simp only [List.getElem?_toArray, List.getElem?_cons_succ, List.getElem?_cons_zero]; first | done | rfl)))
  (rw [if_pos (by rfl)]; go_wp2_with fail)
  (refine hK.out _ _ ?_ (fun hHeld => ?_); focus ((try dsimp only); (first | exact ⟨cK, cJ⟩ | (refine ⟨fun o => ?_, fun o => ?_⟩; (focus (repeat (with_reducible first | exact cK o | exact hHeld.1 o | rw [drewC_cell] | (rw [aftD_cell, if_pos (by first | omega | (simp; omega))]) | (rw [alloc_cell, if_neg (by first | omega | (simp; omega))]) | (rw [set_cell, if_neg (by omega)])))); (focus (repeat (with_reducible first | exact cJ o | exact hHeld.2 o | rw [drewC_cell] | (rw [aftD_cell, if_pos (by first | omega | (simp; omega))]) | (rw [alloc_cell, if_neg (by first | omega | (simp; omega))]) | (rw [set_cell, if_neg (by omega)]))))))))
  (clear hK K; (try simp only [Act.put, List.setIfInBounds_toArray, List.set_cons_zero, List.set_cons_succ]))
  (refine wpAnyH_ready (rs := [4]) (by decide +kernel) (by simp) ?_; refine AllReadyH.cons (o := ?ho5) ?hi5 (fun K hK => ?hr5) AllReadyH.nil; (case hi5 => (simp only [List.getElem?_toArray, List.getElem?_cons_succ, List.getElem?_cons_zero]; first | done | rfl)))
  (rw [if_pos (by rfl)]; go_wp2_with fail)
  (refine hK.out _ _ ?_ (fun hHeld => ?_); focus ((try dsimp only); (first | exact ⟨cK, cJ⟩ | (refine ⟨fun o => ?_, fun o => ?_⟩; (focus (repeat (with_reducible first | exact cK o | exact hHeld.1 o | rw [drewC_cell] | (rw [aftD_cell, if_pos (by first | omega | (simp; omega))]) | (rw [alloc_cell, if_neg (by first | omega | (simp; omega))]) | (rw [set_cell, if_neg (by omega)])))); (focus (repeat (with_reducible first | exact cJ o | exact hHeld.2 o | rw [drewC_cell] | (rw [aftD_cell, if_pos (by first | omega | (simp; omega))]) | (rw [alloc_cell, if_neg (by first | omega | (simp; omega))]) | (rw [set_cell, if_neg (by omega)]))))))))
  (clear hK K; (try simp only [Act.put, List.setIfInBounds_toArray, List.set_cons_zero, List.set_cons_succ]))
  (refine wpAnyH_done (by kernel_rfl) ?_ _)
  go_wp2_with fail
  exact bodyPost_ret (v := .tuple #[.agg #[Value.int IntKind.i64 q1, Value.int IntKind.i64 q2], .agg #[.int .i64 r1, .int .i64 r2]]) (by simp [results, go_sem, ↓IntWalk.iteOmega, c1, c2]) rfl ⟨((q1, q2), (r1, r2)), rfl, (by refine Ext.bel ?_; repeat (with_reducible first | exact hG.out | apply Ext.aftD | apply Ext.alloc | apply Ext.drew | apply Ext.setCell | exact Nat.le_refl _ | exact Nat.le_add_right _ _ | omega))⟩
end Go.Proofs.Ytehdkbopkkgabaa

