/- Draws: a rational number and a p-adic one, a p-adic number. (Printed by mkT66.py.) -/
import Derived.Test.YtehdkbopkkgabaaT65
namespace Go.Proofs.Ytehdkbopkkgabaa
open Go Go.RowKit

set_option maxRecDepth 20000 in
set_option maxHeartbeats 16000000 in
theorem s_DrawDoAgree (B : Nat) (a : Option Addr) (len cap : Nat) (w : World) (h : rdB B w a len) (hl : len ≤ 4096) (hB : B ≤ w.heap.size) :
    Calls Try.prog 47 #[.slice a len cap] w fun e w' => ∃ z : (Int × Int) × Pd, e = .returned ((fun z : (Int × Int) × Pd => .tuple #[.agg #[.int .i64 z.1.1, .int .i64 z.1.2], .agg #[.int .i64 z.2.p, .int .i64 z.2.v, .int .i64 z.2.u, .int .i64 z.2.n]]) z) ∧ Below w.heap.size w w' := by
  go_enter Try.func47, Try.ntmps47
  go_wp2_with fail
  have K1 : Cl ((w.alloc (Obj.cells #[Value.int IntKind.i64 0, Value.int IntKind.i64 0] 57)).alloc (Obj.cells #[Value.int IntKind.i64 0, Value.int IntKind.i64 0, Value.int IntKind.i64 0, Value.int IntKind.i64 0] 38)) w.heap.size #[Value.int IntKind.i64 0, Value.int IntKind.i64 0] := (Cl.new w _ _).alloc _ _
  have K2 : Cl ((w.alloc (Obj.cells #[Value.int IntKind.i64 0, Value.int IntKind.i64 0] 57)).alloc (Obj.cells #[Value.int IntKind.i64 0, Value.int IntKind.i64 0, Value.int IntKind.i64 0, Value.int IntKind.i64 0] 38)) (w.heap.size + 1) #[Value.int IntKind.i64 0, Value.int IntKind.i64 0, Value.int IntKind.i64 0, Value.int IntKind.i64 0] := by have := Cl.new (w.alloc (Obj.cells #[Value.int IntKind.i64 0, Value.int IntKind.i64 0] 57)) #[Value.int IntKind.i64 0, Value.int IntKind.i64 0, Value.int IntKind.i64 0, Value.int IntKind.i64 0] 38; simpa using this
  have h1 : rdB B ((w.alloc (Obj.cells #[Value.int IntKind.i64 0, Value.int IntKind.i64 0] 57)).alloc (Obj.cells #[Value.int IntKind.i64 0, Value.int IntKind.i64 0, Value.int IntKind.i64 0, Value.int IntKind.i64 0] 38)) a len := h.of fun j o v hj hv => by rw [alloc_cell, if_neg (by simp; omega), alloc_cell, if_neg (by omega)]; exact hv
  refine viaF (s_from B a len cap _ h1 hl (by simp; omega)) ?_
  intro b u0 hs0 hb0 hl0 hl1
  (try simp at hb0 hl0)
  have K1 := K1.aft u0
  have K2 := K2.aft u0
  go_wp2_with fail
  refine viaV (α := (Int × Int) × (Int × Int)) (g := (fun z : (Int × Int) × (Int × Int) => .tuple #[.agg #[.int .i64 z.1.1, .int .i64 z.1.2], .agg #[.int .i64 z.2.1, .int .i64 z.2.2]])) (s_DrawPadicOf B a len cap _ (h1.below (below_aft _ _)) hl (by omega)) ?_
  intro z u1 hl2
  clear h1 h
  obtain ⟨⟨q1, q2⟩, ⟨r1, r2⟩⟩ := z
  dsimp only
  have hs1 := hs0.aft u1
  have K1 := K1.aft u1
  have K2 := K2.aft u1
  go_wp2_with fail
  obtain ⟨V, hV⟩ : ∃ V, V = aft (aft ((w.alloc (Obj.cells #[Value.int IntKind.i64 0, Value.int IntKind.i64 0] 57)).alloc (Obj.cells #[Value.int IntKind.i64 0, Value.int IntKind.i64 0, Value.int IntKind.i64 0, Value.int IntKind.i64 0] 38)) u0) u1 := ⟨_, rfl⟩
  have hE : Hid (Ext w.heap.size w V) := hid (by rw [hV]; exact ((((Ext.refl w).alloc _).alloc _).aft _).aft _)
  have hBb := hs0.ge
  rw [← hV] at hs1 K1 K2 ⊢
  clear hV hs0 hl0 hl1 hl2 hl
  have hbV := hs1.lt
  obtain ⟨k, hk⟩ : ∃ k, k = V.heap.size := ⟨_, rfl⟩
  obtain ⟨W1, hW1⟩ : ∃ W1, W1 = V.alloc (Obj.cells #[Value.int IntKind.i64 q1, Value.int IntKind.i64 q2] 57) := ⟨_, rfl⟩
  have K3 : Cl W1 k #[Value.int IntKind.i64 q1, Value.int IntKind.i64 q2] := by rw [hW1, hk]; exact Cl.new V _ _
  have K1 : Cl W1 w.heap.size #[Value.int IntKind.i64 0, Value.int IntKind.i64 0] := by rw [hW1]; exact K1.alloc _ _
  have K2 : Cl W1 (w.heap.size + 1) #[Value.int IntKind.i64 0, Value.int IntKind.i64 0, Value.int IntKind.i64 0, Value.int IntKind.i64 0] := by rw [hW1]; exact K2.alloc _ _
  have hE : Hid (Ext w.heap.size w W1) := hid (by rw [hW1]; exact hE.out.alloc _)
  have hs1 : src B b W1 := by rw [hW1]; exact hs1.alloc _
  have l1 : W1.heap.size = k + 1 := by rw [hW1, hk]; simp
  obtain ⟨kr, hkr⟩ : ∃ kr, kr = k + 1 := ⟨_, rfl⟩
  rw [← hW1, ← hk]
  clear hW1
  obtain ⟨W2, hW2⟩ : ∃ W2, W2 = W1.alloc (Obj.cells #[Value.int IntKind.i64 r1, Value.int IntKind.i64 r2] 36) := ⟨_, rfl⟩
  have K4 : Cl W2 kr #[Value.int IntKind.i64 r1, Value.int IntKind.i64 r2] := by rw [hW2, hkr, ← l1]; exact Cl.new W1 _ _
  have K3 : Cl W2 k #[Value.int IntKind.i64 q1, Value.int IntKind.i64 q2] := by rw [hW2]; exact K3.alloc _ _
  have K1 : Cl W2 w.heap.size #[Value.int IntKind.i64 0, Value.int IntKind.i64 0] := by rw [hW2]; exact K1.alloc _ _
  have K2 : Cl W2 (w.heap.size + 1) #[Value.int IntKind.i64 0, Value.int IntKind.i64 0, Value.int IntKind.i64 0, Value.int IntKind.i64 0] := by rw [hW2]; exact K2.alloc _ _
  have hE : Hid (Ext w.heap.size w W2) := hid (by rw [hW2]; exact hE.out.alloc _)
  have hs2 : src B b W2 := by rw [hW2]; exact hs1.alloc _
  rw [← hW2, ← hkr]
  have hbk : b < k := by omega
  have hb1 : w.heap.size + 1 < b := by omega
  clear hW2 hk hs1 hb0 hbV l1 hkr
  obtain ⟨P, hP⟩ : ∃ P, P = popF q1 q2 r1 r2 := ⟨_, rfl⟩
  obtain ⟨⟨x1, x2, x3, x4⟩, c⟩ := P
  have CS : Hid (∀ W : World, Calls Try.prog 46 #[.agg #[.int .i64 q1, .int .i64 q2], .agg #[.int .i64 r1, .int .i64 r2]] W fun e w' => e = .returned (.tuple #[.agg #[.int .i64 x1, .int .i64 x2, .int .i64 x3, .int .i64 x4], .int .i64 c]) ∧ Below W.heap.size W w') := hid fun W => by have := s_PadicOf q1 q2 r1 r2 W; rw [← hP] at this; exact this
  have HP : Hid (c = 0 → -1000000000000 ≤ x2 ∧ x2 ≤ 1000000000000) := hid fun e => pop_bd (by rw [← hP, e])
  clear hP
  obtain ⟨c3, f3, l3⟩ := id K3
  obtain ⟨c4, f4, l4⟩ := id K4
  refine via (CS.out _) ?_
  intro u2 zu2
  (try simp at zu2)
  obtain ⟨c3, f3, l3⟩ := K3.aft u2
  by_cases hc : c = 0
  case neg =>
    have hc' : (c != 0) = true := by simpa using hc
    have hc2 : (c == 0) = false := by simpa using hc
    go_wp2_with fail
    obtain ⟨W4, hW4⟩ : ∃ X, X = (aft W2 u2).alloc (Obj.cells #[Value.int IntKind.i64 x1, Value.int IntKind.i64 x2, Value.int IntKind.i64 x3, Value.int IntKind.i64 x4] 38) := ⟨_, rfl⟩
    obtain ⟨j, hj⟩ : ∃ j, j = (aft W2 u2).heap.size := ⟨_, rfl⟩
    have K1 : Cl W4 w.heap.size #[Value.int IntKind.i64 0, Value.int IntKind.i64 0] := by rw [hW4]; exact (K1.aft u2).alloc _ _
    have K2 : Cl W4 (w.heap.size + 1) #[Value.int IntKind.i64 0, Value.int IntKind.i64 0, Value.int IntKind.i64 0, Value.int IntKind.i64 0] := by rw [hW4]; exact (K2.aft u2).alloc _ _
    have K3 : Cl W4 k #[Value.int IntKind.i64 q1, Value.int IntKind.i64 q2] := by rw [hW4]; exact (K3.aft u2).alloc _ _
    have K5 : Cl W4 j #[Value.int IntKind.i64 x1, Value.int IntKind.i64 x2, Value.int IntKind.i64 x3, Value.int IntKind.i64 x4] := by rw [hW4, hj]; exact Cl.new _ _ _
    have hG : Hid (Ext w.heap.size w W4) := hid (by rw [hW4]; exact (hE.out.aft _).alloc _)
    have hsW : src B b W4 := by rw [hW4]; exact (hs2.aft _).alloc _
    rw [← hW4, ← hj]
    have hkj : k < j := by omega
    clear hW4 hj hE hs2 zu2 K4 c3 f3 l3 c4 f4 l4 CS HP
    obtain ⟨c1, f1, l1⟩ := K1
    obtain ⟨c2, f2, l2⟩ := K2
    obtain ⟨cK, fK, lK⟩ := K3
    obtain ⟨cJ, fJ, lW⟩ := K5
    (refine wp_region_held_drew (S := (fun w' => (∀ o, w'.cell? ⟨k, o, none⟩ = #[Value.int IntKind.i64 q1, Value.int IntKind.i64 q2][o]?) ∧ ∀ o, w'.cell? ⟨j, o, none⟩ = #[Value.int IntKind.i64 x1, Value.int IntKind.i64 x2, Value.int IntKind.i64 x3, Value.int IntKind.i64 x4][o]?)) (by kernel_rfl) ?_ (fun hHeld => ?_); focus ((try dsimp only); (first | (with_reducible exact ⟨cK, cJ⟩) | (refine ⟨fun o => ?_, fun o => ?_⟩; (focus (repeat (with_reducible first | exact cK o | exact hHeld.1 o | rw [drewC_cell] | (rw [aftD_cell, if_pos (by first | omega | (simp; omega))]) | (rw [alloc_cell, if_neg (by first | omega | (simp; omega))]) | (rw [set_cell, if_neg (by omega)])))); (focus (repeat (with_reducible first | exact cJ o | exact hHeld.2 o | rw [drewC_cell] | (rw [aftD_cell, if_pos (by first | omega | (simp; omega))]) | (rw [alloc_cell, if_neg (by first | omega | (simp; omega))]) | (rw [set_cell, if_neg (by omega)]))))))))
    (refine wpAnyH_take (i := 0) (oi := ?ho1) (v := ?hv1) ?hi1 (by kernel_rfl) (by kernel_rfl) (by kernel_rfl) ?hq1 ?hy1 (by assumption) ?hr1; (case hi1 => (simp only [List.getElem?_toArray, List.getElem?_cons_succ, List.getElem?_cons_zero]; first | done | rfl)); (case hq1 => exact fun _ _ _ h => h); (case hy1 => (refine Or.inl ⟨by rfl, ?_⟩; intro w hSw; (try dsimp only at hSw); go_simp; first | done | with_reducible rfl)); (try simp only [Act.put, List.setIfInBounds_toArray, List.set_cons_zero, List.set_cons_succ]))
    (refine wpAnyH_take (i := 1) (oi := ?ho2) (v := ?hv2) ?hi2 (by kernel_rfl) (by kernel_rfl) (by kernel_rfl) ?hq2 ?hy2 (by assumption) ?hr2; (case hi2 => (simp only [List.getElem?_toArray, List.getElem?_cons_succ, List.getElem?_cons_zero]; first | done | rfl)); (case hq2 => exact fun _ _ _ h => h); (case hy2 => (refine Or.inl ⟨by rfl, ?_⟩; intro w hSw; (try dsimp only at hSw); go_simp; first | done | with_reducible rfl)); (try simp only [Act.put, List.setIfInBounds_toArray, List.set_cons_zero, List.set_cons_succ]))
    (refine wpAnyH_ready (rs := [2]) (by decide +kernel) (by simp) ?_; refine AllReadyH.cons (o := ?ho16) ?hi16 (fun K hK => ?hr16) AllReadyH.nil; (case hi16 => (simp only [List.getElem?_toArray, List.getElem?_cons_succ, List.getElem?_cons_zero]; first | done | rfl)))
    (go_simp; go_at_call 83; refine viaDr (s_draw3 B b _ hsW.drew) ?_; intro y v9 hy9 hs9 hl9; (try simp at hl9); clear hy9; obtain ⟨y1, y2, y3, y4⟩ := y; dsimp only; go_wp2_with fail)
    (refine hK.out _ _ ?_ (fun hHeld => ?_); focus ((try dsimp only); (first | (with_reducible exact ⟨cK, cJ⟩) | (refine ⟨fun o => ?_, fun o => ?_⟩; (focus (repeat (with_reducible first | exact cK o | exact hHeld.1 o | rw [drewC_cell] | (rw [aftD_cell, if_pos (by first | omega | (simp; omega))]) | (rw [alloc_cell, if_neg (by first | omega | (simp; omega))]) | (rw [set_cell, if_neg (by omega)])))); (focus (repeat (with_reducible first | exact cJ o | exact hHeld.2 o | rw [drewC_cell] | (rw [aftD_cell, if_pos (by first | omega | (simp; omega))]) | (rw [alloc_cell, if_neg (by first | omega | (simp; omega))]) | (rw [set_cell, if_neg (by omega)]))))))))
    (clear hK K; (try simp only [Act.put, List.setIfInBounds_toArray, List.set_cons_zero, List.set_cons_succ]))
    (refine wpAnyH_ready (rs := [3]) (by decide +kernel) (by simp) ?_; refine AllReadyH.cons (o := ?ho17) ?hi17 (fun K hK => ?hr17) AllReadyH.nil; (case hi17 => (simp only [List.getElem?_toArray, List.getElem?_cons_succ, List.getElem?_cons_zero]; first | done | rfl)))
    (rw [if_pos (by rfl)]; go_wp2_with fail)
    (refine hK.out _ _ ?_ (fun hHeld => ?_); focus ((try dsimp only); (first | (with_reducible exact ⟨cK, cJ⟩) | (refine ⟨fun o => ?_, fun o => ?_⟩; (focus (repeat (with_reducible first | exact cK o | exact hHeld.1 o | rw [drewC_cell] | (rw [aftD_cell, if_pos (by first | omega | (simp; omega))]) | (rw [alloc_cell, if_neg (by first | omega | (simp; omega))]) | (rw [set_cell, if_neg (by omega)])))); (focus (repeat (with_reducible first | exact cJ o | exact hHeld.2 o | rw [drewC_cell] | (rw [aftD_cell, if_pos (by first | omega | (simp; omega))]) | (rw [alloc_cell, if_neg (by first | omega | (simp; omega))]) | (rw [set_cell, if_neg (by omega)]))))))))
    (clear hK K; (try simp only [Act.put, List.setIfInBounds_toArray, List.set_cons_zero, List.set_cons_succ]))
    (refine wpAnyH_ready (rs := [4]) (by decide +kernel) (by simp) ?_; refine AllReadyH.cons (o := ?ho18) ?hi18 (fun K hK => ?hr18) AllReadyH.nil; (case hi18 => (simp only [List.getElem?_toArray, List.getElem?_cons_succ, List.getElem?_cons_zero]; first | done | rfl)))
    (rw [if_pos (by rfl)]; go_wp2_with fail)
    (refine hK.out _ _ ?_ (fun hHeld => ?_); focus ((try dsimp only); (first | (with_reducible exact ⟨cK, cJ⟩) | (refine ⟨fun o => ?_, fun o => ?_⟩; (focus (repeat (with_reducible first | exact cK o | exact hHeld.1 o | rw [drewC_cell] | (rw [aftD_cell, if_pos (by first | omega | (simp; omega))]) | (rw [alloc_cell, if_neg (by first | omega | (simp; omega))]) | (rw [set_cell, if_neg (by omega)])))); (focus (repeat (with_reducible first | exact cJ o | exact hHeld.2 o | rw [drewC_cell] | (rw [aftD_cell, if_pos (by first | omega | (simp; omega))]) | (rw [alloc_cell, if_neg (by first | omega | (simp; omega))]) | (rw [set_cell, if_neg (by omega)]))))))))
    (clear hK K; (try simp only [Act.put, List.setIfInBounds_toArray, List.set_cons_zero, List.set_cons_succ]))
    (refine wpAnyH_done (by kernel_rfl) ?_ _)
    go_wp2_with fail
    exact bodyPost_ret (v := .tuple #[.agg #[Value.int IntKind.i64 q1, Value.int IntKind.i64 q2], .agg #[.int .i64 y1, .int .i64 y2, .int .i64 y3, .int .i64 y4]]) (by simp [results, go_sem, ↓IntWalk.iteOmega, c1, c2]) rfl ⟨((q1, q2), ⟨y1, y2, y3, y4⟩), rfl, (by refine Ext.bel ?_; repeat (with_reducible first | exact hG.out | apply Ext.aftD | apply Ext.alloc | apply Ext.drew | apply Ext.setCell | exact Nat.le_refl _ | exact Nat.le_add_right _ _ | omega))⟩
  subst hc
  have hx2 := HP.out rfl
  go_wp2_with fail
  obtain ⟨W4, hW4⟩ : ∃ X, X = (aft W2 u2).alloc (Obj.cells #[Value.int IntKind.i64 x1, Value.int IntKind.i64 x2, Value.int IntKind.i64 x3, Value.int IntKind.i64 x4] 38) := ⟨_, rfl⟩
  obtain ⟨j, hj⟩ : ∃ j, j = (aft W2 u2).heap.size := ⟨_, rfl⟩
  have K1 : Cl W4 w.heap.size #[Value.int IntKind.i64 0, Value.int IntKind.i64 0] := by rw [hW4]; exact (K1.aft u2).alloc _ _
  have K2 : Cl W4 (w.heap.size + 1) #[Value.int IntKind.i64 0, Value.int IntKind.i64 0, Value.int IntKind.i64 0, Value.int IntKind.i64 0] := by rw [hW4]; exact (K2.aft u2).alloc _ _
  have K3 : Cl W4 k #[Value.int IntKind.i64 q1, Value.int IntKind.i64 q2] := by rw [hW4]; exact (K3.aft u2).alloc _ _
  have K5 : Cl W4 j #[Value.int IntKind.i64 x1, Value.int IntKind.i64 x2, Value.int IntKind.i64 x3, Value.int IntKind.i64 x4] := by rw [hW4, hj]; exact Cl.new _ _ _
  have hG : Hid (Ext w.heap.size w W4) := hid (by rw [hW4]; exact (hE.out.aft _).alloc _)
  have hsW : src B b W4 := by rw [hW4]; exact (hs2.aft _).alloc _
  rw [← hW4, ← hj]
  have hkj : k < j := by omega
  clear hW4 hj hE hs2 zu2 K4 c3 f3 l3 c4 f4 l4 CS HP
  refine viaDr (s_next B b _ _ hsW (by omega)) ?_
  intro y v1 hxv1 hs5 hlv1
  (try dsimp only at hxv1)
  by_cases hy : y = 0
  case pos =>
    subst hy
    go_wp2_with fail
    obtain ⟨W5, hW5⟩ : ∃ X, X = aftD b W4 v1 := ⟨_, rfl⟩
    have K1 : Cl W5 w.heap.size #[Value.int IntKind.i64 0, Value.int IntKind.i64 0] := by rw [hW5]; exact K1.aftD _ (by omega)
    have K2 : Cl W5 (w.heap.size + 1) #[Value.int IntKind.i64 0, Value.int IntKind.i64 0, Value.int IntKind.i64 0, Value.int IntKind.i64 0] := by rw [hW5]; exact K2.aftD _ (by omega)
    have K3 : Cl W5 k #[Value.int IntKind.i64 q1, Value.int IntKind.i64 q2] := by rw [hW5]; exact K3.aftD _ (by omega)
    have K5 : Cl W5 j #[Value.int IntKind.i64 x1, Value.int IntKind.i64 x2, Value.int IntKind.i64 x3, Value.int IntKind.i64 x4] := by rw [hW5]; exact K5.aftD _ (by omega)
    have hG : Hid (Ext w.heap.size w W5) := hid (by rw [hW5]; exact hG.out.aftD _ (by omega))
    rw [← hW5] at hs5 ⊢
    clear hW5 hlv1 hsW
    obtain ⟨c1, f1, l1⟩ := K1
    obtain ⟨c2, f2, l2⟩ := K2
    obtain ⟨cK, fK, lK⟩ := K3
    obtain ⟨cJ, fJ, lW⟩ := K5
    (refine wp_region_held_drew (S := (fun w' => (∀ o, w'.cell? ⟨k, o, none⟩ = #[Value.int IntKind.i64 q1, Value.int IntKind.i64 q2][o]?) ∧ ∀ o, w'.cell? ⟨j, o, none⟩ = #[Value.int IntKind.i64 x1, Value.int IntKind.i64 x2, Value.int IntKind.i64 x3, Value.int IntKind.i64 x4][o]?)) (by kernel_rfl) ?_ (fun hHeld => ?_); focus ((try dsimp only); (first | (with_reducible exact ⟨cK, cJ⟩) | (refine ⟨fun o => ?_, fun o => ?_⟩; (focus (repeat (with_reducible first | exact cK o | exact hHeld.1 o | rw [drewC_cell] | (rw [aftD_cell, if_pos (by first | omega | (simp; omega))]) | (rw [alloc_cell, if_neg (by first | omega | (simp; omega))]) | (rw [set_cell, if_neg (by omega)])))); (focus (repeat (with_reducible first | exact cJ o | exact hHeld.2 o | rw [drewC_cell] | (rw [aftD_cell, if_pos (by first | omega | (simp; omega))]) | (rw [alloc_cell, if_neg (by first | omega | (simp; omega))]) | (rw [set_cell, if_neg (by omega)]))))))))
    (refine wpAnyH_take (i := 0) (oi := ?ho3) (v := ?hv3) ?hi3 (by kernel_rfl) (by kernel_rfl) (by kernel_rfl) ?hq3 ?hy3 (by assumption) ?hr3; (case hi3 => (simp only [List.getElem?_toArray, List.getElem?_cons_succ, List.getElem?_cons_zero]; first | done | rfl)); (case hq3 => exact fun _ _ _ h => h); (case hy3 => (refine Or.inl ⟨by rfl, ?_⟩; intro w hSw; (try dsimp only at hSw); go_simp; first | done | with_reducible rfl)); (try simp only [Act.put, List.setIfInBounds_toArray, List.set_cons_zero, List.set_cons_succ]))
    (refine wpAnyH_take (i := 1) (oi := ?ho4) (v := ?hv4) ?hi4 (by kernel_rfl) (by kernel_rfl) (by kernel_rfl) ?hq4 ?hy4 (by assumption) ?hr4; (case hi4 => (simp only [List.getElem?_toArray, List.getElem?_cons_succ, List.getElem?_cons_zero]; first | done | rfl)); (case hq4 => exact fun _ _ _ h => h); (case hy4 => (refine Or.inl ⟨by rfl, ?_⟩; intro w hSw; (try dsimp only at hSw); go_simp; first | done | with_reducible rfl)); (try simp only [Act.put, List.setIfInBounds_toArray, List.set_cons_zero, List.set_cons_succ]))
    (refine wpAnyH_ready (rs := [2]) (by decide +kernel) (by simp) ?_; refine AllReadyH.cons (o := ?ho19) ?hi19 (fun K hK => ?hr19) AllReadyH.nil; (case hi19 => (simp only [List.getElem?_toArray, List.getElem?_cons_succ, List.getElem?_cons_zero]; first | done | rfl)))
    (go_simp; go_at_call 83; refine viaDr (s_draw3 B b _ hs5.drew) ?_; intro y v9 hy9 hs9 hl9; (try simp at hl9); clear hy9; obtain ⟨y1, y2, y3, y4⟩ := y; dsimp only; go_wp2_with fail)
    (refine hK.out _ _ ?_ (fun hHeld => ?_); focus ((try dsimp only); (first | (with_reducible exact ⟨cK, cJ⟩) | (refine ⟨fun o => ?_, fun o => ?_⟩; (focus (repeat (with_reducible first | exact cK o | exact hHeld.1 o | rw [drewC_cell] | (rw [aftD_cell, if_pos (by first | omega | (simp; omega))]) | (rw [alloc_cell, if_neg (by first | omega | (simp; omega))]) | (rw [set_cell, if_neg (by omega)])))); (focus (repeat (with_reducible first | exact cJ o | exact hHeld.2 o | rw [drewC_cell] | (rw [aftD_cell, if_pos (by first | omega | (simp; omega))]) | (rw [alloc_cell, if_neg (by first | omega | (simp; omega))]) | (rw [set_cell, if_neg (by omega)]))))))))
    (clear hK K; (try simp only [Act.put, List.setIfInBounds_toArray, List.set_cons_zero, List.set_cons_succ]))
    (refine wpAnyH_ready (rs := [3]) (by decide +kernel) (by simp) ?_; refine AllReadyH.cons (o := ?ho20) ?hi20 (fun K hK => ?hr20) AllReadyH.nil; (case hi20 => (simp only [List.getElem?_toArray, List.getElem?_cons_succ, List.getElem?_cons_zero]; first | done | rfl)))
    (rw [if_pos (by rfl)]; go_wp2_with fail)
    (refine hK.out _ _ ?_ (fun hHeld => ?_); focus ((try dsimp only); (first | (with_reducible exact ⟨cK, cJ⟩) | (refine ⟨fun o => ?_, fun o => ?_⟩; (focus (repeat (with_reducible first | exact cK o | exact hHeld.1 o | rw [drewC_cell] | (rw [aftD_cell, if_pos (by first | omega | (simp; omega))]) | (rw [alloc_cell, if_neg (by first | omega | (simp; omega))]) | (rw [set_cell, if_neg (by omega)])))); (focus (repeat (with_reducible first | exact cJ o | exact hHeld.2 o | rw [drewC_cell] | (rw [aftD_cell, if_pos (by first | omega | (simp; omega))]) | (rw [alloc_cell, if_neg (by first | omega | (simp; omega))]) | (rw [set_cell, if_neg (by omega)]))))))))
    (clear hK K; (try simp only [Act.put, List.setIfInBounds_toArray, List.set_cons_zero, List.set_cons_succ]))
    (refine wpAnyH_ready (rs := [4]) (by decide +kernel) (by simp) ?_; refine AllReadyH.cons (o := ?ho21) ?hi21 (fun K hK => ?hr21) AllReadyH.nil; (case hi21 => (simp only [List.getElem?_toArray, List.getElem?_cons_succ, List.getElem?_cons_zero]; first | done | rfl)))
    (rw [if_pos (by rfl)]; go_wp2_with fail)
    (refine hK.out _ _ ?_ (fun hHeld => ?_); focus ((try dsimp only); (first | (with_reducible exact ⟨cK, cJ⟩) | (refine ⟨fun o => ?_, fun o => ?_⟩; (focus (repeat (with_reducible first | exact cK o | exact hHeld.1 o | rw [drewC_cell] | (rw [aftD_cell, if_pos (by first | omega | (simp; omega))]) | (rw [alloc_cell, if_neg (by first | omega | (simp; omega))]) | (rw [set_cell, if_neg (by omega)])))); (focus (repeat (with_reducible first | exact cJ o | exact hHeld.2 o | rw [drewC_cell] | (rw [aftD_cell, if_pos (by first | omega | (simp; omega))]) | (rw [alloc_cell, if_neg (by first | omega | (simp; omega))]) | (rw [set_cell, if_neg (by omega)]))))))))
    (clear hK K; (try simp only [Act.put, List.setIfInBounds_toArray, List.set_cons_zero, List.set_cons_succ]))
    (refine wpAnyH_done (by kernel_rfl) ?_ _)
    go_wp2_with fail
    exact bodyPost_ret (v := .tuple #[.agg #[Value.int IntKind.i64 q1, Value.int IntKind.i64 q2], .agg #[.int .i64 y1, .int .i64 y2, .int .i64 y3, .int .i64 y4]]) (by simp [results, go_sem, ↓IntWalk.iteOmega, c1, c2]) rfl ⟨((q1, q2), ⟨y1, y2, y3, y4⟩), rfl, (by refine Ext.bel ?_; repeat (with_reducible first | exact hG.out | apply Ext.aftD | apply Ext.alloc | apply Ext.drew | apply Ext.setCell | exact Nat.le_refl _ | exact Nat.le_add_right _ _ | omega))⟩
  have hy' : (y == 0) = false := by simpa using hy
  go_wp2_with fail
  obtain ⟨W5, hW5⟩ : ∃ X, X = aftD b W4 v1 := ⟨_, rfl⟩
  have K1 : Cl W5 w.heap.size #[Value.int IntKind.i64 0, Value.int IntKind.i64 0] := by rw [hW5]; exact K1.aftD _ (by omega)
  have K2 : Cl W5 (w.heap.size + 1) #[Value.int IntKind.i64 0, Value.int IntKind.i64 0, Value.int IntKind.i64 0, Value.int IntKind.i64 0] := by rw [hW5]; exact K2.aftD _ (by omega)
  have K3 : Cl W5 k #[Value.int IntKind.i64 q1, Value.int IntKind.i64 q2] := by rw [hW5]; exact K3.aftD _ (by omega)
  have K5 : Cl W5 j #[Value.int IntKind.i64 x1, Value.int IntKind.i64 x2, Value.int IntKind.i64 x3, Value.int IntKind.i64 x4] := by rw [hW5]; exact K5.aftD _ (by omega)
  have hG : Hid (Ext w.heap.size w W5) := hid (by rw [hW5]; exact hG.out.aftD _ (by omega))
  rw [← hW5] at hs5 ⊢
  clear hW5 hlv1
  clear hsW
  refine viaDr (s_next B b _ _ hs5 (by omega)) ?_
  intro z v2 hxv2 hs6 hlv2
  (try dsimp only at hxv2)
  by_cases hz : z = 0
  case pos =>
    subst hz
    go_wp2_with fail
    obtain ⟨W6, hW6⟩ : ∃ X, X = aftD b W5 v2 := ⟨_, rfl⟩
    have K1 : Cl W6 w.heap.size #[Value.int IntKind.i64 0, Value.int IntKind.i64 0] := by rw [hW6]; exact K1.aftD _ (by omega)
    have K2 : Cl W6 (w.heap.size + 1) #[Value.int IntKind.i64 0, Value.int IntKind.i64 0, Value.int IntKind.i64 0, Value.int IntKind.i64 0] := by rw [hW6]; exact K2.aftD _ (by omega)
    have K3 : Cl W6 k #[Value.int IntKind.i64 q1, Value.int IntKind.i64 q2] := by rw [hW6]; exact K3.aftD _ (by omega)
    have K5 : Cl W6 j #[Value.int IntKind.i64 x1, Value.int IntKind.i64 x2, Value.int IntKind.i64 x3, Value.int IntKind.i64 x4] := by rw [hW6]; exact K5.aftD _ (by omega)
    have hG : Hid (Ext w.heap.size w W6) := hid (by rw [hW6]; exact hG.out.aftD _ (by omega))
    rw [← hW6] at hs6 ⊢
    clear hW6 hlv2 hs5
    obtain ⟨c1, f1, l1⟩ := K1
    obtain ⟨c2, f2, l2⟩ := K2
    obtain ⟨cK, fK, lK⟩ := K3
    obtain ⟨cJ, fJ, lW⟩ := K5
    (refine wp_region_held_drew (S := (fun w' => (∀ o, w'.cell? ⟨k, o, none⟩ = #[Value.int IntKind.i64 q1, Value.int IntKind.i64 q2][o]?) ∧ ∀ o, w'.cell? ⟨j, o, none⟩ = #[Value.int IntKind.i64 x1, Value.int IntKind.i64 x2, Value.int IntKind.i64 x3, Value.int IntKind.i64 x4][o]?)) (by kernel_rfl) ?_ (fun hHeld => ?_); focus ((try dsimp only); (first | (with_reducible exact ⟨cK, cJ⟩) | (refine ⟨fun o => ?_, fun o => ?_⟩; (focus (repeat (with_reducible first | exact cK o | exact hHeld.1 o | rw [drewC_cell] | (rw [aftD_cell, if_pos (by first | omega | (simp; omega))]) | (rw [alloc_cell, if_neg (by first | omega | (simp; omega))]) | (rw [set_cell, if_neg (by omega)])))); (focus (repeat (with_reducible first | exact cJ o | exact hHeld.2 o | rw [drewC_cell] | (rw [aftD_cell, if_pos (by first | omega | (simp; omega))]) | (rw [alloc_cell, if_neg (by first | omega | (simp; omega))]) | (rw [set_cell, if_neg (by omega)]))))))))
    (refine wpAnyH_take (i := 0) (oi := ?ho5) (v := ?hv5) ?hi5 (by kernel_rfl) (by kernel_rfl) (by kernel_rfl) ?hq5 ?hy5 (by assumption) ?hr5; (case hi5 => (simp only [List.getElem?_toArray, List.getElem?_cons_succ, List.getElem?_cons_zero]; first | done | rfl)); (case hq5 => exact fun _ _ _ h => h); (case hy5 => (refine Or.inl ⟨by rfl, ?_⟩; intro w hSw; (try dsimp only at hSw); go_simp; first | done | with_reducible rfl)); (try simp only [Act.put, List.setIfInBounds_toArray, List.set_cons_zero, List.set_cons_succ]))
    (refine wpAnyH_take (i := 1) (oi := ?ho6) (v := ?hv6) ?hi6 (by kernel_rfl) (by kernel_rfl) (by kernel_rfl) ?hq6 ?hy6 (by assumption) ?hr6; (case hi6 => (simp only [List.getElem?_toArray, List.getElem?_cons_succ, List.getElem?_cons_zero]; first | done | rfl)); (case hq6 => exact fun _ _ _ h => h); (case hy6 => (refine Or.inl ⟨by rfl, ?_⟩; intro w hSw; (try dsimp only at hSw); go_simp; first | done | with_reducible rfl)); (try simp only [Act.put, List.setIfInBounds_toArray, List.set_cons_zero, List.set_cons_succ]))
    (refine wpAnyH_take (i := 2) (oi := ?ho7) (v := ?hv7) ?hi7 (by kernel_rfl) (by kernel_rfl) (by kernel_rfl) ?hq7 ?hy7 (by assumption) ?hr7; (case hi7 => (simp only [List.getElem?_toArray, List.getElem?_cons_succ, List.getElem?_cons_zero]; first | done | rfl)); (case hq7 => exact fun _ _ _ h => h); (case hy7 => (refine Or.inl ⟨by rfl, ?_⟩; intro w hSw; (try dsimp only at hSw); go_simp; first | done | with_reducible rfl)); (try simp only [Act.put, List.setIfInBounds_toArray, List.set_cons_zero, List.set_cons_succ]))
    (refine wpAnyH_take (i := 3) (oi := ?ho8) (v := ?hv8) ?hi8 (by kernel_rfl) (by kernel_rfl) (by kernel_rfl) ?hq8 ?hy8 (by assumption) ?hr8; (case hi8 => (simp only [List.getElem?_toArray, List.getElem?_cons_succ, List.getElem?_cons_zero]; first | done | rfl)); (case hq8 => exact fun _ _ _ h => h); (case hy8 => (refine Or.inl ⟨by rfl, ?_⟩; intro w hSw; (try dsimp only at hSw); go_simp; first | done | with_reducible rfl)); (try simp only [Act.put, List.setIfInBounds_toArray, List.set_cons_zero, List.set_cons_succ]))
    (refine wpAnyH_take (i := 4) (oi := ?ho9) (v := ?hv9) ?hi9 (by kernel_rfl) (by kernel_rfl) (by kernel_rfl) ?hq9 ?hy9 (by assumption) ?hr9; (case hi9 => (simp only [List.getElem?_toArray, List.getElem?_cons_succ, List.getElem?_cons_zero]; first | done | rfl)); (case hq9 => exact fun _ _ _ h => h); (case hy9 => (refine Or.inl ⟨by rfl, ?_⟩; intro w hSw; (try dsimp only at hSw); go_simp; first | done | with_reducible rfl)); (try simp only [Act.put, List.setIfInBounds_toArray, List.set_cons_zero, List.set_cons_succ]))
    (refine wpAnyH_take (i := 5) (oi := ?ho10) (v := ?hv10) ?hi10 (by kernel_rfl) (by kernel_rfl) (by kernel_rfl) ?hq10 ?hy10 (by assumption) ?hr10; (case hi10 => (simp only [List.getElem?_toArray, List.getElem?_cons_succ, List.getElem?_cons_zero]; first | done | rfl)); (case hq10 => exact fun _ _ _ h => h); (case hy10 => (refine Or.inl ⟨by rfl, ?_⟩; intro w hSw; (try dsimp only at hSw); go_simp; first | done | with_reducible rfl)); (try simp only [Act.put, List.setIfInBounds_toArray, List.set_cons_zero, List.set_cons_succ]))
    (refine wpAnyH_ready (rs := [6]) (by decide +kernel) (by simp) ?_; refine AllReadyH.cons (o := ?ho22) ?hi22 (fun K hK => ?hr22) AllReadyH.nil; (case hi22 => (simp only [List.getElem?_toArray, List.getElem?_cons_succ, List.getElem?_cons_zero]; first | done | rfl)))
    (go_simp; go_at_call 74; refine viaDr (s_next B b _ _ hs6.drew (by omega)) ?_; intro t v9 ht9 hs9 hl9; (try simp at hl9); (try dsimp only at ht9); go_wp2_with fail)
    (refine hK.out _ _ ?_ (fun hHeld => ?_); focus ((try dsimp only); (first | (with_reducible exact ⟨cK, cJ⟩) | (refine ⟨fun o => ?_, fun o => ?_⟩; (focus (repeat (with_reducible first | exact cK o | exact hHeld.1 o | rw [drewC_cell] | (rw [aftD_cell, if_pos (by first | omega | (simp; omega))]) | (rw [alloc_cell, if_neg (by first | omega | (simp; omega))]) | (rw [set_cell, if_neg (by omega)])))); (focus (repeat (with_reducible first | exact cJ o | exact hHeld.2 o | rw [drewC_cell] | (rw [aftD_cell, if_pos (by first | omega | (simp; omega))]) | (rw [alloc_cell, if_neg (by first | omega | (simp; omega))]) | (rw [set_cell, if_neg (by omega)]))))))))
    (clear hK K; (try simp only [Act.put, List.setIfInBounds_toArray, List.set_cons_zero, List.set_cons_succ]))
    (refine wpAnyH_take (i := 7) (oi := ?ho11) (v := ?hv11) ?hi11 (by kernel_rfl) (by kernel_rfl) (by kernel_rfl) ?hq11 ?hy11 (by assumption) ?hr11; (case hi11 => (simp only [List.getElem?_toArray, List.getElem?_cons_succ, List.getElem?_cons_zero]; first | done | rfl)); (case hq11 => exact fun _ _ _ h => h); (case hy11 => (refine Or.inl ⟨by rfl, ?_⟩; intro w hSw; (try dsimp only at hSw); go_simp; first | done | with_reducible rfl)); (try simp only [Act.put, List.setIfInBounds_toArray, List.set_cons_zero, List.set_cons_succ]))
    (refine wpAnyH_take (i := 8) (oi := ?ho12) (v := ?hv12) ?hi12 (by kernel_rfl) (by kernel_rfl) (by kernel_rfl) ?hq12 ?hy12 (by assumption) ?hr12; (case hi12 => (simp only [List.getElem?_toArray, List.getElem?_cons_succ, List.getElem?_cons_zero]; first | done | rfl)); (case hq12 => exact fun _ _ _ h => h); (case hy12 => (refine Or.inl ⟨by rfl, ?_⟩; intro w hSw; (try dsimp only at hSw); go_simp; first | done | with_reducible rfl)); (try simp only [Act.put, List.setIfInBounds_toArray, List.set_cons_zero, List.set_cons_succ]))
    (refine wpAnyH_take (i := 9) (oi := ?ho13) (v := ?hv13) ?hi13 (by kernel_rfl) (by kernel_rfl) (by kernel_rfl) ?hq13 ?hy13 (by assumption) ?hr13; (case hi13 => (simp only [List.getElem?_toArray, List.getElem?_cons_succ, List.getElem?_cons_zero]; first | done | rfl)); (case hq13 => exact fun _ _ _ h => h); (case hy13 => (refine Or.inl ⟨by rfl, ?_⟩; intro w hSw; (try dsimp only at hSw); go_simp; first | done | with_reducible rfl)); (try simp only [Act.put, List.setIfInBounds_toArray, List.set_cons_zero, List.set_cons_succ]))
    (refine wpAnyH_ready (rs := [10]) (by decide +kernel) (by simp) ?_; refine AllReadyH.cons (o := ?ho23) ?hi23 (fun K hK => ?hr23) AllReadyH.nil; (case hi23 => (simp only [List.getElem?_toArray, List.getElem?_cons_succ, List.getElem?_cons_zero]; first | done | rfl)))
    (rw [if_pos (by rfl)]; go_wp2_with fail)
    (refine hK.out _ _ ?_ (fun hHeld => ?_); focus ((try dsimp only); (first | (with_reducible exact ⟨cK, cJ⟩) | (refine ⟨fun o => ?_, fun o => ?_⟩; (focus (repeat (with_reducible first | exact cK o | exact hHeld.1 o | rw [drewC_cell] | (rw [aftD_cell, if_pos (by first | omega | (simp; omega))]) | (rw [alloc_cell, if_neg (by first | omega | (simp; omega))]) | (rw [set_cell, if_neg (by omega)])))); (focus (repeat (with_reducible first | exact cJ o | exact hHeld.2 o | rw [drewC_cell] | (rw [aftD_cell, if_pos (by first | omega | (simp; omega))]) | (rw [alloc_cell, if_neg (by first | omega | (simp; omega))]) | (rw [set_cell, if_neg (by omega)]))))))))
    (clear hK K; (try simp only [Act.put, List.setIfInBounds_toArray, List.set_cons_zero, List.set_cons_succ]))
    (refine wpAnyH_ready (rs := [11]) (by decide +kernel) (by simp) ?_; refine AllReadyH.cons (o := ?ho24) ?hi24 (fun K hK => ?hr24) AllReadyH.nil; (case hi24 => (simp only [List.getElem?_toArray, List.getElem?_cons_succ, List.getElem?_cons_zero]; first | done | rfl)))
    (rw [if_pos (by rfl)]; go_wp2_with fail)
    (refine hK.out _ _ ?_ (fun hHeld => ?_); focus ((try dsimp only); (first | (with_reducible exact ⟨cK, cJ⟩) | (refine ⟨fun o => ?_, fun o => ?_⟩; (focus (repeat (with_reducible first | exact cK o | exact hHeld.1 o | rw [drewC_cell] | (rw [aftD_cell, if_pos (by first | omega | (simp; omega))]) | (rw [alloc_cell, if_neg (by first | omega | (simp; omega))]) | (rw [set_cell, if_neg (by omega)])))); (focus (repeat (with_reducible first | exact cJ o | exact hHeld.2 o | rw [drewC_cell] | (rw [aftD_cell, if_pos (by first | omega | (simp; omega))]) | (rw [alloc_cell, if_neg (by first | omega | (simp; omega))]) | (rw [set_cell, if_neg (by omega)]))))))))
    (clear hK K; (try simp only [Act.put, List.setIfInBounds_toArray, List.set_cons_zero, List.set_cons_succ]))
    (refine wpAnyH_done (by kernel_rfl) ?_ _)
    go_wp2_with fail
    exact bodyPost_ret (v := .tuple #[.agg #[Value.int IntKind.i64 q1, Value.int IntKind.i64 q2], .agg #[.int .i64 x1, .int .i64 (x2 + t - 1), .int .i64 0, .int .i64 0]]) (by simp [results, go_sem, ↓IntWalk.iteOmega, c1, c2]) rfl ⟨((q1, q2), ⟨x1, x2 + t - 1, 0, 0⟩), rfl, (by refine Ext.bel ?_; repeat (with_reducible first | exact hG.out | apply Ext.aftD | apply Ext.alloc | apply Ext.drew | apply Ext.setCell | exact Nat.le_refl _ | exact Nat.le_add_right _ _ | omega))⟩
  have hz' : (z == 0) = false := by simpa using hz
  go_wp2_with fail
  obtain ⟨W6, hW6⟩ : ∃ X, X = aftD b W5 v2 := ⟨_, rfl⟩
  have K1 : Cl W6 w.heap.size #[Value.int IntKind.i64 0, Value.int IntKind.i64 0] := by rw [hW6]; exact K1.aftD _ (by omega)
  have K2 : Cl W6 (w.heap.size + 1) #[Value.int IntKind.i64 0, Value.int IntKind.i64 0, Value.int IntKind.i64 0, Value.int IntKind.i64 0] := by rw [hW6]; exact K2.aftD _ (by omega)
  have K3 : Cl W6 k #[Value.int IntKind.i64 q1, Value.int IntKind.i64 q2] := by rw [hW6]; exact K3.aftD _ (by omega)
  have K5 : Cl W6 j #[Value.int IntKind.i64 x1, Value.int IntKind.i64 x2, Value.int IntKind.i64 x3, Value.int IntKind.i64 x4] := by rw [hW6]; exact K5.aftD _ (by omega)
  have hG : Hid (Ext w.heap.size w W6) := hid (by rw [hW6]; exact hG.out.aftD _ (by omega))
  rw [← hW6] at hs6 ⊢
  clear hW6 hlv2 hs5
  obtain ⟨c1, f1, l1⟩ := K1
  obtain ⟨c2, f2, l2⟩ := K2
  obtain ⟨cK, fK, lK⟩ := K3
  obtain ⟨cJ, fJ, lW⟩ := K5
  (refine wp_region_held_drew (S := (fun w' => (∀ o, w'.cell? ⟨k, o, none⟩ = #[Value.int IntKind.i64 q1, Value.int IntKind.i64 q2][o]?) ∧ ∀ o, w'.cell? ⟨j, o, none⟩ = #[Value.int IntKind.i64 x1, Value.int IntKind.i64 x2, Value.int IntKind.i64 x3, Value.int IntKind.i64 x4][o]?)) (by kernel_rfl) ?_ (fun hHeld => ?_); focus ((try dsimp only); (first | (with_reducible exact ⟨cK, cJ⟩) | (refine ⟨fun o => ?_, fun o => ?_⟩; (focus (repeat (with_reducible first | exact cK o | exact hHeld.1 o | rw [drewC_cell] | (rw [aftD_cell, if_pos (by first | omega | (simp; omega))]) | (rw [alloc_cell, if_neg (by first | omega | (simp; omega))]) | (rw [set_cell, if_neg (by omega)])))); (focus (repeat (with_reducible first | exact cJ o | exact hHeld.2 o | rw [drewC_cell] | (rw [aftD_cell, if_pos (by first | omega | (simp; omega))]) | (rw [alloc_cell, if_neg (by first | omega | (simp; omega))]) | (rw [set_cell, if_neg (by omega)]))))))))
  (refine wpAnyH_take (i := 0) (oi := ?ho14) (v := ?hv14) ?hi14 (by kernel_rfl) (by kernel_rfl) (by kernel_rfl) ?hq14 ?hy14 (by assumption) ?hr14; (case hi14 => (simp only [List.getElem?_toArray, List.getElem?_cons_succ, List.getElem?_cons_zero]; first | done | rfl)); (case hq14 => exact fun _ _ _ h => h); (case hy14 => (refine Or.inl ⟨by rfl, ?_⟩; intro w hSw; (try dsimp only at hSw); go_simp; first | done | with_reducible rfl)); (try simp only [Act.put, List.setIfInBounds_toArray, List.set_cons_zero, List.set_cons_succ]))
  (refine wpAnyH_take (i := 1) (oi := ?ho15) (v := ?hv15) ?hi15 (by kernel_rfl) (by kernel_rfl) (by kernel_rfl) ?hq15 ?hy15 (by assumption) ?hr15; (case hi15 => (simp only [List.getElem?_toArray, List.getElem?_cons_succ, List.getElem?_cons_zero]; first | done | rfl)); (case hq15 => exact fun _ _ _ h => h); (case hy15 => (refine Or.inl ⟨by rfl, ?_⟩; intro w hSw; (try dsimp only at hSw); go_simp; first | done | with_reducible rfl)); (try simp only [Act.put, List.setIfInBounds_toArray, List.set_cons_zero, List.set_cons_succ]))
  (refine wpAnyH_ready (rs := [2]) (by decide +kernel) (by simp) ?_; refine AllReadyH.cons (o := ?ho25) ?hi25 (fun K hK => ?hr25) AllReadyH.nil; (case hi25 => (simp only [List.getElem?_toArray, List.getElem?_cons_succ, List.getElem?_cons_zero]; first | done | rfl)))
  (rw [if_pos (by rfl)]; go_wp2_with fail)
  (refine hK.out _ _ ?_ (fun hHeld => ?_); focus ((try dsimp only); (first | (with_reducible exact ⟨cK, cJ⟩) | (refine ⟨fun o => ?_, fun o => ?_⟩; (focus (repeat (with_reducible first | exact cK o | exact hHeld.1 o | rw [drewC_cell] | (rw [aftD_cell, if_pos (by first | omega | (simp; omega))]) | (rw [alloc_cell, if_neg (by first | omega | (simp; omega))]) | (rw [set_cell, if_neg (by omega)])))); (focus (repeat (with_reducible first | exact cJ o | exact hHeld.2 o | rw [drewC_cell] | (rw [aftD_cell, if_pos (by first | omega | (simp; omega))]) | (rw [alloc_cell, if_neg (by first | omega | (simp; omega))]) | (rw [set_cell, if_neg (by omega)]))))))))
  (clear hK K; (try simp only [Act.put, List.setIfInBounds_toArray, List.set_cons_zero, List.set_cons_succ]))
  (refine wpAnyH_ready (rs := [3]) (by decide +kernel) (by simp) ?_; refine AllReadyH.cons (o := ?ho26) ?hi26 (fun K hK => ?hr26) AllReadyH.nil; (case hi26 => (simp only [List.getElem?_toArray, List.getElem?_cons_succ, List.getElem?_cons_zero]; first | done | rfl)))
  (rw [if_pos (by rfl)]; go_wp2_with fail)
  (refine hK.out _ _ ?_ (fun hHeld => ?_); focus ((try dsimp only); (first | (with_reducible exact ⟨cK, cJ⟩) | (refine ⟨fun o => ?_, fun o => ?_⟩; (focus (repeat (with_reducible first | exact cK o | exact hHeld.1 o | rw [drewC_cell] | (rw [aftD_cell, if_pos (by first | omega | (simp; omega))]) | (rw [alloc_cell, if_neg (by first | omega | (simp; omega))]) | (rw [set_cell, if_neg (by omega)])))); (focus (repeat (with_reducible first | exact cJ o | exact hHeld.2 o | rw [drewC_cell] | (rw [aftD_cell, if_pos (by first | omega | (simp; omega))]) | (rw [alloc_cell, if_neg (by first | omega | (simp; omega))]) | (rw [set_cell, if_neg (by omega)]))))))))
  (clear hK K; (try simp only [Act.put, List.setIfInBounds_toArray, List.set_cons_zero, List.set_cons_succ]))
  (refine wpAnyH_done (by kernel_rfl) ?_ _)
  go_wp2_with fail
  exact bodyPost_ret (v := .tuple #[.agg #[Value.int IntKind.i64 q1, Value.int IntKind.i64 q2], .agg #[Value.int IntKind.i64 x1, Value.int IntKind.i64 x2, Value.int IntKind.i64 x3, Value.int IntKind.i64 x4]]) (by simp [results, go_sem, ↓IntWalk.iteOmega, c1, c2]) rfl ⟨((q1, q2), ⟨x1, x2, x3, x4⟩), rfl, (by refine Ext.bel ?_; repeat (with_reducible first | exact hG.out | apply Ext.aftD | apply Ext.alloc | apply Ext.drew | apply Ext.setCell | exact Nat.le_refl _ | exact Nat.le_add_right _ _ | omega))⟩

set_option maxRecDepth 20000 in
set_option maxHeartbeats 4000000 in
theorem s_DrawFindRational (B : Nat) (a : Option Addr) (len cap : Nat) (w : World) (h : rdB B w a len) (hl : len ≤ 4096) (hB : B ≤ w.heap.size) :
    Calls Try.prog 42 #[.slice a len cap] w fun e w' => ∃ z : Pd, e = .returned (.agg #[.int .i64 z.p, .int .i64 z.v, .int .i64 z.u, .int .i64 z.n]) ∧ Below w.heap.size w w' := by
  go_enter Try.func42, Try.ntmps42
  go_wp2_with fail
  have K1 : Cl (w.alloc (Obj.cells #[Value.int IntKind.i64 0, Value.int IntKind.i64 0, Value.int IntKind.i64 0, Value.int IntKind.i64 0] 38)) w.heap.size #[Value.int IntKind.i64 0, Value.int IntKind.i64 0, Value.int IntKind.i64 0, Value.int IntKind.i64 0] := Cl.new w _ _
  have h1 : rdB B (w.alloc (Obj.cells #[Value.int IntKind.i64 0, Value.int IntKind.i64 0, Value.int IntKind.i64 0, Value.int IntKind.i64 0] 38)) a len := h.of fun j o v hj hv => by rw [alloc_cell, if_neg (by omega)]; exact hv
  refine viaF (s_from B a len cap _ h1 hl (by simp; omega)) ?_
  intro b u0 hs0 hb0 hl0 hl1
  (try simp at hb0 hl0)
  have K1 := K1.aft u0
  go_wp2_with fail
  refine viaV (α := (Int × Int) × Pd) (g := (fun z : (Int × Int) × Pd => .tuple #[.agg #[.int .i64 z.1.1, .int .i64 z.1.2], .agg #[.int .i64 z.2.p, .int .i64 z.2.v, .int .i64 z.2.u, .int .i64 z.2.n]])) (s_DrawDoAgree B a len cap _ (h1.below (below_aft _ _)) hl (by omega)) ?_
  intro z u1 hl2
  clear h1 h
  obtain ⟨⟨q1, q2⟩, ⟨x1, x2, x3, x4⟩⟩ := z
  dsimp only
  have hs1 := hs0.aft u1
  have K1 := K1.aft u1
  go_wp2_with fail
  obtain ⟨V, hV⟩ : ∃ V, V = aft (aft (w.alloc (Obj.cells #[Value.int IntKind.i64 0, Value.int IntKind.i64 0, Value.int IntKind.i64 0, Value.int IntKind.i64 0] 38)) u0) u1 := ⟨_, rfl⟩
  have hE : Hid (Ext w.heap.size w V) := hid (by rw [hV]; exact (((Ext.refl w).alloc _).aft _).aft _)
  have hBb := hs0.ge
  rw [← hV] at hs1 K1 ⊢
  clear hV hs0 hl0 hl1 hl2 hl
  have hbV := hs1.lt
  obtain ⟨k, hk⟩ : ∃ k, k = V.heap.size := ⟨_, rfl⟩
  obtain ⟨W1, hW1⟩ : ∃ W1, W1 = V.alloc (Obj.cells #[Value.int IntKind.i64 q1, Value.int IntKind.i64 q2] 57) := ⟨_, rfl⟩
  have K1 : Cl W1 w.heap.size #[Value.int IntKind.i64 0, Value.int IntKind.i64 0, Value.int IntKind.i64 0, Value.int IntKind.i64 0] := by rw [hW1]; exact K1.alloc _ _
  have hE : Hid (Ext w.heap.size w W1) := hid (by rw [hW1]; exact hE.out.alloc _)
  have hs1 : src B b W1 := by rw [hW1]; exact hs1.alloc _
  have l1 : W1.heap.size = k + 1 := by rw [hW1, hk]; simp
  obtain ⟨j, hj⟩ : ∃ j, j = k + 1 := ⟨_, rfl⟩
  rw [← hW1, ← hk]
  clear hW1
  obtain ⟨W2, hW2⟩ : ∃ W2, W2 = W1.alloc (Obj.cells #[Value.int IntKind.i64 x1, Value.int IntKind.i64 x2, Value.int IntKind.i64 x3, Value.int IntKind.i64 x4] 38) := ⟨_, rfl⟩
  have K5 : Cl W2 j #[Value.int IntKind.i64 x1, Value.int IntKind.i64 x2, Value.int IntKind.i64 x3, Value.int IntKind.i64 x4] := by rw [hW2, hj, ← l1]; exact Cl.new W1 _ _
  have K1 : Cl W2 w.heap.size #[Value.int IntKind.i64 0, Value.int IntKind.i64 0, Value.int IntKind.i64 0, Value.int IntKind.i64 0] := by rw [hW2]; exact K1.alloc _ _
  have hE : Hid (Ext w.heap.size w W2) := hid (by rw [hW2]; exact hE.out.alloc _)
  have hs2 : src B b W2 := by rw [hW2]; exact hs1.alloc _
  rw [← hW2, ← hj]
  have hbk : b < k := by omega
  have hb1 : w.heap.size < b := by omega
  have hkj : k < j := by omega
  clear hW2 hk hs1 hb0 hbV l1 hj
  obtain ⟨c1, f1, l1⟩ := id K1
  obtain ⟨c5, f5, l5⟩ := id K5
  refine via (s_IsPadic _ _ _ _ _) ?_
  intro u2 zu2
  (try simp at zu2)
  have K1 := K1.aft u2
  have K5 := K5.aft u2
  have hs3 := hs2.aft u2
  obtain ⟨W3, hW3⟩ : ∃ W3, W3 = aft W2 u2 := ⟨_, rfl⟩
  have hE : Hid (Ext w.heap.size w W3) := hid (by rw [hW3]; exact hE.out.aft _)
  rw [← hW3] at hs3 K1 K5 ⊢
  clear hW3 hs2 c1 f1 l1 c5 f5 l5 zu2
  obtain ⟨c1, f1, l1⟩ := id K1
  obtain ⟨c5, f5, l5⟩ := id K5
  cases hpb : padicB x1 x2 x3 x4
  · go_wp2_with fail
    exact bodyPost_ret (v := .agg #[Value.int IntKind.i64 x1, Value.int IntKind.i64 x2, Value.int IntKind.i64 x3, Value.int IntKind.i64 x4]) (by simp [results, go_sem, ↓IntWalk.iteOmega, c1]) rfl ⟨⟨x1, x2, x3, x4⟩, rfl, (by refine Ext.bel ?_; repeat (with_reducible first | exact hE.out | apply Ext.setCell | exact Nat.le_refl _ | omega))⟩
  go_wp2_with fail
  refine viaDr (s_next B b _ _ hs3 (by omega)) ?_
  intro y v1 hy hs4 hl4
  (try dsimp only at hy)
  by_cases hy0 : y = 0
  · subst hy0
    go_wp2_with fail
    refine viaDr (s_pickA B b _ _ _ [40, -40, 12] _ _ _ (by simp) rfl rfl hs4 (by decide) (by decide)) ?_
    intro z v2 hz hs5 hl5
    (try simp at hl5)
    clear hz
    have K1 := ((K1.aftD v1 (show w.heap.size ≠ b by omega)).alloc #[Value.int IntKind.i64 40, Value.int IntKind.i64 (-40), Value.int IntKind.i64 12] 2).aftD v2 (show w.heap.size ≠ b by omega)
    have K5 := ((K5.aftD v1 (show j ≠ b by omega)).alloc #[Value.int IntKind.i64 40, Value.int IntKind.i64 (-40), Value.int IntKind.i64 12] 2).aftD v2 (show j ≠ b by omega)
    obtain ⟨W4, hW4⟩ : ∃ W4, W4 = aftD b ((aftD b W3 v1).alloc (Obj.cells #[Value.int IntKind.i64 40, Value.int IntKind.i64 (-40), Value.int IntKind.i64 12] 2)) v2 := ⟨_, rfl⟩
    have hE : Hid (Ext w.heap.size w W4) := hid (by rw [hW4]; exact ((hE.out.aftD _ (by omega)).alloc _).aftD _ (by omega))
    rw [← hW4] at K1 K5 ⊢
    clear hW4 hs4 hs5 hl4 hl5 c1 f1 l1 c5 f5 l5
    obtain ⟨c1, f1, l1⟩ := K1
    obtain ⟨c5, f5, l5⟩ := K5
    go_wp2_with fail
    exact bodyPost_ret (v := .agg #[.int .i64 x1, .int .i64 z, .int .i64 x3, .int .i64 x4]) (by simp [results, go_sem, ↓IntWalk.iteOmega, c1, c5]) rfl ⟨⟨x1, z, x3, x4⟩, rfl, (by refine Ext.bel ?_; repeat (with_reducible first | exact hE.out | apply Ext.setCell | exact Nat.le_refl _ | omega))⟩
  have hy' : (y == 0) = false := by simpa using hy0
  have K1 := K1.aftD v1 (show w.heap.size ≠ b by omega)
  have K5 := K5.aftD v1 (show j ≠ b by omega)
  obtain ⟨W4, hW4⟩ : ∃ W4, W4 = aftD b W3 v1 := ⟨_, rfl⟩
  have hE : Hid (Ext w.heap.size w W4) := hid (by rw [hW4]; exact hE.out.aftD _ (by omega))
  rw [← hW4] at K1 K5 ⊢
  clear hW4 hs4 hl4 c1 f1 l1 c5 f5 l5
  obtain ⟨c1, f1, l1⟩ := K1
  obtain ⟨c5, f5, l5⟩ := K5
  go_wp2_with fail
  exact bodyPost_ret (v := .agg #[Value.int IntKind.i64 x1, Value.int IntKind.i64 x2, Value.int IntKind.i64 x3, Value.int IntKind.i64 x4]) (by simp [results, go_sem, ↓IntWalk.iteOmega, c1]) rfl ⟨⟨x1, x2, x3, x4⟩, rfl, (by refine Ext.bel ?_; repeat (with_reducible first | exact hE.out | apply Ext.setCell | exact Nat.le_refl _ | omega))⟩
end Go.Proofs.Ytehdkbopkkgabaa

