/- Draws for powers of residues. -/
import Derived.Test.YtcillfhkgckiaaaT29
namespace Go.Proofs.Ytcillfhkgckiaaa
open Go Go.RowKit

theorem l_big (a : Option Addr) (len cap : Nat) (w : World) :
    Calls Try.prog 9 #[.slice a len cap] w fun e w' => e = .returned (.bool (decide ((4096 : Int) < (len : Int)))) ∧ w = w' := by
  go_enter Try.func9, Try.ntmps9
  go_wp2_with fail
  go_ret
  exact ⟨rfl, rfl⟩
/-- A call of which the value is known up to what was drawn. -/
theorem viaV {P : Program} {f : FuncId} {args : Array Value} {w : World} {α : Type} {g : α → Value} {R : Ending → World → Prop}
    (h : Calls P f args w fun e w' => ∃ x, e = .returned (g x) ∧ Below w.heap.size w w') (hR : ∀ x u, w.heap.size ≤ (aft w u).heap.size → R (.returned (g x)) (aft w u)) : Calls P f args w R :=
  h.mono fun e w' ⟨x, he, hb⟩ => by subst he; obtain ⟨u, rfl⟩ := aft_ex hb; exact hR x u (size_aft w u)
theorem rdB.below {B : Nat} {w w' : World} {a : Option Addr} {len : Nat} (h : rdB B w a len) (k : Below w.heap.size w w') : rdB B w' a len :=
  h.of fun j o v _ hv => (k.cell (p := ⟨j, o, none⟩) (World.block_lt_of_cell? w _ hv)).trans hv
theorem rdB.ext {w W : World} {a : Option Addr} {len : Nat} (h : rdB w.heap.size w a len) (hE : Ext w.heap.size w W) : rdB w.heap.size W a len :=
  h.of fun k o v hk hv => (hE.1.cell (p := ⟨k, o, none⟩) hk).trans hv

set_option maxRecDepth 20000 in
set_option maxHeartbeats 4000000 in
theorem s_DrawInverseOf (B : Nat) (a : Option Addr) (len cap : Nat) (w : World) (h : rdB B w a len) (hl : len ≤ 4096) (hB : B ≤ w.heap.size) :
    Calls Try.prog 20 #[.slice a len cap] w fun e w' => ∃ z : (Int × Int) × Int, e = .returned ((fun z : (Int × Int) × Int => .tuple #[.agg #[.int .i64 z.1.1, .int .i64 z.1.2], .int .i64 z.2]) z) ∧ Below w.heap.size w w' := by
  go_enter Try.func20, Try.ntmps20
  go_wp2_with fail
  refine viaF (s_from B a len cap _ (h.of fun j o v hj hv => by rw [alloc_cell, if_neg (by omega)]; exact hv) hl (by simp; omega)) ?_
  intro b u0 hs0 hb0 hl0 hl1
  simp at hb0 hl0
  go_wp2_with fail
  refine viaDr (s_draw2 B b _ hs0) ?_
  intro x u1 hpr hs1 hl2
  clear hpr
  obtain ⟨p, n⟩ := x
  dsimp only
  go_wp2_with fail
  obtain ⟨V, hV⟩ : ∃ V, V = aftD b (aft (w.alloc (Obj.cells #[Value.int IntKind.i64 0, Value.int IntKind.i64 0] 26)) u0) u1 := ⟨_, rfl⟩
  have lV : w.heap.size + 1 ≤ V.heap.size := by rw [hV]; omega
  have hbV : b < V.heap.size := by rw [hV]; omega
  have hBb := hs0.ge
  have c1 : ∀ o, V.cell? ⟨w.heap.size, o, none⟩ = #[Value.int IntKind.i64 0, Value.int IntKind.i64 0][o]? := fun o => by rw [hV, aftD_cell, if_pos (by omega), aft_cell, if_pos (by simp), alloc_cell, if_pos rfl]
  have f1 : ∀ o, V.frozen? ⟨w.heap.size, o, none⟩ = false := fun o => by rw [hV, aftD_frozen, if_pos (by omega), aft_frozen, if_pos (by simp), alloc_frozen, if_pos rfl]
  have hE : Hid (Ext w.heap.size w V) := hid (by rw [hV]; exact (((Ext.refl w).alloc _).aft _).aftD _ (by omega))
  rw [← hV] at hs1 ⊢
  clear hV hs0 hl0 hl1 hl2 h hl
  obtain ⟨k, hk⟩ : ∃ k, k = V.heap.size := ⟨_, rfl⟩
  obtain ⟨W, hW⟩ : ∃ W, W = V.alloc (Obj.cells #[Value.int IntKind.i64 p, Value.int IntKind.i64 n] 26) := ⟨_, rfl⟩
  have c1 : ∀ o, W.cell? ⟨w.heap.size, o, none⟩ = #[Value.int IntKind.i64 0, Value.int IntKind.i64 0][o]? := fun o => by rw [hW, alloc_cell, if_neg (by omega)]; exact c1 o
  have f1 : ∀ o, W.frozen? ⟨w.heap.size, o, none⟩ = false := fun o => by rw [hW, alloc_frozen, if_neg (by omega)]; exact f1 o
  have hE1 : ∀ o, W.cell? ⟨k, o, none⟩ = #[Value.int IntKind.i64 p, Value.int IntKind.i64 n][o]? := fun o => by rw [hW, alloc_cell, if_pos hk]
  have hG : Hid (Ext w.heap.size w W) := hid (by rw [hW]; exact hE.out.alloc _)
  have hsW : src B b W := by rw [hW]; exact hs1.alloc _
  have lW : k < W.heap.size := by rw [hW]; simp; omega
  rw [← hW, ← hk]
  have hbk : b < k := by omega
  have hb1 : w.heap.size < b := by omega
  clear hW hk hs1 hE lV hbV hb0
  (refine wp_region_held_drew (S := (fun w' => ∀ o, w'.cell? ⟨k, o, none⟩ = #[Value.int IntKind.i64 p, Value.int IntKind.i64 n][o]?)) (by kernel_rfl) ?_ (fun hHeld => ?_); focus ((try dsimp only); (intro o; repeat (with_reducible first | exact hE1 o | exact hHeld o | rw [drewC_cell] | (rw [aftD_cell, if_pos (by first | omega | (simp; omega))]) | (rw [alloc_cell, if_neg (by first | omega | (simp; omega))]) | (rw [set_cell, if_neg (by omega)])))))
  (refine wpAnyH_take (i := 0) (oi := ?ho1) (v := ?hv1) ?hi1 (by kernel_rfl) (by kernel_rfl) (by kernel_rfl) ?hq1 ?hy1 (by assumption) ?hr1; (case hi1 => (simp only [List.getElem?_toArray, List.getElem?_cons_succ, List.getElem?_cons_zero]; first | done | rfl)); (case hq1 => exact fun _ _ _ h => h); (case hy1 => (refine Or.inl ⟨by rfl, ?_⟩; intro w hSw; (try dsimp only at hSw); go_simp; first | done | with_reducible rfl)); (try simp only [Act.put, List.setIfInBounds_toArray, List.set_cons_zero, List.set_cons_succ]))
  (refine wpAnyH_take (i := 1) (oi := ?ho2) (v := ?hv2) ?hi2 (by kernel_rfl) (by kernel_rfl) (by kernel_rfl) ?hq2 ?hy2 (by assumption) ?hr2; (case hi2 => (simp only [List.getElem?_toArray, List.getElem?_cons_succ, List.getElem?_cons_zero]; first | done | rfl)); (case hq2 => exact fun _ _ _ h => h); (case hy2 => (refine Or.inl ⟨by rfl, ?_⟩; intro w hSw; (try dsimp only at hSw); go_simp; first | done | with_reducible rfl)); (try simp only [Act.put, List.setIfInBounds_toArray, List.set_cons_zero, List.set_cons_succ]))
  (refine wpAnyH_take (i := 2) (oi := ?ho3) (v := ?hv3) ?hi3 (by kernel_rfl) (by kernel_rfl) (by kernel_rfl) ?hq3 ?hy3 (by assumption) ?hr3; (case hi3 => (simp only [List.getElem?_toArray, List.getElem?_cons_succ, List.getElem?_cons_zero]; first | done | rfl)); (case hq3 => exact fun _ _ _ h => h); (case hy3 => (refine Or.inl ⟨by rfl, ?_⟩; intro w hSw; (try dsimp only at hSw); go_simp; first | done | with_reducible rfl)); (try simp only [Act.put, List.setIfInBounds_toArray, List.set_cons_zero, List.set_cons_succ]))
  (refine wpAnyH_ready (rs := [3]) (by decide +kernel) (by simp) ?_; refine AllReadyH.cons (o := ?ho15) ?hi15 (fun K hK => ?hr15) AllReadyH.nil; (case hi15 => (simp only [List.getElem?_toArray, List.getElem?_cons_succ, List.getElem?_cons_zero]; first | done | rfl)))
  (go_simp; go_at_call 49; refine viaDr (s_residue B b p n _ hsW.drew) ?_; intro y v3 hy hs4 hl4; (try simp at hl4); clear hy; go_wp2_with fail)
  (refine hK.out _ _ ?_ (fun hHeld => ?_); focus ((try dsimp only); (intro o; repeat (with_reducible first | exact hE1 o | exact hHeld o | rw [drewC_cell] | (rw [aftD_cell, if_pos (by first | omega | (simp; omega))]) | (rw [alloc_cell, if_neg (by first | omega | (simp; omega))]) | (rw [set_cell, if_neg (by omega)])))))
  (clear hK K; (try simp only [Act.put, List.setIfInBounds_toArray, List.set_cons_zero, List.set_cons_succ]))
  (refine wpAnyH_ready (rs := [4]) (by decide +kernel) (by simp) ?_; refine AllReadyH.cons (o := ?ho16) ?hi16 (fun K hK => ?hr16) AllReadyH.nil; (case hi16 => (simp only [List.getElem?_toArray, List.getElem?_cons_succ, List.getElem?_cons_zero]; first | done | rfl)))
  (rw [if_pos (by rfl)]; go_wp2_with fail)
  (refine hK.out _ _ ?_ (fun hHeld => ?_); focus ((try dsimp only); (intro o; repeat (with_reducible first | exact hE1 o | exact hHeld o | rw [drewC_cell] | (rw [aftD_cell, if_pos (by first | omega | (simp; omega))]) | (rw [alloc_cell, if_neg (by first | omega | (simp; omega))]) | (rw [set_cell, if_neg (by omega)])))))
  (clear hK K; (try simp only [Act.put, List.setIfInBounds_toArray, List.set_cons_zero, List.set_cons_succ]))
  (refine wpAnyH_take (i := 5) (oi := ?ho4) (v := ?hv4) ?hi4 (by kernel_rfl) (by kernel_rfl) (by kernel_rfl) ?hq4 ?hy4 (by assumption) ?hr4; (case hi4 => (simp only [List.getElem?_toArray, List.getElem?_cons_succ, List.getElem?_cons_zero]; first | done | rfl)); (case hq4 => exact fun _ _ _ h => h); (case hy4 => (refine Or.inl ⟨by rfl, ?_⟩; intro w hSw; (try dsimp only at hSw); go_simp; first | done | with_reducible rfl)); (try simp only [Act.put, List.setIfInBounds_toArray, List.set_cons_zero, List.set_cons_succ]))
  (refine wpAnyH_done (by kernel_rfl) ?_ _)
  go_wp2_with fail
  exact bodyPost_ret (v := .tuple #[.agg #[Value.int IntKind.i64 p, Value.int IntKind.i64 n], .int .i64 y]) (by simp [results, go_sem, ↓IntWalk.iteOmega, c1]) rfl ⟨((p, n), y), rfl, (by refine Ext.bel ?_; repeat (with_reducible first | exact hG.out | apply Ext.aftD | apply Ext.alloc | apply Ext.drew | apply Ext.setCell | exact Nat.le_refl _ | omega))⟩

set_option maxRecDepth 20000 in
set_option maxHeartbeats 4000000 in
theorem s_DrawReduceTo (B : Nat) (a : Option Addr) (len cap : Nat) (w : World) (h : rdB B w a len) (hl : len ≤ 4096) (hB : B ≤ w.heap.size) :
    Calls Try.prog 16 #[.slice a len cap] w fun e w' => ∃ z : (Int × Int) × Int, e = .returned ((fun z : (Int × Int) × Int => .tuple #[.agg #[.int .i64 z.1.1, .int .i64 z.1.2], .int .i64 z.2]) z) ∧ Below w.heap.size w w' := by
  go_enter Try.func16, Try.ntmps16
  go_wp2_with fail
  refine viaF (s_from B a len cap _ (h.of fun j o v hj hv => by rw [alloc_cell, if_neg (by omega)]; exact hv) hl (by simp; omega)) ?_
  intro b u0 hs0 hb0 hl0 hl1
  simp at hb0 hl0
  go_wp2_with fail
  refine viaDr (s_draw2 B b _ hs0) ?_
  intro x u1 hpr hs1 hl2
  clear hpr
  obtain ⟨p, n⟩ := x
  dsimp only
  go_wp2_with fail
  obtain ⟨V, hV⟩ : ∃ V, V = aftD b (aft (w.alloc (Obj.cells #[Value.int IntKind.i64 0, Value.int IntKind.i64 0] 26)) u0) u1 := ⟨_, rfl⟩
  have lV : w.heap.size + 1 ≤ V.heap.size := by rw [hV]; omega
  have hbV : b < V.heap.size := by rw [hV]; omega
  have hBb := hs0.ge
  have c1 : ∀ o, V.cell? ⟨w.heap.size, o, none⟩ = #[Value.int IntKind.i64 0, Value.int IntKind.i64 0][o]? := fun o => by rw [hV, aftD_cell, if_pos (by omega), aft_cell, if_pos (by simp), alloc_cell, if_pos rfl]
  have f1 : ∀ o, V.frozen? ⟨w.heap.size, o, none⟩ = false := fun o => by rw [hV, aftD_frozen, if_pos (by omega), aft_frozen, if_pos (by simp), alloc_frozen, if_pos rfl]
  have hE : Hid (Ext w.heap.size w V) := hid (by rw [hV]; exact (((Ext.refl w).alloc _).aft _).aftD _ (by omega))
  rw [← hV] at hs1 ⊢
  clear hV hs0 hl0 hl1 hl2 h hl
  obtain ⟨k, hk⟩ : ∃ k, k = V.heap.size := ⟨_, rfl⟩
  obtain ⟨W, hW⟩ : ∃ W, W = V.alloc (Obj.cells #[Value.int IntKind.i64 p, Value.int IntKind.i64 n] 26) := ⟨_, rfl⟩
  have c1 : ∀ o, W.cell? ⟨w.heap.size, o, none⟩ = #[Value.int IntKind.i64 0, Value.int IntKind.i64 0][o]? := fun o => by rw [hW, alloc_cell, if_neg (by omega)]; exact c1 o
  have f1 : ∀ o, W.frozen? ⟨w.heap.size, o, none⟩ = false := fun o => by rw [hW, alloc_frozen, if_neg (by omega)]; exact f1 o
  have hE1 : ∀ o, W.cell? ⟨k, o, none⟩ = #[Value.int IntKind.i64 p, Value.int IntKind.i64 n][o]? := fun o => by rw [hW, alloc_cell, if_pos hk]
  have hG : Hid (Ext w.heap.size w W) := hid (by rw [hW]; exact hE.out.alloc _)
  have hsW : src B b W := by rw [hW]; exact hs1.alloc _
  have lW : k < W.heap.size := by rw [hW]; simp; omega
  rw [← hW, ← hk]
  have hbk : b < k := by omega
  have hb1 : w.heap.size < b := by omega
  clear hW hk hs1 hE lV hbV hb0
  (refine wp_region_held_drew (S := (fun w' => ∀ o, w'.cell? ⟨k, o, none⟩ = #[Value.int IntKind.i64 p, Value.int IntKind.i64 n][o]?)) (by kernel_rfl) ?_ (fun hHeld => ?_); focus ((try dsimp only); (intro o; repeat (with_reducible first | exact hE1 o | exact hHeld o | rw [drewC_cell] | (rw [aftD_cell, if_pos (by first | omega | (simp; omega))]) | (rw [alloc_cell, if_neg (by first | omega | (simp; omega))]) | (rw [set_cell, if_neg (by omega)])))))
  (refine wpAnyH_take (i := 0) (oi := ?ho5) (v := ?hv5) ?hi5 (by kernel_rfl) (by kernel_rfl) (by kernel_rfl) ?hq5 ?hy5 (by assumption) ?hr5; (case hi5 => (simp only [List.getElem?_toArray, List.getElem?_cons_succ, List.getElem?_cons_zero]; first | done | rfl)); (case hq5 => exact fun _ _ _ h => h); (case hy5 => (refine Or.inl ⟨by rfl, ?_⟩; intro w hSw; (try dsimp only at hSw); go_simp; first | done | with_reducible rfl)); (try simp only [Act.put, List.setIfInBounds_toArray, List.set_cons_zero, List.set_cons_succ]))
  (refine wpAnyH_take (i := 1) (oi := ?ho6) (v := ?hv6) ?hi6 (by kernel_rfl) (by kernel_rfl) (by kernel_rfl) ?hq6 ?hy6 (by assumption) ?hr6; (case hi6 => (simp only [List.getElem?_toArray, List.getElem?_cons_succ, List.getElem?_cons_zero]; first | done | rfl)); (case hq6 => exact fun _ _ _ h => h); (case hy6 => (refine Or.inl ⟨by rfl, ?_⟩; intro w hSw; (try dsimp only at hSw); go_simp; first | done | with_reducible rfl)); (try simp only [Act.put, List.setIfInBounds_toArray, List.set_cons_zero, List.set_cons_succ]))
  (refine wpAnyH_ready (rs := [2]) (by decide +kernel) (by simp) ?_; refine AllReadyH.cons (o := ?ho17) ?hi17 (fun K hK => ?hr17) AllReadyH.nil; (case hi17 => (simp only [List.getElem?_toArray, List.getElem?_cons_succ, List.getElem?_cons_zero]; first | done | rfl)))
  (go_simp; go_at_call 44; refine viaDr (s_drawValue B b _ hsW.drew) ?_; intro y v3 hy hs4 hl4; (try simp at hl4); clear hy; go_wp2_with fail)
  (refine hK.out _ _ ?_ (fun hHeld => ?_); focus ((try dsimp only); (intro o; repeat (with_reducible first | exact hE1 o | exact hHeld o | rw [drewC_cell] | (rw [aftD_cell, if_pos (by first | omega | (simp; omega))]) | (rw [alloc_cell, if_neg (by first | omega | (simp; omega))]) | (rw [set_cell, if_neg (by omega)])))))
  (clear hK K; (try simp only [Act.put, List.setIfInBounds_toArray, List.set_cons_zero, List.set_cons_succ]))
  (refine wpAnyH_ready (rs := [3]) (by decide +kernel) (by simp) ?_; refine AllReadyH.cons (o := ?ho18) ?hi18 (fun K hK => ?hr18) AllReadyH.nil; (case hi18 => (simp only [List.getElem?_toArray, List.getElem?_cons_succ, List.getElem?_cons_zero]; first | done | rfl)))
  (rw [if_pos (by rfl)]; go_wp2_with fail)
  (refine hK.out _ _ ?_ (fun hHeld => ?_); focus ((try dsimp only); (intro o; repeat (with_reducible first | exact hE1 o | exact hHeld o | rw [drewC_cell] | (rw [aftD_cell, if_pos (by first | omega | (simp; omega))]) | (rw [alloc_cell, if_neg (by first | omega | (simp; omega))]) | (rw [set_cell, if_neg (by omega)])))))
  (clear hK K; (try simp only [Act.put, List.setIfInBounds_toArray, List.set_cons_zero, List.set_cons_succ]))
  (refine wpAnyH_take (i := 4) (oi := ?ho7) (v := ?hv7) ?hi7 (by kernel_rfl) (by kernel_rfl) (by kernel_rfl) ?hq7 ?hy7 (by assumption) ?hr7; (case hi7 => (simp only [List.getElem?_toArray, List.getElem?_cons_succ, List.getElem?_cons_zero]; first | done | rfl)); (case hq7 => exact fun _ _ _ h => h); (case hy7 => (refine Or.inl ⟨by rfl, ?_⟩; intro w hSw; (try dsimp only at hSw); go_simp; first | done | with_reducible rfl)); (try simp only [Act.put, List.setIfInBounds_toArray, List.set_cons_zero, List.set_cons_succ]))
  (refine wpAnyH_done (by kernel_rfl) ?_ _)
  go_wp2_with fail
  exact bodyPost_ret (v := .tuple #[.agg #[Value.int IntKind.i64 p, Value.int IntKind.i64 n], .int .i64 y]) (by simp [results, go_sem, ↓IntWalk.iteOmega, c1]) rfl ⟨((p, n), y), rfl, (by refine Ext.bel ?_; repeat (with_reducible first | exact hG.out | apply Ext.aftD | apply Ext.alloc | apply Ext.drew | apply Ext.setCell | exact Nat.le_refl _ | omega))⟩

set_option maxHeartbeats 1000000 in
theorem s_DrawTeichmuellerOf (B : Nat) (a : Option Addr) (len cap : Nat) (w : World) (h : rdB B w a len) (hl : len ≤ 4096) (hB : B ≤ w.heap.size) :
    Calls Try.prog 13 #[.slice a len cap] w fun e w' => ∃ z : (Int × Int) × Int, e = .returned ((fun z : (Int × Int) × Int => .tuple #[.agg #[.int .i64 z.1.1, .int .i64 z.1.2], .int .i64 z.2]) z) ∧ Below w.heap.size w w' := by
  go_enter Try.func13, Try.ntmps13
  go_wp2_with fail
  refine viaV (α := (Int × Int) × Int) (g := (fun z : (Int × Int) × Int => .tuple #[.agg #[.int .i64 z.1.1, .int .i64 z.1.2], .int .i64 z.2])) (s_DrawInverseOf B a len cap _ (h.of fun j o v hj hv => by rw [alloc_cell, if_neg (by omega)]; exact hv) hl (by simp; omega)) ?_
  intro z u hz
  obtain ⟨⟨p, n⟩, x⟩ := z
  (try simp at hz)
  dsimp only
  go_wp2_with fail
  exact bodyPost_ret (v := .tuple #[.agg #[Value.int IntKind.i64 p, Value.int IntKind.i64 n], .int .i64 x]) (by first | (simp [results, go_sem]; done) | simp [results, go_sem, ↓IntWalk.iteOmega]) rfl ⟨((p, n), x), rfl, (by refine Ext.bel ?_; repeat (with_reducible first | exact Ext.refl _ | apply Ext.alloc | apply Ext.aft | apply Ext.drew | apply Ext.drewN | apply Ext.setCell | exact Nat.le_add_right _ _ | exact Nat.le_refl _ | (simp; done) | omega))⟩

set_option maxRecDepth 20000 in
set_option maxHeartbeats 4000000 in
theorem s_DrawPowerOf (B : Nat) (a : Option Addr) (len cap : Nat) (w : World) (h : rdB B w a len) (hl : len ≤ 4096) (hB : B ≤ w.heap.size) :
    Calls Try.prog 10 #[.slice a len cap] w fun e w' => ∃ z : (Int × Int) × Int × Int, e = .returned ((fun z : (Int × Int) × Int × Int => .tuple #[.agg #[.int .i64 z.1.1, .int .i64 z.1.2], .int .i64 z.2.1, .int .i64 z.2.2]) z) ∧ Below w.heap.size w w' := by
  have H := hid h
  go_enter Try.func10, Try.ntmps10
  go_wp2_with fail
  have h1 : rdB B (w.alloc (Obj.cells #[Value.int IntKind.i64 0, Value.int IntKind.i64 0] 26)) a len := h.of fun j o v hj hv => by rw [alloc_cell, if_neg (by omega)]; exact hv
  refine viaF (s_from B a len cap _ h1 hl (by simp; omega)) ?_
  intro b u0 hs0 hb0 hl0 hl1
  simp at hb0 hl0
  go_wp2_with fail
  refine viaV (α := (Int × Int) × Int) (g := (fun z : (Int × Int) × Int => .tuple #[.agg #[.int .i64 z.1.1, .int .i64 z.1.2], .int .i64 z.2])) (s_DrawInverseOf B a len cap _ (h1.below (below_aft _ _)) hl (by omega)) ?_
  intro z u1 hl2
  clear h1 h
  obtain ⟨⟨p, n⟩, x⟩ := z
  dsimp only
  have hs1 := hs0.aft u1
  go_wp2_with fail
  obtain ⟨V, hV⟩ : ∃ V, V = aft (aft (w.alloc (Obj.cells #[Value.int IntKind.i64 0, Value.int IntKind.i64 0] 26)) u0) u1 := ⟨_, rfl⟩
  have lV : w.heap.size + 1 ≤ V.heap.size := by rw [hV]; omega
  have hbV : b < V.heap.size := by rw [hV]; omega
  have hBb := hs0.ge
  have c1 : ∀ o, V.cell? ⟨w.heap.size, o, none⟩ = #[Value.int IntKind.i64 0, Value.int IntKind.i64 0][o]? := fun o => by rw [hV, aft_cell, if_pos (by omega), aft_cell, if_pos (by simp), alloc_cell, if_pos rfl]
  have f1 : ∀ o, V.frozen? ⟨w.heap.size, o, none⟩ = false := fun o => by rw [hV, aft_frozen, if_pos (by omega), aft_frozen, if_pos (by simp), alloc_frozen, if_pos rfl]
  have hE : Hid (Ext w.heap.size w V) := hid (by rw [hV]; exact (((Ext.refl w).alloc _).aft _).aft _)
  rw [← hV] at hs1 ⊢
  clear hV hs0 hl0 hl1 hl2 hl
  obtain ⟨k, hk⟩ : ∃ k, k = V.heap.size := ⟨_, rfl⟩
  obtain ⟨W, hW⟩ : ∃ W, W = V.alloc (Obj.cells #[Value.int IntKind.i64 p, Value.int IntKind.i64 n] 26) := ⟨_, rfl⟩
  have c1 : ∀ o, W.cell? ⟨w.heap.size, o, none⟩ = #[Value.int IntKind.i64 0, Value.int IntKind.i64 0][o]? := fun o => by rw [hW, alloc_cell, if_neg (by omega)]; exact c1 o
  have f1 : ∀ o, W.frozen? ⟨w.heap.size, o, none⟩ = false := fun o => by rw [hW, alloc_frozen, if_neg (by omega)]; exact f1 o
  have hE1 : ∀ o, W.cell? ⟨k, o, none⟩ = #[Value.int IntKind.i64 p, Value.int IntKind.i64 n][o]? := fun o => by rw [hW, alloc_cell, if_pos hk]
  have hG : Hid (Ext w.heap.size w W) := hid (by rw [hW]; exact hE.out.alloc _)
  have hsW : src B b W := by rw [hW]; exact hs1.alloc _
  have lW : k < W.heap.size := by rw [hW]; simp; omega
  rw [← hW, ← hk]
  have hbk : b < k := by omega
  have hb1 : w.heap.size < b := by omega
  clear hW hk hs1 hE lV hbV hb0
  (refine wp_region_held_drew (S := (fun w' => ∀ o, w'.cell? ⟨k, o, none⟩ = #[Value.int IntKind.i64 p, Value.int IntKind.i64 n][o]?)) (by kernel_rfl) ?_ (fun hHeld => ?_); focus ((try dsimp only); (intro o; repeat (with_reducible first | exact hE1 o | exact hHeld o | rw [drewC_cell] | (rw [aftD_cell, if_pos (by first | omega | (simp; omega))]) | (rw [alloc_cell, if_neg (by first | omega | (simp; omega))]) | (rw [set_cell, if_neg (by omega)])))))
  (refine wpAnyH_take (i := 0) (oi := ?ho8) (v := ?hv8) ?hi8 (by kernel_rfl) (by kernel_rfl) (by kernel_rfl) ?hq8 ?hy8 (by assumption) ?hr8; (case hi8 => (simp only [List.getElem?_toArray, List.getElem?_cons_succ, List.getElem?_cons_zero]; first | done | rfl)); (case hq8 => exact fun _ _ _ h => h); (case hy8 => (refine Or.inl ⟨by rfl, ?_⟩; intro w hSw; (try dsimp only at hSw); go_simp; first | done | with_reducible rfl)); (try simp only [Act.put, List.setIfInBounds_toArray, List.set_cons_zero, List.set_cons_succ]))
  (refine wpAnyH_take (i := 1) (oi := ?ho9) (v := ?hv9) ?hi9 (by kernel_rfl) (by kernel_rfl) (by kernel_rfl) ?hq9 ?hy9 (by assumption) ?hr9; (case hi9 => (simp only [List.getElem?_toArray, List.getElem?_cons_succ, List.getElem?_cons_zero]; first | done | rfl)); (case hq9 => exact fun _ _ _ h => h); (case hy9 => (refine Or.inl ⟨by rfl, ?_⟩; intro w hSw; (try dsimp only at hSw); go_simp; first | done | with_reducible rfl)); (try simp only [Act.put, List.setIfInBounds_toArray, List.set_cons_zero, List.set_cons_succ]))
  (refine wpAnyH_take (i := 2) (oi := ?ho10) (v := ?hv10) ?hi10 (by kernel_rfl) (by kernel_rfl) (by kernel_rfl) ?hq10 ?hy10 (by assumption) ?hr10; (case hi10 => (simp only [List.getElem?_toArray, List.getElem?_cons_succ, List.getElem?_cons_zero]; first | done | rfl)); (case hq10 => exact fun _ _ _ h => h); (case hy10 => (refine Or.inl ⟨by rfl, ?_⟩; intro w hSw; (try dsimp only at hSw); go_simp; first | done | with_reducible rfl)); (try simp only [Act.put, List.setIfInBounds_toArray, List.set_cons_zero, List.set_cons_succ]))
  (refine wpAnyH_take (i := 3) (oi := ?ho11) (v := ?hv11) ?hi11 (by kernel_rfl) (by kernel_rfl) (by kernel_rfl) ?hq11 ?hy11 (by assumption) ?hr11; (case hi11 => (simp only [List.getElem?_toArray, List.getElem?_cons_succ, List.getElem?_cons_zero]; first | done | rfl)); (case hq11 => exact fun _ _ _ h => h); (case hy11 => (refine Or.inl ⟨by rfl, ?_⟩; intro w hSw; (try dsimp only at hSw); go_simp; first | done | with_reducible rfl)); (try simp only [Act.put, List.setIfInBounds_toArray, List.set_cons_zero, List.set_cons_succ]))
  (refine wpAnyH_take (i := 5) (oi := ?ho12) (v := ?hv12) ?hi12 (by kernel_rfl) (by kernel_rfl) (by kernel_rfl) ?hq12 ?hy12 (by assumption) ?hr12; (case hi12 => (simp only [List.getElem?_toArray, List.getElem?_cons_succ, List.getElem?_cons_zero]; first | done | rfl)); (case hq12 => exact fun _ _ _ h => h); (case hy12 => (refine Or.inl ⟨by rfl, ?_⟩; intro w hSw; (try dsimp only at hSw); go_simp; first | done | with_reducible rfl)); (try simp only [Act.put, List.setIfInBounds_toArray, List.set_cons_zero, List.set_cons_succ]))
  (refine wpAnyH_ready (rs := [4]) (by decide +kernel) (by simp) ?_; refine AllReadyH.cons (o := ?ho19) ?hi19 (fun K hK => ?hr19) AllReadyH.nil; (case hi19 => (simp only [List.getElem?_toArray, List.getElem?_cons_succ, List.getElem?_cons_zero]; first | done | rfl)))
  (go_simp; go_at_call 34; refine viaDr (s_next B b _ _ hsW.drew (by omega)) ?_; intro y v3 hy hs4 hl4; (try simp at hl4); (try dsimp only at hy); go_wp2_with fail)
  (refine hK.out _ _ ?_ (fun hHeld => ?_); focus ((try dsimp only); (intro o; repeat (with_reducible first | exact hE1 o | exact hHeld o | rw [drewC_cell] | (rw [aftD_cell, if_pos (by first | omega | (simp; omega))]) | (rw [alloc_cell, if_neg (by first | omega | (simp; omega))]) | (rw [set_cell, if_neg (by omega)])))))
  (clear hK K; (try simp only [Act.put, List.setIfInBounds_toArray, List.set_cons_zero, List.set_cons_succ]))
  (refine wpAnyH_ready (rs := [6]) (by decide +kernel) (by simp) ?_; refine AllReadyH.cons (o := ?ho20) ?hi20 (fun K hK => ?hr20) AllReadyH.nil; (case hi20 => (simp only [List.getElem?_toArray, List.getElem?_cons_succ, List.getElem?_cons_zero]; first | done | rfl)))
  (go_simp; go_at_call 34; refine viaDr (s_next B b _ _ hs4 (by omega)) ?_; intro y2 v4 hy2 hs5 hl5; (try simp at hl5); (try dsimp only at hy2); go_wp2_with fail)
  (refine hK.out _ _ ?_ (fun hHeld => ?_); focus ((try dsimp only); (intro o; repeat (with_reducible first | exact hE1 o | exact hHeld o | rw [drewC_cell] | (rw [aftD_cell, if_pos (by first | omega | (simp; omega))]) | (rw [alloc_cell, if_neg (by first | omega | (simp; omega))]) | (rw [set_cell, if_neg (by omega)])))))
  (clear hK K; (try simp only [Act.put, List.setIfInBounds_toArray, List.set_cons_zero, List.set_cons_succ]))
  (refine wpAnyH_ready (rs := [7]) (by decide +kernel) (by simp) ?_; refine AllReadyH.cons (o := ?ho21) ?hi21 (fun K hK => ?hr21) AllReadyH.nil; (case hi21 => (simp only [List.getElem?_toArray, List.getElem?_cons_succ, List.getElem?_cons_zero]; first | done | rfl)))
  (rw [if_pos (by rfl)]; go_wp2_with fail)
  (refine hK.out _ _ ?_ (fun hHeld => ?_); focus ((try dsimp only); (intro o; repeat (with_reducible first | exact hE1 o | exact hHeld o | rw [drewC_cell] | (rw [aftD_cell, if_pos (by first | omega | (simp; omega))]) | (rw [alloc_cell, if_neg (by first | omega | (simp; omega))]) | (rw [set_cell, if_neg (by omega)])))))
  (clear hK K; (try simp only [Act.put, List.setIfInBounds_toArray, List.set_cons_zero, List.set_cons_succ]))
  (refine wpAnyH_ready (rs := [8]) (by decide +kernel) (by simp) ?_; refine AllReadyH.cons (o := ?ho22) ?hi22 (fun K hK => ?hr22) AllReadyH.nil; (case hi22 => (simp only [List.getElem?_toArray, List.getElem?_cons_succ, List.getElem?_cons_zero]; first | done | rfl)))
  (go_simp; go_at_call 33; refine viaDr (s_pickA B b _ _ _ [0, 1, 2, y, y2, 1000000000000, 1000000000001, -1] _ _ _ (by simp) rfl rfl hs5 (by decide) (by decide)) ?_; intro q v5 hq hs6 hl6; (try simp at hl6); clear hq; go_wp2_with fail)
  (refine hK.out _ _ ?_ (fun hHeld => ?_); focus ((try dsimp only); (intro o; repeat (with_reducible first | exact hE1 o | exact hHeld o | rw [drewC_cell] | (rw [aftD_cell, if_pos (by first | omega | (simp; omega))]) | (rw [alloc_cell, if_neg (by first | omega | (simp; omega))]) | (rw [set_cell, if_neg (by omega)])))))
  (clear hK K; (try simp only [Act.put, List.setIfInBounds_toArray, List.set_cons_zero, List.set_cons_succ]))
  (refine wpAnyH_ready (rs := [9]) (by decide +kernel) (by simp) ?_; refine AllReadyH.cons (o := ?ho23) ?hi23 (fun K hK => ?hr23) AllReadyH.nil; (case hi23 => (simp only [List.getElem?_toArray, List.getElem?_cons_succ, List.getElem?_cons_zero]; first | done | rfl)))
  (rw [if_pos (by rfl)]; go_wp2_with fail)
  (refine hK.out _ _ ?_ (fun hHeld => ?_); focus ((try dsimp only); (intro o; repeat (with_reducible first | exact hE1 o | exact hHeld o | rw [drewC_cell] | (rw [aftD_cell, if_pos (by first | omega | (simp; omega))]) | (rw [alloc_cell, if_neg (by first | omega | (simp; omega))]) | (rw [set_cell, if_neg (by omega)])))))
  (clear hK K; (try simp only [Act.put, List.setIfInBounds_toArray, List.set_cons_zero, List.set_cons_succ]))
  (refine wpAnyH_take (i := 10) (oi := ?ho13) (v := ?hv13) ?hi13 (by kernel_rfl) (by kernel_rfl) (by kernel_rfl) ?hq13 ?hy13 (by assumption) ?hr13; (case hi13 => (simp only [List.getElem?_toArray, List.getElem?_cons_succ, List.getElem?_cons_zero]; first | done | rfl)); (case hq13 => exact fun _ _ _ h => h); (case hy13 => (refine Or.inl ⟨by rfl, ?_⟩; intro w hSw; (try dsimp only at hSw); go_simp; first | done | with_reducible rfl)); (try simp only [Act.put, List.setIfInBounds_toArray, List.set_cons_zero, List.set_cons_succ]))
  (refine wpAnyH_take (i := 11) (oi := ?ho14) (v := ?hv14) ?hi14 (by kernel_rfl) (by kernel_rfl) (by kernel_rfl) ?hq14 ?hy14 (by assumption) ?hr14; (case hi14 => (simp only [List.getElem?_toArray, List.getElem?_cons_succ, List.getElem?_cons_zero]; first | done | rfl)); (case hq14 => exact fun _ _ _ h => h); (case hy14 => (refine Or.inl ⟨by rfl, ?_⟩; intro w hSw; (try dsimp only at hSw); go_simp; first | done | with_reducible rfl)); (try simp only [Act.put, List.setIfInBounds_toArray, List.set_cons_zero, List.set_cons_succ]))
  (refine wpAnyH_done (by kernel_rfl) ?_ _)
  go_wp2_with fail
  exact bodyPost_ret (v := .tuple #[.agg #[Value.int IntKind.i64 p, Value.int IntKind.i64 n], .int .i64 x, .int .i64 q]) (by simp [results, go_sem, ↓IntWalk.iteOmega, c1]) rfl ⟨((p, n), x, q), rfl, (by refine Ext.bel ?_; repeat (with_reducible first | exact hG.out | apply Ext.aftD | apply Ext.alloc | apply Ext.drew | apply Ext.setCell | exact Nat.le_refl _ | omega))⟩
end Go.Proofs.Ytcillfhkgckiaaa
