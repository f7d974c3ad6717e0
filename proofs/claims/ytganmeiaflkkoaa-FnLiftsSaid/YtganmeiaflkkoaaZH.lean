/- Draws for the law on lifts. (Printed by mkZH.py.) -/
import Derived.Test.YtganmeiaflkkoaaZG
namespace Go.Proofs.Ytganmeiaflkkoaa
open Go Go.RowKit

theorem heldD.atL {b R G g : Nat} {V w' : World} {cs : Array Value} {zs : List Int} {rf : Nat → Int} (h1 : G < V.heap.size) (h2 : G ≠ b) (h3 : G ≠ R) (hc : ∀ o, V.cell? ⟨G, o, none⟩ = cs[o]?)
    (hr : ∀ q, q < zs.length → V.cell? ⟨g, q, none⟩ = some (.int .i64 (rf q)) ∧ g < V.heap.size ∧ g ≠ b ∧ g ≠ R) (h : heldD b R V w') : (∀ o, w'.cell? ⟨G, o, none⟩ = cs[o]?) ∧ (∀ q, q < zs.length → w'.cell? ⟨g, q, none⟩ = some (.int .i64 (rf q))) ∧ V.heap.size ≤ w'.heap.size :=
  ⟨fun o => (h.1 G o h1 h2 h3).trans (hc o), fun q hq => by obtain ⟨q1, q2, q3, q4⟩ := hr q hq; exact (h.1 g q q2 q3 q4).trans q1, h.2⟩
set_option maxRecDepth 20000 in
set_option maxHeartbeats 8000000 in
theorem s_DrawSimpleRoots (B : Nat) (a : Option Addr) (len cap : Nat) (w : World) (h : rdB B w a len) (hl : len ≤ 4096) (hB : B ≤ w.heap.size) :
    Calls Try.prog 25 #[.slice a len cap] w fun e w' => ∃ (p n : Int) (s : Value) (xs : List Int), e = .returned (.tuple #[.agg #[.int .i64 p, .int .i64 n], s]) ∧ ownR w.heap.size w' s xs ∧ xs.length ≤ 11 ∧ Below w.heap.size w w' := by
  go_enter Try.func25, Try.ntmps25
  go_wp2_with fail
  refine viaF (s_from B a len cap _ (h.of fun j o v hj hv => by rw [alloc_cell, if_neg (by omega)]; exact hv) hl (by simp; omega)) ?_
  intro b u0 hs0 hb0 hl0 hl1
  simp at hb0 hl0
  go_wp2_with fail
  refine viaDX (s_draw11 B b _ hs0) ?_
  intro v u hv hs hl2
  obtain ⟨p, n, s, xs, rfl, own, hxl⟩ := hv
  obtain ⟨a5, c5, hsh, _, _⟩ := own.rd
  subst hsh
  have hres : resR w.heap.size (aftD b (aft (w.alloc (Obj.cells #[Value.int IntKind.i64 0, Value.int IntKind.i64 0] 25)) u0) u) := by
    intro j hj
    obtain rfl | rfl : j = 0 ∨ j = 1 := by omega
    all_goals (rw [aftD_frozen, aftD_cell, if_pos (by omega), if_pos (by omega), aft_cell, aft_frozen, if_pos (by simp), if_pos (by simp)]; simp [go_sem])
  have hE : Ext w.heap.size w (aftD b (aft (w.alloc (Obj.cells #[Value.int IntKind.i64 0, Value.int IntKind.i64 0] 25)) u0) u) := (((Ext.refl w).alloc _).aft _).aftD _ (by omega)
  obtain ⟨V, hV⟩ : ∃ V, V = aftD b (aft (w.alloc (Obj.cells #[Value.int IntKind.i64 0, Value.int IntKind.i64 0] 25)) u0) u := ⟨_, rfl⟩
  have own2 : ownR (w.heap.size + 1) V (.slice a5 xs.length c5) xs := by rw [hV]; exact own.mono (by omega)
  rw [← hV] at hres hE ⊢
  obtain ⟨e0, he0⟩ := Option.isSome_iff_exists.1 (hres 0 (by omega)).2
  obtain ⟨e1, he1⟩ := Option.isSome_iff_exists.1 (hres 1 (by omega)).2
  have hf0 := (hres 0 (by omega)).1
  have hf1 := (hres 1 (by omega)).1
  have HO := hid own2
  have HE := hid hE
  clear hV hs0 hs hres own own2 hE
  go_wp2_with fail
  exact bodyPost_ret (v := .tuple #[.agg #[Value.int IntKind.i64 p, Value.int IntKind.i64 n], .slice a5 xs.length c5]) (by first | (simp [results, go_sem, he0, he1]; done) | simp [results, go_sem, he0, he1, ↓IntWalk.iteOmega]) rfl ⟨p, n, _, xs, rfl, ((HO.out.setCell _ _ _ _ (by omega)).setCell _ _ _ _ (by omega)).mono (by omega), hxl, Ext.bel ((HE.out.setCell _ _ _ _ (by omega)).setCell _ _ _ _ (by omega))⟩

set_option maxRecDepth 20000 in
set_option maxHeartbeats 16000000 in
theorem s_DrawValueInRing (B : Nat) (a : Option Addr) (len cap : Nat) (w : World) (h : rdB B w a len) (hl : len ≤ 4096) (hB : B ≤ w.heap.size) :
    Calls Try.prog 65 #[.slice a len cap] w fun e w' => ∃ (p n : Int) (s : Value) (xs : List Int) (x : Int), e = .returned (.tuple #[.agg #[.int .i64 p, .int .i64 n], s, .int .i64 x]) ∧ ownR w.heap.size w' s xs ∧ xs.length ≤ 11 ∧ Below w.heap.size w w' := by
  go_enter Try.func65, Try.ntmps65
  go_wp2_with fail
  refine viaF (s_from B a len cap _ (h.of fun j o v hj hv => by rw [alloc_cell, if_neg (by omega)]; exact hv) hl (by simp; omega)) ?_
  intro b u0 hs0 hb0 hl0 hl1
  simp at hb0 hl0
  go_wp2_with fail
  refine viaDX (s_draw11 B b _ hs0) ?_
  intro v u hv hs hl2
  obtain ⟨p, n, s, xs, rfl, own, hxl⟩ := hv
  obtain ⟨a5, c5, hsh, _, _⟩ := own.rd
  subst hsh
  have HXL := hid hxl
  clear hxl
  go_wp2_with fail
  obtain ⟨V, hV⟩ : ∃ V, V = aftD b (aft (w.alloc (Obj.cells #[Value.int IntKind.i64 0, Value.int IntKind.i64 0] 25)) u0) u := ⟨_, rfl⟩
  obtain ⟨K, hK⟩ : ∃ K, K = V.heap.size := ⟨_, rfl⟩
  have hres : resR w.heap.size V := by
    intro j hj
    obtain rfl | rfl : j = 0 ∨ j = 1 := by omega
    all_goals (rw [hV, aftD_frozen, aftD_cell, if_pos (by omega), if_pos (by omega), aft_cell, aft_frozen, if_pos (by simp), if_pos (by simp)]; simp [go_sem])
  have hE : Ext w.heap.size w V := by rw [hV]; exact (((Ext.refl w).alloc _).aft _).aftD _ (by omega)
  have own2 : ownR (b + 1) V (.slice a5 xs.length c5) xs := by rw [hV]; exact own.mono (by omega)
  rw [← hV] at hs hl2 ⊢
  have hbK : b < K := by omega
  clear hV own
  obtain ⟨X, hX⟩ : ∃ X, X = V.alloc (Obj.cells #[Value.int IntKind.i64 p, Value.int IntKind.i64 n] 25) := ⟨_, rfl⟩
  have hST9 : stL B b p n K w X := by
    refine ⟨by rw [hX]; exact hE.alloc _, by rw [hX]; exact hs.alloc _, fun o => by rw [hX, alloc_cell, if_pos hK], fun k hk => ?_, by omega, hbK, by rw [hX, hK]; simp⟩
    rw [hX, alloc_frozen, alloc_cell, if_neg (by omega), if_neg (by omega)]
    exact hres k hk
  have own3 : ownR (b + 1) X (.slice a5 xs.length c5) xs := by rw [hX]; exact own2.alloc _
  rw [← hX, ← hK]
  have hwb : w.heap.size < b := by omega
  clear hX hK hs hres hE hl2 hl1 hl0 hs0 own2 hb0
  have hKb : K ≠ b := by omega
  have hKR : K ≠ w.heap.size := by omega
  have HST := hid hST9
  have HF := hid own3
  clear hST9 own3
  obtain ⟨e0, he0, e1, he1, hf0, hf1, gX, hKX⟩ : ∃ e0, X.cell? ⟨w.heap.size, 0, none⟩ = some e0 ∧ ∃ e1, X.cell? ⟨w.heap.size, 1, none⟩ = some e1 ∧ X.frozen? ⟨w.heap.size, 0, none⟩ = false ∧ X.frozen? ⟨w.heap.size, 1, none⟩ = false ∧ (∀ o, X.cell? ⟨K, o, none⟩ = #[Value.int .i64 p, .int .i64 n][o]?) ∧ K < X.heap.size := by obtain ⟨q1, q2⟩ := HST.out.res 0 (by omega); obtain ⟨q3, q4⟩ := HST.out.res 1 (by omega); obtain ⟨e0, h0⟩ := Option.isSome_iff_exists.1 q2; obtain ⟨e1, h1⟩ := Option.isSome_iff_exists.1 q4; exact ⟨e0, h0, e1, h1, q1, q3, HST.out.ring, HST.out.kx⟩
  have g0 := gX 0
  have g1 := gX 1
  simp at g0 g1
  have HS := hid HST.out.srcw
  (refine wp_region_held_drew (S := (fun w' => (∀ o, w'.cell? ⟨K, o, none⟩ = #[Value.int .i64 p, .int .i64 n][o]?) ∧ X.heap.size ≤ w'.heap.size)) (by kernel_rfl) ?_ (fun hHeld => ?_); focus ((try dsimp only); ((with_reducible first | refine heldD.at (b := b) (R := w.heap.size) hKX hKb hKR gX ?_ | refine heldD.atL (b := b) (R := w.heap.size) hKX hKb hKR gX rX ?_); (repeat (with_reducible first | exact heldD.refl _ _ _ | apply heldD.drew | apply heldD.aftD | apply heldD.aft | apply heldD.alloc | apply heldD.set)))))
  (refine wpAnyH_take (i := 0) (oi := ?ho1) (v := ?hv1) ?hi1 (by kernel_rfl) (by kernel_rfl) (by kernel_rfl) ?hq1 ?hy1 (by assumption) ?hr1; (case hi1 => (simp only [List.getElem?_toArray, List.getElem?_cons_succ, List.getElem?_cons_zero]; first | done | rfl)); (case hq1 => exact fun _ _ _ h => h); (case hy1 => (refine Or.inl ⟨by rfl, ?_⟩; intro w hSw; (try dsimp only at hSw); go_simp; first | done | with_reducible rfl)); (try simp only [Act.put, List.setIfInBounds_toArray, List.set_cons_zero, List.set_cons_succ]))
  (refine wpAnyH_take (i := 1) (oi := ?ho2) (v := ?hv2) ?hi2 (by kernel_rfl) (by kernel_rfl) (by kernel_rfl) ?hq2 ?hy2 (by assumption) ?hr2; (case hi2 => (simp only [List.getElem?_toArray, List.getElem?_cons_succ, List.getElem?_cons_zero]; first | done | rfl)); (case hq2 => exact fun _ _ _ h => h); (case hy2 => (refine Or.inl ⟨by rfl, ?_⟩; intro w hSw; (try dsimp only at hSw); go_simp; first | done | with_reducible rfl)); (try simp only [Act.put, List.setIfInBounds_toArray, List.set_cons_zero, List.set_cons_succ]))
  (refine wpAnyH_take (i := 2) (oi := ?ho3) (v := ?hv3) ?hi3 (by kernel_rfl) (by kernel_rfl) (by kernel_rfl) ?hq3 ?hy3 (by assumption) ?hr3; (case hi3 => (simp only [List.getElem?_toArray, List.getElem?_cons_succ, List.getElem?_cons_zero]; first | done | rfl)); (case hq3 => exact fun _ _ _ h => h); (case hy3 => (refine Or.inl ⟨by rfl, ?_⟩; intro w hSw; (try dsimp only at hSw); go_simp; first | done | with_reducible rfl)); (try simp only [Act.put, List.setIfInBounds_toArray, List.set_cons_zero, List.set_cons_succ]))
  (refine wpAnyH_take (i := 3) (oi := ?ho4) (v := ?hv4) ?hi4 (by kernel_rfl) (by kernel_rfl) (by kernel_rfl) ?hq4 ?hy4 (by assumption) ?hr4; (case hi4 => (simp only [List.getElem?_toArray, List.getElem?_cons_succ, List.getElem?_cons_zero]; first | done | rfl)); (case hq4 => exact fun _ _ _ h => h); (case hy4 => (refine Or.inl ⟨by rfl, ?_⟩; intro w hSw; (try dsimp only at hSw); go_simp; first | done | with_reducible rfl)); (try simp only [Act.put, List.setIfInBounds_toArray, List.set_cons_zero, List.set_cons_succ]))
  (refine wpAnyH_ready (rs := [4]) (by decide +kernel) (by simp) ?_; refine AllReadyH.cons (o := ?ho55) ?hi55 (fun K hK => ?hr55) AllReadyH.nil; (case hi55 => (simp only [List.getElem?_toArray, List.getElem?_cons_succ, List.getElem?_cons_zero]; first | done | rfl)))
  (go_simp; go_at_call 88; refine viaDr (s_residue B b p n _ HS.out.drew) ?_; intro x9 u9 hx9 hs9 hl9; clear hx9; (try simp at hl9); go_wp2_with fail)
  (refine hK.out _ _ ?_ (fun hHeld => ?_); focus ((try dsimp only); ((with_reducible first | refine heldD.at (b := b) (R := w.heap.size) hKX hKb hKR gX ?_ | refine heldD.atL (b := b) (R := w.heap.size) hKX hKb hKR gX rX ?_); (repeat (with_reducible first | exact heldD.refl _ _ _ | apply heldD.drew | apply heldD.aftD | apply heldD.aft | apply heldD.alloc | apply heldD.set)))))
  (clear hK K; (try simp only [Act.put, List.setIfInBounds_toArray, List.set_cons_zero, List.set_cons_succ]))
  (refine wpAnyH_ready (rs := [5]) (by decide +kernel) (by simp) ?_; refine AllReadyH.cons (o := ?ho56) ?hi56 (fun K hK => ?hr56) AllReadyH.nil; (case hi56 => (simp only [List.getElem?_toArray, List.getElem?_cons_succ, List.getElem?_cons_zero]; first | done | rfl)))
  (rw [if_pos (by rfl)]; go_wp2_with fail)
  (refine hK.out _ _ ?_ (fun hHeld => ?_); focus ((try dsimp only); ((with_reducible first | refine heldD.at (b := b) (R := w.heap.size) hKX hKb hKR gX ?_ | refine heldD.atL (b := b) (R := w.heap.size) hKX hKb hKR gX rX ?_); (repeat (with_reducible first | exact heldD.refl _ _ _ | apply heldD.drew | apply heldD.aftD | apply heldD.aft | apply heldD.alloc | apply heldD.set)))))
  (clear hK K; (try simp only [Act.put, List.setIfInBounds_toArray, List.set_cons_zero, List.set_cons_succ]))
  (refine wpAnyH_take (i := 6) (oi := ?ho5) (v := ?hv5) ?hi5 (by kernel_rfl) (by kernel_rfl) (by kernel_rfl) ?hq5 ?hy5 (by assumption) ?hr5; (case hi5 => (simp only [List.getElem?_toArray, List.getElem?_cons_succ, List.getElem?_cons_zero]; first | done | rfl)); (case hq5 => exact fun _ _ _ h => h); (case hy5 => (refine Or.inl ⟨by rfl, ?_⟩; intro w hSw; (try dsimp only at hSw); go_simp; first | done | with_reducible rfl)); (try simp only [Act.put, List.setIfInBounds_toArray, List.set_cons_zero, List.set_cons_succ]))
  (refine wpAnyH_take (i := 7) (oi := ?ho6) (v := ?hv6) ?hi6 (by kernel_rfl) (by kernel_rfl) (by kernel_rfl) ?hq6 ?hy6 (by assumption) ?hr6; (case hi6 => (simp only [List.getElem?_toArray, List.getElem?_cons_succ, List.getElem?_cons_zero]; first | done | rfl)); (case hq6 => exact fun _ _ _ h => h); (case hy6 => (refine Or.inl ⟨by rfl, ?_⟩; intro w hSw; (try dsimp only at hSw); go_simp; first | done | with_reducible rfl)); (try simp only [Act.put, List.setIfInBounds_toArray, List.set_cons_zero, List.set_cons_succ]))
  (refine wpAnyH_done (by kernel_rfl) ?_ _)
  go_wp2_with fail
  exact bodyPost_ret (v := .tuple #[.agg #[Value.int IntKind.i64 p, Value.int IntKind.i64 n], .slice a5 xs.length c5, .int .i64 x9]) (by first | (simp [results, go_sem, he0, he1]; done) | simp [results, go_sem, he0, he1, ↓IntWalk.iteOmega]) rfl ⟨p, n, _, xs, _, rfl, ownR.mono (show ownR (b + 1) _ _ _ from (by repeat (with_reducible first | exact HF.out | apply ownR.drew | apply ownR.aft | (refine ownR.aftD ?_ _ (by omega)) | apply ownR.alloc | (refine ownR.setCell ?_ _ _ _ _ (by omega))))) (by omega), HXL.out, (Ext.bel (by repeat (with_reducible first | exact HST.out.ext | apply Ext.drew | apply Ext.alloc | apply Ext.aft | (refine Ext.aftD ?_ _ (by omega)) | (refine Ext.setCell ?_ _ _ _ _ (by omega)))))⟩
theorem viaVal {P : Program} {f : FuncId} {args : Array Value} {w : World} {R : Ending → World → Prop}
    (h : Calls P f args w fun e w' => ∃ (p n : Int) (s : Value) (xs : List Int) (x : Int), e = .returned (.tuple #[.agg #[.int .i64 p, .int .i64 n], s, .int .i64 x]) ∧ ownR w.heap.size w' s xs ∧ xs.length ≤ 11 ∧ Below w.heap.size w w')
    (hR : ∀ p n s xs x u, w.heap.size ≤ (aft w u).heap.size → ownR w.heap.size (aft w u) s xs → xs.length ≤ 11 → R (.returned (.tuple #[.agg #[.int .i64 p, .int .i64 n], s, .int .i64 x])) (aft w u)) : Calls P f args w R :=
  h.mono fun e w' ⟨p, n, s, xs, x, he, h1, h2, hb⟩ => by subst he; obtain ⟨u, rfl⟩ := aft_ex hb; exact hR p n s xs x u (size_aft w u) h1 h2
set_option maxRecDepth 20000 in
set_option maxHeartbeats 16000000 in
theorem s_DrawNewtonStep (B : Nat) (a : Option Addr) (len cap : Nat) (w : World) (h : rdB B w a len) (hl : len ≤ 4096) (hB : B ≤ w.heap.size) :
    Calls Try.prog 28 #[.slice a len cap] w fun e w' => ∃ (p n : Int) (s : Value) (xs : List Int) (x : Int), e = .returned (.tuple #[.agg #[.int .i64 p, .int .i64 n], s, .int .i64 x]) ∧ ownR w.heap.size w' s xs ∧ xs.length ≤ 11 ∧ Below w.heap.size w w' := by
  go_enter Try.func28, Try.ntmps28
  go_wp2_with fail
  refine viaVal (s_DrawValueInRing B a len cap _ (h.of fun j o v hj hv => by rw [alloc_cell, if_neg (by omega)]; exact hv) hl (by simp; omega)) ?_
  intro p n s xs x u hl2 own hxl
  obtain ⟨a5, c5, hsh, _, _⟩ := own.rd
  subst hsh
  simp at hl2
  have HXL := hid hxl
  have HO := hid own
  have hw1 : w.heap.size < (w.alloc (Obj.cells #[Value.int IntKind.i64 0, Value.int IntKind.i64 0] 25)).heap.size := by simp
  clear hxl own
  go_wp2_with fail
  exact bodyPost_ret (v := .tuple #[.agg #[Value.int IntKind.i64 p, Value.int IntKind.i64 n], .slice a5 xs.length c5, .int .i64 x]) (by first | (simp [results, go_sem]; done) | simp [results, go_sem, ↓IntWalk.iteOmega]) rfl ⟨p, n, _, xs, _, rfl, ((HO.out.setCell _ _ _ _ hw1).setCell _ _ _ _ hw1).mono (by omega), HXL.out, (by refine Ext.bel ?_; repeat (with_reducible first | exact Ext.refl _ | apply Ext.alloc | apply Ext.aft | apply Ext.drew | apply Ext.drewN | apply Ext.setCell | exact Nat.le_add_right _ _ | exact Nat.le_refl _ | (simp; done) | omega))⟩
set_option maxRecDepth 20000 in
set_option maxHeartbeats 16000000 in
theorem s_DrawLiftRoot (B : Nat) (a : Option Addr) (len cap : Nat) (w : World) (h : rdB B w a len) (hl : len ≤ 4096) (hB : B ≤ w.heap.size) :
    Calls Try.prog 22 #[.slice a len cap] w fun e w' => ∃ (p n : Int) (s : Value) (xs : List Int) (x : Int), e = .returned (.tuple #[.agg #[.int .i64 p, .int .i64 n], s, .int .i64 x]) ∧ ownR w.heap.size w' s xs ∧ xs.length ≤ 11 ∧ Below w.heap.size w w' := by
  go_enter Try.func22, Try.ntmps22
  go_wp2_with fail
  refine viaF (s_from B a len cap _ (h.of fun j o v hj hv => by rw [alloc_cell, if_neg (by omega)]; exact hv) hl (by simp; omega)) ?_
  intro b u0 hs0 hb0 hl0 hl1
  simp at hb0 hl0
  go_wp2_with fail
  refine viaDX (s_draw11 B b _ hs0) ?_
  intro v u hv hs hl2
  obtain ⟨p, n, s, xs, rfl, own, hxl⟩ := hv
  obtain ⟨a5, c5, hsh, _, _⟩ := own.rd
  subst hsh
  have HXL := hid hxl
  clear hxl
  go_wp2_with fail
  obtain ⟨V, hV⟩ : ∃ V, V = aftD b (aft (w.alloc (Obj.cells #[Value.int IntKind.i64 0, Value.int IntKind.i64 0] 25)) u0) u := ⟨_, rfl⟩
  obtain ⟨K, hK⟩ : ∃ K, K = V.heap.size := ⟨_, rfl⟩
  have hres : resR w.heap.size V := by
    intro j hj
    obtain rfl | rfl : j = 0 ∨ j = 1 := by omega
    all_goals (rw [hV, aftD_frozen, aftD_cell, if_pos (by omega), if_pos (by omega), aft_cell, aft_frozen, if_pos (by simp), if_pos (by simp)]; simp [go_sem])
  have hE : Ext w.heap.size w V := by rw [hV]; exact (((Ext.refl w).alloc _).aft _).aftD _ (by omega)
  have own2 : ownR (b + 1) V (.slice a5 xs.length c5) xs := by rw [hV]; exact own.mono (by omega)
  rw [← hV] at hs hl2 ⊢
  have hbK : b < K := by omega
  clear hV own
  obtain ⟨X, hX⟩ : ∃ X, X = V.alloc (Obj.cells #[Value.int IntKind.i64 p, Value.int IntKind.i64 n] 25) := ⟨_, rfl⟩
  have hST9 : stL B b p n K w X := by
    refine ⟨by rw [hX]; exact hE.alloc _, by rw [hX]; exact hs.alloc _, fun o => by rw [hX, alloc_cell, if_pos hK], fun k hk => ?_, by omega, hbK, by rw [hX, hK]; simp⟩
    rw [hX, alloc_frozen, alloc_cell, if_neg (by omega), if_neg (by omega)]
    exact hres k hk
  have own3 : ownR (b + 1) X (.slice a5 xs.length c5) xs := by rw [hX]; exact own2.alloc _
  rw [← hX, ← hK]
  have hwb : w.heap.size < b := by omega
  clear hX hK hs hres hE hl2 hl1 hl0 hs0 own2 hb0
  have hKb : K ≠ b := by omega
  have hKR : K ≠ w.heap.size := by omega
  have HST := hid hST9
  have HF := hid own3
  clear hST9 own3
  cases hr : ringB p n
  · go_wp2_with fail
    refine via (s_IsRing _ _ _) ?_
    intro uu zz
    try simp at zz
    obtain ⟨X9, hX9⟩ : ∃ Y, Y = aft X uu := ⟨_, rfl⟩
    have hST9 : stL B b p n K w X9 := by rw [hX9]; exact HST.out.next ((Gr.refl b _).aft _) (HST.out.srcw.aft _)
    have own9 : ownR (b + 1) X9 (.slice a5 xs.length c5) xs := by rw [hX9]; exact (by repeat (with_reducible first | exact HF.out | apply ownR.drew | apply ownR.aft | (refine ownR.aftD ?_ _ (by omega)) | apply ownR.alloc | (refine ownR.setCell ?_ _ _ _ _ (by omega))))
    rw [← hX9]
    clear hX9 HST HF zz
    obtain ⟨X, hX9⟩ : ∃ X, X = X9 := ⟨_, rfl⟩
    rw [← hX9] at hST9 own9 ⊢
    clear hX9
    have HST := hid hST9
    have HF := hid own9
    clear hST9 own9
    obtain ⟨e0, he0, e1, he1, hf0, hf1, gX, hKX⟩ : ∃ e0, X.cell? ⟨w.heap.size, 0, none⟩ = some e0 ∧ ∃ e1, X.cell? ⟨w.heap.size, 1, none⟩ = some e1 ∧ X.frozen? ⟨w.heap.size, 0, none⟩ = false ∧ X.frozen? ⟨w.heap.size, 1, none⟩ = false ∧ (∀ o, X.cell? ⟨K, o, none⟩ = #[Value.int .i64 p, .int .i64 n][o]?) ∧ K < X.heap.size := by obtain ⟨q1, q2⟩ := HST.out.res 0 (by omega); obtain ⟨q3, q4⟩ := HST.out.res 1 (by omega); obtain ⟨e0, h0⟩ := Option.isSome_iff_exists.1 q2; obtain ⟨e1, h1⟩ := Option.isSome_iff_exists.1 q4; exact ⟨e0, h0, e1, h1, q1, q3, HST.out.ring, HST.out.kx⟩
    have g0 := gX 0
    have g1 := gX 1
    simp at g0 g1
    have HS := hid HST.out.srcw
    go_wp2_with fail
    (refine wp_region_held_drew (S := (fun w' => (∀ o, w'.cell? ⟨K, o, none⟩ = #[Value.int .i64 p, .int .i64 n][o]?) ∧ X.heap.size ≤ w'.heap.size)) (by kernel_rfl) ?_ (fun hHeld => ?_); focus ((try dsimp only); ((with_reducible first | refine heldD.at (b := b) (R := w.heap.size) hKX hKb hKR gX ?_ | refine heldD.atL (b := b) (R := w.heap.size) hKX hKb hKR gX rX ?_); (repeat (with_reducible first | exact heldD.refl _ _ _ | apply heldD.drew | apply heldD.aftD | apply heldD.aft | apply heldD.alloc | apply heldD.set)))))
    (refine wpAnyH_take (i := 0) (oi := ?ho7) (v := ?hv7) ?hi7 (by kernel_rfl) (by kernel_rfl) (by kernel_rfl) ?hq7 ?hy7 (by assumption) ?hr7; (case hi7 => (simp only [List.getElem?_toArray, List.getElem?_cons_succ, List.getElem?_cons_zero]; first | done | rfl)); (case hq7 => exact fun _ _ _ h => h); (case hy7 => (refine Or.inl ⟨by rfl, ?_⟩; intro w hSw; (try dsimp only at hSw); go_simp; first | done | with_reducible rfl)); (try simp only [Act.put, List.setIfInBounds_toArray, List.set_cons_zero, List.set_cons_succ]))
    (refine wpAnyH_take (i := 1) (oi := ?ho8) (v := ?hv8) ?hi8 (by kernel_rfl) (by kernel_rfl) (by kernel_rfl) ?hq8 ?hy8 (by assumption) ?hr8; (case hi8 => (simp only [List.getElem?_toArray, List.getElem?_cons_succ, List.getElem?_cons_zero]; first | done | rfl)); (case hq8 => exact fun _ _ _ h => h); (case hy8 => (refine Or.inl ⟨by rfl, ?_⟩; intro w hSw; (try dsimp only at hSw); go_simp; first | done | with_reducible rfl)); (try simp only [Act.put, List.setIfInBounds_toArray, List.set_cons_zero, List.set_cons_succ]))
    (refine wpAnyH_take (i := 2) (oi := ?ho9) (v := ?hv9) ?hi9 (by kernel_rfl) (by kernel_rfl) (by kernel_rfl) ?hq9 ?hy9 (by assumption) ?hr9; (case hi9 => (simp only [List.getElem?_toArray, List.getElem?_cons_succ, List.getElem?_cons_zero]; first | done | rfl)); (case hq9 => exact fun _ _ _ h => h); (case hy9 => (refine Or.inl ⟨by rfl, ?_⟩; intro w hSw; (try dsimp only at hSw); go_simp; first | done | with_reducible rfl)); (try simp only [Act.put, List.setIfInBounds_toArray, List.set_cons_zero, List.set_cons_succ]))
    (refine wpAnyH_take (i := 3) (oi := ?ho10) (v := ?hv10) ?hi10 (by kernel_rfl) (by kernel_rfl) (by kernel_rfl) ?hq10 ?hy10 (by assumption) ?hr10; (case hi10 => (simp only [List.getElem?_toArray, List.getElem?_cons_succ, List.getElem?_cons_zero]; first | done | rfl)); (case hq10 => exact fun _ _ _ h => h); (case hy10 => (refine Or.inl ⟨by rfl, ?_⟩; intro w hSw; (try dsimp only at hSw); go_simp; first | done | with_reducible rfl)); (try simp only [Act.put, List.setIfInBounds_toArray, List.set_cons_zero, List.set_cons_succ]))
    (refine wpAnyH_take (i := 5) (oi := ?ho11) (v := ?hv11) ?hi11 (by kernel_rfl) (by kernel_rfl) (by kernel_rfl) ?hq11 ?hy11 (by assumption) ?hr11; (case hi11 => (simp only [List.getElem?_toArray, List.getElem?_cons_succ, List.getElem?_cons_zero]; first | done | rfl)); (case hq11 => exact fun _ _ _ h => h); (case hy11 => (refine Or.inl ⟨by rfl, ?_⟩; intro w hSw; (try dsimp only at hSw); go_simp; first | done | with_reducible rfl)); (try simp only [Act.put, List.setIfInBounds_toArray, List.set_cons_zero, List.set_cons_succ]))
    (refine wpAnyH_take (i := 6) (oi := ?ho12) (v := ?hv12) ?hi12 (by kernel_rfl) (by kernel_rfl) (by kernel_rfl) ?hq12 ?hy12 (by assumption) ?hr12; (case hi12 => (simp only [List.getElem?_toArray, List.getElem?_cons_succ, List.getElem?_cons_zero]; first | done | rfl)); (case hq12 => exact fun _ _ _ h => h); (case hy12 => (refine Or.inl ⟨by rfl, ?_⟩; intro w hSw; (try dsimp only at hSw); go_simp; first | done | with_reducible rfl)); (try simp only [Act.put, List.setIfInBounds_toArray, List.set_cons_zero, List.set_cons_succ]))
    (refine wpAnyH_ready (rs := [4]) (by decide +kernel) (by simp) ?_; refine AllReadyH.cons (o := ?ho57) ?hi57 (fun K hK => ?hr57) AllReadyH.nil; (case hi57 => (simp only [List.getElem?_toArray, List.getElem?_cons_succ, List.getElem?_cons_zero]; first | done | rfl)))
    (go_simp; go_at_call 33; refine viaDr (s_next B b _ _ HS.out.drew (by omega)) ?_; intro d5 u5 hd5 hs5 hl5; (try dsimp only at hd5); (try simp at hl5); go_wp2_with fail)
    (refine hK.out _ _ ?_ (fun hHeld => ?_); focus ((try dsimp only); ((with_reducible first | refine heldD.at (b := b) (R := w.heap.size) hKX hKb hKR gX ?_ | refine heldD.atL (b := b) (R := w.heap.size) hKX hKb hKR gX rX ?_); (repeat (with_reducible first | exact heldD.refl _ _ _ | apply heldD.drew | apply heldD.aftD | apply heldD.aft | apply heldD.alloc | apply heldD.set)))))
    (clear hK K; (try simp only [Act.put, List.setIfInBounds_toArray, List.set_cons_zero, List.set_cons_succ]))
    (refine wpAnyH_ready (rs := [7]) (by decide +kernel) (by simp) ?_; refine AllReadyH.cons (o := ?ho58) ?hi58 (fun K hK => ?hr58) AllReadyH.nil; (case hi58 => (simp only [List.getElem?_toArray, List.getElem?_cons_succ, List.getElem?_cons_zero]; first | done | rfl)))
    (rw [if_pos (by rfl)]; go_wp2_with fail)
    (refine hK.out _ _ ?_ (fun hHeld => ?_); focus ((try dsimp only); ((with_reducible first | refine heldD.at (b := b) (R := w.heap.size) hKX hKb hKR gX ?_ | refine heldD.atL (b := b) (R := w.heap.size) hKX hKb hKR gX rX ?_); (repeat (with_reducible first | exact heldD.refl _ _ _ | apply heldD.drew | apply heldD.aftD | apply heldD.aft | apply heldD.alloc | apply heldD.set)))))
    (clear hK K; (try simp only [Act.put, List.setIfInBounds_toArray, List.set_cons_zero, List.set_cons_succ]))
    (refine wpAnyH_ready (rs := [8]) (by decide +kernel) (by simp) ?_; refine AllReadyH.cons (o := ?ho59) ?hi59 (fun K hK => ?hr59) AllReadyH.nil; (case hi59 => (simp only [List.getElem?_toArray, List.getElem?_cons_succ, List.getElem?_cons_zero]; first | done | rfl)))
    (go_simp; go_at_call 60; refine viaDr (s_pickA B b _ _ _ [d5, p, -1] _ _ _ (by first | rfl | simp) rfl rfl hs5 (by decide) (by decide)) ?_; intro x9 u9 hx9 hs9 hl9; clear hx9; (try simp at hl9); go_wp2_with fail)
    (refine hK.out _ _ ?_ (fun hHeld => ?_); focus ((try dsimp only); ((with_reducible first | refine heldD.at (b := b) (R := w.heap.size) hKX hKb hKR gX ?_ | refine heldD.atL (b := b) (R := w.heap.size) hKX hKb hKR gX rX ?_); (repeat (with_reducible first | exact heldD.refl _ _ _ | apply heldD.drew | apply heldD.aftD | apply heldD.aft | apply heldD.alloc | apply heldD.set)))))
    (clear hK K; (try simp only [Act.put, List.setIfInBounds_toArray, List.set_cons_zero, List.set_cons_succ]))
    (refine wpAnyH_ready (rs := [9]) (by decide +kernel) (by simp) ?_; refine AllReadyH.cons (o := ?ho60) ?hi60 (fun K hK => ?hr60) AllReadyH.nil; (case hi60 => (simp only [List.getElem?_toArray, List.getElem?_cons_succ, List.getElem?_cons_zero]; first | done | rfl)))
    (rw [if_pos (by rfl)]; go_wp2_with fail)
    (refine hK.out _ _ ?_ (fun hHeld => ?_); focus ((try dsimp only); ((with_reducible first | refine heldD.at (b := b) (R := w.heap.size) hKX hKb hKR gX ?_ | refine heldD.atL (b := b) (R := w.heap.size) hKX hKb hKR gX rX ?_); (repeat (with_reducible first | exact heldD.refl _ _ _ | apply heldD.drew | apply heldD.aftD | apply heldD.aft | apply heldD.alloc | apply heldD.set)))))
    (clear hK K; (try simp only [Act.put, List.setIfInBounds_toArray, List.set_cons_zero, List.set_cons_succ]))
    (refine wpAnyH_take (i := 10) (oi := ?ho13) (v := ?hv13) ?hi13 (by kernel_rfl) (by kernel_rfl) (by kernel_rfl) ?hq13 ?hy13 (by assumption) ?hr13; (case hi13 => (simp only [List.getElem?_toArray, List.getElem?_cons_succ, List.getElem?_cons_zero]; first | done | rfl)); (case hq13 => exact fun _ _ _ h => h); (case hy13 => (refine Or.inl ⟨by rfl, ?_⟩; intro w hSw; (try dsimp only at hSw); go_simp; first | done | with_reducible rfl)); (try simp only [Act.put, List.setIfInBounds_toArray, List.set_cons_zero, List.set_cons_succ]))
    (refine wpAnyH_take (i := 11) (oi := ?ho14) (v := ?hv14) ?hi14 (by kernel_rfl) (by kernel_rfl) (by kernel_rfl) ?hq14 ?hy14 (by assumption) ?hr14; (case hi14 => (simp only [List.getElem?_toArray, List.getElem?_cons_succ, List.getElem?_cons_zero]; first | done | rfl)); (case hq14 => exact fun _ _ _ h => h); (case hy14 => (refine Or.inl ⟨by rfl, ?_⟩; intro w hSw; (try dsimp only at hSw); go_simp; first | done | with_reducible rfl)); (try simp only [Act.put, List.setIfInBounds_toArray, List.set_cons_zero, List.set_cons_succ]))
    (refine wpAnyH_done (by kernel_rfl) ?_ _)
    go_wp2_with fail
    exact bodyPost_ret (v := .tuple #[.agg #[Value.int IntKind.i64 p, Value.int IntKind.i64 n], .slice a5 xs.length c5, .int .i64 x9]) (by first | (simp [results, go_sem, he0, he1]; done) | simp [results, go_sem, he0, he1, ↓IntWalk.iteOmega]) rfl ⟨p, n, _, xs, _, rfl, ownR.mono (show ownR (b + 1) _ _ _ from (by repeat (with_reducible first | exact HF.out | apply ownR.drew | apply ownR.aft | (refine ownR.aftD ?_ _ (by omega)) | apply ownR.alloc | (refine ownR.setCell ?_ _ _ _ _ (by omega))))) (by omega), HXL.out, (Ext.bel (by repeat (with_reducible first | exact HST.out.ext | apply Ext.drew | apply Ext.alloc | apply Ext.aft | (refine Ext.aftD ?_ _ (by omega)) | (refine Ext.setCell ?_ _ _ _ _ (by omega)))))⟩
  · obtain ⟨e0, he0, e1, he1, hf0, hf1, gX, hKX⟩ : ∃ e0, X.cell? ⟨w.heap.size, 0, none⟩ = some e0 ∧ ∃ e1, X.cell? ⟨w.heap.size, 1, none⟩ = some e1 ∧ X.frozen? ⟨w.heap.size, 0, none⟩ = false ∧ X.frozen? ⟨w.heap.size, 1, none⟩ = false ∧ (∀ o, X.cell? ⟨K, o, none⟩ = #[Value.int .i64 p, .int .i64 n][o]?) ∧ K < X.heap.size := by obtain ⟨q1, q2⟩ := HST.out.res 0 (by omega); obtain ⟨q3, q4⟩ := HST.out.res 1 (by omega); obtain ⟨e0, h0⟩ := Option.isSome_iff_exists.1 q2; obtain ⟨e1, h1⟩ := Option.isSome_iff_exists.1 q4; exact ⟨e0, h0, e1, h1, q1, q3, HST.out.ring, HST.out.kx⟩
    have g0 := gX 0
    have g1 := gX 1
    simp at g0 g1
    have HS := hid HST.out.srcw
    go_wp2_with fail
    refine via (s_IsRing _ _ _) ?_
    intro uu zz
    try simp at zz
    obtain ⟨X9, hX9⟩ : ∃ Y, Y = aft X uu := ⟨_, rfl⟩
    have hST9 : stL B b p n K w X9 := by rw [hX9]; exact HST.out.next ((Gr.refl b _).aft _) (HST.out.srcw.aft _)
    have own9 : ownR (b + 1) X9 (.slice a5 xs.length c5) xs := by rw [hX9]; exact (by repeat (with_reducible first | exact HF.out | apply ownR.drew | apply ownR.aft | (refine ownR.aftD ?_ _ (by omega)) | apply ownR.alloc | (refine ownR.setCell ?_ _ _ _ _ (by omega))))
    rw [← hX9]
    clear hX9 HST HF zz
    obtain ⟨X, hX9⟩ : ∃ X, X = X9 := ⟨_, rfl⟩
    rw [← hX9] at hST9 own9 ⊢
    clear hX9
    have HST := hid hST9
    have HF := hid own9
    clear hST9 own9
    clear he0 he1 hf0 hf1 gX g0 g1 hKX HS
    obtain ⟨r1, r2, r3, r4, _, _, _⟩ := ring_facts2 hr
    cases hpo : polyB xs
    · go_wp2_with (go_at_call 53; refine pur (s_IsPolynomial _ xs _ HF.out.rd) ?_)
      obtain ⟨e0, he0, e1, he1, hf0, hf1, gX, hKX⟩ : ∃ e0, X.cell? ⟨w.heap.size, 0, none⟩ = some e0 ∧ ∃ e1, X.cell? ⟨w.heap.size, 1, none⟩ = some e1 ∧ X.frozen? ⟨w.heap.size, 0, none⟩ = false ∧ X.frozen? ⟨w.heap.size, 1, none⟩ = false ∧ (∀ o, X.cell? ⟨K, o, none⟩ = #[Value.int .i64 p, .int .i64 n][o]?) ∧ K < X.heap.size := by obtain ⟨q1, q2⟩ := HST.out.res 0 (by omega); obtain ⟨q3, q4⟩ := HST.out.res 1 (by omega); obtain ⟨e0, h0⟩ := Option.isSome_iff_exists.1 q2; obtain ⟨e1, h1⟩ := Option.isSome_iff_exists.1 q4; exact ⟨e0, h0, e1, h1, q1, q3, HST.out.ring, HST.out.kx⟩
      have g0 := gX 0
      have g1 := gX 1
      simp at g0 g1
      have HS := hid HST.out.srcw
      go_wp2_with fail
      (refine wp_region_held_drew (S := (fun w' => (∀ o, w'.cell? ⟨K, o, none⟩ = #[Value.int .i64 p, .int .i64 n][o]?) ∧ X.heap.size ≤ w'.heap.size)) (by kernel_rfl) ?_ (fun hHeld => ?_); focus ((try dsimp only); ((with_reducible first | refine heldD.at (b := b) (R := w.heap.size) hKX hKb hKR gX ?_ | refine heldD.atL (b := b) (R := w.heap.size) hKX hKb hKR gX rX ?_); (repeat (with_reducible first | exact heldD.refl _ _ _ | apply heldD.drew | apply heldD.aftD | apply heldD.aft | apply heldD.alloc | apply heldD.set)))))
      (refine wpAnyH_take (i := 0) (oi := ?ho15) (v := ?hv15) ?hi15 (by kernel_rfl) (by kernel_rfl) (by kernel_rfl) ?hq15 ?hy15 (by assumption) ?hr15; (case hi15 => (simp only [List.getElem?_toArray, List.getElem?_cons_succ, List.getElem?_cons_zero]; first | done | rfl)); (case hq15 => exact fun _ _ _ h => h); (case hy15 => (refine Or.inl ⟨by rfl, ?_⟩; intro w hSw; (try dsimp only at hSw); go_simp; first | done | with_reducible rfl)); (try simp only [Act.put, List.setIfInBounds_toArray, List.set_cons_zero, List.set_cons_succ]))
      (refine wpAnyH_take (i := 1) (oi := ?ho16) (v := ?hv16) ?hi16 (by kernel_rfl) (by kernel_rfl) (by kernel_rfl) ?hq16 ?hy16 (by assumption) ?hr16; (case hi16 => (simp only [List.getElem?_toArray, List.getElem?_cons_succ, List.getElem?_cons_zero]; first | done | rfl)); (case hq16 => exact fun _ _ _ h => h); (case hy16 => (refine Or.inl ⟨by rfl, ?_⟩; intro w hSw; (try dsimp only at hSw); go_simp; first | done | with_reducible rfl)); (try simp only [Act.put, List.setIfInBounds_toArray, List.set_cons_zero, List.set_cons_succ]))
      (refine wpAnyH_take (i := 2) (oi := ?ho17) (v := ?hv17) ?hi17 (by kernel_rfl) (by kernel_rfl) (by kernel_rfl) ?hq17 ?hy17 (by assumption) ?hr17; (case hi17 => (simp only [List.getElem?_toArray, List.getElem?_cons_succ, List.getElem?_cons_zero]; first | done | rfl)); (case hq17 => exact fun _ _ _ h => h); (case hy17 => (refine Or.inl ⟨by rfl, ?_⟩; intro w hSw; (try dsimp only at hSw); go_simp; first | done | with_reducible rfl)); (try simp only [Act.put, List.setIfInBounds_toArray, List.set_cons_zero, List.set_cons_succ]))
      (refine wpAnyH_take (i := 3) (oi := ?ho18) (v := ?hv18) ?hi18 (by kernel_rfl) (by kernel_rfl) (by kernel_rfl) ?hq18 ?hy18 (by assumption) ?hr18; (case hi18 => (simp only [List.getElem?_toArray, List.getElem?_cons_succ, List.getElem?_cons_zero]; first | done | rfl)); (case hq18 => exact fun _ _ _ h => h); (case hy18 => (refine Or.inl ⟨by rfl, ?_⟩; intro w hSw; (try dsimp only at hSw); go_simp; first | done | with_reducible rfl)); (try simp only [Act.put, List.setIfInBounds_toArray, List.set_cons_zero, List.set_cons_succ]))
      (refine wpAnyH_take (i := 5) (oi := ?ho19) (v := ?hv19) ?hi19 (by kernel_rfl) (by kernel_rfl) (by kernel_rfl) ?hq19 ?hy19 (by assumption) ?hr19; (case hi19 => (simp only [List.getElem?_toArray, List.getElem?_cons_succ, List.getElem?_cons_zero]; first | done | rfl)); (case hq19 => exact fun _ _ _ h => h); (case hy19 => (refine Or.inl ⟨by rfl, ?_⟩; intro w hSw; (try dsimp only at hSw); go_simp; first | done | with_reducible rfl)); (try simp only [Act.put, List.setIfInBounds_toArray, List.set_cons_zero, List.set_cons_succ]))
      (refine wpAnyH_take (i := 6) (oi := ?ho20) (v := ?hv20) ?hi20 (by kernel_rfl) (by kernel_rfl) (by kernel_rfl) ?hq20 ?hy20 (by assumption) ?hr20; (case hi20 => (simp only [List.getElem?_toArray, List.getElem?_cons_succ, List.getElem?_cons_zero]; first | done | rfl)); (case hq20 => exact fun _ _ _ h => h); (case hy20 => (refine Or.inl ⟨by rfl, ?_⟩; intro w hSw; (try dsimp only at hSw); go_simp; first | done | with_reducible rfl)); (try simp only [Act.put, List.setIfInBounds_toArray, List.set_cons_zero, List.set_cons_succ]))
      (refine wpAnyH_ready (rs := [4]) (by decide +kernel) (by simp) ?_; refine AllReadyH.cons (o := ?ho61) ?hi61 (fun K hK => ?hr61) AllReadyH.nil; (case hi61 => (simp only [List.getElem?_toArray, List.getElem?_cons_succ, List.getElem?_cons_zero]; first | done | rfl)))
      (go_simp; go_at_call 33; refine viaDr (s_next B b _ _ HS.out.drew (by omega)) ?_; intro d5 u5 hd5 hs5 hl5; (try dsimp only at hd5); (try simp at hl5); go_wp2_with fail)
      (refine hK.out _ _ ?_ (fun hHeld => ?_); focus ((try dsimp only); ((with_reducible first | refine heldD.at (b := b) (R := w.heap.size) hKX hKb hKR gX ?_ | refine heldD.atL (b := b) (R := w.heap.size) hKX hKb hKR gX rX ?_); (repeat (with_reducible first | exact heldD.refl _ _ _ | apply heldD.drew | apply heldD.aftD | apply heldD.aft | apply heldD.alloc | apply heldD.set)))))
      (clear hK K; (try simp only [Act.put, List.setIfInBounds_toArray, List.set_cons_zero, List.set_cons_succ]))
      (refine wpAnyH_ready (rs := [7]) (by decide +kernel) (by simp) ?_; refine AllReadyH.cons (o := ?ho62) ?hi62 (fun K hK => ?hr62) AllReadyH.nil; (case hi62 => (simp only [List.getElem?_toArray, List.getElem?_cons_succ, List.getElem?_cons_zero]; first | done | rfl)))
      (rw [if_pos (by rfl)]; go_wp2_with fail)
      (refine hK.out _ _ ?_ (fun hHeld => ?_); focus ((try dsimp only); ((with_reducible first | refine heldD.at (b := b) (R := w.heap.size) hKX hKb hKR gX ?_ | refine heldD.atL (b := b) (R := w.heap.size) hKX hKb hKR gX rX ?_); (repeat (with_reducible first | exact heldD.refl _ _ _ | apply heldD.drew | apply heldD.aftD | apply heldD.aft | apply heldD.alloc | apply heldD.set)))))
      (clear hK K; (try simp only [Act.put, List.setIfInBounds_toArray, List.set_cons_zero, List.set_cons_succ]))
      (refine wpAnyH_ready (rs := [8]) (by decide +kernel) (by simp) ?_; refine AllReadyH.cons (o := ?ho63) ?hi63 (fun K hK => ?hr63) AllReadyH.nil; (case hi63 => (simp only [List.getElem?_toArray, List.getElem?_cons_succ, List.getElem?_cons_zero]; first | done | rfl)))
      (go_simp; go_at_call 60; refine viaDr (s_pickA B b _ _ _ [d5, p, -1] _ _ _ (by first | rfl | simp) rfl rfl hs5 (by decide) (by decide)) ?_; intro x9 u9 hx9 hs9 hl9; clear hx9; (try simp at hl9); go_wp2_with fail)
      (refine hK.out _ _ ?_ (fun hHeld => ?_); focus ((try dsimp only); ((with_reducible first | refine heldD.at (b := b) (R := w.heap.size) hKX hKb hKR gX ?_ | refine heldD.atL (b := b) (R := w.heap.size) hKX hKb hKR gX rX ?_); (repeat (with_reducible first | exact heldD.refl _ _ _ | apply heldD.drew | apply heldD.aftD | apply heldD.aft | apply heldD.alloc | apply heldD.set)))))
      (clear hK K; (try simp only [Act.put, List.setIfInBounds_toArray, List.set_cons_zero, List.set_cons_succ]))
      (refine wpAnyH_ready (rs := [9]) (by decide +kernel) (by simp) ?_; refine AllReadyH.cons (o := ?ho64) ?hi64 (fun K hK => ?hr64) AllReadyH.nil; (case hi64 => (simp only [List.getElem?_toArray, List.getElem?_cons_succ, List.getElem?_cons_zero]; first | done | rfl)))
      (rw [if_pos (by rfl)]; go_wp2_with fail)
      (refine hK.out _ _ ?_ (fun hHeld => ?_); focus ((try dsimp only); ((with_reducible first | refine heldD.at (b := b) (R := w.heap.size) hKX hKb hKR gX ?_ | refine heldD.atL (b := b) (R := w.heap.size) hKX hKb hKR gX rX ?_); (repeat (with_reducible first | exact heldD.refl _ _ _ | apply heldD.drew | apply heldD.aftD | apply heldD.aft | apply heldD.alloc | apply heldD.set)))))
      (clear hK K; (try simp only [Act.put, List.setIfInBounds_toArray, List.set_cons_zero, List.set_cons_succ]))
      (refine wpAnyH_take (i := 10) (oi := ?ho21) (v := ?hv21) ?hi21 (by kernel_rfl) (by kernel_rfl) (by kernel_rfl) ?hq21 ?hy21 (by assumption) ?hr21; (case hi21 => (simp only [List.getElem?_toArray, List.getElem?_cons_succ, List.getElem?_cons_zero]; first | done | rfl)); (case hq21 => exact fun _ _ _ h => h); (case hy21 => (refine Or.inl ⟨by rfl, ?_⟩; intro w hSw; (try dsimp only at hSw); go_simp; first | done | with_reducible rfl)); (try simp only [Act.put, List.setIfInBounds_toArray, List.set_cons_zero, List.set_cons_succ]))
      (refine wpAnyH_take (i := 11) (oi := ?ho22) (v := ?hv22) ?hi22 (by kernel_rfl) (by kernel_rfl) (by kernel_rfl) ?hq22 ?hy22 (by assumption) ?hr22; (case hi22 => (simp only [List.getElem?_toArray, List.getElem?_cons_succ, List.getElem?_cons_zero]; first | done | rfl)); (case hq22 => exact fun _ _ _ h => h); (case hy22 => (refine Or.inl ⟨by rfl, ?_⟩; intro w hSw; (try dsimp only at hSw); go_simp; first | done | with_reducible rfl)); (try simp only [Act.put, List.setIfInBounds_toArray, List.set_cons_zero, List.set_cons_succ]))
      (refine wpAnyH_done (by kernel_rfl) ?_ _)
      go_wp2_with fail
      exact bodyPost_ret (v := .tuple #[.agg #[Value.int IntKind.i64 p, Value.int IntKind.i64 n], .slice a5 xs.length c5, .int .i64 x9]) (by first | (simp [results, go_sem, he0, he1]; done) | simp [results, go_sem, he0, he1, ↓IntWalk.iteOmega]) rfl ⟨p, n, _, xs, _, rfl, ownR.mono (show ownR (b + 1) _ _ _ from (by repeat (with_reducible first | exact HF.out | apply ownR.drew | apply ownR.aft | (refine ownR.aftD ?_ _ (by omega)) | apply ownR.alloc | (refine ownR.setCell ?_ _ _ _ _ (by omega))))) (by omega), HXL.out, (Ext.bel (by repeat (with_reducible first | exact HST.out.ext | apply Ext.drew | apply Ext.alloc | apply Ext.aft | (refine Ext.aftD ?_ _ (by omega)) | (refine Ext.setCell ?_ _ _ _ _ (by omega)))))⟩
    · go_wp2_with (go_at_call 53; refine pur (s_IsPolynomial _ xs _ HF.out.rd) ?_)
      refine viaDr (s_next B b _ _ HST.out.srcw (by omega)) ?_
      intro x7 v7 hx7 hs7 hl7
      (try dsimp only at hx7)
      obtain ⟨X9, hX9⟩ : ∃ Y, Y = aftD b X v7 := ⟨_, rfl⟩
      have hST9 : stL B b p n K w X9 := by rw [hX9]; exact HST.out.next ((Gr.refl b _).aftD _) (hs7)
      have own9 : ownR (b + 1) X9 (.slice a5 xs.length c5) xs := by rw [hX9]; exact (by repeat (with_reducible first | exact HF.out | apply ownR.drew | apply ownR.aft | (refine ownR.aftD ?_ _ (by omega)) | apply ownR.alloc | (refine ownR.setCell ?_ _ _ _ _ (by omega))))
      rw [← hX9]
      clear hX9 HST HF hs7 hl7
      obtain ⟨X, hX9⟩ : ∃ X, X = X9 := ⟨_, rfl⟩
      rw [← hX9] at hST9 own9 ⊢
      clear hX9
      have HST := hid hST9
      have HF := hid own9
      clear hST9 own9
      by_cases h7 : 0 < x7
      case neg =>
        have h7' : decide (0 < x7) = false := by simpa using h7
        obtain ⟨e0, he0, e1, he1, hf0, hf1, gX, hKX⟩ : ∃ e0, X.cell? ⟨w.heap.size, 0, none⟩ = some e0 ∧ ∃ e1, X.cell? ⟨w.heap.size, 1, none⟩ = some e1 ∧ X.frozen? ⟨w.heap.size, 0, none⟩ = false ∧ X.frozen? ⟨w.heap.size, 1, none⟩ = false ∧ (∀ o, X.cell? ⟨K, o, none⟩ = #[Value.int .i64 p, .int .i64 n][o]?) ∧ K < X.heap.size := by obtain ⟨q1, q2⟩ := HST.out.res 0 (by omega); obtain ⟨q3, q4⟩ := HST.out.res 1 (by omega); obtain ⟨e0, h0⟩ := Option.isSome_iff_exists.1 q2; obtain ⟨e1, h1⟩ := Option.isSome_iff_exists.1 q4; exact ⟨e0, h0, e1, h1, q1, q3, HST.out.ring, HST.out.kx⟩
        have g0 := gX 0
        have g1 := gX 1
        simp at g0 g1
        have HS := hid HST.out.srcw
        go_wp2_with fail
        (refine wp_region_held_drew (S := (fun w' => (∀ o, w'.cell? ⟨K, o, none⟩ = #[Value.int .i64 p, .int .i64 n][o]?) ∧ X.heap.size ≤ w'.heap.size)) (by kernel_rfl) ?_ (fun hHeld => ?_); focus ((try dsimp only); ((with_reducible first | refine heldD.at (b := b) (R := w.heap.size) hKX hKb hKR gX ?_ | refine heldD.atL (b := b) (R := w.heap.size) hKX hKb hKR gX rX ?_); (repeat (with_reducible first | exact heldD.refl _ _ _ | apply heldD.drew | apply heldD.aftD | apply heldD.aft | apply heldD.alloc | apply heldD.set)))))
        (refine wpAnyH_take (i := 0) (oi := ?ho23) (v := ?hv23) ?hi23 (by kernel_rfl) (by kernel_rfl) (by kernel_rfl) ?hq23 ?hy23 (by assumption) ?hr23; (case hi23 => (simp only [List.getElem?_toArray, List.getElem?_cons_succ, List.getElem?_cons_zero]; first | done | rfl)); (case hq23 => exact fun _ _ _ h => h); (case hy23 => (refine Or.inl ⟨by rfl, ?_⟩; intro w hSw; (try dsimp only at hSw); go_simp; first | done | with_reducible rfl)); (try simp only [Act.put, List.setIfInBounds_toArray, List.set_cons_zero, List.set_cons_succ]))
        (refine wpAnyH_take (i := 1) (oi := ?ho24) (v := ?hv24) ?hi24 (by kernel_rfl) (by kernel_rfl) (by kernel_rfl) ?hq24 ?hy24 (by assumption) ?hr24; (case hi24 => (simp only [List.getElem?_toArray, List.getElem?_cons_succ, List.getElem?_cons_zero]; first | done | rfl)); (case hq24 => exact fun _ _ _ h => h); (case hy24 => (refine Or.inl ⟨by rfl, ?_⟩; intro w hSw; (try dsimp only at hSw); go_simp; first | done | with_reducible rfl)); (try simp only [Act.put, List.setIfInBounds_toArray, List.set_cons_zero, List.set_cons_succ]))
        (refine wpAnyH_take (i := 2) (oi := ?ho25) (v := ?hv25) ?hi25 (by kernel_rfl) (by kernel_rfl) (by kernel_rfl) ?hq25 ?hy25 (by assumption) ?hr25; (case hi25 => (simp only [List.getElem?_toArray, List.getElem?_cons_succ, List.getElem?_cons_zero]; first | done | rfl)); (case hq25 => exact fun _ _ _ h => h); (case hy25 => (refine Or.inl ⟨by rfl, ?_⟩; intro w hSw; (try dsimp only at hSw); go_simp; first | done | with_reducible rfl)); (try simp only [Act.put, List.setIfInBounds_toArray, List.set_cons_zero, List.set_cons_succ]))
        (refine wpAnyH_take (i := 3) (oi := ?ho26) (v := ?hv26) ?hi26 (by kernel_rfl) (by kernel_rfl) (by kernel_rfl) ?hq26 ?hy26 (by assumption) ?hr26; (case hi26 => (simp only [List.getElem?_toArray, List.getElem?_cons_succ, List.getElem?_cons_zero]; first | done | rfl)); (case hq26 => exact fun _ _ _ h => h); (case hy26 => (refine Or.inl ⟨by rfl, ?_⟩; intro w hSw; (try dsimp only at hSw); go_simp; first | done | with_reducible rfl)); (try simp only [Act.put, List.setIfInBounds_toArray, List.set_cons_zero, List.set_cons_succ]))
        (refine wpAnyH_take (i := 5) (oi := ?ho27) (v := ?hv27) ?hi27 (by kernel_rfl) (by kernel_rfl) (by kernel_rfl) ?hq27 ?hy27 (by assumption) ?hr27; (case hi27 => (simp only [List.getElem?_toArray, List.getElem?_cons_succ, List.getElem?_cons_zero]; first | done | rfl)); (case hq27 => exact fun _ _ _ h => h); (case hy27 => (refine Or.inl ⟨by rfl, ?_⟩; intro w hSw; (try dsimp only at hSw); go_simp; first | done | with_reducible rfl)); (try simp only [Act.put, List.setIfInBounds_toArray, List.set_cons_zero, List.set_cons_succ]))
        (refine wpAnyH_take (i := 6) (oi := ?ho28) (v := ?hv28) ?hi28 (by kernel_rfl) (by kernel_rfl) (by kernel_rfl) ?hq28 ?hy28 (by assumption) ?hr28; (case hi28 => (simp only [List.getElem?_toArray, List.getElem?_cons_succ, List.getElem?_cons_zero]; first | done | rfl)); (case hq28 => exact fun _ _ _ h => h); (case hy28 => (refine Or.inl ⟨by rfl, ?_⟩; intro w hSw; (try dsimp only at hSw); go_simp; first | done | with_reducible rfl)); (try simp only [Act.put, List.setIfInBounds_toArray, List.set_cons_zero, List.set_cons_succ]))
        (refine wpAnyH_ready (rs := [4]) (by decide +kernel) (by simp) ?_; refine AllReadyH.cons (o := ?ho65) ?hi65 (fun K hK => ?hr65) AllReadyH.nil; (case hi65 => (simp only [List.getElem?_toArray, List.getElem?_cons_succ, List.getElem?_cons_zero]; first | done | rfl)))
        (go_simp; go_at_call 33; refine viaDr (s_next B b _ _ HS.out.drew (by omega)) ?_; intro d5 u5 hd5 hs5 hl5; (try dsimp only at hd5); (try simp at hl5); go_wp2_with fail)
        (refine hK.out _ _ ?_ (fun hHeld => ?_); focus ((try dsimp only); ((with_reducible first | refine heldD.at (b := b) (R := w.heap.size) hKX hKb hKR gX ?_ | refine heldD.atL (b := b) (R := w.heap.size) hKX hKb hKR gX rX ?_); (repeat (with_reducible first | exact heldD.refl _ _ _ | apply heldD.drew | apply heldD.aftD | apply heldD.aft | apply heldD.alloc | apply heldD.set)))))
        (clear hK K; (try simp only [Act.put, List.setIfInBounds_toArray, List.set_cons_zero, List.set_cons_succ]))
        (refine wpAnyH_ready (rs := [7]) (by decide +kernel) (by simp) ?_; refine AllReadyH.cons (o := ?ho66) ?hi66 (fun K hK => ?hr66) AllReadyH.nil; (case hi66 => (simp only [List.getElem?_toArray, List.getElem?_cons_succ, List.getElem?_cons_zero]; first | done | rfl)))
        (rw [if_pos (by rfl)]; go_wp2_with fail)
        (refine hK.out _ _ ?_ (fun hHeld => ?_); focus ((try dsimp only); ((with_reducible first | refine heldD.at (b := b) (R := w.heap.size) hKX hKb hKR gX ?_ | refine heldD.atL (b := b) (R := w.heap.size) hKX hKb hKR gX rX ?_); (repeat (with_reducible first | exact heldD.refl _ _ _ | apply heldD.drew | apply heldD.aftD | apply heldD.aft | apply heldD.alloc | apply heldD.set)))))
        (clear hK K; (try simp only [Act.put, List.setIfInBounds_toArray, List.set_cons_zero, List.set_cons_succ]))
        (refine wpAnyH_ready (rs := [8]) (by decide +kernel) (by simp) ?_; refine AllReadyH.cons (o := ?ho67) ?hi67 (fun K hK => ?hr67) AllReadyH.nil; (case hi67 => (simp only [List.getElem?_toArray, List.getElem?_cons_succ, List.getElem?_cons_zero]; first | done | rfl)))
        (go_simp; go_at_call 60; refine viaDr (s_pickA B b _ _ _ [d5, p, -1] _ _ _ (by first | rfl | simp) rfl rfl hs5 (by decide) (by decide)) ?_; intro x9 u9 hx9 hs9 hl9; clear hx9; (try simp at hl9); go_wp2_with fail)
        (refine hK.out _ _ ?_ (fun hHeld => ?_); focus ((try dsimp only); ((with_reducible first | refine heldD.at (b := b) (R := w.heap.size) hKX hKb hKR gX ?_ | refine heldD.atL (b := b) (R := w.heap.size) hKX hKb hKR gX rX ?_); (repeat (with_reducible first | exact heldD.refl _ _ _ | apply heldD.drew | apply heldD.aftD | apply heldD.aft | apply heldD.alloc | apply heldD.set)))))
        (clear hK K; (try simp only [Act.put, List.setIfInBounds_toArray, List.set_cons_zero, List.set_cons_succ]))
        (refine wpAnyH_ready (rs := [9]) (by decide +kernel) (by simp) ?_; refine AllReadyH.cons (o := ?ho68) ?hi68 (fun K hK => ?hr68) AllReadyH.nil; (case hi68 => (simp only [List.getElem?_toArray, List.getElem?_cons_succ, List.getElem?_cons_zero]; first | done | rfl)))
        (rw [if_pos (by rfl)]; go_wp2_with fail)
        (refine hK.out _ _ ?_ (fun hHeld => ?_); focus ((try dsimp only); ((with_reducible first | refine heldD.at (b := b) (R := w.heap.size) hKX hKb hKR gX ?_ | refine heldD.atL (b := b) (R := w.heap.size) hKX hKb hKR gX rX ?_); (repeat (with_reducible first | exact heldD.refl _ _ _ | apply heldD.drew | apply heldD.aftD | apply heldD.aft | apply heldD.alloc | apply heldD.set)))))
        (clear hK K; (try simp only [Act.put, List.setIfInBounds_toArray, List.set_cons_zero, List.set_cons_succ]))
        (refine wpAnyH_take (i := 10) (oi := ?ho29) (v := ?hv29) ?hi29 (by kernel_rfl) (by kernel_rfl) (by kernel_rfl) ?hq29 ?hy29 (by assumption) ?hr29; (case hi29 => (simp only [List.getElem?_toArray, List.getElem?_cons_succ, List.getElem?_cons_zero]; first | done | rfl)); (case hq29 => exact fun _ _ _ h => h); (case hy29 => (refine Or.inl ⟨by rfl, ?_⟩; intro w hSw; (try dsimp only at hSw); go_simp; first | done | with_reducible rfl)); (try simp only [Act.put, List.setIfInBounds_toArray, List.set_cons_zero, List.set_cons_succ]))
        (refine wpAnyH_take (i := 11) (oi := ?ho30) (v := ?hv30) ?hi30 (by kernel_rfl) (by kernel_rfl) (by kernel_rfl) ?hq30 ?hy30 (by assumption) ?hr30; (case hi30 => (simp only [List.getElem?_toArray, List.getElem?_cons_succ, List.getElem?_cons_zero]; first | done | rfl)); (case hq30 => exact fun _ _ _ h => h); (case hy30 => (refine Or.inl ⟨by rfl, ?_⟩; intro w hSw; (try dsimp only at hSw); go_simp; first | done | with_reducible rfl)); (try simp only [Act.put, List.setIfInBounds_toArray, List.set_cons_zero, List.set_cons_succ]))
        (refine wpAnyH_done (by kernel_rfl) ?_ _)
        go_wp2_with fail
        exact bodyPost_ret (v := .tuple #[.agg #[Value.int IntKind.i64 p, Value.int IntKind.i64 n], .slice a5 xs.length c5, .int .i64 x9]) (by first | (simp [results, go_sem, he0, he1]; done) | simp [results, go_sem, he0, he1, ↓IntWalk.iteOmega]) rfl ⟨p, n, _, xs, _, rfl, ownR.mono (show ownR (b + 1) _ _ _ from (by repeat (with_reducible first | exact HF.out | apply ownR.drew | apply ownR.aft | (refine ownR.aftD ?_ _ (by omega)) | apply ownR.alloc | (refine ownR.setCell ?_ _ _ _ _ (by omega))))) (by omega), HXL.out, (Ext.bel (by repeat (with_reducible first | exact HST.out.ext | apply Ext.drew | apply Ext.alloc | apply Ext.aft | (refine Ext.aftD ?_ _ (by omega)) | (refine Ext.setCell ?_ _ _ _ _ (by omega)))))⟩
      have h7' : decide (0 < x7) = true := by simpa using h7
      have hxl9 := (polyB_iff.1 hpo).1
      obtain ⟨e0, he0, e1, he1, hf0, hf1, gX, hKX⟩ : ∃ e0, X.cell? ⟨w.heap.size, 0, none⟩ = some e0 ∧ ∃ e1, X.cell? ⟨w.heap.size, 1, none⟩ = some e1 ∧ X.frozen? ⟨w.heap.size, 0, none⟩ = false ∧ X.frozen? ⟨w.heap.size, 1, none⟩ = false ∧ (∀ o, X.cell? ⟨K, o, none⟩ = #[Value.int .i64 p, .int .i64 n][o]?) ∧ K < X.heap.size := by obtain ⟨q1, q2⟩ := HST.out.res 0 (by omega); obtain ⟨q3, q4⟩ := HST.out.res 1 (by omega); obtain ⟨e0, h0⟩ := Option.isSome_iff_exists.1 q2; obtain ⟨e1, h1⟩ := Option.isSome_iff_exists.1 q4; exact ⟨e0, h0, e1, h1, q1, q3, HST.out.ring, HST.out.kx⟩
      have g0 := gX 0
      have g1 := gX 1
      simp at g0 g1
      have HS := hid HST.out.srcw
      go_wp2_with fail
      (refine wp_region_held_drew (S := (fun w' => (∀ o, w'.cell? ⟨K, o, none⟩ = #[Value.int .i64 p, .int .i64 n][o]?) ∧ X.heap.size ≤ w'.heap.size)) (by kernel_rfl) ?_ (fun hHeld => ?_); focus ((try dsimp only); ((with_reducible first | refine heldD.at (b := b) (R := w.heap.size) hKX hKb hKR gX ?_ | refine heldD.atL (b := b) (R := w.heap.size) hKX hKb hKR gX rX ?_); (repeat (with_reducible first | exact heldD.refl _ _ _ | apply heldD.drew | apply heldD.aftD | apply heldD.aft | apply heldD.alloc | apply heldD.set)))))
      (refine wpAnyH_take (i := 0) (oi := ?ho31) (v := ?hv31) ?hi31 (by kernel_rfl) (by kernel_rfl) (by kernel_rfl) ?hq31 ?hy31 (by assumption) ?hr31; (case hi31 => (simp only [List.getElem?_toArray, List.getElem?_cons_succ, List.getElem?_cons_zero]; first | done | rfl)); (case hq31 => exact fun _ _ _ h => h); (case hy31 => (refine Or.inl ⟨by rfl, ?_⟩; intro w hSw; (try dsimp only at hSw); go_simp; first | done | with_reducible rfl)); (try simp only [Act.put, List.setIfInBounds_toArray, List.set_cons_zero, List.set_cons_succ]))
      (refine wpAnyH_take (i := 1) (oi := ?ho32) (v := ?hv32) ?hi32 (by kernel_rfl) (by kernel_rfl) (by kernel_rfl) ?hq32 ?hy32 (by assumption) ?hr32; (case hi32 => (simp only [List.getElem?_toArray, List.getElem?_cons_succ, List.getElem?_cons_zero]; first | done | rfl)); (case hq32 => exact fun _ _ _ h => h); (case hy32 => (refine Or.inl ⟨by rfl, ?_⟩; intro w hSw; (try dsimp only at hSw); go_simp; first | done | with_reducible rfl)); (try simp only [Act.put, List.setIfInBounds_toArray, List.set_cons_zero, List.set_cons_succ]))
      (refine wpAnyH_take (i := 2) (oi := ?ho33) (v := ?hv33) ?hi33 (by kernel_rfl) (by kernel_rfl) (by kernel_rfl) ?hq33 ?hy33 (by assumption) ?hr33; (case hi33 => (simp only [List.getElem?_toArray, List.getElem?_cons_succ, List.getElem?_cons_zero]; first | done | rfl)); (case hq33 => exact fun _ _ _ h => h); (case hy33 => (refine Or.inl ⟨by rfl, ?_⟩; intro w hSw; (try dsimp only at hSw); go_simp; first | done | with_reducible rfl)); (try simp only [Act.put, List.setIfInBounds_toArray, List.set_cons_zero, List.set_cons_succ]))
      (refine wpAnyH_take (i := 3) (oi := ?ho34) (v := ?hv34) ?hi34 (by kernel_rfl) (by kernel_rfl) (by kernel_rfl) ?hq34 ?hy34 (by assumption) ?hr34; (case hi34 => (simp only [List.getElem?_toArray, List.getElem?_cons_succ, List.getElem?_cons_zero]; first | done | rfl)); (case hq34 => exact fun _ _ _ h => h); (case hy34 => (refine Or.inl ⟨by rfl, ?_⟩; intro w hSw; (try dsimp only at hSw); go_simp; first | done | with_reducible rfl)); (try simp only [Act.put, List.setIfInBounds_toArray, List.set_cons_zero, List.set_cons_succ]))
      (refine wpAnyH_take (i := 4) (oi := ?ho35) (v := ?hv35) ?hi35 (by kernel_rfl) (by kernel_rfl) (by kernel_rfl) ?hq35 ?hy35 (by assumption) ?hr35; (case hi35 => (simp only [List.getElem?_toArray, List.getElem?_cons_succ, List.getElem?_cons_zero]; first | done | rfl)); (case hq35 => exact fun _ _ _ h => h); (case hy35 => (refine Or.inl ⟨by rfl, ?_⟩; intro w hSw; (try dsimp only at hSw); go_simp; first | done | with_reducible rfl)); (try simp only [Act.put, List.setIfInBounds_toArray, List.set_cons_zero, List.set_cons_succ]))
      (refine wpAnyH_ready (rs := [5]) (by decide +kernel) (by simp) ?_; refine AllReadyH.cons (o := ?ho69) ?hi69 (fun K hK => ?hr69) AllReadyH.nil; (case hi69 => (simp only [List.getElem?_toArray, List.getElem?_cons_succ, List.getElem?_cons_zero]; first | done | rfl)))
      (go_simp; go_at_call 48; refine viaI (g := id) (s_reduce p _ xs _ ((show ownR (b + 1) _ _ _ from (by repeat (with_reducible first | exact HF.out | apply ownR.drew | apply ownR.aft | (refine ownR.aftD ?_ _ (by omega)) | apply ownR.alloc | (refine ownR.setCell ?_ _ _ _ _ (by omega))))).rd) (by omega) (by omega)) ?_; intro t5 u5 hl5 own5; (try simp at hl5); go_wp2_with fail)
      (refine hK.out _ _ ?_ (fun hHeld => ?_); focus ((try dsimp only); ((with_reducible first | refine heldD.at (b := b) (R := w.heap.size) hKX hKb hKR gX ?_ | refine heldD.atL (b := b) (R := w.heap.size) hKX hKb hKR gX rX ?_); (repeat (with_reducible first | exact heldD.refl _ _ _ | apply heldD.drew | apply heldD.aftD | apply heldD.aft | apply heldD.alloc | apply heldD.set)))))
      (clear hK K; (try simp only [Act.put, List.setIfInBounds_toArray, List.set_cons_zero, List.set_cons_succ]))
      (refine wpAnyH_ready (rs := [6]) (by decide +kernel) (by simp) ?_; refine AllReadyH.cons (o := ?ho70) ?hi70 (fun K hK => ?hr70) AllReadyH.nil; (case hi70 => (simp only [List.getElem?_toArray, List.getElem?_cons_succ, List.getElem?_cons_zero]; first | done | rfl)))
      (go_simp; go_at_call 59; refine (s_roots8 p _ (redF p xs) _ own5.rd (by omega) (fun c hc => modL_mem (m := p) (xs := xs) (by omega) c (trimF_mem hc))).mono ?_; rintro e W6 ⟨t6, zs, rfl, own6, hzl, hb6⟩; obtain ⟨u6, rfl⟩ := aft_ex hb6; have hl6 := hb6.size; clear hb6; obtain ⟨a6, c6, hsh6, _, _⟩ := own6.rd; subst hsh6; (try simp at hl6); have HZL := hid hzl; clear hzl; go_wp2_with fail)
      (refine hK.out _ _ ?_ (fun hHeld => ?_); focus ((try dsimp only); ((with_reducible first | refine heldD.at (b := b) (R := w.heap.size) hKX hKb hKR gX ?_ | refine heldD.atL (b := b) (R := w.heap.size) hKX hKb hKR gX rX ?_); (repeat (with_reducible first | exact heldD.refl _ _ _ | apply heldD.drew | apply heldD.aftD | apply heldD.aft | apply heldD.alloc | apply heldD.set)))))
      (clear hK K; (try simp only [Act.put, List.setIfInBounds_toArray, List.set_cons_zero, List.set_cons_succ]))
      (refine wpAnyH_take (i := 7) (oi := ?ho36) (v := ?hv36) ?hi36 (by kernel_rfl) (by kernel_rfl) (by kernel_rfl) ?hq36 ?hy36 (by assumption) ?hr36; (case hi36 => (simp only [List.getElem?_toArray, List.getElem?_cons_succ, List.getElem?_cons_zero]; first | done | rfl)); (case hq36 => exact fun _ _ _ h => h); (case hy36 => (refine Or.inl ⟨by rfl, ?_⟩; intro w hSw; (try dsimp only at hSw); go_simp; first | done | with_reducible rfl)); (try simp only [Act.put, List.setIfInBounds_toArray, List.set_cons_zero, List.set_cons_succ]))
      (refine wpAnyH_done (by kernel_rfl) ?_ _)
      have own7 : ownR (b + 1) (aft (aft X.drew u5) u6) (.slice a6 zs.length c6) zs := own6.mono (by omega)
      clear own5 own6 hl5 hl6
      have HL := hid own7
      clear own7
      clear he0 he1 hf0 hf1 gX g0 g1 hKX HS
      obtain ⟨X9, hX9⟩ : ∃ Y, Y = aft (aft X.drew u5) u6 := ⟨_, rfl⟩
      have hST9 : stL B b p n K w X9 := by rw [hX9]; exact HST.out.next (((Gr.refl b _).drew.aft _).aft _) ((HST.out.srcw.drew.aft _).aft _)
      have own9 : ownR (b + 1) X9 (.slice a5 xs.length c5) xs := by rw [hX9]; exact (by repeat (with_reducible first | exact HF.out | apply ownR.drew | apply ownR.aft | (refine ownR.aftD ?_ _ (by omega)) | apply ownR.alloc | (refine ownR.setCell ?_ _ _ _ _ (by omega))))
      have own8 : ownR (b + 1) X9 (.slice a6 zs.length c6) zs := by rw [hX9]; exact HL.out
      rw [← hX9]
      clear hX9 HL HST HF
      obtain ⟨X, hX9⟩ : ∃ X, X = X9 := ⟨_, rfl⟩
      rw [← hX9] at hST9 own9 own8 ⊢
      clear hX9
      have HST := hid hST9
      have HF := hid own9
      clear hST9 own9
      have HL := hid own8
      clear own8
      have hzl := HZL.out
      rcases Nat.eq_zero_or_pos zs.length with hz0' | hzp
      · have hzz : ¬ (0 : Int) < (zs.length : Int) := by omega
        obtain ⟨e0, he0, e1, he1, hf0, hf1, gX, hKX⟩ : ∃ e0, X.cell? ⟨w.heap.size, 0, none⟩ = some e0 ∧ ∃ e1, X.cell? ⟨w.heap.size, 1, none⟩ = some e1 ∧ X.frozen? ⟨w.heap.size, 0, none⟩ = false ∧ X.frozen? ⟨w.heap.size, 1, none⟩ = false ∧ (∀ o, X.cell? ⟨K, o, none⟩ = #[Value.int .i64 p, .int .i64 n][o]?) ∧ K < X.heap.size := by obtain ⟨q1, q2⟩ := HST.out.res 0 (by omega); obtain ⟨q3, q4⟩ := HST.out.res 1 (by omega); obtain ⟨e0, h0⟩ := Option.isSome_iff_exists.1 q2; obtain ⟨e1, h1⟩ := Option.isSome_iff_exists.1 q4; exact ⟨e0, h0, e1, h1, q1, q3, HST.out.ring, HST.out.kx⟩
        have g0 := gX 0
        have g1 := gX 1
        simp at g0 g1
        have HS := hid HST.out.srcw
        go_wp2_with fail
        (refine wp_region_held_drew (S := (fun w' => (∀ o, w'.cell? ⟨K, o, none⟩ = #[Value.int .i64 p, .int .i64 n][o]?) ∧ X.heap.size ≤ w'.heap.size)) (by kernel_rfl) ?_ (fun hHeld => ?_); focus ((try dsimp only); ((with_reducible first | refine heldD.at (b := b) (R := w.heap.size) hKX hKb hKR gX ?_ | refine heldD.atL (b := b) (R := w.heap.size) hKX hKb hKR gX rX ?_); (repeat (with_reducible first | exact heldD.refl _ _ _ | apply heldD.drew | apply heldD.aftD | apply heldD.aft | apply heldD.alloc | apply heldD.set)))))
        (refine wpAnyH_take (i := 0) (oi := ?ho37) (v := ?hv37) ?hi37 (by kernel_rfl) (by kernel_rfl) (by kernel_rfl) ?hq37 ?hy37 (by assumption) ?hr37; (case hi37 => (simp only [List.getElem?_toArray, List.getElem?_cons_succ, List.getElem?_cons_zero]; first | done | rfl)); (case hq37 => exact fun _ _ _ h => h); (case hy37 => (refine Or.inl ⟨by rfl, ?_⟩; intro w hSw; (try dsimp only at hSw); go_simp; first | done | with_reducible rfl)); (try simp only [Act.put, List.setIfInBounds_toArray, List.set_cons_zero, List.set_cons_succ]))
        (refine wpAnyH_take (i := 1) (oi := ?ho38) (v := ?hv38) ?hi38 (by kernel_rfl) (by kernel_rfl) (by kernel_rfl) ?hq38 ?hy38 (by assumption) ?hr38; (case hi38 => (simp only [List.getElem?_toArray, List.getElem?_cons_succ, List.getElem?_cons_zero]; first | done | rfl)); (case hq38 => exact fun _ _ _ h => h); (case hy38 => (refine Or.inl ⟨by rfl, ?_⟩; intro w hSw; (try dsimp only at hSw); go_simp; first | done | with_reducible rfl)); (try simp only [Act.put, List.setIfInBounds_toArray, List.set_cons_zero, List.set_cons_succ]))
        (refine wpAnyH_take (i := 2) (oi := ?ho39) (v := ?hv39) ?hi39 (by kernel_rfl) (by kernel_rfl) (by kernel_rfl) ?hq39 ?hy39 (by assumption) ?hr39; (case hi39 => (simp only [List.getElem?_toArray, List.getElem?_cons_succ, List.getElem?_cons_zero]; first | done | rfl)); (case hq39 => exact fun _ _ _ h => h); (case hy39 => (refine Or.inl ⟨by rfl, ?_⟩; intro w hSw; (try dsimp only at hSw); go_simp; first | done | with_reducible rfl)); (try simp only [Act.put, List.setIfInBounds_toArray, List.set_cons_zero, List.set_cons_succ]))
        (refine wpAnyH_take (i := 3) (oi := ?ho40) (v := ?hv40) ?hi40 (by kernel_rfl) (by kernel_rfl) (by kernel_rfl) ?hq40 ?hy40 (by assumption) ?hr40; (case hi40 => (simp only [List.getElem?_toArray, List.getElem?_cons_succ, List.getElem?_cons_zero]; first | done | rfl)); (case hq40 => exact fun _ _ _ h => h); (case hy40 => (refine Or.inl ⟨by rfl, ?_⟩; intro w hSw; (try dsimp only at hSw); go_simp; first | done | with_reducible rfl)); (try simp only [Act.put, List.setIfInBounds_toArray, List.set_cons_zero, List.set_cons_succ]))
        (refine wpAnyH_take (i := 5) (oi := ?ho41) (v := ?hv41) ?hi41 (by kernel_rfl) (by kernel_rfl) (by kernel_rfl) ?hq41 ?hy41 (by assumption) ?hr41; (case hi41 => (simp only [List.getElem?_toArray, List.getElem?_cons_succ, List.getElem?_cons_zero]; first | done | rfl)); (case hq41 => exact fun _ _ _ h => h); (case hy41 => (refine Or.inl ⟨by rfl, ?_⟩; intro w hSw; (try dsimp only at hSw); go_simp; first | done | with_reducible rfl)); (try simp only [Act.put, List.setIfInBounds_toArray, List.set_cons_zero, List.set_cons_succ]))
        (refine wpAnyH_take (i := 6) (oi := ?ho42) (v := ?hv42) ?hi42 (by kernel_rfl) (by kernel_rfl) (by kernel_rfl) ?hq42 ?hy42 (by assumption) ?hr42; (case hi42 => (simp only [List.getElem?_toArray, List.getElem?_cons_succ, List.getElem?_cons_zero]; first | done | rfl)); (case hq42 => exact fun _ _ _ h => h); (case hy42 => (refine Or.inl ⟨by rfl, ?_⟩; intro w hSw; (try dsimp only at hSw); go_simp; first | done | with_reducible rfl)); (try simp only [Act.put, List.setIfInBounds_toArray, List.set_cons_zero, List.set_cons_succ]))
        (refine wpAnyH_ready (rs := [4]) (by decide +kernel) (by simp) ?_; refine AllReadyH.cons (o := ?ho71) ?hi71 (fun K hK => ?hr71) AllReadyH.nil; (case hi71 => (simp only [List.getElem?_toArray, List.getElem?_cons_succ, List.getElem?_cons_zero]; first | done | rfl)))
        (go_simp; go_at_call 33; refine viaDr (s_next B b _ _ HS.out.drew (by omega)) ?_; intro d5 u5 hd5 hs5 hl5; (try dsimp only at hd5); (try simp at hl5); go_wp2_with fail)
        (refine hK.out _ _ ?_ (fun hHeld => ?_); focus ((try dsimp only); ((with_reducible first | refine heldD.at (b := b) (R := w.heap.size) hKX hKb hKR gX ?_ | refine heldD.atL (b := b) (R := w.heap.size) hKX hKb hKR gX rX ?_); (repeat (with_reducible first | exact heldD.refl _ _ _ | apply heldD.drew | apply heldD.aftD | apply heldD.aft | apply heldD.alloc | apply heldD.set)))))
        (clear hK K; (try simp only [Act.put, List.setIfInBounds_toArray, List.set_cons_zero, List.set_cons_succ]))
        (refine wpAnyH_ready (rs := [7]) (by decide +kernel) (by simp) ?_; refine AllReadyH.cons (o := ?ho72) ?hi72 (fun K hK => ?hr72) AllReadyH.nil; (case hi72 => (simp only [List.getElem?_toArray, List.getElem?_cons_succ, List.getElem?_cons_zero]; first | done | rfl)))
        (rw [if_pos (by rfl)]; go_wp2_with fail)
        (refine hK.out _ _ ?_ (fun hHeld => ?_); focus ((try dsimp only); ((with_reducible first | refine heldD.at (b := b) (R := w.heap.size) hKX hKb hKR gX ?_ | refine heldD.atL (b := b) (R := w.heap.size) hKX hKb hKR gX rX ?_); (repeat (with_reducible first | exact heldD.refl _ _ _ | apply heldD.drew | apply heldD.aftD | apply heldD.aft | apply heldD.alloc | apply heldD.set)))))
        (clear hK K; (try simp only [Act.put, List.setIfInBounds_toArray, List.set_cons_zero, List.set_cons_succ]))
        (refine wpAnyH_ready (rs := [8]) (by decide +kernel) (by simp) ?_; refine AllReadyH.cons (o := ?ho73) ?hi73 (fun K hK => ?hr73) AllReadyH.nil; (case hi73 => (simp only [List.getElem?_toArray, List.getElem?_cons_succ, List.getElem?_cons_zero]; first | done | rfl)))
        (go_simp; go_at_call 60; refine viaDr (s_pickA B b _ _ _ [d5, p, -1] _ _ _ (by first | rfl | simp) rfl rfl hs5 (by decide) (by decide)) ?_; intro x9 u9 hx9 hs9 hl9; clear hx9; (try simp at hl9); go_wp2_with fail)
        (refine hK.out _ _ ?_ (fun hHeld => ?_); focus ((try dsimp only); ((with_reducible first | refine heldD.at (b := b) (R := w.heap.size) hKX hKb hKR gX ?_ | refine heldD.atL (b := b) (R := w.heap.size) hKX hKb hKR gX rX ?_); (repeat (with_reducible first | exact heldD.refl _ _ _ | apply heldD.drew | apply heldD.aftD | apply heldD.aft | apply heldD.alloc | apply heldD.set)))))
        (clear hK K; (try simp only [Act.put, List.setIfInBounds_toArray, List.set_cons_zero, List.set_cons_succ]))
        (refine wpAnyH_ready (rs := [9]) (by decide +kernel) (by simp) ?_; refine AllReadyH.cons (o := ?ho74) ?hi74 (fun K hK => ?hr74) AllReadyH.nil; (case hi74 => (simp only [List.getElem?_toArray, List.getElem?_cons_succ, List.getElem?_cons_zero]; first | done | rfl)))
        (rw [if_pos (by rfl)]; go_wp2_with fail)
        (refine hK.out _ _ ?_ (fun hHeld => ?_); focus ((try dsimp only); ((with_reducible first | refine heldD.at (b := b) (R := w.heap.size) hKX hKb hKR gX ?_ | refine heldD.atL (b := b) (R := w.heap.size) hKX hKb hKR gX rX ?_); (repeat (with_reducible first | exact heldD.refl _ _ _ | apply heldD.drew | apply heldD.aftD | apply heldD.aft | apply heldD.alloc | apply heldD.set)))))
        (clear hK K; (try simp only [Act.put, List.setIfInBounds_toArray, List.set_cons_zero, List.set_cons_succ]))
        (refine wpAnyH_take (i := 10) (oi := ?ho43) (v := ?hv43) ?hi43 (by kernel_rfl) (by kernel_rfl) (by kernel_rfl) ?hq43 ?hy43 (by assumption) ?hr43; (case hi43 => (simp only [List.getElem?_toArray, List.getElem?_cons_succ, List.getElem?_cons_zero]; first | done | rfl)); (case hq43 => exact fun _ _ _ h => h); (case hy43 => (refine Or.inl ⟨by rfl, ?_⟩; intro w hSw; (try dsimp only at hSw); go_simp; first | done | with_reducible rfl)); (try simp only [Act.put, List.setIfInBounds_toArray, List.set_cons_zero, List.set_cons_succ]))
        (refine wpAnyH_take (i := 11) (oi := ?ho44) (v := ?hv44) ?hi44 (by kernel_rfl) (by kernel_rfl) (by kernel_rfl) ?hq44 ?hy44 (by assumption) ?hr44; (case hi44 => (simp only [List.getElem?_toArray, List.getElem?_cons_succ, List.getElem?_cons_zero]; first | done | rfl)); (case hq44 => exact fun _ _ _ h => h); (case hy44 => (refine Or.inl ⟨by rfl, ?_⟩; intro w hSw; (try dsimp only at hSw); go_simp; first | done | with_reducible rfl)); (try simp only [Act.put, List.setIfInBounds_toArray, List.set_cons_zero, List.set_cons_succ]))
        (refine wpAnyH_done (by kernel_rfl) ?_ _)
        go_wp2_with fail
        exact bodyPost_ret (v := .tuple #[.agg #[Value.int IntKind.i64 p, Value.int IntKind.i64 n], .slice a5 xs.length c5, .int .i64 x9]) (by first | (simp [results, go_sem, he0, he1]; done) | simp [results, go_sem, he0, he1, ↓IntWalk.iteOmega]) rfl ⟨p, n, _, xs, _, rfl, ownR.mono (show ownR (b + 1) _ _ _ from (by repeat (with_reducible first | exact HF.out | apply ownR.drew | apply ownR.aft | (refine ownR.aftD ?_ _ (by omega)) | apply ownR.alloc | (refine ownR.setCell ?_ _ _ _ _ (by omega))))) (by omega), HXL.out, (Ext.bel (by repeat (with_reducible first | exact HST.out.ext | apply Ext.drew | apply Ext.alloc | apply Ext.aft | (refine Ext.aftD ?_ _ (by omega)) | (refine Ext.setCell ?_ _ _ _ _ (by omega)))))⟩
      · have hzz : (0 : Int) < (zs.length : Int) := by omega
        obtain ⟨g, hga, hg1, hg2⟩ := own_head HL.out hzp
        subst hga
        obtain ⟨rf, hrf⟩ : ∃ rf : Nat → Int, ∀ q, rf q = zs.getD q 0 := ⟨fun q => zs.getD q 0, fun _ => rfl⟩
        have rX : ∀ q, q < zs.length → X.cell? ⟨g, q, none⟩ = some (.int .i64 (rf q)) ∧ g < X.heap.size ∧ g ≠ b ∧ g ≠ w.heap.size := fun q hq => ⟨by rw [hrf]; exact (own_cell HL.out hq).1, hg2, by omega, by omega⟩
        clear hrf
        obtain ⟨e0, he0, e1, he1, hf0, hf1, gX, hKX⟩ : ∃ e0, X.cell? ⟨w.heap.size, 0, none⟩ = some e0 ∧ ∃ e1, X.cell? ⟨w.heap.size, 1, none⟩ = some e1 ∧ X.frozen? ⟨w.heap.size, 0, none⟩ = false ∧ X.frozen? ⟨w.heap.size, 1, none⟩ = false ∧ (∀ o, X.cell? ⟨K, o, none⟩ = #[Value.int .i64 p, .int .i64 n][o]?) ∧ K < X.heap.size := by obtain ⟨q1, q2⟩ := HST.out.res 0 (by omega); obtain ⟨q3, q4⟩ := HST.out.res 1 (by omega); obtain ⟨e0, h0⟩ := Option.isSome_iff_exists.1 q2; obtain ⟨e1, h1⟩ := Option.isSome_iff_exists.1 q4; exact ⟨e0, h0, e1, h1, q1, q3, HST.out.ring, HST.out.kx⟩
        have g0 := gX 0
        have g1 := gX 1
        simp at g0 g1
        have HS := hid HST.out.srcw
        go_wp2_with fail
        (refine wp_region_held_drew (S := (fun w' => (∀ o, w'.cell? ⟨K, o, none⟩ = #[Value.int .i64 p, .int .i64 n][o]?) ∧ (∀ q, q < zs.length → w'.cell? ⟨g, q, none⟩ = some (.int .i64 (rf q))) ∧ X.heap.size ≤ w'.heap.size)) (by kernel_rfl) ?_ (fun hHeld => ?_); focus ((try dsimp only); ((with_reducible first | refine heldD.at (b := b) (R := w.heap.size) hKX hKb hKR gX ?_ | refine heldD.atL (b := b) (R := w.heap.size) hKX hKb hKR gX rX ?_); (repeat (with_reducible first | exact heldD.refl _ _ _ | apply heldD.drew | apply heldD.aftD | apply heldD.aft | apply heldD.alloc | apply heldD.set)))))
        (refine wpAnyH_take (i := 0) (oi := ?ho45) (v := ?hv45) ?hi45 (by kernel_rfl) (by kernel_rfl) (by kernel_rfl) ?hq45 ?hy45 (by assumption) ?hr45; (case hi45 => (simp only [List.getElem?_toArray, List.getElem?_cons_succ, List.getElem?_cons_zero]; first | done | rfl)); (case hq45 => exact fun _ _ _ h => h); (case hy45 => (refine Or.inl ⟨by rfl, ?_⟩; intro w hSw; (try dsimp only at hSw); go_simp; first | done | with_reducible rfl)); (try simp only [Act.put, List.setIfInBounds_toArray, List.set_cons_zero, List.set_cons_succ]))
        (refine wpAnyH_take (i := 1) (oi := ?ho46) (v := ?hv46) ?hi46 (by kernel_rfl) (by kernel_rfl) (by kernel_rfl) ?hq46 ?hy46 (by assumption) ?hr46; (case hi46 => (simp only [List.getElem?_toArray, List.getElem?_cons_succ, List.getElem?_cons_zero]; first | done | rfl)); (case hq46 => exact fun _ _ _ h => h); (case hy46 => (refine Or.inl ⟨by rfl, ?_⟩; intro w hSw; (try dsimp only at hSw); go_simp; first | done | with_reducible rfl)); (try simp only [Act.put, List.setIfInBounds_toArray, List.set_cons_zero, List.set_cons_succ]))
        (refine wpAnyH_take (i := 2) (oi := ?ho47) (v := ?hv47) ?hi47 (by kernel_rfl) (by kernel_rfl) (by kernel_rfl) ?hq47 ?hy47 (by assumption) ?hr47; (case hi47 => (simp only [List.getElem?_toArray, List.getElem?_cons_succ, List.getElem?_cons_zero]; first | done | rfl)); (case hq47 => exact fun _ _ _ h => h); (case hy47 => (refine Or.inl ⟨by rfl, ?_⟩; intro w hSw; (try dsimp only at hSw); go_simp; first | done | with_reducible rfl)); (try simp only [Act.put, List.setIfInBounds_toArray, List.set_cons_zero, List.set_cons_succ]))
        (refine wpAnyH_take (i := 3) (oi := ?ho48) (v := ?hv48) ?hi48 (by kernel_rfl) (by kernel_rfl) (by kernel_rfl) ?hq48 ?hy48 (by assumption) ?hr48; (case hi48 => (simp only [List.getElem?_toArray, List.getElem?_cons_succ, List.getElem?_cons_zero]; first | done | rfl)); (case hq48 => exact fun _ _ _ h => h); (case hy48 => (refine Or.inl ⟨by rfl, ?_⟩; intro w hSw; (try dsimp only at hSw); go_simp; first | done | with_reducible rfl)); (try simp only [Act.put, List.setIfInBounds_toArray, List.set_cons_zero, List.set_cons_succ]))
        (refine wpAnyH_take (i := 4) (oi := ?ho49) (v := ?hv49) ?hi49 (by kernel_rfl) (by kernel_rfl) (by kernel_rfl) ?hq49 ?hy49 (by assumption) ?hr49; (case hi49 => (simp only [List.getElem?_toArray, List.getElem?_cons_succ, List.getElem?_cons_zero]; first | done | rfl)); (case hq49 => exact fun _ _ _ h => h); (case hy49 => (refine Or.inl ⟨by rfl, ?_⟩; intro w hSw; (try dsimp only at hSw); go_simp; first | done | with_reducible rfl)); (try simp only [Act.put, List.setIfInBounds_toArray, List.set_cons_zero, List.set_cons_succ]))
        (refine wpAnyH_take (i := 5) (oi := ?ho50) (v := ?hv50) ?hi50 (by kernel_rfl) (by kernel_rfl) (by kernel_rfl) ?hq50 ?hy50 (by assumption) ?hr50; (case hi50 => (simp only [List.getElem?_toArray, List.getElem?_cons_succ, List.getElem?_cons_zero]; first | done | rfl)); (case hq50 => exact fun _ _ _ h => h); (case hy50 => (refine Or.inl ⟨by rfl, ?_⟩; intro w hSw; (try dsimp only at hSw); go_simp; first | done | with_reducible rfl)); (try simp only [Act.put, List.setIfInBounds_toArray, List.set_cons_zero, List.set_cons_succ]))
        (refine wpAnyH_ready (rs := [6]) (by decide +kernel) (by simp) ?_; refine AllReadyH.cons (o := ?ho75) ?hi75 (fun K hK => ?hr75) AllReadyH.nil; (case hi75 => (simp only [List.getElem?_toArray, List.getElem?_cons_succ, List.getElem?_cons_zero]; first | done | rfl)))
        (go_simp; go_at_call 33; refine viaDr (s_next B b _ _ HS.out.drew (by omega)) ?_; intro d5 u5 hd5 hs5 hl5; (try dsimp only at hd5); (try simp at hl5); obtain ⟨q, hq⟩ : ∃ q : Nat, d5 = (q : Int) := (⟨d5.toNat, by omega⟩); subst hq; have hq2 : q < zs.length := (by omega); have hq3 : (q : Int) < (zs.length : Int) := (by omega); have hq4 : (0 : Int) ≤ (q : Int) := (by omega); go_wp2_with fail)
        (refine hK.out _ _ ?_ (fun hHeld => ?_); focus ((try dsimp only); ((with_reducible first | refine heldD.at (b := b) (R := w.heap.size) hKX hKb hKR gX ?_ | refine heldD.atL (b := b) (R := w.heap.size) hKX hKb hKR gX rX ?_); (repeat (with_reducible first | exact heldD.refl _ _ _ | apply heldD.drew | apply heldD.aftD | apply heldD.aft | apply heldD.alloc | apply heldD.set)))))
        (clear hK K; (try simp only [Act.put, List.setIfInBounds_toArray, List.set_cons_zero, List.set_cons_succ]))
        (refine wpAnyH_take (i := 7) (oi := ?ho51) (v := ?hv51) ?hi51 (by kernel_rfl) (by kernel_rfl) (by kernel_rfl) ?hq51 ?hy51 (by assumption) ?hr51; (case hi51 => (simp only [List.getElem?_toArray, List.getElem?_cons_succ, List.getElem?_cons_zero]; first | done | rfl)); (case hq51 => exact fun _ _ _ h => h); (case hy51 => (refine Or.inl ⟨by rfl, ?_⟩; intro w hSw; (try dsimp only at hSw); go_simp; first | done | with_reducible rfl)); (try simp only [Act.put, List.setIfInBounds_toArray, List.set_cons_zero, List.set_cons_succ]))
        (refine wpAnyH_take (i := 8) (oi := ?ho52) (v := ?hv52) ?hi52 (by kernel_rfl) (by kernel_rfl) (by kernel_rfl) ?hq52 ?hy52 (by assumption) ?hr52; (case hi52 => (simp only [List.getElem?_toArray, List.getElem?_cons_succ, List.getElem?_cons_zero]; first | done | rfl)); (case hq52 => exact fun _ _ _ h => h); (case hy52 => (refine Or.inl ⟨by rfl, ?_⟩; intro w hSw; (try dsimp only at hSw); go_simp; first | done | with_reducible rfl)); (try simp only [Act.put, List.setIfInBounds_toArray, List.set_cons_zero, List.set_cons_succ]))
        (refine wpAnyH_ready (rs := [9]) (by decide +kernel) (by simp) ?_; refine AllReadyH.cons (o := ?ho76) ?hi76 (fun K hK => ?hr76) AllReadyH.nil; (case hi76 => (simp only [List.getElem?_toArray, List.getElem?_cons_succ, List.getElem?_cons_zero]; first | done | rfl)))
        (rw [if_pos (by rfl)]; go_wp2_with fail)
        (refine hK.out _ _ ?_ (fun hHeld => ?_); focus ((try dsimp only); ((with_reducible first | refine heldD.at (b := b) (R := w.heap.size) hKX hKb hKR gX ?_ | refine heldD.atL (b := b) (R := w.heap.size) hKX hKb hKR gX rX ?_); (repeat (with_reducible first | exact heldD.refl _ _ _ | apply heldD.drew | apply heldD.aftD | apply heldD.aft | apply heldD.alloc | apply heldD.set)))))
        (clear hK K; (try simp only [Act.put, List.setIfInBounds_toArray, List.set_cons_zero, List.set_cons_succ]))
        (refine wpAnyH_take (i := 10) (oi := ?ho53) (v := ?hv53) ?hi53 (by kernel_rfl) (by kernel_rfl) (by kernel_rfl) ?hq53 ?hy53 (by assumption) ?hr53; (case hi53 => (simp only [List.getElem?_toArray, List.getElem?_cons_succ, List.getElem?_cons_zero]; first | done | rfl)); (case hq53 => exact fun _ _ _ h => h); (case hy53 => (refine Or.inl ⟨by rfl, ?_⟩; intro w hSw; (try dsimp only at hSw); go_simp; first | done | with_reducible rfl)); (try simp only [Act.put, List.setIfInBounds_toArray, List.set_cons_zero, List.set_cons_succ]))
        (refine wpAnyH_take (i := 11) (oi := ?ho54) (v := ?hv54) ?hi54 (by kernel_rfl) (by kernel_rfl) (by kernel_rfl) ?hq54 ?hy54 (by assumption) ?hr54; (case hi54 => (simp only [List.getElem?_toArray, List.getElem?_cons_succ, List.getElem?_cons_zero]; first | done | rfl)); (case hq54 => exact fun _ _ _ h => h); (case hy54 => (refine Or.inl ⟨by rfl, ?_⟩; intro w hSw; (try dsimp only at hSw); go_simp; first | done | with_reducible rfl)); (try simp only [Act.put, List.setIfInBounds_toArray, List.set_cons_zero, List.set_cons_succ]))
        (refine wpAnyH_done (by kernel_rfl) ?_ _)
        go_wp2_with fail
        exact bodyPost_ret (v := .tuple #[.agg #[Value.int IntKind.i64 p, Value.int IntKind.i64 n], .slice a5 xs.length c5, .int .i64 (rf q)]) (by first | (simp [results, go_sem, he0, he1]; done) | simp [results, go_sem, he0, he1, ↓IntWalk.iteOmega]) rfl ⟨p, n, _, xs, _, rfl, ownR.mono (show ownR (b + 1) _ _ _ from (by repeat (with_reducible first | exact HF.out | apply ownR.drew | apply ownR.aft | (refine ownR.aftD ?_ _ (by omega)) | apply ownR.alloc | (refine ownR.setCell ?_ _ _ _ _ (by omega))))) (by omega), HXL.out, (Ext.bel (by repeat (with_reducible first | exact HST.out.ext | apply Ext.drew | apply Ext.alloc | apply Ext.aft | (refine Ext.aftD ?_ _ (by omega)) | (refine Ext.setCell ?_ _ _ _ _ (by omega)))))⟩
end Go.Proofs.Ytganmeiaflkkoaa
