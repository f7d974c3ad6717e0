/- Draws for the law on lifts. (Printed by mkZH.py.) -/
import Derived.Test.YtdhnpmjoajaeiaaZG
namespace Go.Proofs.Ytdhnpmjoajaeiaa
open Go Go.RowKit

theorem heldD.atL {b R G g : Nat} {V w' : World} {cs : Array Value} {zs : List Int} {rf : Nat → Int} (h1 : G < V.heap.size) (h2 : G ≠ b) (h3 : G ≠ R) (hc : ∀ o, V.cell? ⟨G, o, none⟩ = cs[o]?)
    (hr : ∀ q, q < zs.length → V.cell? ⟨g, q, none⟩ = some (.int .i64 (rf q)) ∧ g < V.heap.size ∧ g ≠ b ∧ g ≠ R) (h : heldD b R V w') : (∀ o, w'.cell? ⟨G, o, none⟩ = cs[o]?) ∧ (∀ q, q < zs.length → w'.cell? ⟨g, q, none⟩ = some (.int .i64 (rf q))) ∧ V.heap.size ≤ w'.heap.size :=
  ⟨fun o => (h.1 G o h1 h2 h3).trans (hc o), fun q hq => by obtain ⟨q1, q2, q3, q4⟩ := hr q hq; exact (h.1 g q q2 q3 q4).trans q1, h.2⟩
set_option maxRecDepth 20000 in
set_option maxHeartbeats 16000000 in
theorem s_DrawValueInRing (B : Nat) (a : Option Addr) (len cap : Nat) (w : World) (h : rdB B w a len) (hl : len ≤ 4096) (hB : B ≤ w.heap.size) :
    Calls Try.prog 22 #[.slice a len cap] w fun e w' => ∃ (p n : Int) (s : Value) (xs : List Int) (x : Int), e = .returned (.tuple #[.agg #[.int .i64 p, .int .i64 n], s, .int .i64 x]) ∧ ownR w.heap.size w' s xs ∧ xs.length ≤ 11 ∧ Below w.heap.size w w' := by
  go_enter Try.func22, Try.ntmps22
  go_wp2_with fail
  refine viaF (s_from B a len cap _ (h.of fun j o v hj hv => by rw [alloc_cell, if_neg (by omega)]; exact hv) hl (by simp; omega)) ?_
  intro b u0 hs0 hb0 hl0 hl1
  simp at hb0 hl0
  go_wp2_with fail
  refine viaDX (s_draw11 B b _ hs0) ?_
  intro v u hv hs hl2
  obtain ⟨p, n, s, xs, rfl, own, hxl⟩ := hv
  obtain ⟨a5, c5, hsh, _, _⟩ := own.rd
  subst hsh
  have HXL := hid hxl
  clear hxl
  go_wp2_with fail
  obtain ⟨V, hV⟩ : ∃ V, V = aftD b (aft (w.alloc (Obj.cells #[Value.int IntKind.i64 0, Value.int IntKind.i64 0] 27)) u0) u := ⟨_, rfl⟩
  obtain ⟨K, hK⟩ : ∃ K, K = V.heap.size := ⟨_, rfl⟩
  have hres : resR w.heap.size V := by
    intro j hj
    obtain rfl | rfl : j = 0 ∨ j = 1 := by omega
    all_goals (rw [hV, aftD_frozen, aftD_cell, if_pos (by omega), if_pos (by omega), aft_cell, aft_frozen, if_pos (by simp), if_pos (by simp)]; simp [go_sem])
  have hE : Ext w.heap.size w V := by rw [hV]; exact (((Ext.refl w).alloc _).aft _).aftD _ (by omega)
  have own2 : ownR (b + 1) V (.slice a5 xs.length c5) xs := by rw [hV]; exact own.mono (by omega)
  rw [← hV] at hs hl2 ⊢
  have hbK : b < K := by omega
  clear hV own
  obtain ⟨X, hX⟩ : ∃ X, X = V.alloc (Obj.cells #[Value.int IntKind.i64 p, Value.int IntKind.i64 n] 27) := ⟨_, rfl⟩
  have hST9 : stL B b p n K w X := by
    refine ⟨by rw [hX]; exact hE.alloc _, by rw [hX]; exact hs.alloc _, fun o => by rw [hX, alloc_cell, if_pos hK], fun k hk => ?_, by omega, hbK, by rw [hX, hK]; simp⟩
    rw [hX, alloc_frozen, alloc_cell, if_neg (by omega), if_neg (by omega)]
    exact hres k hk
  have own3 : ownR (b + 1) X (.slice a5 xs.length c5) xs := by rw [hX]; exact own2.alloc _
  rw [← hX, ← hK]
  have hwb : w.heap.size < b := by omega
  clear hX hK hs hres hE hl2 hl1 hl0 hs0 own2 hb0
  have hKb : K ≠ b := by omega
  have hKR : K ≠ w.heap.size := by omega
  have HST := hid hST9
  have HF := hid own3
  clear hST9 own3
  obtain ⟨e0, he0, e1, he1, hf0, hf1, gX, hKX⟩ : ∃ e0, X.cell? ⟨w.heap.size, 0, none⟩ = some e0 ∧ ∃ e1, X.cell? ⟨w.heap.size, 1, none⟩ = some e1 ∧ X.frozen? ⟨w.heap.size, 0, none⟩ = false ∧ X.frozen? ⟨w.heap.size, 1, none⟩ = false ∧ (∀ o, X.cell? ⟨K, o, none⟩ = #[Value.int .i64 p, .int .i64 n][o]?) ∧ K < X.heap.size := by obtain ⟨q1, q2⟩ := HST.out.res 0 (by omega); obtain ⟨q3, q4⟩ := HST.out.res 1 (by omega); obtain ⟨e0, h0⟩ := Option.isSome_iff_exists.1 q2; obtain ⟨e1, h1⟩ := Option.isSome_iff_exists.1 q4; exact ⟨e0, h0, e1, h1, q1, q3, HST.out.ring, HST.out.kx⟩
  have g0 := gX 0
  have g1 := gX 1
  simp at g0 g1
  have HS := hid HST.out.srcw
  (refine wp_region_held_drew (S := (fun w' => (∀ o, w'.cell? ⟨K, o, none⟩ = #[Value.int .i64 p, .int .i64 n][o]?) ∧ X.heap.size ≤ w'.heap.size)) (by kernel_rfl) ?_ (fun hHeld => ?_); focus ((try dsimp only); ((with_reducible first | refine heldD.at (b := b) (R := w.heap.size) hKX hKb hKR gX ?_ | refine heldD.atL (b := b) (R := w.heap.size) hKX hKb hKR gX rX ?_); (repeat (with_reducible first | exact heldD.refl _ _ _ | apply heldD.drew | apply heldD.aftD | apply heldD.aft | apply heldD.alloc | apply heldD.set)))))
  (refine wpAnyH_take (i := 0) (oi := ?ho1) (v := ?hv1) ?hi1 (by kernel_rfl) (by kernel_rfl) (by kernel_rfl) ?hq1 ?hy1 (by assumption) ?hr1; (case hi1 => (simp only [List.getElem?_toArray, List.getElem?_cons_zero]; first | done | rfl)); (case hq1 => exact fun _ _ _ h => h); (case hy1 => (refine Or.inl ⟨by rfl, ?_⟩; intro w hSw; (try dsimp only at hSw); go_simp; first | done | with_reducible rfl)); (try simp only [Act.put, List.setIfInBounds_toArray, List.set_cons_zero, List.set_cons_succ]))
  (refine wpAnyH_take (i := 1) (oi := ?ho2) (v := ?hv2) ?hi2 (by kernel_rfl) (by kernel_rfl) (by kernel_rfl) ?hq2 ?hy2 (by assumption) ?hr2; (case hi2 => (simp only [List.getElem?_toArray, List.getElem?_cons_succ, List.getElem?_cons_zero]; first | done | rfl)); (case hq2 => exact fun _ _ _ h => h); (case hy2 => (refine Or.inl ⟨by rfl, ?_⟩; intro w hSw; (try dsimp only at hSw); go_simp; first | done | with_reducible rfl)); (try simp only [Act.put, List.setIfInBounds_toArray, List.set_cons_zero, List.set_cons_succ]))
  (refine wpAnyH_take (i := 2) (oi := ?ho3) (v := ?hv3) ?hi3 (by kernel_rfl) (by kernel_rfl) (by kernel_rfl) ?hq3 ?hy3 (by assumption) ?hr3; (case hi3 => (simp only [List.getElem?_toArray, List.getElem?_cons_succ, List.getElem?_cons_zero]; first | done | rfl)); (case hq3 => exact fun _ _ _ h => h); (case hy3 => (refine Or.inl ⟨by rfl, ?_⟩; intro w hSw; (try dsimp only at hSw); go_simp; first | done | with_reducible rfl)); (try simp only [Act.put, List.setIfInBounds_toArray, List.set_cons_zero, List.set_cons_succ]))
  (refine wpAnyH_take (i := 3) (oi := ?ho4) (v := ?hv4) ?hi4 (by kernel_rfl) (by kernel_rfl) (by kernel_rfl) ?hq4 ?hy4 (by assumption) ?hr4; (case hi4 => (simp only [List.getElem?_toArray, List.getElem?_cons_succ, List.getElem?_cons_zero]; first | done | rfl)); (case hq4 => exact fun _ _ _ h => h); (case hy4 => (refine Or.inl ⟨by rfl, ?_⟩; intro w hSw; (try dsimp only at hSw); go_simp; first | done | with_reducible rfl)); (try simp only [Act.put, List.setIfInBounds_toArray, List.set_cons_zero, List.set_cons_succ]))
  (refine wpAnyH_ready (rs := [4]) (by decide +kernel) (by simp) ?_; refine AllReadyH.cons (o := ?ho55) ?hi55 (fun K hK => ?hr55) AllReadyH.nil; (case hi55 => (simp only [List.getElem?_toArray, List.getElem?_cons_succ, List.getElem?_cons_zero]; first | done | rfl)))
  (go_simp; go_at_call 44; refine viaDr (s_residue B b p n _ HS.out.drew) ?_; intro x9 u9 hx9 hs9 hl9; clear hx9; (try simp at hl9); go_wp2_with fail)
  (refine hK.out _ _ ?_ (fun hHeld => ?_); focus ((try dsimp only); ((with_reducible first | refine heldD.at (b := b) (R := w.heap.size) hKX hKb hKR gX ?_ | refine heldD.atL (b := b) (R := w.heap.size) hKX hKb hKR gX rX ?_); (repeat (with_reducible first | exact heldD.refl _ _ _ | apply heldD.drew | apply heldD.aftD | apply heldD.aft | apply heldD.alloc | apply heldD.set)))))
  (clear hK K; (try simp only [Act.put, List.setIfInBounds_toArray, List.set_cons_zero, List.set_cons_succ]))
  (refine wpAnyH_ready (rs := [5]) (by decide +kernel) (by simp) ?_; refine AllReadyH.cons (o := ?ho56) ?hi56 (fun K hK => ?hr56) AllReadyH.nil; (case hi56 => (simp only [List.getElem?_toArray, List.getElem?_cons_succ, List.getElem?_cons_zero]; first | done | rfl)))
  (rw [if_pos (by rfl)]; go_wp2_with fail)
  (refine hK.out _ _ ?_ (fun hHeld => ?_); focus ((try dsimp only); ((with_reducible first | refine heldD.at (b := b) (R := w.heap.size) hKX hKb hKR gX ?_ | refine heldD.atL (b := b) (R := w.heap.size) hKX hKb hKR gX rX ?_); (repeat (with_reducible first | exact heldD.refl _ _ _ | apply heldD.drew | apply heldD.aftD | apply heldD.aft | apply heldD.alloc | apply heldD.set)))))
  (clear hK K; (try simp only [Act.put, List.setIfInBounds_toArray, List.set_cons_zero, List.set_cons_succ]))
  (refine wpAnyH_take (i := 6) (oi := ?ho5) (v := ?hv5) ?hi5 (by kernel_rfl) (by kernel_rfl) (by kernel_rfl) ?hq5 ?hy5 (by assumption) ?hr5; (case hi5 => (simp only [List.getElem?_toArray, List.getElem?_cons_succ, List.getElem?_cons_zero]; first | done | rfl)); (case hq5 => exact fun _ _ _ h => h); (case hy5 => (refine Or.inl ⟨by rfl, ?_⟩; intro w hSw; (try dsimp only at hSw); go_simp; first | done | with_reducible rfl)); (try simp only [Act.put, List.setIfInBounds_toArray, List.set_cons_zero, List.set_cons_succ]))
  (refine wpAnyH_take (i := 7) (oi := ?ho6) (v := ?hv6) ?hi6 (by kernel_rfl) (by kernel_rfl) (by kernel_rfl) ?hq6 ?hy6 (by assumption) ?hr6; (case hi6 => (simp only [List.getElem?_toArray, List.getElem?_cons_succ, List.getElem?_cons_zero]; first | done | rfl)); (case hq6 => exact fun _ _ _ h => h); (case hy6 => (refine Or.inl ⟨by rfl, ?_⟩; intro w hSw; (try dsimp only at hSw); go_simp; first | done | with_reducible rfl)); (try simp only [Act.put, List.setIfInBounds_toArray, List.set_cons_zero, List.set_cons_succ]))
  (refine wpAnyH_done (by kernel_rfl) ?_ _)
  go_wp2_with fail
  exact bodyPost_ret (v := .tuple #[.agg #[Value.int IntKind.i64 p, Value.int IntKind.i64 n], .slice a5 xs.length c5, .int .i64 x9]) (by first | (simp [results, go_sem, he0, he1]; done) | simp [results, go_sem, he0, he1, ↓IntWalk.iteOmega]) rfl ⟨p, n, _, xs, _, rfl, ownR.mono (show ownR (b + 1) _ _ _ from (by repeat (with_reducible first | exact HF.out | apply ownR.drew | apply ownR.aft | (refine ownR.aftD ?_ _ (by omega)) | apply ownR.alloc | (refine ownR.setCell ?_ _ _ _ _ (by omega))))) (by omega), HXL.out, (Ext.bel (by repeat (with_reducible first | exact HST.out.ext | apply Ext.drew | apply Ext.alloc | apply Ext.aft | (refine Ext.aftD ?_ _ (by omega)) | (refine Ext.setCell ?_ _ _ _ _ (by omega)))))⟩
theorem viaVal {P : Program} {f : FuncId} {args : Array Value} {w : World} {R : Ending → World → Prop}
    (h : Calls P f args w fun e w' => ∃ (p n : Int) (s : Value) (xs : List Int) (x : Int), e = .returned (.tuple #[.agg #[.int .i64 p, .int .i64 n], s, .int .i64 x]) ∧ ownR w.heap.size w' s xs ∧ xs.length ≤ 11 ∧ Below w.heap.size w w')
    (hR : ∀ p n s xs x u, w.heap.size ≤ (aft w u).heap.size → ownR w.heap.size (aft w u) s xs → xs.length ≤ 11 → R (.returned (.tuple #[.agg #[.int .i64 p, .int .i64 n], s, .int .i64 x])) (aft w u)) : Calls P f args w R :=
  h.mono fun e w' ⟨p, n, s, xs, x, he, h1, h2, hb⟩ => by subst he; obtain ⟨u, rfl⟩ := aft_ex hb; exact hR p n s xs x u (size_aft w u) h1 h2
end Go.Proofs.Ytdhnpmjoajaeiaa
