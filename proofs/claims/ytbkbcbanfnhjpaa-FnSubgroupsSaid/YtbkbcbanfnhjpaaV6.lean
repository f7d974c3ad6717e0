/- Draws of groups, also those that are none. -/
import Derived.Test.YtbkbcbanfnhjpaaV5
namespace Go.Proofs.Ytbkbcbanfnhjpaa
open Go Go.RowKit

/-- What a region keeps that draws and fills a result's block. -/
def heldD (b R : Nat) (V w' : World) : Prop := (∀ k o, k < V.heap.size → k ≠ b → k ≠ R → w'.cell? ⟨k, o, none⟩ = V.cell? ⟨k, o, none⟩) ∧ V.heap.size ≤ w'.heap.size
theorem heldD.refl (b R : Nat) (V : World) : heldD b R V V := ⟨fun _ _ _ _ _ => rfl, Nat.le_refl _⟩
theorem heldD.drew {b R : Nat} {V w' : World} (h : heldD b R V w') : heldD b R V w'.drew := h
theorem heldD.aft {b R : Nat} {V w' : World} (h : heldD b R V w') (u : World) : heldD b R V (Go.Proofs.Ytbkbcbanfnhjpaa.aft w' u) :=
  ⟨fun k o hk h1 h2 => by have := h.2; rw [aft_cell, if_pos (by omega)]; exact h.1 k o hk h1 h2, le_aft h.2⟩
theorem heldD.aftD {b R : Nat} {V w' : World} (h : heldD b R V w') (u : World) : heldD b R V (Go.Proofs.Ytbkbcbanfnhjpaa.aftD b w' u) :=
  ⟨fun k o hk h1 h2 => by have := h.2; rw [aftD_cell, if_pos ⟨by omega, h1⟩]; exact h.1 k o hk h1 h2, le_aftD h.2⟩
theorem heldD.alloc {b R : Nat} {V w' : World} (h : heldD b R V w') (zs : Array Value) (T : TypeId) : heldD b R V (w'.alloc (.cells zs T)) :=
  ⟨fun k o hk h1 h2 => by have := h.2; rw [alloc_cell, if_neg (by omega)]; exact h.1 k o hk h1 h2, by have := h.2; simp; omega⟩
theorem heldD.set {b R : Nat} {V w' : World} (h : heldD b R V w') (o' : Nat) (v : Value) : heldD b R V (w'.setCell ⟨R, o', none⟩ v) :=
  ⟨fun k o hk h1 h2 => by rw [set_cell, if_neg (fun e => h2 e.1.symm)]; exact h.1 k o hk h1 h2, by simpa using h.2⟩
theorem heldD.grown {b R : Nat} {V w' w2 : World} {own : Option Nat} (h : heldD b R V w') (hg : w'.grownBy w2 own) (ho : ∀ k, own = some k → V.heap.size ≤ k) : heldD b R V w2 :=
  ⟨fun k o hk h1 h2 => by
    have := h.2
    rw [World.cell?_of_block (a := ⟨k, o, none⟩) (hg.block k (by omega) (fun e => by have := ho k e.symm; omega))]
    exact h.1 k o hk h1 h2, Nat.le_trans h.2 hg.size⟩
theorem rdI.setB {L : Nat} {w : World} {v : Value} {xs : List Int} (h : rdI w v xs) (b o : Nat) (x : Value) (hv : ∀ k, v.ownBlock = some k → L ≤ k) (hb : b < L) : rdI (w.setCell ⟨b, o, none⟩ x) v xs := by
  obtain ⟨a, cap, rfl, hm, hc⟩ := h
  refine ⟨a, cap, rfl, hm, fun hne => ?_⟩
  obtain ⟨b', o', rfl, hcell⟩ := hc hne
  refine ⟨b', o', rfl, fun i hi => ?_⟩
  have := hv b' rfl
  rw [set_cell, if_neg (by omega)]
  exact hcell i hi
/-- What a drawn group is. -/
def grpX (L : Nat) (w' : World) (v : Value) : Prop := ∃ (n : Int) (s : Value) (rs : List Int), v = .agg #[.int .i64 n, s] ∧ (-10 ≤ n ∧ n ≤ 10) ∧ rdI w' s rs ∧ (∀ k, s.ownBlock = some k → L ≤ k) ∧ rs.length ≤ 1000
theorem cut1_rule {B g cap n : Nat} {w : World} {xs : List Int} (h : ownR B w (.slice (some ⟨g, 0, none⟩) n cap) xs) (h1 : 1 ≤ xs.length) :
    ∃ o c, (∀ wx, (Instr.slice 24 (.slice (some ⟨g, 0, none⟩) n cap) (some (.int .i64 1)) none none).run Try.prog wx = .ok (.slice (some ⟨g, o, none⟩) (xs.length - 1) c) wx) ∧ rdI w (.slice (some ⟨g, o, none⟩) (xs.length - 1) c) (xs.drop 1) := by
  have hn : n = xs.length := by
    rcases h.2 with ⟨e, h1⟩ | ⟨g', c, cur, e, _⟩
    · cases e
    · cases e; rfl
  subst hn
  have ht' : Try.prog.underlying 24 = some (.slice (Try.prog.elem 24)) := by kernel_rfl
  have he : Try.prog.elem 24 = 2 := by kernel_rfl
  have hc := h.le
  obtain ⟨_, _, _, hm, _⟩ := h.rd
  refine ⟨if cap = 1 then 0 else 1, cap - 1, fun wx => ?_, some ⟨g, if cap = 1 then 0 else 1, none⟩, cap - 1, by simp, by simp; omega, fun hne => ⟨g, if cap = 1 then 0 else 1, rfl, fun i hi => ?_⟩⟩
  · rw [run_slice_l wx _ _ _ _ ht' .i64 _ (by omega) (by omega), he, sizeI]
    simp only [Result.andThen, sliced, Nat.mul_one, Int.toNat_one]
    split
    · simp
    · simp [Addr.add]
  · simp at hi
    rw [if_neg (by omega), own_cell h (q := 1 + i) (by omega)]
    simp [List.getD, Nat.add_comm 1 i, List.getElem?_eq_getElem (show i + 1 < xs.length by omega)]
theorem heldD.at {b R G : Nat} {V w' : World} {cs : Array Value} (h1 : G < V.heap.size) (h2 : G ≠ b) (h3 : G ≠ R) (hc : ∀ o, V.cell? ⟨G, o, none⟩ = cs[o]?) (h : heldD b R V w') : (∀ o, w'.cell? ⟨G, o, none⟩ = cs[o]?) ∧ V.heap.size ≤ w'.heap.size :=
  ⟨fun o => (h.1 G o h1 h2 h3).trans (hc o), h.2⟩
set_option maxRecDepth 20000 in
set_option maxHeartbeats 8000000 in
theorem s_draw22 (B b : Nat) (w : World) (h : src B b w) :
    Calls Try.prog 52 #[.pointer (some ⟨b, 0, none⟩)] w (DrawX B b w (grpX w.heap.size)) := by
  obtain ⟨i0, hi, hz0, hz1, hz2⟩ := info_parts infoI
  have hb := h.lt
  have hB := h.ge
  go_enter Try.func52, Try.ntmps52
  go_wp2_with fail
  obtain ⟨W0, hW0⟩ : ∃ W0, W0 = w.alloc (Obj.cells #[.int .i64 0, .slice none 0 0] 26) := ⟨_, rfl⟩
  have hsz0 : W0.heap.size = w.heap.size + 1 := by rw [hW0]; simp
  have hres : resOK w.heap.size W0 := by
    intro k hk
    obtain rfl | rfl : k = 0 ∨ k = 1 := by omega
    all_goals (rw [hW0]; simp [go_sem])
  have HR0 := hid hres
  have HGW : Hid (Gr b w W0) := hid (by rw [hW0]; exact (Gr.refl b w).alloc _)
  have hs0 : src B b W0 := by rw [hW0]; exact h.alloc _
  rw [← hW0]
  have hbW : b < W0.heap.size := by omega
  have hwW : w.heap.size < W0.heap.size := by omega
  clear hW0 hres h hsz0
  refine viaDX (s_valid22 B b _ hs0) ?_
  intro v0 u ht hs hl
  obtain ⟨m, s, rs, rfl, hm, own1, hr0, hr7⟩ := ht
  obtain ⟨a5, c5, hsh, _, _⟩ := own1.rd
  subst hsh
  go_wp2_with fail
  obtain ⟨V1, hV1⟩ : ∃ V1, V1 = (aftD b W0 u).alloc (Obj.cells #[.int .i64 (m : Int), .slice a5 rs.length c5] 26) := ⟨_, rfl⟩
  obtain ⟨G, hG⟩ : ∃ G, G = (aftD b W0 u).heap.size := ⟨_, rfl⟩
  have HG1 : Hid (Gr b W0 V1) := hid (by rw [hV1]; exact ((Gr.refl b W0).aftD u).alloc _)
  have own2 : ownR W0.heap.size V1 (.slice a5 rs.length c5) rs := by rw [hV1]; exact own1.alloc _
  have gc : ∀ o, V1.cell? ⟨G, o, none⟩ = #[Value.int .i64 (m : Int), .slice a5 rs.length c5][o]? := fun o => by rw [hV1, hG, alloc_cell, if_pos rfl]
  have hGl : G < V1.heap.size := by rw [hV1, hG]; simp
  have hGw : W0.heap.size ≤ G := by omega
  have hs2 : src B b V1 := by rw [hV1]; exact hs.alloc _
  rw [← hV1, ← hG]
  clear hV1 hG own1 hs hl
  refine viaDr (s_next B b _ _ hs2 (by omega)) ?_
  intro x v hx hs3 hl3
  (try dsimp only at hx)
  obtain ⟨V, hV⟩ : ∃ V, V = aftD b V1 v := ⟨_, rfl⟩
  have HGV : Hid (Gr b W0 V) := hid (by rw [hV]; exact HG1.out.aftD _)
  have HO : Hid (ownR W0.heap.size V (.slice a5 rs.length c5) rs) := hid (by rw [hV]; exact own2.aftD v (by omega))
  have gV : ∀ o, V.cell? ⟨G, o, none⟩ = #[Value.int .i64 (m : Int), .slice a5 rs.length c5][o]? := fun o => by rw [hV, aftD_cell, if_pos ⟨hGl, by omega⟩]; exact gc o
  have hGV : G < V.heap.size := by rw [hV]; omega
  have hGb : G ≠ b := by omega
  have hGR : G ≠ w.heap.size := by omega
  rw [← hV] at hs3 ⊢
  have hresV : resOK w.heap.size V := HR0.out.grownD HGV.out (by omega) (by omega)
  have HRV := hid hresV
  have HSV := hid hs3
  have hge := hid (own_row_ge HO.out)
  have hWV := HGV.out.size
  obtain ⟨y0, hy0⟩ := Option.isSome_iff_exists.1 (hresV 0 (by omega)).2
  obtain ⟨y1, hy1⟩ := Option.isSome_iff_exists.1 (hresV 1 (by omega)).2
  have hf0 := (hresV 0 (by omega)).1
  have hf1 := (hresV 1 (by omega)).1
  have g0 := gV 0
  have g1 := gV 1
  simp at g0 g1
  have HGX : Hid (Gr b w V) := hid (grownBy_trans HGW.out HGV.out)
  clear hV own2 gc hs2 hl3 hresV
  by_cases h0 : x = 0
  · subst h0
    have hf6 := facN_le (show m ≤ 6 by omega)
    have hfp := facN_pos m
    obtain ⟨F, hF⟩ : ∃ F, F = facN m := ⟨_, rfl⟩
    have HF := hid hF
    rw [← hF] at hf6 hfp
    clear hF
    go_wp2_with fail
    (refine wp_region_held_drew (S := (fun w' => (∀ o, w'.cell? ⟨G, o, none⟩ = #[Value.int .i64 (m : Int), .slice a5 rs.length c5][o]?) ∧ V.heap.size ≤ w'.heap.size)) (by kernel_rfl) ?_ (fun hHeld => ?_); focus ((try dsimp only); (refine heldD.at (b := b) (R := w.heap.size) hGV hGb hGR gV ?_; (repeat (with_reducible first | exact hHeld9 | exact heldD.refl _ _ _ | apply heldD.drew | apply heldD.aftD | apply heldD.aft | apply heldD.alloc | apply heldD.set)))))
    (refine wpAnyH_take (i := 0) (oi := ?ho1) (v := ?hv1) ?hi1 (by kernel_rfl) (by kernel_rfl) (by kernel_rfl) ?hq1 ?hy1 (by assumption) ?hr1; (case hi1 => (simp only [List.getElem?_toArray, List.getElem?_cons_succ, List.getElem?_cons_zero]; first | done | rfl)); (case hq1 => exact fun _ _ _ h => h); (case hy1 => (refine Or.inl ⟨by rfl, ?_⟩; intro w hSw; (try dsimp only at hSw); go_simp; first | done | with_reducible rfl)); (try simp only [Act.put, List.setIfInBounds_toArray, List.set_cons_zero, List.set_cons_succ]))
    (refine wpAnyH_take (i := 1) (oi := ?ho2) (v := ?hv2) ?hi2 (by kernel_rfl) (by kernel_rfl) (by kernel_rfl) ?hq2 ?hy2 (by assumption) ?hr2; (case hi2 => (simp only [List.getElem?_toArray, List.getElem?_cons_succ, List.getElem?_cons_zero]; first | done | rfl)); (case hq2 => exact fun _ _ _ h => h); (case hy2 => (refine Or.inl ⟨by rfl, ?_⟩; intro w hSw; (try dsimp only at hSw); go_simp; first | done | with_reducible rfl)); (try simp only [Act.put, List.setIfInBounds_toArray, List.set_cons_zero, List.set_cons_succ]))
    (refine wpAnyH_take (i := 2) (oi := ?ho3) (v := ?hv3) ?hi3 (by kernel_rfl) (by kernel_rfl) (by kernel_rfl) ?hq3 ?hy3 (by assumption) ?hr3; (case hi3 => (simp only [List.getElem?_toArray, List.getElem?_cons_succ, List.getElem?_cons_zero]; first | done | rfl)); (case hq3 => exact fun _ _ _ h => h); (case hy3 => (refine Or.inl ⟨by rfl, ?_⟩; intro w hSw; (try dsimp only at hSw); go_simp; first | done | with_reducible rfl)); (try simp only [Act.put, List.setIfInBounds_toArray, List.set_cons_zero, List.set_cons_succ]))
    (refine wpAnyH_take (i := 3) (oi := ?ho4) (v := ?hv4) ?hi4 (by kernel_rfl) (by kernel_rfl) (by kernel_rfl) ?hq4 ?hy4 (by assumption) ?hr4; (case hi4 => (simp only [List.getElem?_toArray, List.getElem?_cons_succ, List.getElem?_cons_zero]; first | done | rfl)); (case hq4 => exact fun _ _ _ h => h); (case hy4 => (refine Or.inl ⟨by rfl, ?_⟩; intro w hSw; (try dsimp only at hSw); go_simp; first | done | with_reducible rfl)); (try simp only [Act.put, List.setIfInBounds_toArray, List.set_cons_zero, List.set_cons_succ]))
    (refine wpAnyH_take (i := 5) (oi := ?ho5) (v := ?hv5) ?hi5 (by kernel_rfl) (by kernel_rfl) (by kernel_rfl) ?hq5 ?hy5 (by assumption) ?hr5; (case hi5 => (simp only [List.getElem?_toArray, List.getElem?_cons_succ, List.getElem?_cons_zero]; first | done | rfl)); (case hq5 => exact fun _ _ _ h => h); (case hy5 => (refine Or.inl ⟨by rfl, ?_⟩; intro w hSw; (try dsimp only at hSw); go_simp; first | done | with_reducible rfl)); (try simp only [Act.put, List.setIfInBounds_toArray, List.set_cons_zero, List.set_cons_succ]))
    (refine wpAnyH_take (i := 6) (oi := ?ho6) (v := ?hv6) ?hi6 (by kernel_rfl) (by kernel_rfl) (by kernel_rfl) ?hq6 ?hy6 (by assumption) ?hr6; (case hi6 => (simp only [List.getElem?_toArray, List.getElem?_cons_succ, List.getElem?_cons_zero]; first | done | rfl)); (case hq6 => exact fun _ _ _ h => h); (case hy6 => (refine Or.inl ⟨by rfl, ?_⟩; intro w hSw; (try dsimp only at hSw); go_simp; first | done | with_reducible rfl)); (try simp only [Act.put, List.setIfInBounds_toArray, List.set_cons_zero, List.set_cons_succ]))
    (refine wpAnyH_ready (rs := [4]) (by decide +kernel) (by simp) ?_; refine AllReadyH.cons (o := ?ho22) ?hi22 (fun K hK => ?hr22) AllReadyH.nil; (case hi22 => (simp only [List.getElem?_toArray, List.getElem?_cons_succ, List.getElem?_cons_zero]; first | done | rfl)))
    (go_simp; go_at_call 109; refine viaI (g := id) (s_own _ rs _ (by first | exact HO.out.rd | exact HO.out.rd.drew) (by omega)) ?_; intro t7 u7 z7 own7; (try simp at z7); obtain ⟨a7, c7, hsh7, _, _⟩ := own7.rd; subst hsh7; go_wp2_with fail)
    (refine hK.out _ _ ?_ (fun hHeld => ?_); focus ((try dsimp only); (refine heldD.at (b := b) (R := w.heap.size) hGV hGb hGR gV ?_; (repeat (with_reducible first | exact hHeld9 | exact heldD.refl _ _ _ | apply heldD.drew | apply heldD.aftD | apply heldD.aft | apply heldD.alloc | apply heldD.set)))))
    (clear hK K; (try simp only [Act.put, List.setIfInBounds_toArray, List.set_cons_zero, List.set_cons_succ]))
    (refine wpAnyH_ready (rs := [7]) (by decide +kernel) (by simp) ?_; refine AllReadyH.cons (o := ?ho23) ?hi23 (fun K hK => ?hr23) AllReadyH.nil; (case hi23 => (simp only [List.getElem?_toArray, List.getElem?_cons_succ, List.getElem?_cons_zero]; first | done | rfl)))
    (go_simp; go_at_call 84; refine pur (s_fact m _ (by omega)) ?_; rw [← HF.out]; go_wp2_with fail)
    (refine hK.out _ _ ?_ (fun hHeld => ?_); focus ((try dsimp only); (refine heldD.at (b := b) (R := w.heap.size) hGV hGb hGR gV ?_; (repeat (with_reducible first | exact hHeld9 | exact heldD.refl _ _ _ | apply heldD.drew | apply heldD.aftD | apply heldD.aft | apply heldD.alloc | apply heldD.set)))))
    (clear hK K; (try simp only [Act.put, List.setIfInBounds_toArray, List.set_cons_zero, List.set_cons_succ]))
    (refine wpAnyH_take (i := 8) (oi := ?ho7) (v := ?hv7) ?hi7 (by kernel_rfl) (by kernel_rfl) (by kernel_rfl) ?hq7 ?hy7 (by assumption) ?hr7; (case hi7 => (simp only [List.getElem?_toArray, List.getElem?_cons_succ, List.getElem?_cons_zero]; first | done | rfl)); (case hq7 => exact fun _ _ _ h => h); (case hy7 => (refine Or.inl ⟨by rfl, ?_⟩; intro w hSw; (try dsimp only at hSw); go_simp; first | done | with_reducible rfl)); (try simp only [Act.put, List.setIfInBounds_toArray, List.set_cons_zero, List.set_cons_succ]))
    (refine wpAnyH_ready (rs := [9]) (by decide +kernel) (by simp) ?_; refine AllReadyH.cons (o := ?ho24) ?hi24 (fun K hK => ?hr24) AllReadyH.nil; (case hi24 => (simp only [List.getElem?_toArray, List.getElem?_cons_succ, List.getElem?_cons_zero]; first | done | rfl)))
    (rw [if_pos (by rfl)]; go_wp2_with fail)
    (refine hK.out _ _ ?_ (fun hHeld => ?_); focus ((try dsimp only); (refine heldD.at (b := b) (R := w.heap.size) hGV hGb hGR gV ?_; (repeat (with_reducible first | exact hHeld9 | exact heldD.refl _ _ _ | apply heldD.drew | apply heldD.aftD | apply heldD.aft | apply heldD.alloc | apply heldD.set)))))
    (clear hK K; (try simp only [Act.put, List.setIfInBounds_toArray, List.set_cons_zero, List.set_cons_succ]))
    (refine wpAnyH_ready (rs := [10]) (by decide +kernel) (by simp) ?_; refine AllReadyH.cons (o := ?ho25) ?hi25 (fun K hK => ?hr25) AllReadyH.nil; (case hi25 => (simp only [List.getElem?_toArray, List.getElem?_cons_succ, List.getElem?_cons_zero]; first | done | rfl)))
    (refine step_append_own (by rfl) _ _ 24 (by rfl) V.heap.size 2 i0 (.int .i64 0) 1 8 Try.underlying24 hi hz0 hz1 hz2 rfl (by decide) _ _ _ (by rfl) ((show ownR V.heap.size _ _ _ from own7).alloc (Obj.cells #[Value.int .i64 ((F : Int) - 1)] 2)) ⟨_, 0, none⟩ 1 1 [.int .i64 ((F : Int) - 1)] (by rfl) rfl (cell_one_new _ _ _) (by intro u hu; simp at hu; subst hu; rfl) (by unfold maxLen; omega) (by omega) (by first | omega | (simp; omega)) ?_; intro v3 w3 hw3 hg3; obtain ⟨a3, c3, hsh3⟩ := rowShV hw3; subst hsh3; have hHeld9 : heldD b w.heap.size V w3 := heldD.grown (((heldD.refl b w.heap.size V).drew.aft u7).alloc _ _) hg3 (own_row_ge (show ownR V.heap.size _ _ _ from own7)))
    (refine hK.out _ _ ?_ (fun hHeld => ?_); focus ((try dsimp only); (refine heldD.at (b := b) (R := w.heap.size) hGV hGb hGR gV ?_; (repeat (with_reducible first | exact hHeld9 | exact heldD.refl _ _ _ | apply heldD.drew | apply heldD.aftD | apply heldD.aft | apply heldD.alloc | apply heldD.set)))))
    (clear hK K; (try simp only [Act.put, List.setIfInBounds_toArray, List.set_cons_zero, List.set_cons_succ]))
    have hr3 : resOK w.heap.size w3 := resOK.grown (HRV.out.below (Ext.bel (((Ext.refl V).drew.aft u7).alloc (Obj.cells #[Value.int .i64 ((F : Int) - 1)] 2))) (by omega)) hg3 (fun k hk => by have := own_row_ge (show ownR V.heap.size _ _ _ from own7) k hk; omega) (by simp; omega)
    obtain ⟨z0, hz0'⟩ := Option.isSome_iff_exists.1 (hr3 0 (by omega)).2
    obtain ⟨z1, hz1'⟩ := Option.isSome_iff_exists.1 (hr3 1 (by omega)).2
    have hf3 := (hr3 0 (by omega)).1
    have hf4 := (hr3 1 (by omega)).1
    have HO3 : Hid (ownR V.heap.size w3 (.slice a3 (rs.length + 1) c3) (rs ++ [(F : Int) - 1])) := hid (ownR.snoc hw3)
    have HG3 : Hid (Gr b w w3) := hid (grown_newD ((HGX.out.drew.aft u7).alloc _) hg3 (fun k hk => by have := own_row_ge (show ownR V.heap.size _ _ _ from own7) k hk; omega))
    have HS3 : Hid (src B b w3) := hid (src.grown ((HSV.out.drew.aft u7).alloc _) hg3 (fun e => by have := own_row_ge (show ownR V.heap.size _ _ _ from own7) b e.symm; omega) (fun k hk => by have := own_row_ge (show ownR V.heap.size _ _ _ from own7) k hk; omega))
    clear hw3 hg3 hr3 own7
    (refine wpAnyH_take (i := 11) (oi := ?ho8) (v := ?hv8) ?hi8 (by kernel_rfl) (by kernel_rfl) (by kernel_rfl) ?hq8 ?hy8 (by assumption) ?hr8; (case hi8 => (simp only [List.getElem?_toArray, List.getElem?_cons_succ, List.getElem?_cons_zero]; first | done | rfl)); (case hq8 => exact fun _ _ _ h => h); (case hy8 => (refine Or.inl ⟨by rfl, ?_⟩; intro w hSw; (try dsimp only at hSw); go_simp; first | done | with_reducible rfl)); (try simp only [Act.put, List.setIfInBounds_toArray, List.set_cons_zero, List.set_cons_succ]))
    (refine wpAnyH_ready (rs := [12]) (by decide +kernel) (by simp) ?_; refine AllReadyH.cons (o := ?ho26) ?hi26 (fun K hK => ?hr26) AllReadyH.nil; (case hi26 => (simp only [List.getElem?_toArray, List.getElem?_cons_succ, List.getElem?_cons_zero]; first | done | rfl)))
    (rw [if_pos (by rfl)]; go_wp2_with fail)
    (refine hK.out _ _ ?_ (fun hHeld => ?_); focus ((try dsimp only); (refine heldD.at (b := b) (R := w.heap.size) hGV hGb hGR gV ?_; (repeat (with_reducible first | exact hHeld9 | exact heldD.refl _ _ _ | apply heldD.drew | apply heldD.aftD | apply heldD.aft | apply heldD.alloc | apply heldD.set)))))
    (clear hK K; (try simp only [Act.put, List.setIfInBounds_toArray, List.set_cons_zero, List.set_cons_succ]))
    (refine wpAnyH_done (by kernel_rfl) ?_ _)
    clear hHeld9
    go_wp2_with fail
    exact bodyPost_ret (v := .agg #[.int .i64 (m : Int), .slice a3 (rs.length + 1) c3]) (by simp [results, go_sem, hz0', hz1']) rfl ⟨_, rfl, ⟨m, _, rs ++ [(F : Int) - 1], rfl, by omega, ((HO3.out.setCell _ _ _ _ (by omega)).setCell _ _ _ _ (by omega)).rd, fun k hk => by have := own_row_ge HO3.out k hk; omega, by simp; omega⟩, Gr.set (Gr.set HG3.out (by omega)) (by omega), (HS3.out.set (by omega) (by omega) _).set (by omega) (by omega) _⟩
  have hx0 : (x == 0) = false := by simpa using h0
  by_cases h1 : x = 1
  · subst h1
    go_wp2_with fail
    (refine wp_region_held_drew (S := (fun w' => (∀ o, w'.cell? ⟨G, o, none⟩ = #[Value.int .i64 (m : Int), .slice a5 rs.length c5][o]?) ∧ V.heap.size ≤ w'.heap.size)) (by kernel_rfl) ?_ (fun hHeld => ?_); focus ((try dsimp only); (refine heldD.at (b := b) (R := w.heap.size) hGV hGb hGR gV ?_; (repeat (with_reducible first | exact hHeld9 | exact heldD.refl _ _ _ | apply heldD.drew | apply heldD.aftD | apply heldD.aft | apply heldD.alloc | apply heldD.set)))))
    (refine wpAnyH_take (i := 0) (oi := ?ho9) (v := ?hv9) ?hi9 (by kernel_rfl) (by kernel_rfl) (by kernel_rfl) ?hq9 ?hy9 (by assumption) ?hr9; (case hi9 => (simp only [List.getElem?_toArray, List.getElem?_cons_succ, List.getElem?_cons_zero]; first | done | rfl)); (case hq9 => exact fun _ _ _ h => h); (case hy9 => (refine Or.inl ⟨by rfl, ?_⟩; intro w hSw; (try dsimp only at hSw); go_simp; first | done | with_reducible rfl)); (try simp only [Act.put, List.setIfInBounds_toArray, List.set_cons_zero, List.set_cons_succ]))
    (refine wpAnyH_take (i := 1) (oi := ?ho10) (v := ?hv10) ?hi10 (by kernel_rfl) (by kernel_rfl) (by kernel_rfl) ?hq10 ?hy10 (by assumption) ?hr10; (case hi10 => (simp only [List.getElem?_toArray, List.getElem?_cons_succ, List.getElem?_cons_zero]; first | done | rfl)); (case hq10 => exact fun _ _ _ h => h); (case hy10 => (refine Or.inl ⟨by rfl, ?_⟩; intro w hSw; (try dsimp only at hSw); go_simp; first | done | with_reducible rfl)); (try simp only [Act.put, List.setIfInBounds_toArray, List.set_cons_zero, List.set_cons_succ]))
    (refine wpAnyH_take (i := 2) (oi := ?ho11) (v := ?hv11) ?hi11 (by kernel_rfl) (by kernel_rfl) (by kernel_rfl) ?hq11 ?hy11 (by assumption) ?hr11; (case hi11 => (simp only [List.getElem?_toArray, List.getElem?_cons_succ, List.getElem?_cons_zero]; first | done | rfl)); (case hq11 => exact fun _ _ _ h => h); (case hy11 => (refine Or.inl ⟨by rfl, ?_⟩; intro w hSw; (try dsimp only at hSw); go_simp; first | done | with_reducible rfl)); (try simp only [Act.put, List.setIfInBounds_toArray, List.set_cons_zero, List.set_cons_succ]))
    (refine wpAnyH_take (i := 3) (oi := ?ho12) (v := ?hv12) ?hi12 (by kernel_rfl) (by kernel_rfl) (by kernel_rfl) ?hq12 ?hy12 (by assumption) ?hr12; (case hi12 => (simp only [List.getElem?_toArray, List.getElem?_cons_succ, List.getElem?_cons_zero]; first | done | rfl)); (case hq12 => exact fun _ _ _ h => h); (case hy12 => (refine Or.inl ⟨by rfl, ?_⟩; intro w hSw; (try dsimp only at hSw); go_simp; first | done | with_reducible rfl)); (try simp only [Act.put, List.setIfInBounds_toArray, List.set_cons_zero, List.set_cons_succ]))
    (refine wpAnyH_take (i := 6) (oi := ?ho13) (v := ?hv13) ?hi13 (by kernel_rfl) (by kernel_rfl) (by kernel_rfl) ?hq13 ?hy13 (by assumption) ?hr13; (case hi13 => (simp only [List.getElem?_toArray, List.getElem?_cons_succ, List.getElem?_cons_zero]; first | done | rfl)); (case hq13 => exact fun _ _ _ h => h); (case hy13 => (refine Or.inl ⟨by rfl, ?_⟩; intro w hSw; (try dsimp only at hSw); go_simp; first | done | with_reducible rfl)); (try simp only [Act.put, List.setIfInBounds_toArray, List.set_cons_zero, List.set_cons_succ]))
    (refine wpAnyH_take (i := 7) (oi := ?ho14) (v := ?hv14) ?hi14 (by kernel_rfl) (by kernel_rfl) (by kernel_rfl) ?hq14 ?hy14 (by assumption) ?hr14; (case hi14 => (simp only [List.getElem?_toArray, List.getElem?_cons_succ, List.getElem?_cons_zero]; first | done | rfl)); (case hq14 => exact fun _ _ _ h => h); (case hy14 => (refine Or.inl ⟨by rfl, ?_⟩; intro w hSw; (try dsimp only at hSw); go_simp; first | done | with_reducible rfl)); (try simp only [Act.put, List.setIfInBounds_toArray, List.set_cons_zero, List.set_cons_succ]))
    (refine wpAnyH_ready (rs := [4]) (by decide +kernel) (by simp) ?_; refine AllReadyH.cons (o := ?ho27) ?hi27 (fun K hK => ?hr27) AllReadyH.nil; (case hi27 => (simp only [List.getElem?_toArray, List.getElem?_cons_succ, List.getElem?_cons_zero]; first | done | rfl)))
    (rw [if_pos (by rfl)]; go_wp2_with fail)
    (refine hK.out _ _ ?_ (fun hHeld => ?_); focus ((try dsimp only); (refine heldD.at (b := b) (R := w.heap.size) hGV hGb hGR gV ?_; (repeat (with_reducible first | exact hHeld9 | exact heldD.refl _ _ _ | apply heldD.drew | apply heldD.aftD | apply heldD.aft | apply heldD.alloc | apply heldD.set)))))
    (clear hK K; (try simp only [Act.put, List.setIfInBounds_toArray, List.set_cons_zero, List.set_cons_succ]))
    (refine wpAnyH_ready (rs := [5]) (by decide +kernel) (by simp) ?_; refine AllReadyH.cons (o := ?ho28) ?hi28 (fun K hK => ?hr28) AllReadyH.nil; (case hi28 => (simp only [List.getElem?_toArray, List.getElem?_cons_succ, List.getElem?_cons_zero]; first | done | rfl)))
    (go_simp; go_at_call 94; refine viaDr (s_pickA B b _ _ _ [0, 7, (m : Int) + 1] _ _ _ (by simp) rfl rfl HSV.out.drew (by simp) (by simp)) ?_; intro y v9 hy9 hs9 hl9; (try simp at hl9); (try simp at hy9); go_wp2_with fail)
    (refine hK.out _ _ ?_ (fun hHeld => ?_); focus ((try dsimp only); (refine heldD.at (b := b) (R := w.heap.size) hGV hGb hGR gV ?_; (repeat (with_reducible first | exact hHeld9 | exact heldD.refl _ _ _ | apply heldD.drew | apply heldD.aftD | apply heldD.aft | apply heldD.alloc | apply heldD.set)))))
    (clear hK K; (try simp only [Act.put, List.setIfInBounds_toArray, List.set_cons_zero, List.set_cons_succ]))
    (refine wpAnyH_take (i := 8) (oi := ?ho15) (v := ?hv15) ?hi15 (by kernel_rfl) (by kernel_rfl) (by kernel_rfl) ?hq15 ?hy15 (by assumption) ?hr15; (case hi15 => (simp only [List.getElem?_toArray, List.getElem?_cons_succ, List.getElem?_cons_zero]; first | done | rfl)); (case hq15 => exact fun _ _ _ h => h); (case hy15 => (refine Or.inl ⟨by rfl, ?_⟩; intro w hSw; (try dsimp only at hSw); go_simp; first | done | with_reducible rfl)); (try simp only [Act.put, List.setIfInBounds_toArray, List.set_cons_zero, List.set_cons_succ]))
    (refine wpAnyH_ready (rs := [9]) (by decide +kernel) (by simp) ?_; refine AllReadyH.cons (o := ?ho29) ?hi29 (fun K hK => ?hr29) AllReadyH.nil; (case hi29 => (simp only [List.getElem?_toArray, List.getElem?_cons_succ, List.getElem?_cons_zero]; first | done | rfl)))
    (rw [if_pos (by rfl)]; go_wp2_with fail)
    (refine hK.out _ _ ?_ (fun hHeld => ?_); focus ((try dsimp only); (refine heldD.at (b := b) (R := w.heap.size) hGV hGb hGR gV ?_; (repeat (with_reducible first | exact hHeld9 | exact heldD.refl _ _ _ | apply heldD.drew | apply heldD.aftD | apply heldD.aft | apply heldD.alloc | apply heldD.set)))))
    (clear hK K; (try simp only [Act.put, List.setIfInBounds_toArray, List.set_cons_zero, List.set_cons_succ]))
    (refine wpAnyH_done (by kernel_rfl) ?_ _)
    go_wp2_with fail
    have HO9 : ownR W0.heap.size (aftD b (V.drew.alloc (Obj.cells #[Value.int IntKind.i64 0, Value.int IntKind.i64 7, Value.int IntKind.i64 ((m : Int) + 1)] 2)) v9) (.slice a5 rs.length c5) rs := ((HO.out.drew).alloc _).aftD v9 (by omega)
    exact bodyPost_ret (v := .agg #[.int .i64 y, .slice a5 rs.length c5]) (by simp [results, go_sem, hy0, hy1, ↓IntWalk.iteOmega]) rfl ⟨_, rfl, ⟨y, _, rs, rfl, by omega, ((HO9.setCell _ _ _ _ (by omega)).setCell _ _ _ _ (by omega)).rd, fun k hk => by have := hge.out k hk; omega, by omega⟩, Gr.set (Gr.set ((HGX.out.drew.alloc _).aftD v9) (by omega)) (by omega), (hs9.set (by omega) (by omega) _).set (by omega) (by omega) _⟩
  have hx1 : (x == 1) = false := by simpa using h1
  by_cases h2 : x = 2
  · subst h2
    obtain ⟨g5, cp5, hsh5, _, _, _⟩ := own_some HO.out (by intro e; rw [e] at hr0; simp at hr0)
    have hg5 := hge.out g5 (by rw [hsh5]; rfl)
    have HO5 : ownR W0.heap.size V (.slice (some ⟨g5, 0, none⟩) rs.length cp5) rs := by rw [← hsh5]; exact HO.out
    obtain ⟨o2, c2, hcut, hrd⟩ := cut1_rule HO5 (by omega)
    rw [← hsh5] at hcut
    have HRD := hid hrd
    clear hrd HO5 hsh5
    go_wp2_with fail
    (refine wp_region_held_drew (S := (fun w' => (∀ o, w'.cell? ⟨G, o, none⟩ = #[Value.int .i64 (m : Int), .slice a5 rs.length c5][o]?) ∧ V.heap.size ≤ w'.heap.size)) (by kernel_rfl) ?_ (fun hHeld => ?_); focus ((try dsimp only); (refine heldD.at (b := b) (R := w.heap.size) hGV hGb hGR gV ?_; (repeat (with_reducible first | exact hHeld9 | exact heldD.refl _ _ _ | apply heldD.drew | apply heldD.aftD | apply heldD.aft | apply heldD.alloc | apply heldD.set)))))
    (refine wpAnyH_take (i := 0) (oi := ?ho16) (v := ?hv16) ?hi16 (by kernel_rfl) (by kernel_rfl) (by kernel_rfl) ?hq16 ?hy16 (by assumption) ?hr16; (case hi16 => (simp only [List.getElem?_toArray, List.getElem?_cons_succ, List.getElem?_cons_zero]; first | done | rfl)); (case hq16 => exact fun _ _ _ h => h); (case hy16 => (refine Or.inl ⟨by rfl, ?_⟩; intro w hSw; (try dsimp only at hSw); go_simp; first | done | with_reducible rfl)); (try simp only [Act.put, List.setIfInBounds_toArray, List.set_cons_zero, List.set_cons_succ]))
    (refine wpAnyH_take (i := 1) (oi := ?ho17) (v := ?hv17) ?hi17 (by kernel_rfl) (by kernel_rfl) (by kernel_rfl) ?hq17 ?hy17 (by assumption) ?hr17; (case hi17 => (simp only [List.getElem?_toArray, List.getElem?_cons_succ, List.getElem?_cons_zero]; first | done | rfl)); (case hq17 => exact fun _ _ _ h => h); (case hy17 => (refine Or.inl ⟨by rfl, ?_⟩; intro w hSw; (try dsimp only at hSw); go_simp; first | done | with_reducible rfl)); (try simp only [Act.put, List.setIfInBounds_toArray, List.set_cons_zero, List.set_cons_succ]))
    (refine wpAnyH_take (i := 2) (oi := ?ho18) (v := ?hv18) ?hi18 (by kernel_rfl) (by kernel_rfl) (by kernel_rfl) ?hq18 ?hy18 (by assumption) ?hr18; (case hi18 => (simp only [List.getElem?_toArray, List.getElem?_cons_succ, List.getElem?_cons_zero]; first | done | rfl)); (case hq18 => exact fun _ _ _ h => h); (case hy18 => (refine Or.inl ⟨by rfl, ?_⟩; intro w hSw; (try dsimp only at hSw); go_simp; first | done | with_reducible rfl)); (try simp only [Act.put, List.setIfInBounds_toArray, List.set_cons_zero, List.set_cons_succ]))
    (refine wpAnyH_take (i := 3) (oi := ?ho19) (v := ?hv19) ?hi19 (by kernel_rfl) (by kernel_rfl) (by kernel_rfl) ?hq19 ?hy19 (by assumption) ?hr19; (case hi19 => (simp only [List.getElem?_toArray, List.getElem?_cons_succ, List.getElem?_cons_zero]; first | done | rfl)); (case hq19 => exact fun _ _ _ h => h); (case hy19 => (refine Or.inl ⟨by rfl, ?_⟩; intro w hSw; (try dsimp only at hSw); go_simp; first | done | with_reducible rfl)); (try simp only [Act.put, List.setIfInBounds_toArray, List.set_cons_zero, List.set_cons_succ]))
    (refine wpAnyH_take (i := 4) (oi := ?ho20) (v := ?hv20) ?hi20 (by kernel_rfl) (by kernel_rfl) (by kernel_rfl) ?hq20 ?hy20 (by assumption) ?hr20; (case hi20 => (simp only [List.getElem?_toArray, List.getElem?_cons_succ, List.getElem?_cons_zero]; first | done | rfl)); (case hq20 => exact fun _ _ _ h => h); (case hy20 => (refine Or.inl ⟨by rfl, ?_⟩; intro w hSw; (try dsimp only at hSw); go_simp; first | done | with_reducible rfl)); (try simp only [Act.put, List.setIfInBounds_toArray, List.set_cons_zero, List.set_cons_succ]))
    (refine wpAnyH_take (i := 5) (oi := ?ho21) (v := ?hv21) ?hi21 (by kernel_rfl) (by kernel_rfl) (by kernel_rfl) ?hq21 ?hy21 (by assumption) ?hr21; (case hi21 => (simp only [List.getElem?_toArray, List.getElem?_cons_succ, List.getElem?_cons_zero]; first | done | rfl)); (case hq21 => exact fun _ _ _ h => h); (case hy21 => (refine Or.inl ⟨by rfl, ?_⟩; intro w hSw; (try dsimp only at hSw); go_simp; first | done | with_reducible rfl)); (try simp only [Act.put, List.setIfInBounds_toArray, List.set_cons_zero, List.set_cons_succ]))
    (refine wpAnyH_ready (rs := [6]) (by decide +kernel) (by simp) ?_; refine AllReadyH.cons (o := ?ho30) ?hi30 (fun K hK => ?hr30) AllReadyH.nil; (case hi30 => (simp only [List.getElem?_toArray, List.getElem?_cons_succ, List.getElem?_cons_zero]; first | done | rfl)))
    (rw [if_pos (by rfl)]; go_wp2_with fail)
    (refine hK.out _ _ ?_ (fun hHeld => ?_); focus ((try dsimp only); (refine heldD.at (b := b) (R := w.heap.size) hGV hGb hGR gV ?_; (repeat (with_reducible first | exact hHeld9 | exact heldD.refl _ _ _ | apply heldD.drew | apply heldD.aftD | apply heldD.aft | apply heldD.alloc | apply heldD.set)))))
    (clear hK K; (try simp only [Act.put, List.setIfInBounds_toArray, List.set_cons_zero, List.set_cons_succ]))
    (refine wpAnyH_done (by kernel_rfl) ?_ _)
    go_wp2_with fail
    have HRS : rdI ((V.setCell ⟨w.heap.size, 0, none⟩ (.int .i64 (m : Int))).setCell ⟨w.heap.size, 1, none⟩ (.slice (some ⟨g5, o2, none⟩) (rs.length - 1) c2)).drew (.slice (some ⟨g5, o2, none⟩) (rs.length - 1) c2) (rs.drop 1) := ((HRD.out.setB (L := W0.heap.size) _ _ _ (fun k hk => by simp [Value.ownBlock] at hk; omega) (by omega)).setB (L := W0.heap.size) _ _ _ (fun k hk => by simp [Value.ownBlock] at hk; omega) (by omega)).drew
    exact bodyPost_ret (v := .agg #[.int .i64 (m : Int), .slice (some ⟨g5, o2, none⟩) (rs.length - 1) c2]) (by simp [results, go_sem, hy0, hy1]) rfl ⟨_, rfl, ⟨m, _, rs.drop 1, rfl, by omega, HRS, fun k hk => by simp [Value.ownBlock] at hk; omega, by rw [List.length_drop]; omega⟩, (Gr.set (Gr.set HGX.out (by omega)) (by omega)).drew, ((HSV.out.set (by omega) (by omega) _).set (by omega) (by omega) _).drew⟩
  have hx2 : (x == 2) = false := by simpa using h2
  go_wp2_with fail
  exact bodyPost_ret (v := .agg #[.int .i64 (m : Int), .slice a5 rs.length c5]) (by simp [results, go_sem, hy0, hy1]) rfl ⟨_, rfl, ⟨m, _, rs, rfl, by omega, ((HO.out.setCell _ _ _ _ (by omega)).setCell _ _ _ _ (by omega)).rd, fun k hk => by have := hge.out k hk; omega, by omega⟩, Gr.set (Gr.set HGX.out (by omega)) (by omega), (HSV.out.set (by omega) (by omega) _).set (by omega) (by omega) _⟩
end Go.Proofs.Ytbkbcbanfnhjpaa
