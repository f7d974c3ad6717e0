/- Draws: a group and a permutation. -/
import Derived.Test.YtbkbcbanfnhjpaaV7
namespace Go.Proofs.Ytbkbcbanfnhjpaa
open Go Go.RowKit

theorem heldD.at2 {b R G bs os : Nat} {V w' : World} {cs : Array Value} {rs : List Int} {rf : Nat → Int} (h1 : G < V.heap.size) (h2 : G ≠ b) (h3 : G ≠ R) (hc : ∀ o, V.cell? ⟨G, o, none⟩ = cs[o]?)
    (hr : ∀ q, q < rs.length → V.cell? ⟨bs, os + q, none⟩ = some (.int .i64 (rf q)) ∧ bs < V.heap.size ∧ bs ≠ b ∧ bs ≠ R) (h : heldD b R V w') : (∀ o, w'.cell? ⟨G, o, none⟩ = cs[o]?) ∧ (∀ q, q < rs.length → w'.cell? ⟨bs, os + q, none⟩ = some (.int .i64 (rf q))) ∧ V.heap.size ≤ w'.heap.size :=
  ⟨fun o => (h.1 G o h1 h2 h3).trans (hc o), fun q hq => by obtain ⟨q1, q2, q3, q4⟩ := hr q hq; exact (h.1 bs (os + q) q2 q3 q4).trans q1, h.2⟩
set_option maxRecDepth 20000 in
set_option maxHeartbeats 8000000 in
theorem s_drawWith (B : Nat) (a : Option Addr) (len cap : Nat) (w : World) (h : rdB B w a len) (hl : len ≤ 4096) (hB : B ≤ w.heap.size) :
    Calls Try.prog 99 #[.slice a len cap] w fun e w' => ∃ v va A, e = .returned (.tuple #[v, va]) ∧ grpX w.heap.size w' v ∧ ownR w.heap.size w' va A ∧ A.length ≤ 7 ∧ Below w.heap.size w w' := by
  go_enter Try.func99, Try.ntmps99
  go_wp2_with fail
  refine viaF (s_from B a len cap _ (h.of fun j o v hj hv => by rw [alloc_cell, if_neg (by omega)]; exact hv) hl (by simp; omega)) ?_
  intro b u0 hs0 hb0 hl0 hl1
  simp at hb0 hl0
  go_wp2_with fail
  obtain ⟨W0, hW0⟩ : ∃ W0, W0 = aft (w.alloc (Obj.cells #[.int .i64 0, .slice none 0 0] 26)) u0 := ⟨_, rfl⟩
  have HE0 : Hid (Ext w.heap.size w W0) := hid (by rw [hW0]; exact ((Ext.refl w).alloc _).aft _)
  have hres : resOK w.heap.size W0 := by
    intro j hj
    obtain rfl | rfl : j = 0 ∨ j = 1 := by omega
    all_goals (rw [hW0]; simp [go_sem, ↓IntWalk.iteOmega])
  have HR0 := hid hres
  rw [← hW0] at hs0 hl0 hl1 ⊢
  have hRW : w.heap.size < W0.heap.size := by omega
  clear hW0 hres
  refine viaDX (s_draw22 B b _ hs0) ?_
  intro v0 u hv hs hl2
  obtain ⟨n, s, rs, rfl, hn, hr, hk, hrl⟩ := hv
  obtain ⟨a5, c5, hsh, _, _⟩ := id hr
  subst hsh
  go_wp2_with fail
  obtain ⟨V, hV⟩ : ∃ V, V = (aftD b W0 u).alloc (Obj.cells #[.int .i64 n, .slice a5 rs.length c5] 26) := ⟨_, rfl⟩
  obtain ⟨G, hG⟩ : ∃ G, G = (aftD b W0 u).heap.size := ⟨_, rfl⟩
  have hE : Hid (Gr b W0 V) := hid (by rw [hV]; exact ((Gr.refl b W0).aftD _).alloc _)
  have gV : ∀ o, V.cell? ⟨G, o, none⟩ = #[Value.int .i64 n, .slice a5 rs.length c5][o]? := fun o => by rw [hV, hG, alloc_cell, if_pos rfl]
  have hGV : G < V.heap.size := by rw [hV, hG]; simp
  have hGb : G ≠ b := by omega
  have hGR : G ≠ w.heap.size := by omega
  have hrV : rdI V (.slice a5 rs.length c5) rs := by rw [hV]; exact hr.alloc _
  have hsV : src B b V := by rw [hV]; exact hs.alloc _
  have hG0 : W0.heap.size ≤ G := by omega
  rw [← hV, ← hG]
  have HK := hid hk
  clear hV hG hs hr hk hl2
  have hg0 := gV 0
  have hg1 := gV 1
  simp at hg0 hg1
  have H1 : ∀ (U : World), Gr b V U → resOK w.heap.size U ∧ rdI U (.slice a5 rs.length c5) rs ∧ W0.heap.size ≤ U.heap.size := fun U hU => ⟨HR0.out.grownD (grownBy_trans hE.out hU) (by omega) (by omega), by
    obtain ⟨a', c', e, hm, hc⟩ := id hrV
    injection e with e1 e2 e3
    subst e1 e3
    refine ⟨a5, c5, rfl, hm, fun hne => ?_⟩
    obtain ⟨bs, os, rfl, hcell⟩ := hc hne
    refine ⟨bs, os, rfl, fun i hi => ?_⟩
    have h2 := hcell i hi
    have h3 := World.block_lt_of_cell? V _ h2
    simp only at h3
    have h4 := HK.out bs rfl
    exact (World.cell?_of_block (a := ⟨bs, os + i, none⟩) (hU.block bs h3 (fun e => by injection e with e; omega))).trans h2, Nat.le_trans hE.out.size hU.size⟩
  have HU := hid H1
  obtain ⟨T, hT⟩ : ∃ T, groupB n rs = T := ⟨_, rfl⟩
  have HT := hid hT
  have HRV := hid hrV
  have HSV := hid hsV
  have hge : ∀ (m' : Nat), n = (m' : Int) → T = true → m' ≤ 6 := fun m' e1 e2 => by
    subst e2
    obtain ⟨m, e, hm1, hm6, _⟩ := group_facts hT
    omega
  clear H1 hT hrV hsV
  -- the last region, from any world behind the group
  refine via (s_IsGroupE n _ rs _ T HRV.out (by omega) HT.out) ?_
  intro u2 z2
  try simp at z2
  cases T
  · go_wp2_with fail
    obtain ⟨X, hX⟩ : ∃ X, X = aft V u2 := ⟨_, rfl⟩
    have HXG : Hid (Gr b V X) := hid (by rw [hX]; exact (Gr.refl b V).aft u2)
    have hsX : src B b X := by rw [hX]; exact HSV.out.aft u2
    rw [← hX]
    clear hX
    obtain ⟨hresX, hrX, hWX⟩ := HU.out X HXG.out
    have gX : ∀ o, X.cell? ⟨G, o, none⟩ = #[Value.int .i64 n, .slice a5 rs.length c5][o]? := fun o => (World.cell?_of_block (a := ⟨G, o, none⟩) (HXG.out.block G hGV (fun e => by injection e with e; exact hGb e))).trans (gV o)
    have hGX : G < X.heap.size := Nat.lt_of_lt_of_le hGV HXG.out.size
    have HGX : Hid (Gr b W0 X) := hid (grownBy_trans hE.out HXG.out)
    obtain ⟨y0, hy0⟩ := Option.isSome_iff_exists.1 (hresX 0 (by omega)).2
    obtain ⟨y1, hy1⟩ := Option.isSome_iff_exists.1 (hresX 1 (by omega)).2
    have hf0 := (hresX 0 (by omega)).1
    have hf1 := (hresX 1 (by omega)).1
    have hx0 := gX 0
    have hx1 := gX 1
    simp at hx0 hx1
    have HRX := hid hrX
    have HSX := hid hsX
    have HEX : Hid (Ext w.heap.size w X) := hid ⟨HE0.out.1.trans (Below.grown (Below.refl _ _) HGX.out (by omega) (fun k hk => by injection hk with hk; omega)), by have := HGX.out.size; omega⟩
    have hXs : w.heap.size < X.heap.size := by have := HGX.out.size; omega
    have hbX : b < X.heap.size := by have := HGX.out.size; omega
    clear hresX hrX hsX
    (refine wp_region_held_drew (S := (fun w' => (∀ o, w'.cell? ⟨G, o, none⟩ = #[Value.int .i64 n, .slice a5 rs.length c5][o]?) ∧ X.heap.size ≤ w'.heap.size)) (by kernel_rfl) ?_ (fun hHeld => ?_); focus ((try dsimp only); ((with_reducible first | refine heldD.at (b := b) (R := w.heap.size) hGX hGb hGR gX ?_ | refine heldD.at2 (b := b) (R := w.heap.size) hGX hGb hGR gX rX ?_); (repeat (with_reducible first | exact heldD.refl _ _ _ | apply heldD.drew | apply heldD.aftD | apply heldD.aft | apply heldD.alloc | apply heldD.set)))))
    (refine wpAnyH_take (i := 0) (oi := ?ho1) (v := ?hv1) ?hi1 (by kernel_rfl) (by kernel_rfl) (by kernel_rfl) ?hq1 ?hy1 (by assumption) ?hr1; (case hi1 => (simp only [List.getElem?_toArray, List.getElem?_cons_succ, List.getElem?_cons_zero]; first | done | rfl)); (case hq1 => exact fun _ _ _ h => h); (case hy1 => (refine Or.inl ⟨by rfl, ?_⟩; intro w hSw; (try dsimp only at hSw); go_simp; first | done | with_reducible rfl)); (try simp only [Act.put, List.setIfInBounds_toArray, List.set_cons_zero, List.set_cons_succ]))
    (refine wpAnyH_take (i := 1) (oi := ?ho2) (v := ?hv2) ?hi2 (by kernel_rfl) (by kernel_rfl) (by kernel_rfl) ?hq2 ?hy2 (by assumption) ?hr2; (case hi2 => (simp only [List.getElem?_toArray, List.getElem?_cons_succ, List.getElem?_cons_zero]; first | done | rfl)); (case hq2 => exact fun _ _ _ h => h); (case hy2 => (refine Or.inl ⟨by rfl, ?_⟩; intro w hSw; (try dsimp only at hSw); go_simp; first | done | with_reducible rfl)); (try simp only [Act.put, List.setIfInBounds_toArray, List.set_cons_zero, List.set_cons_succ]))
    (refine wpAnyH_ready (rs := [2]) (by decide +kernel) (by simp) ?_; refine AllReadyH.cons (o := ?ho26) ?hi26 (fun K hK => ?hr26) AllReadyH.nil; (case hi26 => (simp only [List.getElem?_toArray, List.getElem?_cons_succ, List.getElem?_cons_zero]; first | done | rfl)))
    (go_simp; go_at_call 97; refine viaDX (s_draw21 B b _ HSX.out.drew) ?_; intro t9 u9 ht9 hs9 hl9; obtain ⟨A, own9, hA9⟩ := ht9; obtain ⟨a9, c9, hsh9, _, _⟩ := own9.rd; subst hsh9; (try simp at hl9); go_wp2_with fail)
    (refine hK.out _ _ ?_ (fun hHeld => ?_); focus ((try dsimp only); ((with_reducible first | refine heldD.at (b := b) (R := w.heap.size) hGX hGb hGR gX ?_ | refine heldD.at2 (b := b) (R := w.heap.size) hGX hGb hGR gX rX ?_); (repeat (with_reducible first | exact heldD.refl _ _ _ | apply heldD.drew | apply heldD.aftD | apply heldD.aft | apply heldD.alloc | apply heldD.set)))))
    (clear hK K; (try simp only [Act.put, List.setIfInBounds_toArray, List.set_cons_zero, List.set_cons_succ]))
    (refine wpAnyH_ready (rs := [3]) (by decide +kernel) (by simp) ?_; refine AllReadyH.cons (o := ?ho27) ?hi27 (fun K hK => ?hr27) AllReadyH.nil; (case hi27 => (simp only [List.getElem?_toArray, List.getElem?_cons_succ, List.getElem?_cons_zero]; first | done | rfl)))
    (rw [if_pos (by rfl)]; go_wp2_with fail)
    (refine hK.out _ _ ?_ (fun hHeld => ?_); focus ((try dsimp only); ((with_reducible first | refine heldD.at (b := b) (R := w.heap.size) hGX hGb hGR gX ?_ | refine heldD.at2 (b := b) (R := w.heap.size) hGX hGb hGR gX rX ?_); (repeat (with_reducible first | exact heldD.refl _ _ _ | apply heldD.drew | apply heldD.aftD | apply heldD.aft | apply heldD.alloc | apply heldD.set)))))
    (clear hK K; (try simp only [Act.put, List.setIfInBounds_toArray, List.set_cons_zero, List.set_cons_succ]))
    (refine wpAnyH_take (i := 4) (oi := ?ho3) (v := ?hv3) ?hi3 (by kernel_rfl) (by kernel_rfl) (by kernel_rfl) ?hq3 ?hy3 (by assumption) ?hr3; (case hi3 => (simp only [List.getElem?_toArray, List.getElem?_cons_succ, List.getElem?_cons_zero]; first | done | rfl)); (case hq3 => exact fun _ _ _ h => h); (case hy3 => (refine Or.inl ⟨by rfl, ?_⟩; intro w hSw; (try dsimp only at hSw); go_simp; first | done | with_reducible rfl)); (try simp only [Act.put, List.setIfInBounds_toArray, List.set_cons_zero, List.set_cons_succ]))
    (refine wpAnyH_done (by kernel_rfl) ?_ _)
    go_wp2_with fail
    have HRL : rdI (aftD b X.drew u9) (.slice a5 rs.length c5) rs := by repeat (with_reducible first | exact HRX.out | apply rdI.drew | apply rdI.aft | (refine rdI.aftD (L := W0.heap.size) ?_ _ HK.out (by omega)))
    exact bodyPost_ret (v := .tuple #[.agg #[.int .i64 n, .slice a5 rs.length c5], .slice a9 A.length c9]) (by simp [results, go_sem, hy0, hy1, ↓IntWalk.iteOmega]) rfl ⟨_, _, A, rfl, ⟨n, _, rs, rfl, hn, (HRL.setB _ _ _ HK.out (by omega)).setB _ _ _ HK.out (by omega), fun k hq => by have := HK.out k hq; omega, hrl⟩, ((own9.setCell _ _ _ _ (by first | exact hXs | omega | (simp; omega))).setCell _ _ _ _ (by first | exact hXs | omega | (simp; omega))).mono (by first | omega | (simp; omega)), hA9, Ext.bel ((((HEX.out.drew.aftD u9 (by omega)).setCell _ _ _ _ (by omega)).setCell _ _ _ _ (by omega)))⟩
  · go_wp2_with fail
    refine viaDr (s_next B b _ _ (HSV.out.aft u2) (by omega)) ?_
    intro y v3 hy hs3 hl3
    (try dsimp only at hy)
    by_cases hy0' : y = 0
    · subst hy0'
      go_wp2_with fail
      obtain ⟨X, hX⟩ : ∃ X, X = aftD b (aft V u2) v3 := ⟨_, rfl⟩
      have HXG : Hid (Gr b V X) := hid (by rw [hX]; exact ((Gr.refl b V).aft u2).aftD v3)
      have hsX : src B b X := by rw [hX]; exact hs3
      rw [← hX]
      clear hX
      obtain ⟨hresX, hrX, hWX⟩ := HU.out X HXG.out
      have gX : ∀ o, X.cell? ⟨G, o, none⟩ = #[Value.int .i64 n, .slice a5 rs.length c5][o]? := fun o => (World.cell?_of_block (a := ⟨G, o, none⟩) (HXG.out.block G hGV (fun e => by injection e with e; exact hGb e))).trans (gV o)
      have hGX : G < X.heap.size := Nat.lt_of_lt_of_le hGV HXG.out.size
      have HGX : Hid (Gr b W0 X) := hid (grownBy_trans hE.out HXG.out)
      obtain ⟨y0, hy0⟩ := Option.isSome_iff_exists.1 (hresX 0 (by omega)).2
      obtain ⟨y1, hy1⟩ := Option.isSome_iff_exists.1 (hresX 1 (by omega)).2
      have hf0 := (hresX 0 (by omega)).1
      have hf1 := (hresX 1 (by omega)).1
      have hx0 := gX 0
      have hx1 := gX 1
      simp at hx0 hx1
      have HRX := hid hrX
      have HSX := hid hsX
      have HEX : Hid (Ext w.heap.size w X) := hid ⟨HE0.out.1.trans (Below.grown (Below.refl _ _) HGX.out (by omega) (fun k hk => by injection hk with hk; omega)), by have := HGX.out.size; omega⟩
      have hXs : w.heap.size < X.heap.size := by have := HGX.out.size; omega
      have hbX : b < X.heap.size := by have := HGX.out.size; omega
      clear hresX hrX hsX
      (refine wp_region_held_drew (S := (fun w' => (∀ o, w'.cell? ⟨G, o, none⟩ = #[Value.int .i64 n, .slice a5 rs.length c5][o]?) ∧ X.heap.size ≤ w'.heap.size)) (by kernel_rfl) ?_ (fun hHeld => ?_); focus ((try dsimp only); ((with_reducible first | refine heldD.at (b := b) (R := w.heap.size) hGX hGb hGR gX ?_ | refine heldD.at2 (b := b) (R := w.heap.size) hGX hGb hGR gX rX ?_); (repeat (with_reducible first | exact heldD.refl _ _ _ | apply heldD.drew | apply heldD.aftD | apply heldD.aft | apply heldD.alloc | apply heldD.set)))))
      (refine wpAnyH_take (i := 0) (oi := ?ho4) (v := ?hv4) ?hi4 (by kernel_rfl) (by kernel_rfl) (by kernel_rfl) ?hq4 ?hy4 (by assumption) ?hr4; (case hi4 => (simp only [List.getElem?_toArray, List.getElem?_cons_succ, List.getElem?_cons_zero]; first | done | rfl)); (case hq4 => exact fun _ _ _ h => h); (case hy4 => (refine Or.inl ⟨by rfl, ?_⟩; intro w hSw; (try dsimp only at hSw); go_simp; first | done | with_reducible rfl)); (try simp only [Act.put, List.setIfInBounds_toArray, List.set_cons_zero, List.set_cons_succ]))
      (refine wpAnyH_take (i := 1) (oi := ?ho5) (v := ?hv5) ?hi5 (by kernel_rfl) (by kernel_rfl) (by kernel_rfl) ?hq5 ?hy5 (by assumption) ?hr5; (case hi5 => (simp only [List.getElem?_toArray, List.getElem?_cons_succ, List.getElem?_cons_zero]; first | done | rfl)); (case hq5 => exact fun _ _ _ h => h); (case hy5 => (refine Or.inl ⟨by rfl, ?_⟩; intro w hSw; (try dsimp only at hSw); go_simp; first | done | with_reducible rfl)); (try simp only [Act.put, List.setIfInBounds_toArray, List.set_cons_zero, List.set_cons_succ]))
      (refine wpAnyH_ready (rs := [2]) (by decide +kernel) (by simp) ?_; refine AllReadyH.cons (o := ?ho28) ?hi28 (fun K hK => ?hr28) AllReadyH.nil; (case hi28 => (simp only [List.getElem?_toArray, List.getElem?_cons_succ, List.getElem?_cons_zero]; first | done | rfl)))
      (go_simp; go_at_call 97; refine viaDX (s_draw21 B b _ HSX.out.drew) ?_; intro t9 u9 ht9 hs9 hl9; obtain ⟨A, own9, hA9⟩ := ht9; obtain ⟨a9, c9, hsh9, _, _⟩ := own9.rd; subst hsh9; (try simp at hl9); go_wp2_with fail)
      (refine hK.out _ _ ?_ (fun hHeld => ?_); focus ((try dsimp only); ((with_reducible first | refine heldD.at (b := b) (R := w.heap.size) hGX hGb hGR gX ?_ | refine heldD.at2 (b := b) (R := w.heap.size) hGX hGb hGR gX rX ?_); (repeat (with_reducible first | exact heldD.refl _ _ _ | apply heldD.drew | apply heldD.aftD | apply heldD.aft | apply heldD.alloc | apply heldD.set)))))
      (clear hK K; (try simp only [Act.put, List.setIfInBounds_toArray, List.set_cons_zero, List.set_cons_succ]))
      (refine wpAnyH_ready (rs := [3]) (by decide +kernel) (by simp) ?_; refine AllReadyH.cons (o := ?ho29) ?hi29 (fun K hK => ?hr29) AllReadyH.nil; (case hi29 => (simp only [List.getElem?_toArray, List.getElem?_cons_succ, List.getElem?_cons_zero]; first | done | rfl)))
      (rw [if_pos (by rfl)]; go_wp2_with fail)
      (refine hK.out _ _ ?_ (fun hHeld => ?_); focus ((try dsimp only); ((with_reducible first | refine heldD.at (b := b) (R := w.heap.size) hGX hGb hGR gX ?_ | refine heldD.at2 (b := b) (R := w.heap.size) hGX hGb hGR gX rX ?_); (repeat (with_reducible first | exact heldD.refl _ _ _ | apply heldD.drew | apply heldD.aftD | apply heldD.aft | apply heldD.alloc | apply heldD.set)))))
      (clear hK K; (try simp only [Act.put, List.setIfInBounds_toArray, List.set_cons_zero, List.set_cons_succ]))
      (refine wpAnyH_take (i := 4) (oi := ?ho6) (v := ?hv6) ?hi6 (by kernel_rfl) (by kernel_rfl) (by kernel_rfl) ?hq6 ?hy6 (by assumption) ?hr6; (case hi6 => (simp only [List.getElem?_toArray, List.getElem?_cons_succ, List.getElem?_cons_zero]; first | done | rfl)); (case hq6 => exact fun _ _ _ h => h); (case hy6 => (refine Or.inl ⟨by rfl, ?_⟩; intro w hSw; (try dsimp only at hSw); go_simp; first | done | with_reducible rfl)); (try simp only [Act.put, List.setIfInBounds_toArray, List.set_cons_zero, List.set_cons_succ]))
      (refine wpAnyH_done (by kernel_rfl) ?_ _)
      go_wp2_with fail
      have HRL : rdI (aftD b X.drew u9) (.slice a5 rs.length c5) rs := by repeat (with_reducible first | exact HRX.out | apply rdI.drew | apply rdI.aft | (refine rdI.aftD (L := W0.heap.size) ?_ _ HK.out (by omega)))
      exact bodyPost_ret (v := .tuple #[.agg #[.int .i64 n, .slice a5 rs.length c5], .slice a9 A.length c9]) (by simp [results, go_sem, hy0, hy1, ↓IntWalk.iteOmega]) rfl ⟨_, _, A, rfl, ⟨n, _, rs, rfl, hn, (HRL.setB _ _ _ HK.out (by omega)).setB _ _ _ HK.out (by omega), fun k hq => by have := HK.out k hq; omega, hrl⟩, ((own9.setCell _ _ _ _ (by first | exact hXs | omega | (simp; omega))).setCell _ _ _ _ (by first | exact hXs | omega | (simp; omega))).mono (by first | omega | (simp; omega)), hA9, Ext.bel ((((HEX.out.drew.aftD u9 (by omega)).setCell _ _ _ _ (by omega)).setCell _ _ _ _ (by omega)))⟩
    have hyp : ¬ y ≤ 0 := by omega
    have hyp2 : decide (0 < y) = true := by simp; omega
    have hyp3 : 0 < y := by omega
    clear hy hy0'
    go_wp2_with fail
    refine viaDr (s_next B b _ _ hs3 (by omega)) ?_
    intro z v4 hz hs4 hl4
    (try dsimp only at hz)
    obtain ⟨m, hnm, hm1, hm6, hne, hhd, hrr, hpw, _⟩ := group_facts HT.out
    have HRR := hid hrr
    have hf := facN_pos m
    have hf7 := facN_le hm6
    have HW : Hid (∀ (q : Int) (U : World), 0 ≤ q → q < (facN m : Int) → Calls Try.prog 96 #[.int .i64 n, .int .i64 q] U fun e w' => ∃ v, e = .returned v ∧ ownR U.heap.size w' v (withF m q) ∧ Below U.heap.size U w') := hid fun q U h0 h1 => by rw [hnm]; exact s_with m q U hm6 h0 h1
    have HFA : Hid (∀ U : World, Calls Try.prog 84 #[.int .i64 n] U fun e w' => e = .returned (.int .i64 (facN m)) ∧ U = w') := hid fun U => by rw [hnm]; exact s_fact m U hm6
    obtain ⟨F, hF⟩ : ∃ F, F = facN m := ⟨_, rfl⟩
    rw [← hF] at HFA HW hf hf7
    have hWl : ∀ q : Int, 0 ≤ q → q < (F : Int) → (withF m q).length ≤ 7 := fun q h0 h1 => by have := (with_ok (n := m) (r := q) hm6 h0 (by rw [← hF]; exact h1)).len; omega
    have HWL := hid hWl
    obtain ⟨rf, hrf⟩ : ∃ rf : Nat → Int, ∀ q, rf q = rs.getD q 0 := ⟨_, fun _ => rfl⟩
    have RFE := hid hrf
    have hrF : ∀ q, q < rs.length → 0 ≤ rf q ∧ rf q < (F : Int) := fun q hq => by
      rw [hrf, List.getD_eq_getElem?_getD, List.getElem?_eq_getElem hq, hF]
      exact HRR.out _ (List.getElem_mem hq)
    have HRF := hid hrF
    clear hrr hpw hhd hF hWl hrF hnm hrf
    by_cases hz0 : z = 0
    · subst hz0
      go_wp2_with fail
      obtain ⟨X, hX⟩ : ∃ X, X = aftD b (aftD b (aft V u2) v3) v4 := ⟨_, rfl⟩
      have HXG : Hid (Gr b V X) := hid (by rw [hX]; exact (((Gr.refl b V).aft u2).aftD v3).aftD v4)
      have hsX : src B b X := by rw [hX]; exact hs4
      rw [← hX]
      clear hX
      obtain ⟨hresX, hrX, hWX⟩ := HU.out X HXG.out
      have gX : ∀ o, X.cell? ⟨G, o, none⟩ = #[Value.int .i64 n, .slice a5 rs.length c5][o]? := fun o => (World.cell?_of_block (a := ⟨G, o, none⟩) (HXG.out.block G hGV (fun e => by injection e with e; exact hGb e))).trans (gV o)
      have hGX : G < X.heap.size := Nat.lt_of_lt_of_le hGV HXG.out.size
      have HGX : Hid (Gr b W0 X) := hid (grownBy_trans hE.out HXG.out)
      obtain ⟨y0, hy0⟩ := Option.isSome_iff_exists.1 (hresX 0 (by omega)).2
      obtain ⟨y1, hy1⟩ := Option.isSome_iff_exists.1 (hresX 1 (by omega)).2
      have hf0 := (hresX 0 (by omega)).1
      have hf1 := (hresX 1 (by omega)).1
      have hx0 := gX 0
      have hx1 := gX 1
      simp at hx0 hx1
      have HRX := hid hrX
      have HSX := hid hsX
      have HEX : Hid (Ext w.heap.size w X) := hid ⟨HE0.out.1.trans (Below.grown (Below.refl _ _) HGX.out (by omega) (fun k hk => by injection hk with hk; omega)), by have := HGX.out.size; omega⟩
      have hXs : w.heap.size < X.heap.size := by have := HGX.out.size; omega
      have hbX : b < X.heap.size := by have := HGX.out.size; omega
      clear hresX hrX hsX
      obtain ⟨a', c', e', _, hcc⟩ := id HRX.out
      injection e' with e1 e2 e3
      subst e1 e3
      obtain ⟨bs, os, rfl, hcell⟩ := hcc hne
      have rX : ∀ q, q < rs.length → X.cell? ⟨bs, os + q, none⟩ = some (.int .i64 (rf q)) ∧ bs < X.heap.size ∧ bs ≠ b ∧ bs ≠ w.heap.size := fun q hq => by
        have h1 := hcell q hq
        have h2 := World.block_lt_of_cell? X _ h1
        have h3 := HK.out bs rfl
        simp only at h2
        exact ⟨by rw [h1, RFE.out]; simp [List.getD, List.getElem?_eq_getElem hq], h2, by omega, by omega⟩
      have RX := hid rX
      have hrp : 0 < rs.length := by
        rcases Nat.eq_zero_or_pos rs.length with h0 | h0
        · exact absurd (List.eq_nil_of_length_eq_zero h0) hne
        · exact h0
      clear hcc hcell e2
      (refine wp_region_held_drew (S := (fun w' => (∀ o, w'.cell? ⟨G, o, none⟩ = #[Value.int .i64 n, .slice (some ⟨bs, os, none⟩) rs.length c5][o]?) ∧ (∀ q, q < rs.length → w'.cell? ⟨bs, os + q, none⟩ = some (.int .i64 (rf q))) ∧ X.heap.size ≤ w'.heap.size)) (by kernel_rfl) ?_ (fun hHeld => ?_); focus ((try dsimp only); ((with_reducible first | refine heldD.at (b := b) (R := w.heap.size) hGX hGb hGR gX ?_ | refine heldD.at2 (b := b) (R := w.heap.size) hGX hGb hGR gX rX ?_); (repeat (with_reducible first | exact heldD.refl _ _ _ | apply heldD.drew | apply heldD.aftD | apply heldD.aft | apply heldD.alloc | apply heldD.set)))))
      (refine wpAnyH_take (i := 0) (oi := ?ho7) (v := ?hv7) ?hi7 (by kernel_rfl) (by kernel_rfl) (by kernel_rfl) ?hq7 ?hy7 (by assumption) ?hr7; (case hi7 => (simp only [List.getElem?_toArray, List.getElem?_cons_succ, List.getElem?_cons_zero]; first | done | rfl)); (case hq7 => exact fun _ _ _ h => h); (case hy7 => (refine Or.inl ⟨by rfl, ?_⟩; intro w hSw; (try dsimp only at hSw); go_simp; first | done | with_reducible rfl)); (try simp only [Act.put, List.setIfInBounds_toArray, List.set_cons_zero, List.set_cons_succ]))
      (refine wpAnyH_take (i := 1) (oi := ?ho8) (v := ?hv8) ?hi8 (by kernel_rfl) (by kernel_rfl) (by kernel_rfl) ?hq8 ?hy8 (by assumption) ?hr8; (case hi8 => (simp only [List.getElem?_toArray, List.getElem?_cons_succ, List.getElem?_cons_zero]; first | done | rfl)); (case hq8 => exact fun _ _ _ h => h); (case hy8 => (refine Or.inl ⟨by rfl, ?_⟩; intro w hSw; (try dsimp only at hSw); go_simp; first | done | with_reducible rfl)); (try simp only [Act.put, List.setIfInBounds_toArray, List.set_cons_zero, List.set_cons_succ]))
      (refine wpAnyH_take (i := 2) (oi := ?ho9) (v := ?hv9) ?hi9 (by kernel_rfl) (by kernel_rfl) (by kernel_rfl) ?hq9 ?hy9 (by assumption) ?hr9; (case hi9 => (simp only [List.getElem?_toArray, List.getElem?_cons_succ, List.getElem?_cons_zero]; first | done | rfl)); (case hq9 => exact fun _ _ _ h => h); (case hy9 => (refine Or.inl ⟨by rfl, ?_⟩; intro w hSw; (try dsimp only at hSw); go_simp; first | done | with_reducible rfl)); (try simp only [Act.put, List.setIfInBounds_toArray, List.set_cons_zero, List.set_cons_succ]))
      (refine wpAnyH_take (i := 3) (oi := ?ho10) (v := ?hv10) ?hi10 (by kernel_rfl) (by kernel_rfl) (by kernel_rfl) ?hq10 ?hy10 (by assumption) ?hr10; (case hi10 => (simp only [List.getElem?_toArray, List.getElem?_cons_succ, List.getElem?_cons_zero]; first | done | rfl)); (case hq10 => exact fun _ _ _ h => h); (case hy10 => (refine Or.inl ⟨by rfl, ?_⟩; intro w hSw; (try dsimp only at hSw); go_simp; first | done | with_reducible rfl)); (try simp only [Act.put, List.setIfInBounds_toArray, List.set_cons_zero, List.set_cons_succ]))
      (refine wpAnyH_take (i := 4) (oi := ?ho11) (v := ?hv11) ?hi11 (by kernel_rfl) (by kernel_rfl) (by kernel_rfl) ?hq11 ?hy11 (by assumption) ?hr11; (case hi11 => (simp only [List.getElem?_toArray, List.getElem?_cons_succ, List.getElem?_cons_zero]; first | done | rfl)); (case hq11 => exact fun _ _ _ h => h); (case hy11 => (refine Or.inl ⟨by rfl, ?_⟩; intro w hSw; (try dsimp only at hSw); go_simp; first | done | with_reducible rfl)); (try simp only [Act.put, List.setIfInBounds_toArray, List.set_cons_zero, List.set_cons_succ]))
      (refine wpAnyH_take (i := 5) (oi := ?ho12) (v := ?hv12) ?hi12 (by kernel_rfl) (by kernel_rfl) (by kernel_rfl) ?hq12 ?hy12 (by assumption) ?hr12; (case hi12 => (simp only [List.getElem?_toArray, List.getElem?_cons_succ, List.getElem?_cons_zero]; first | done | rfl)); (case hq12 => exact fun _ _ _ h => h); (case hy12 => (refine Or.inl ⟨by rfl, ?_⟩; intro w hSw; (try dsimp only at hSw); go_simp; first | done | with_reducible rfl)); (try simp only [Act.put, List.setIfInBounds_toArray, List.set_cons_zero, List.set_cons_succ]))
      (refine wpAnyH_take (i := 6) (oi := ?ho13) (v := ?hv13) ?hi13 (by kernel_rfl) (by kernel_rfl) (by kernel_rfl) ?hq13 ?hy13 (by assumption) ?hr13; (case hi13 => (simp only [List.getElem?_toArray, List.getElem?_cons_succ, List.getElem?_cons_zero]; first | done | rfl)); (case hq13 => exact fun _ _ _ h => h); (case hy13 => (refine Or.inl ⟨by rfl, ?_⟩; intro w hSw; (try dsimp only at hSw); go_simp; first | done | with_reducible rfl)); (try simp only [Act.put, List.setIfInBounds_toArray, List.set_cons_zero, List.set_cons_succ]))
      (refine wpAnyH_take (i := 7) (oi := ?ho14) (v := ?hv14) ?hi14 (by kernel_rfl) (by kernel_rfl) (by kernel_rfl) ?hq14 ?hy14 (by assumption) ?hr14; (case hi14 => (simp only [List.getElem?_toArray, List.getElem?_cons_succ, List.getElem?_cons_zero]; first | done | rfl)); (case hq14 => exact fun _ _ _ h => h); (case hy14 => (refine Or.inl ⟨by rfl, ?_⟩; intro w hSw; (try dsimp only at hSw); go_simp; first | done | with_reducible rfl)); (try simp only [Act.put, List.setIfInBounds_toArray, List.set_cons_zero, List.set_cons_succ]))
      (refine wpAnyH_take (i := 8) (oi := ?ho15) (v := ?hv15) ?hi15 (by kernel_rfl) (by kernel_rfl) (by kernel_rfl) ?hq15 ?hy15 (by assumption) ?hr15; (case hi15 => (simp only [List.getElem?_toArray, List.getElem?_cons_succ, List.getElem?_cons_zero]; first | done | rfl)); (case hq15 => exact fun _ _ _ h => h); (case hy15 => (refine Or.inl ⟨by rfl, ?_⟩; intro w hSw; (try dsimp only at hSw); go_simp; first | done | with_reducible rfl)); (try simp only [Act.put, List.setIfInBounds_toArray, List.set_cons_zero, List.set_cons_succ]))
      (refine wpAnyH_ready (rs := [9]) (by decide +kernel) (by simp) ?_; refine AllReadyH.cons (o := ?ho30) ?hi30 (fun K hK => ?hr30) AllReadyH.nil; (case hi30 => (simp only [List.getElem?_toArray, List.getElem?_cons_succ, List.getElem?_cons_zero]; first | done | rfl)))
      (go_simp; go_at_call 95; refine viaDr (s_next B b _ _ HSX.out.drew (by omega)) ?_; intro y9 v9 hy9 hs9 hl9; (try simp at hl9); (try dsimp only at hy9); obtain ⟨q9, rfl⟩ : ∃ q9 : Nat, y9 = (q9 : Int) := ⟨y9.toNat, by omega⟩; have hq9 : q9 < rs.length := (by omega); have hq9z : (q9 : Int) < (rs.length : Int) := (by omega); obtain ⟨hf1a, hf1b⟩ := HRF.out q9 hq9; go_wp2_with fail)
      (refine hK.out _ _ ?_ (fun hHeld => ?_); focus ((try dsimp only); ((with_reducible first | refine heldD.at (b := b) (R := w.heap.size) hGX hGb hGR gX ?_ | refine heldD.at2 (b := b) (R := w.heap.size) hGX hGb hGR gX rX ?_); (repeat (with_reducible first | exact heldD.refl _ _ _ | apply heldD.drew | apply heldD.aftD | apply heldD.aft | apply heldD.alloc | apply heldD.set)))))
      (clear hK K; (try simp only [Act.put, List.setIfInBounds_toArray, List.set_cons_zero, List.set_cons_succ]))
      (refine wpAnyH_take (i := 10) (oi := ?ho16) (v := ?hv16) ?hi16 (by kernel_rfl) (by kernel_rfl) (by kernel_rfl) ?hq16 ?hy16 (by assumption) ?hr16; (case hi16 => (simp only [List.getElem?_toArray, List.getElem?_cons_succ, List.getElem?_cons_zero]; first | done | rfl)); (case hq16 => exact fun _ _ _ h => h); (case hy16 => (refine Or.inl ⟨by rfl, ?_⟩; intro w hSw; (try dsimp only at hSw); go_simp; first | done | with_reducible rfl)); (try simp only [Act.put, List.setIfInBounds_toArray, List.set_cons_zero, List.set_cons_succ]))
      (refine wpAnyH_take (i := 11) (oi := ?ho17) (v := ?hv17) ?hi17 (by kernel_rfl) (by kernel_rfl) (by kernel_rfl) ?hq17 ?hy17 (by assumption) ?hr17; (case hi17 => (simp only [List.getElem?_toArray, List.getElem?_cons_succ, List.getElem?_cons_zero]; first | done | rfl)); (case hq17 => exact fun _ _ _ h => h); (case hy17 => (refine Or.inl ⟨by rfl, ?_⟩; intro w hSw; (try dsimp only at hSw); go_simp; first | done | with_reducible rfl)); (try simp only [Act.put, List.setIfInBounds_toArray, List.set_cons_zero, List.set_cons_succ]))
      (refine wpAnyH_ready (rs := [12]) (by decide +kernel) (by simp) ?_; refine AllReadyH.cons (o := ?ho31) ?hi31 (fun K hK => ?hr31) AllReadyH.nil; (case hi31 => (simp only [List.getElem?_toArray, List.getElem?_cons_succ, List.getElem?_cons_zero]; first | done | rfl)))
      (go_simp; go_at_call 96; refine viaI (g := id) (HW.out (rf q9) _ hf1a hf1b) ?_; intro t8 u8 z8 own8; (try simp at z8); obtain ⟨a8, c8, hsh8, _, _⟩ := own8.rd; subst hsh8; go_wp2_with fail)
      (refine hK.out _ _ ?_ (fun hHeld => ?_); focus ((try dsimp only); ((with_reducible first | refine heldD.at (b := b) (R := w.heap.size) hGX hGb hGR gX ?_ | refine heldD.at2 (b := b) (R := w.heap.size) hGX hGb hGR gX rX ?_); (repeat (with_reducible first | exact heldD.refl _ _ _ | apply heldD.drew | apply heldD.aftD | apply heldD.aft | apply heldD.alloc | apply heldD.set)))))
      (clear hK K; (try simp only [Act.put, List.setIfInBounds_toArray, List.set_cons_zero, List.set_cons_succ]))
      (refine wpAnyH_ready (rs := [13]) (by decide +kernel) (by simp) ?_; refine AllReadyH.cons (o := ?ho32) ?hi32 (fun K hK => ?hr32) AllReadyH.nil; (case hi32 => (simp only [List.getElem?_toArray, List.getElem?_cons_succ, List.getElem?_cons_zero]; first | done | rfl)))
      (rw [if_pos (by rfl)]; go_wp2_with fail)
      (refine hK.out _ _ ?_ (fun hHeld => ?_); focus ((try dsimp only); ((with_reducible first | refine heldD.at (b := b) (R := w.heap.size) hGX hGb hGR gX ?_ | refine heldD.at2 (b := b) (R := w.heap.size) hGX hGb hGR gX rX ?_); (repeat (with_reducible first | exact heldD.refl _ _ _ | apply heldD.drew | apply heldD.aftD | apply heldD.aft | apply heldD.alloc | apply heldD.set)))))
      (clear hK K; (try simp only [Act.put, List.setIfInBounds_toArray, List.set_cons_zero, List.set_cons_succ]))
      (refine wpAnyH_take (i := 14) (oi := ?ho18) (v := ?hv18) ?hi18 (by kernel_rfl) (by kernel_rfl) (by kernel_rfl) ?hq18 ?hy18 (by assumption) ?hr18; (case hi18 => (simp only [List.getElem?_toArray, List.getElem?_cons_succ, List.getElem?_cons_zero]; first | done | rfl)); (case hq18 => exact fun _ _ _ h => h); (case hy18 => (refine Or.inl ⟨by rfl, ?_⟩; intro w hSw; (try dsimp only at hSw); go_simp; first | done | with_reducible rfl)); (try simp only [Act.put, List.setIfInBounds_toArray, List.set_cons_zero, List.set_cons_succ]))
      (refine wpAnyH_done (by kernel_rfl) ?_ _)
      go_wp2_with fail
      have hwl8 := HWL.out (rf q9) hf1a hf1b
      have HRL : rdI (aft (aftD b X.drew v9) u8) (.slice (some ⟨bs, os, none⟩) rs.length c5) rs := by repeat (with_reducible first | exact HRX.out | apply rdI.drew | apply rdI.aft | (refine rdI.aftD (L := W0.heap.size) ?_ _ HK.out (by omega)))
      exact bodyPost_ret (v := .tuple #[.agg #[.int .i64 n, .slice (some ⟨bs, os, none⟩) rs.length c5], .slice a8 (withF m (rf q9)).length c8]) (by simp [results, go_sem, hy0, hy1, ↓IntWalk.iteOmega]) rfl ⟨_, _, withF m (rf q9), rfl, ⟨n, _, rs, rfl, hn, (HRL.setB _ _ _ HK.out (by omega)).setB _ _ _ HK.out (by omega), fun k hq => by have := HK.out k hq; omega, hrl⟩, ((own8.setCell _ _ _ _ (by first | exact hXs | omega | (simp; omega))).setCell _ _ _ _ (by first | exact hXs | omega | (simp; omega))).mono (by first | omega | (simp; omega)), hwl8, Ext.bel (((((HEX.out.drew.aftD v9 (by omega)).aft u8).setCell _ _ _ _ (by omega)).setCell _ _ _ _ (by omega)))⟩
    · have hz1 : (z == 0) = false := by simpa using hz0
      go_wp2_with fail
      obtain ⟨X, hX⟩ : ∃ X, X = aftD b (aftD b (aft V u2) v3) v4 := ⟨_, rfl⟩
      have HXG : Hid (Gr b V X) := hid (by rw [hX]; exact (((Gr.refl b V).aft u2).aftD v3).aftD v4)
      have hsX : src B b X := by rw [hX]; exact hs4
      rw [← hX]
      clear hX
      obtain ⟨hresX, hrX, hWX⟩ := HU.out X HXG.out
      have gX : ∀ o, X.cell? ⟨G, o, none⟩ = #[Value.int .i64 n, .slice a5 rs.length c5][o]? := fun o => (World.cell?_of_block (a := ⟨G, o, none⟩) (HXG.out.block G hGV (fun e => by injection e with e; exact hGb e))).trans (gV o)
      have hGX : G < X.heap.size := Nat.lt_of_lt_of_le hGV HXG.out.size
      have HGX : Hid (Gr b W0 X) := hid (grownBy_trans hE.out HXG.out)
      obtain ⟨y0, hy0⟩ := Option.isSome_iff_exists.1 (hresX 0 (by omega)).2
      obtain ⟨y1, hy1⟩ := Option.isSome_iff_exists.1 (hresX 1 (by omega)).2
      have hf0 := (hresX 0 (by omega)).1
      have hf1 := (hresX 1 (by omega)).1
      have hx0 := gX 0
      have hx1 := gX 1
      simp at hx0 hx1
      have HRX := hid hrX
      have HSX := hid hsX
      have HEX : Hid (Ext w.heap.size w X) := hid ⟨HE0.out.1.trans (Below.grown (Below.refl _ _) HGX.out (by omega) (fun k hk => by injection hk with hk; omega)), by have := HGX.out.size; omega⟩
      have hXs : w.heap.size < X.heap.size := by have := HGX.out.size; omega
      have hbX : b < X.heap.size := by have := HGX.out.size; omega
      clear hresX hrX hsX
      (refine wp_region_held_drew (S := (fun w' => (∀ o, w'.cell? ⟨G, o, none⟩ = #[Value.int .i64 n, .slice a5 rs.length c5][o]?) ∧ X.heap.size ≤ w'.heap.size)) (by kernel_rfl) ?_ (fun hHeld => ?_); focus ((try dsimp only); ((with_reducible first | refine heldD.at (b := b) (R := w.heap.size) hGX hGb hGR gX ?_ | refine heldD.at2 (b := b) (R := w.heap.size) hGX hGb hGR gX rX ?_); (repeat (with_reducible first | exact heldD.refl _ _ _ | apply heldD.drew | apply heldD.aftD | apply heldD.aft | apply heldD.alloc | apply heldD.set)))))
      (refine wpAnyH_take (i := 0) (oi := ?ho19) (v := ?hv19) ?hi19 (by kernel_rfl) (by kernel_rfl) (by kernel_rfl) ?hq19 ?hy19 (by assumption) ?hr19; (case hi19 => (simp only [List.getElem?_toArray, List.getElem?_cons_succ, List.getElem?_cons_zero]; first | done | rfl)); (case hq19 => exact fun _ _ _ h => h); (case hy19 => (refine Or.inl ⟨by rfl, ?_⟩; intro w hSw; (try dsimp only at hSw); go_simp; first | done | with_reducible rfl)); (try simp only [Act.put, List.setIfInBounds_toArray, List.set_cons_zero, List.set_cons_succ]))
      (refine wpAnyH_take (i := 1) (oi := ?ho20) (v := ?hv20) ?hi20 (by kernel_rfl) (by kernel_rfl) (by kernel_rfl) ?hq20 ?hy20 (by assumption) ?hr20; (case hi20 => (simp only [List.getElem?_toArray, List.getElem?_cons_succ, List.getElem?_cons_zero]; first | done | rfl)); (case hq20 => exact fun _ _ _ h => h); (case hy20 => (refine Or.inl ⟨by rfl, ?_⟩; intro w hSw; (try dsimp only at hSw); go_simp; first | done | with_reducible rfl)); (try simp only [Act.put, List.setIfInBounds_toArray, List.set_cons_zero, List.set_cons_succ]))
      (refine wpAnyH_take (i := 2) (oi := ?ho21) (v := ?hv21) ?hi21 (by kernel_rfl) (by kernel_rfl) (by kernel_rfl) ?hq21 ?hy21 (by assumption) ?hr21; (case hi21 => (simp only [List.getElem?_toArray, List.getElem?_cons_succ, List.getElem?_cons_zero]; first | done | rfl)); (case hq21 => exact fun _ _ _ h => h); (case hy21 => (refine Or.inl ⟨by rfl, ?_⟩; intro w hSw; (try dsimp only at hSw); go_simp; first | done | with_reducible rfl)); (try simp only [Act.put, List.setIfInBounds_toArray, List.set_cons_zero, List.set_cons_succ]))
      (refine wpAnyH_take (i := 3) (oi := ?ho22) (v := ?hv22) ?hi22 (by kernel_rfl) (by kernel_rfl) (by kernel_rfl) ?hq22 ?hy22 (by assumption) ?hr22; (case hi22 => (simp only [List.getElem?_toArray, List.getElem?_cons_succ, List.getElem?_cons_zero]; first | done | rfl)); (case hq22 => exact fun _ _ _ h => h); (case hy22 => (refine Or.inl ⟨by rfl, ?_⟩; intro w hSw; (try dsimp only at hSw); go_simp; first | done | with_reducible rfl)); (try simp only [Act.put, List.setIfInBounds_toArray, List.set_cons_zero, List.set_cons_succ]))
      (refine wpAnyH_take (i := 4) (oi := ?ho23) (v := ?hv23) ?hi23 (by kernel_rfl) (by kernel_rfl) (by kernel_rfl) ?hq23 ?hy23 (by assumption) ?hr23; (case hi23 => (simp only [List.getElem?_toArray, List.getElem?_cons_succ, List.getElem?_cons_zero]; first | done | rfl)); (case hq23 => exact fun _ _ _ h => h); (case hy23 => (refine Or.inl ⟨by rfl, ?_⟩; intro w hSw; (try dsimp only at hSw); go_simp; first | done | with_reducible rfl)); (try simp only [Act.put, List.setIfInBounds_toArray, List.set_cons_zero, List.set_cons_succ]))
      (refine wpAnyH_take (i := 5) (oi := ?ho24) (v := ?hv24) ?hi24 (by kernel_rfl) (by kernel_rfl) (by kernel_rfl) ?hq24 ?hy24 (by assumption) ?hr24; (case hi24 => (simp only [List.getElem?_toArray, List.getElem?_cons_succ, List.getElem?_cons_zero]; first | done | rfl)); (case hq24 => exact fun _ _ _ h => h); (case hy24 => (refine Or.inl ⟨by rfl, ?_⟩; intro w hSw; (try dsimp only at hSw); go_simp; first | done | with_reducible rfl)); (try simp only [Act.put, List.setIfInBounds_toArray, List.set_cons_zero, List.set_cons_succ]))
      (refine wpAnyH_ready (rs := [6]) (by decide +kernel) (by simp) ?_; refine AllReadyH.cons (o := ?ho33) ?hi33 (fun K hK => ?hr33) AllReadyH.nil; (case hi33 => (simp only [List.getElem?_toArray, List.getElem?_cons_succ, List.getElem?_cons_zero]; first | done | rfl)))
      (go_simp; go_at_call 84; refine pur (HFA.out _) ?_; go_wp2_with fail)
      (refine hK.out _ _ ?_ (fun hHeld => ?_); focus ((try dsimp only); ((with_reducible first | refine heldD.at (b := b) (R := w.heap.size) hGX hGb hGR gX ?_ | refine heldD.at2 (b := b) (R := w.heap.size) hGX hGb hGR gX rX ?_); (repeat (with_reducible first | exact heldD.refl _ _ _ | apply heldD.drew | apply heldD.aftD | apply heldD.aft | apply heldD.alloc | apply heldD.set)))))
      (clear hK K; (try simp only [Act.put, List.setIfInBounds_toArray, List.set_cons_zero, List.set_cons_succ]))
      (refine wpAnyH_ready (rs := [7]) (by decide +kernel) (by simp) ?_; refine AllReadyH.cons (o := ?ho34) ?hi34 (fun K hK => ?hr34) AllReadyH.nil; (case hi34 => (simp only [List.getElem?_toArray, List.getElem?_cons_succ, List.getElem?_cons_zero]; first | done | rfl)))
      (go_simp; go_at_call 95; refine viaDr (s_next B b _ _ HSX.out.drew (by omega)) ?_; intro y9 v9 hy9 hs9 hl9; (try simp at hl9); (try dsimp only at hy9); have hf1a : 0 ≤ y9 := (by omega); have hf1b : y9 < (F : Int) := (by omega); go_wp2_with fail)
      (refine hK.out _ _ ?_ (fun hHeld => ?_); focus ((try dsimp only); ((with_reducible first | refine heldD.at (b := b) (R := w.heap.size) hGX hGb hGR gX ?_ | refine heldD.at2 (b := b) (R := w.heap.size) hGX hGb hGR gX rX ?_); (repeat (with_reducible first | exact heldD.refl _ _ _ | apply heldD.drew | apply heldD.aftD | apply heldD.aft | apply heldD.alloc | apply heldD.set)))))
      (clear hK K; (try simp only [Act.put, List.setIfInBounds_toArray, List.set_cons_zero, List.set_cons_succ]))
      (refine wpAnyH_ready (rs := [8]) (by decide +kernel) (by simp) ?_; refine AllReadyH.cons (o := ?ho35) ?hi35 (fun K hK => ?hr35) AllReadyH.nil; (case hi35 => (simp only [List.getElem?_toArray, List.getElem?_cons_succ, List.getElem?_cons_zero]; first | done | rfl)))
      (go_simp; go_at_call 96; refine viaI (g := id) (HW.out y9 _ hf1a hf1b) ?_; intro t8 u8 z8 own8; (try simp at z8); obtain ⟨a8, c8, hsh8, _, _⟩ := own8.rd; subst hsh8; go_wp2_with fail)
      (refine hK.out _ _ ?_ (fun hHeld => ?_); focus ((try dsimp only); ((with_reducible first | refine heldD.at (b := b) (R := w.heap.size) hGX hGb hGR gX ?_ | refine heldD.at2 (b := b) (R := w.heap.size) hGX hGb hGR gX rX ?_); (repeat (with_reducible first | exact heldD.refl _ _ _ | apply heldD.drew | apply heldD.aftD | apply heldD.aft | apply heldD.alloc | apply heldD.set)))))
      (clear hK K; (try simp only [Act.put, List.setIfInBounds_toArray, List.set_cons_zero, List.set_cons_succ]))
      (refine wpAnyH_ready (rs := [9]) (by decide +kernel) (by simp) ?_; refine AllReadyH.cons (o := ?ho36) ?hi36 (fun K hK => ?hr36) AllReadyH.nil; (case hi36 => (simp only [List.getElem?_toArray, List.getElem?_cons_succ, List.getElem?_cons_zero]; first | done | rfl)))
      (rw [if_pos (by rfl)]; go_wp2_with fail)
      (refine hK.out _ _ ?_ (fun hHeld => ?_); focus ((try dsimp only); ((with_reducible first | refine heldD.at (b := b) (R := w.heap.size) hGX hGb hGR gX ?_ | refine heldD.at2 (b := b) (R := w.heap.size) hGX hGb hGR gX rX ?_); (repeat (with_reducible first | exact heldD.refl _ _ _ | apply heldD.drew | apply heldD.aftD | apply heldD.aft | apply heldD.alloc | apply heldD.set)))))
      (clear hK K; (try simp only [Act.put, List.setIfInBounds_toArray, List.set_cons_zero, List.set_cons_succ]))
      (refine wpAnyH_take (i := 10) (oi := ?ho25) (v := ?hv25) ?hi25 (by kernel_rfl) (by kernel_rfl) (by kernel_rfl) ?hq25 ?hy25 (by assumption) ?hr25; (case hi25 => (simp only [List.getElem?_toArray, List.getElem?_cons_succ, List.getElem?_cons_zero]; first | done | rfl)); (case hq25 => exact fun _ _ _ h => h); (case hy25 => (refine Or.inl ⟨by rfl, ?_⟩; intro w hSw; (try dsimp only at hSw); go_simp; first | done | with_reducible rfl)); (try simp only [Act.put, List.setIfInBounds_toArray, List.set_cons_zero, List.set_cons_succ]))
      (refine wpAnyH_done (by kernel_rfl) ?_ _)
      go_wp2_with fail
      have hwl8 := HWL.out y9 hf1a hf1b
      have HRL : rdI (aft (aftD b X.drew v9) u8) (.slice a5 rs.length c5) rs := by repeat (with_reducible first | exact HRX.out | apply rdI.drew | apply rdI.aft | (refine rdI.aftD (L := W0.heap.size) ?_ _ HK.out (by omega)))
      exact bodyPost_ret (v := .tuple #[.agg #[.int .i64 n, .slice a5 rs.length c5], .slice a8 (withF m y9).length c8]) (by simp [results, go_sem, hy0, hy1, ↓IntWalk.iteOmega]) rfl ⟨_, _, withF m y9, rfl, ⟨n, _, rs, rfl, hn, (HRL.setB _ _ _ HK.out (by omega)).setB _ _ _ HK.out (by omega), fun k hq => by have := HK.out k hq; omega, hrl⟩, ((own8.setCell _ _ _ _ (by first | exact hXs | omega | (simp; omega))).setCell _ _ _ _ (by first | exact hXs | omega | (simp; omega))).mono (by first | omega | (simp; omega)), hwl8, Ext.bel (((((HEX.out.drew.aftD v9 (by omega)).aft u8).setCell _ _ _ _ (by omega)).setCell _ _ _ _ (by omega)))⟩
end Go.Proofs.Ytbkbcbanfnhjpaa
