/- Draws: rings, rational numbers. -/
import Derived.Test.YtehdkbopkkgabaaT56
import Derived.Test.YtehdkbopkkgabaaF4
import Derived.Test.YtehdkbopkkgabaaB6
namespace Go.Proofs.Ytehdkbopkkgabaa
open Go Go.RowKit


set_option maxRecDepth 20000 in
set_option maxHeartbeats 4000000 in
theorem s_valid2 (B b : Nat) (w : World) (h : src B b w) :
    Calls Try.prog 157 #[.pointer (some ⟨b, 0, none⟩)] w (Draws B b w (fun x : Int × Int => .agg #[.int .i64 x.1, .int .i64 x.2]) (fun x => (2 ≤ x.1 ∧ x.1 ≤ 13) ∧ 1 ≤ x.2 ∧ x.2 ≤ 6)) := by
  have hb := h.lt
  have hB := h.ge
  go_enter Try.func157, Try.ntmps157
  go_wp2_with fail
  refine viaDr (s_pickA B b _ _ _ [2, 3, 5, 7, 2, 3, 5, 11, 13] _ _ _ (by simp) rfl rfl (by repeat (with_reducible first | assumption | apply src.aft | apply src.alloc | apply src.drew | (refine src.set ?_ ?_ ?_ _) | (simp; done) | (simp; omega) | omega)) (by decide) (by decide)) ?_
  intro p u hx hs hl
  (try simp at hl)
  have hp : 2 ≤ p ∧ p ≤ 13 := by simp at hx; omega
  clear hx
  go_wp2_with fail
  refine viaDr (s_next B b _ _ (by repeat (with_reducible first | assumption | apply src.aft | apply src.alloc | apply src.drew | (refine src.set ?_ ?_ ?_ _) | (simp; done) | (simp; omega) | omega)) (by omega)) ?_
  intro y v hy hs2 hl2
  (try simp at hl2)
  (try dsimp only at hy)
  go_wp2_with fail
  obtain ⟨W, hW⟩ : ∃ W, W = aftD b (aftD b ((w.alloc (Obj.cells #[Value.int IntKind.i64 0, Value.int IntKind.i64 0] 36)).alloc (Obj.cells #[Value.int IntKind.i64 2, Value.int IntKind.i64 3, Value.int IntKind.i64 5, Value.int IntKind.i64 7, Value.int IntKind.i64 2, Value.int IntKind.i64 3, Value.int IntKind.i64 5, Value.int IntKind.i64 11, Value.int IntKind.i64 13] 2)) u) v := ⟨_, rfl⟩
  have hne : w.heap.size ≠ b := by omega
  have c0 : ∀ o, W.cell? ⟨w.heap.size, o, none⟩ = #[Value.int IntKind.i64 0, Value.int IntKind.i64 0][o]? := fun o => by rw [hW, aftD_cell, if_pos (by omega), aftD_cell, if_pos (by simp; omega), alloc_cell, if_neg (by simp), alloc_cell, if_pos rfl]
  have f0 : ∀ o, W.frozen? ⟨w.heap.size, o, none⟩ = false := fun o => by rw [hW, aftD_frozen, if_pos (by omega), aftD_frozen, if_pos (by simp; omega), alloc_frozen, if_neg (by simp), alloc_frozen, if_pos rfl]
  have hG : Hid (Gr b w W) := hid (by rw [hW]; exact (by show Gr _ _ _; repeat (with_reducible first | exact Gr.refl _ _ | apply Gr.aftD | apply Gr.aft | apply Gr.alloc | apply Gr.drew | apply Gr.set | (simp; done) | (simp; omega) | omega)))
  have lW : w.heap.size < W.heap.size := by rw [hW]; omega
  rw [← hW] at hs2 ⊢
  clear hW hs hl hl2
  go_loop [4] (fun k => ∃ m : Int, k = .int .i64 m ∧ 1 ≤ m ∧ m ≤ 6) (fun k => (intOf k).toNat)
  case atStart => exact ⟨_, rfl, by omega, by omega⟩
  case round =>
    obtain ⟨m, rfl, hm1, hm2⟩ := hrel
    by_cases hz : modu p m = 0
    · have hz' : (modu p m == 0) = true := by simpa using hz
      have hm3 : m ≠ 1 := by intro e; rw [e, modu_1 (by omega)] at hz; omega
      clear hz
      go_wp2_with (go_at_call 95; refine pur (s_modulus _ _ _ (by omega) (by omega) (by omega)) ?_)
      go_round
      case rel => exact ⟨_, rfl, by omega, by omega⟩
      case measure => simp [intOf]; omega
    · have hz' : (modu p m == 0) = false := by simpa using hz
      clear hz
      go_wp2_with (go_at_call 95; refine pur (s_modulus _ _ _ (by omega) (by omega) (by omega)) ?_)
      exact bodyPost_ret (v := .agg #[.int .i64 p, .int .i64 m]) (by simp [results, go_sem, ↓IntWalk.iteOmega, c0]) rfl ⟨(p, m), rfl, by simp only; omega, (show Gr _ _ _ by repeat (with_reducible first | exact hG.out | apply Gr.aftD | apply Gr.set | (simp; done) | (simp; omega) | omega)), (by repeat (with_reducible first | assumption | apply src.aft | apply src.alloc | apply src.drew | (refine src.set ?_ ?_ ?_ _) | (simp; done) | (simp; omega) | omega))⟩
set_option maxRecDepth 20000 in
set_option maxHeartbeats 4000000 in
theorem s_draw2 (B b : Nat) (w : World) (h : src B b w) :
    Calls Try.prog 114 #[.pointer (some ⟨b, 0, none⟩)] w (Draws B b w (fun x : Int × Int => .agg #[.int .i64 x.1, .int .i64 x.2]) (fun _ => True)) := by
  have hb := h.lt
  have hB := h.ge
  go_enter Try.func114, Try.ntmps114
  go_wp2_with fail
  refine viaDr (s_valid2 B b _ (by repeat (with_reducible first | assumption | apply src.aft | apply src.alloc | apply src.drew | (refine src.set ?_ ?_ ?_ _) | (simp; done) | (simp; omega) | omega))) ?_
  intro y u hy hs hl
  (try simp at hl)
  obtain ⟨p, n⟩ := y
  (try dsimp only at hy)
  dsimp only
  go_wp2_with fail
  obtain ⟨V, hV⟩ : ∃ V, V = aftD b (w.alloc (Obj.cells #[Value.int IntKind.i64 0, Value.int IntKind.i64 0] 36)) u := ⟨_, rfl⟩
  have lV : w.heap.size + 1 ≤ V.heap.size := by rw [hV]; omega
  have cR : ∀ o, V.cell? ⟨w.heap.size, o, none⟩ = #[Value.int IntKind.i64 0, Value.int IntKind.i64 0][o]? := fun o => by rw [hV, aftD_cell, if_pos (by simp; omega), alloc_cell, if_pos rfl]
  have fR : ∀ o, V.frozen? ⟨w.heap.size, o, none⟩ = false := fun o => by rw [hV, aftD_frozen, if_pos (by simp; omega), alloc_frozen, if_pos rfl]
  have hG : Hid (Gr b w V) := hid (by rw [hV]; exact (by show Gr _ _ _; repeat (with_reducible first | exact Gr.refl _ _ | apply Gr.aftD | apply Gr.aft | apply Gr.alloc | apply Gr.drew | apply Gr.set | (simp; done) | (simp; omega) | omega)))
  rw [← hV] at hs ⊢
  clear hV hl
  obtain ⟨k, hk⟩ : ∃ k, k = V.heap.size := ⟨_, rfl⟩
  have hkb : b < k := by rw [hk]; omega
  obtain ⟨W, hW⟩ : ∃ W, W = V.alloc (Obj.cells #[Value.int IntKind.i64 p, Value.int IntKind.i64 n] 36) := ⟨_, rfl⟩
  have cR : ∀ o, W.cell? ⟨w.heap.size, o, none⟩ = #[Value.int IntKind.i64 0, Value.int IntKind.i64 0][o]? := fun o => by rw [hW, alloc_cell, if_neg (by omega)]; exact cR o
  have fR : ∀ o, W.frozen? ⟨w.heap.size, o, none⟩ = false := fun o => by rw [hW, alloc_frozen, if_neg (by omega)]; exact fR o
  have cX : ∀ o, W.cell? ⟨k, o, none⟩ = #[Value.int IntKind.i64 p, Value.int IntKind.i64 n][o]? := fun o => by rw [hW, alloc_cell, if_pos hk]
  have fX : ∀ o, W.frozen? ⟨k, o, none⟩ = false := fun o => by rw [hW, alloc_frozen, if_pos hk]
  have hGW : Hid (Gr b w W) := hid (by rw [hW]; exact hG.out.alloc _)
  have hsW : src B b W := by rw [hW]; exact hs.alloc _
  have lW : k < W.heap.size := by rw [hW]; simp; omega
  rw [← hW, ← hk]
  have lk : w.heap.size < k := by omega
  clear hW hk hs hG lV hy
  refine viaDr (s_next B b _ _ hsW (by omega)) ?_
  intro x u2 hx hs3 hl3
  (try dsimp only at hx)
  by_cases x0 : x = 0
  · subst x0
    go_wp2_with fail
    refine viaDr (s_drawPrime B b _ hs3) ?_
    intro z u3 hz hs4 hl4
    go_wp2_with fail
    exact bodyPost_ret (v := .agg #[.int .i64 z, .int .i64 n]) (by simp [results, go_sem, ↓IntWalk.iteOmega, cX, cR]) rfl ⟨(z, n), rfl, trivial, (show Gr _ _ _ by repeat (with_reducible first | exact hGW.out | apply Gr.aftD | apply Gr.alloc | apply Gr.set | (simp; done) | (simp; omega) | omega)), (by repeat (with_reducible first | assumption | apply src.aft | apply src.alloc | apply src.drew | (refine src.set ?_ ?_ ?_ _) | (simp; done) | (simp; omega) | omega))⟩
  by_cases x1 : x = 1
  · subst x1
    go_wp2_with fail
    refine viaDr (s_pickA B b _ _ _ [0, 1, 29, 30, 12, -1] _ _ _ (by simp) rfl rfl (by repeat (with_reducible first | assumption | apply src.aft | apply src.alloc | apply src.drew | (refine src.set ?_ ?_ ?_ _) | (simp; done) | (simp; omega) | omega)) (by decide) (by decide)) ?_
    intro z u3 hz hs4 hl4
    (try simp at hl4)
    clear hz
    go_wp2_with fail
    exact bodyPost_ret (v := .agg #[.int .i64 p, .int .i64 z]) (by simp [results, go_sem, ↓IntWalk.iteOmega, cX, cR]) rfl ⟨(p, z), rfl, trivial, (show Gr _ _ _ by repeat (with_reducible first | exact hGW.out | apply Gr.aftD | apply Gr.alloc | apply Gr.set | (simp; done) | (simp; omega) | omega)), (by repeat (with_reducible first | assumption | apply src.aft | apply src.alloc | apply src.drew | (refine src.set ?_ ?_ ?_ _) | (simp; done) | (simp; omega) | omega))⟩
  have x0' : (x == 0) = false := by simpa using x0
  have x1' : (x == 1) = false := by simpa using x1
  go_wp2_with fail
  exact bodyPost_ret (v := .agg #[Value.int IntKind.i64 p, Value.int IntKind.i64 n]) (by simp [results, go_sem, ↓IntWalk.iteOmega, cX, cR]) rfl ⟨(p, n), rfl, trivial, (show Gr _ _ _ by repeat (with_reducible first | exact hGW.out | apply Gr.aftD | apply Gr.alloc | apply Gr.set | (simp; done) | (simp; omega) | omega)), (by repeat (with_reducible first | assumption | apply src.aft | apply src.alloc | apply src.drew | (refine src.set ?_ ?_ ?_ _) | (simp; done) | (simp; omega) | omega))⟩


set_option maxRecDepth 20000 in
set_option maxHeartbeats 4000000 in
theorem s_makeQ (nu de : Int) (w : World) (h1 : -100000 ≤ nu ∧ nu ≤ 100000) (h2 : 1 ≤ de ∧ de ≤ 100000) :
    Calls Try.prog 163 #[.int .i64 nu, .int .i64 de] w fun e w' => ∃ (q : Int × Int) (c : Int), e = .returned (.tuple #[.agg #[.int .i64 q.1, .int .i64 q.2], .int .i64 c]) ∧ (-100000 ≤ q.1 ∧ q.1 ≤ 100000 ∧ 0 ≤ q.2 ∧ q.2 ≤ 100000) ∧ Below w.heap.size w w' := by
  obtain ⟨G, hG⟩ : ∃ G : Int, G = (Int.gcd nu de : Int) := ⟨_, rfl⟩
  have hG1 : 1 ≤ G ∧ G ≤ 100000 := by
    rw [hG]
    have a1 := gcd_bd (B := 100000) h1 (show -100000 ≤ de ∧ de ≤ 100000 by omega)
    have a2 : Int.gcd nu de ≠ 0 := fun e => by have := (Int.gcd_eq_zero_iff.1 e).2; omega
    omega
  have HG : Hid (∀ W : World, Calls Try.prog 103 #[.int .i64 nu, .int .i64 de] W fun e w' => e = .returned (.int .i64 G) ∧ Below W.heap.size W w') := hid fun W => by rw [hG]; exact s_gcd nu de W (by omega) (by omega)
  have q1 : -100000 ≤ nu.tdiv G ∧ nu.tdiv G ≤ 100000 := by
    have : (nu.tdiv G).natAbs ≤ nu.natAbs := by rw [Int.natAbs_tdiv]; exact Nat.div_le_self _ _
    omega
  have q2 : 0 ≤ de.tdiv G ∧ de.tdiv G ≤ 100000 := by
    rw [Int.tdiv_eq_ediv_of_nonneg (by omega)]
    exact ⟨Int.ediv_nonneg (by omega) (by omega), Int.le_trans (Int.ediv_le_self _ (by omega)) h2.2⟩
  have G0 : (G == 0) = false := by rw [beq_eq_false_iff_ne]; omega
  clear hG
  go_enter Try.func163, Try.ntmps163
  go_wp2_with (go_at_call 103; refine via (HG.out _) ?_; intro uu zz; try simp at zz)
  have G1 : ¬ G = 0 := by omega
  have w1 : IntKind.i64.wrap (nu.tdiv G) = nu.tdiv G := by unfold IntKind.wrap; simp [IntKind.signed, IntKind.bits]; omega
  have w2 : IntKind.i64.wrap (de.tdiv G) = de.tdiv G := by unfold IntKind.wrap; simp [IntKind.signed, IntKind.bits]; omega
  (refine wp_region_held_drew (S := (fun w' => 0 ≤ w'.heap.size)) (by kernel_rfl) ?_ (fun hHeld => ?_); focus ((try dsimp only); (exact Nat.zero_le _)))
  (refine wpAnyH_take (i := 0) (oi := ?ho1) (v := ?hv1) ?hi1 (by kernel_rfl) (by kernel_rfl) (by kernel_rfl) ?hq1 ?hy1 (by assumption) ?hr1; (case hi1 => (simp only [List.getElem?_toArray, List.getElem?_cons_succ, List.getElem?_cons_zero]; first | done | rfl)); (case hq1 => exact fun _ _ _ h => h); (case hy1 => (refine Or.inl ⟨by rfl, ?_⟩; intro w hSw; (try dsimp only at hSw); go_simp; first | done | with_reducible rfl)); (try simp only [Act.put, List.setIfInBounds_toArray, List.set_cons_zero, List.set_cons_succ]))
  (refine wpAnyH_take (i := 1) (oi := ?ho2) (v := ?hv2) ?hi2 (by kernel_rfl) (by kernel_rfl) (by kernel_rfl) ?hq2 ?hy2 (by assumption) ?hr2; (case hi2 => (simp only [List.getElem?_toArray, List.getElem?_cons_succ, List.getElem?_cons_zero]; first | done | rfl)); (case hq2 => exact fun _ _ _ h => h); (case hy2 => (refine Or.inl ⟨by rfl, ?_⟩; intro w hSw; (try dsimp only at hSw); go_simp; first | done | with_reducible rfl)); (try simp only [Act.put, List.setIfInBounds_toArray, List.set_cons_zero, List.set_cons_succ]))
  (refine wpAnyH_take (i := 2) (oi := ?ho3) (v := ?hv3) ?hi3 (by kernel_rfl) (by kernel_rfl) (by kernel_rfl) ?hq3 ?hy3 (by assumption) ?hr3; (case hi3 => (simp only [List.getElem?_toArray, List.getElem?_cons_succ, List.getElem?_cons_zero]; first | done | rfl)); (case hq3 => exact fun _ _ _ h => h); (case hy3 => (refine Or.inl ⟨by rfl, ?_⟩; intro w hSw; (try dsimp only at hSw); go_simp; first | done | with_reducible rfl)); (try simp only [Act.put, List.setIfInBounds_toArray, List.set_cons_zero, List.set_cons_succ]))
  (refine wpAnyH_take (i := 3) (oi := ?ho4) (v := ?hv4) ?hi4 (by kernel_rfl) (by kernel_rfl) (by kernel_rfl) ?hq4 ?hy4 (by assumption) ?hr4; (case hi4 => (simp only [List.getElem?_toArray, List.getElem?_cons_succ, List.getElem?_cons_zero]; first | done | rfl)); (case hq4 => exact fun _ _ _ h => h); (case hy4 => (refine Or.inl ⟨by rfl, ?_⟩; intro w hSw; (try dsimp only at hSw); go_simp; first | done | with_reducible rfl)); (try simp only [Act.put, List.setIfInBounds_toArray, List.set_cons_zero, List.set_cons_succ]))
  (refine wpAnyH_take (i := 4) (oi := ?ho5) (v := ?hv5) ?hi5 (by kernel_rfl) (by kernel_rfl) (by kernel_rfl) ?hq5 ?hy5 (by assumption) ?hr5; (case hi5 => (simp only [List.getElem?_toArray, List.getElem?_cons_succ, List.getElem?_cons_zero]; first | done | rfl)); (case hq5 => exact fun _ _ _ h => h); (case hy5 => (refine Or.inl ⟨by rfl, ?_⟩; intro w hSw; (try dsimp only at hSw); go_simp; first | done | with_reducible rfl)); (try simp only [Act.put, List.setIfInBounds_toArray, List.set_cons_zero, List.set_cons_succ]))
  (refine wpAnyH_take (i := 5) (oi := ?ho6) (v := ?hv6) ?hi6 (by kernel_rfl) (by kernel_rfl) (by kernel_rfl) ?hq6 ?hy6 (by assumption) ?hr6; (case hi6 => (simp only [List.getElem?_toArray, List.getElem?_cons_succ, List.getElem?_cons_zero]; first | done | rfl)); (case hq6 => exact fun _ _ _ h => h); (case hy6 => (refine Or.inl ⟨by rfl, ?_⟩; intro w hSw; (try dsimp only at hSw); go_simp; first | done | with_reducible rfl)); (try simp only [Act.put, List.setIfInBounds_toArray, List.set_cons_zero, List.set_cons_succ]))
  (refine wpAnyH_take (i := 6) (oi := ?ho7) (v := ?hv7) ?hi7 (by kernel_rfl) (by kernel_rfl) (by kernel_rfl) ?hq7 ?hy7 (by assumption) ?hr7; (case hi7 => (simp only [List.getElem?_toArray, List.getElem?_cons_succ, List.getElem?_cons_zero]; first | done | rfl)); (case hq7 => exact fun _ _ _ h => h); (case hy7 => (refine Or.inl ⟨by rfl, ?_⟩; intro w hSw; (try dsimp only at hSw); go_simp; first | done | with_reducible rfl)); (try simp only [Act.put, List.setIfInBounds_toArray, List.set_cons_zero, List.set_cons_succ]))
  (refine wpAnyH_ready (rs := [7]) (by decide +kernel) (by simp) ?_; refine AllReadyH.cons (o := ?ho8) ?hi8 (fun K hK => ?hr8) AllReadyH.nil; (case hi8 => (simp only [List.getElem?_toArray, List.getElem?_cons_succ, List.getElem?_cons_zero]; first | done | rfl)))
  (rw [if_pos (by rfl)]; go_wp2_with fail)
  (refine hK.out _ _ ?_ (fun hHeld => ?_); focus ((try dsimp only); (exact Nat.zero_le _)))
  (clear hK K; (try simp only [Act.put, List.setIfInBounds_toArray, List.set_cons_zero, List.set_cons_succ]))
  (refine wpAnyH_ready (rs := [8]) (by decide +kernel) (by simp) ?_; refine AllReadyH.cons (o := ?ho9) ?hi9 (fun K hK => ?hr9) AllReadyH.nil; (case hi9 => (simp only [List.getElem?_toArray, List.getElem?_cons_succ, List.getElem?_cons_zero]; first | done | rfl)))
  (rw [if_pos (by rfl)]; go_wp2_with fail)
  (refine hK.out _ _ ?_ (fun hHeld => ?_); focus ((try dsimp only); (exact Nat.zero_le _)))
  (clear hK K; (try simp only [Act.put, List.setIfInBounds_toArray, List.set_cons_zero, List.set_cons_succ]))
  (refine wpAnyH_done (by kernel_rfl) ?_ _)
  cases hrb : ratB (nu.tdiv G) (de.tdiv G)
  · go_wp2_with (go_at_call 115; refine via (s_IsRational _ _ _) ?_; intro uu zz; try simp at zz)
    exact bodyPost_ret (v := .tuple #[.agg #[.int .i64 0, .int .i64 0], .int .i64 3]) (by first | (simp [results, go_sem]; done) | simp [results, go_sem, ↓IntWalk.iteOmega]) rfl ⟨(0, 0), 3, rfl, by decide, (by refine Ext.bel ?_; repeat (with_reducible first | exact Ext.refl _ | apply Ext.alloc | apply Ext.aft | apply Ext.drew | apply Ext.drewN | apply Ext.setCell | exact Nat.le_add_right _ _ | exact Nat.le_refl _ | (simp; done) | omega))⟩
  · go_wp2_with (go_at_call 115; refine via (s_IsRational _ _ _) ?_; intro uu zz; try simp at zz)
    exact bodyPost_ret (v := .tuple #[.agg #[.int .i64 (nu.tdiv G), .int .i64 (de.tdiv G)], .int .i64 0]) (by first | (simp [results, go_sem]; done) | simp [results, go_sem, ↓IntWalk.iteOmega]) rfl ⟨(nu.tdiv G, de.tdiv G), 0, rfl, by simp only; omega, (by refine Ext.bel ?_; repeat (with_reducible first | exact Ext.refl _ | apply Ext.alloc | apply Ext.aft | apply Ext.drew | apply Ext.drewN | apply Ext.setCell | exact Nat.le_add_right _ _ | exact Nat.le_refl _ | (simp; done) | omega))⟩

set_option maxRecDepth 20000 in
set_option maxHeartbeats 4000000 in
theorem s_validQ (B b : Nat) (w : World) (h : src B b w) :
    Calls Try.prog 156 #[.pointer (some ⟨b, 0, none⟩)] w (Draws B b w (fun q : Int × Int => .agg #[.int .i64 q.1, .int .i64 q.2]) (fun q => -100000 ≤ q.1 ∧ q.1 ≤ 100000 ∧ 0 ≤ q.2 ∧ q.2 ≤ 100000)) := by
  have hb := h.lt
  have hB := h.ge
  go_enter Try.func156, Try.ntmps156
  go_wp2_with fail
  refine viaDr (s_next B b _ _ (by repeat (with_reducible first | assumption | apply src.aft | apply src.alloc | apply src.drew | (refine src.set ?_ ?_ ?_ _) | (simp; done) | (simp; omega) | omega)) (by omega)) ?_
  intro x1 u1 hx1 hs1 hl1
  (try dsimp only at hx1)
  go_wp2_with fail
  refine viaDr (s_next B b _ _ hs1 (by omega)) ?_
  intro x2 u2 hx2 hs2 hl2
  (try dsimp only at hx2)
  go_wp2_with fail
  refine viaDr (s_next B b _ _ hs2 (by omega)) ?_
  intro x3 u3 hx3 hs3 hl3
  (try dsimp only at hx3)
  go_wp2_with fail
  refine viaDr (s_pickA B b _ _ _ [x1 - 20, x2 - 1000, 0, 27 * (x3 - 10)] _ _ _ (by simp) rfl rfl (by repeat (with_reducible first | assumption | apply src.aft | apply src.alloc | apply src.drew | (refine src.set ?_ ?_ ?_ _) | (simp; done) | (simp; omega) | omega)) (by decide) (by decide)) ?_
  intro y u4 hy hs4 hl4
  have hy' : -100000 ≤ y ∧ y ≤ 100000 := by simp at hy; omega
  clear hy
  go_wp2_with fail
  refine viaDr (s_next B b _ _ hs4 (by omega)) ?_
  intro x5 u5 hx5 hs5 hl5
  (try dsimp only at hx5)
  go_wp2_with fail
  refine viaDr (s_next B b _ _ hs5 (by omega)) ?_
  intro x6 u6 hx6 hs6 hl6
  (try dsimp only at hx6)
  go_wp2_with fail
  refine viaDr (s_pickA B b _ _ _ [1, 1 + x5, 1 + x6, 8, 9, 25] _ _ _ (by simp) rfl rfl (by repeat (with_reducible first | assumption | apply src.aft | apply src.alloc | apply src.drew | (refine src.set ?_ ?_ ?_ _) | (simp; done) | (simp; omega) | omega)) (by decide) (by decide)) ?_
  intro z u7 hz hs7 hl7
  have hz' : 1 ≤ z ∧ z ≤ 100000 := by simp at hz; omega
  clear hz
  obtain ⟨V, hV⟩ : ∃ V, V = aftD b ((aftD b (aftD b (aftD b ((aftD b (aftD b (aftD b (w.alloc (Obj.cells #[Value.int IntKind.i64 0, Value.int IntKind.i64 0] 57)) u1) u2) u3).alloc (Obj.cells #[Value.int IntKind.i64 (x1 - 20), Value.int IntKind.i64 (x2 - 1000), Value.int IntKind.i64 0, Value.int IntKind.i64 (27 * (x3 - 10))] 2)) u4) u5) u6).alloc (Obj.cells #[Value.int IntKind.i64 1, Value.int IntKind.i64 (1 + x5), Value.int IntKind.i64 (1 + x6), Value.int IntKind.i64 8, Value.int IntKind.i64 9, Value.int IntKind.i64 25] 2)) u7 := ⟨_, rfl⟩
  go_wp2_with fail
  rw [← hV] at hs7 ⊢
  have hG : Hid (Gr b w V) := hid (by rw [hV]; exact (by show Gr _ _ _; repeat (with_reducible first | exact Gr.refl _ _ | apply Gr.aftD | apply Gr.aft | apply Gr.alloc | apply Gr.drew | apply Gr.set | (simp; done) | (simp; omega) | omega)))
  simp at hl1 hl4 hl7
  have lV : w.heap.size + 1 ≤ V.heap.size := by rw [hV]; omega
  have hbw : w.heap.size ≠ b := by omega
  have c1 : ∀ o, V.cell? ⟨w.heap.size, o, none⟩ = #[Value.int IntKind.i64 0, Value.int IntKind.i64 0][o]? := fun o => by
    rw [hV, aftD_cell, if_pos (by simp; omega), alloc_cell, if_neg (by omega), aftD_cell, if_pos (by omega), aftD_cell, if_pos (by omega), aftD_cell, if_pos (by simp; omega), alloc_cell, if_neg (by omega), aftD_cell, if_pos (by omega), aftD_cell, if_pos (by omega), aftD_cell, if_pos (by simp; omega), alloc_cell, if_pos rfl]
  have f1 : ∀ o, V.frozen? ⟨w.heap.size, o, none⟩ = false := fun o => by
    rw [hV, aftD_frozen, if_pos (by simp; omega), alloc_frozen, if_neg (by omega), aftD_frozen, if_pos (by omega), aftD_frozen, if_pos (by omega), aftD_frozen, if_pos (by simp; omega), alloc_frozen, if_neg (by omega), aftD_frozen, if_pos (by omega), aftD_frozen, if_pos (by omega), aftD_frozen, if_pos (by simp; omega), alloc_frozen, if_pos rfl]
  clear hV hs1 hs2 hs3 hs4 hs5 hs6 hl1 hl2 hl3 hl4 hl5 hl6 hl7
  refine (s_makeQ y z _ hy' hz').mono ?_
  rintro _ _ ⟨⟨q1, q2⟩, c, rfl, hq, hbel⟩
  obtain ⟨u8, rfl⟩ := aft_ex hbel
  have hs8 := hs7.aft u8
  obtain ⟨V8, hV8⟩ : ∃ V8, V8 = aft V u8 := ⟨_, rfl⟩
  have c8 : ∀ o, V8.cell? ⟨w.heap.size, o, none⟩ = #[Value.int IntKind.i64 0, Value.int IntKind.i64 0][o]? := fun o => by rw [hV8, aft_cell, if_pos (by omega)]; exact c1 o
  have f8 : ∀ o, V8.frozen? ⟨w.heap.size, o, none⟩ = false := fun o => by rw [hV8, aft_frozen, if_pos (by omega)]; exact f1 o
  have hG8 : Hid (Gr b w V8) := hid (by rw [hV8]; exact hG.out.aft _)
  have l8 : w.heap.size + 1 ≤ V8.heap.size := by rw [hV8]; have := size_aft V u8; omega
  dsimp only
  rw [← hV8] at hs8 ⊢
  clear hV8 hG c1 f1 lV hs7 hbel
  go_wp2_with fail
  exact bodyPost_ret (v := .agg #[.int .i64 q1, .int .i64 q2]) (by simp [results, go_sem, ↓IntWalk.iteOmega, c8]) rfl ⟨(q1, q2), rfl, hq, (show Gr _ _ _ by repeat (with_reducible first | exact hG8.out | apply Gr.aftD | apply Gr.aft | apply Gr.alloc | apply Gr.set | (simp; done) | (simp; omega) | omega)), (by repeat (with_reducible first | assumption | apply src.aft | apply src.alloc | apply src.drew | (refine src.set ?_ ?_ ?_ _) | (simp; done) | (simp; omega) | omega))⟩

set_option maxRecDepth 20000 in
set_option maxHeartbeats 4000000 in
theorem s_drawQ (B b : Nat) (w : World) (h : src B b w) :
    Calls Try.prog 113 #[.pointer (some ⟨b, 0, none⟩)] w (Draws B b w (fun q : Int × Int => .agg #[.int .i64 q.1, .int .i64 q.2]) (fun _ => True)) := by
  have hb := h.lt
  have hB := h.ge
  go_enter Try.func113, Try.ntmps113
  go_wp2_with fail
  refine viaDr (s_validQ B b _ (by repeat (with_reducible first | assumption | apply src.aft | apply src.alloc | apply src.drew | (refine src.set ?_ ?_ ?_ _) | (simp; done) | (simp; omega) | omega))) ?_
  intro y u hy hs hl
  (try simp at hl)
  obtain ⟨p, n⟩ := y
  (try dsimp only at hy)
  dsimp only
  go_wp2_with fail
  obtain ⟨V, hV⟩ : ∃ V, V = aftD b (w.alloc (Obj.cells #[Value.int IntKind.i64 0, Value.int IntKind.i64 0] 57)) u := ⟨_, rfl⟩
  have lV : w.heap.size + 1 ≤ V.heap.size := by rw [hV]; omega
  have cR : ∀ o, V.cell? ⟨w.heap.size, o, none⟩ = #[Value.int IntKind.i64 0, Value.int IntKind.i64 0][o]? := fun o => by rw [hV, aftD_cell, if_pos (by simp; omega), alloc_cell, if_pos rfl]
  have fR : ∀ o, V.frozen? ⟨w.heap.size, o, none⟩ = false := fun o => by rw [hV, aftD_frozen, if_pos (by simp; omega), alloc_frozen, if_pos rfl]
  have hG : Hid (Gr b w V) := hid (by rw [hV]; exact (by show Gr _ _ _; repeat (with_reducible first | exact Gr.refl _ _ | apply Gr.aftD | apply Gr.aft | apply Gr.alloc | apply Gr.drew | apply Gr.set | (simp; done) | (simp; omega) | omega)))
  rw [← hV] at hs ⊢
  clear hV hl
  obtain ⟨k, hk⟩ : ∃ k, k = V.heap.size := ⟨_, rfl⟩
  have hkb : b < k := by rw [hk]; omega
  obtain ⟨W, hW⟩ : ∃ W, W = V.alloc (Obj.cells #[Value.int IntKind.i64 p, Value.int IntKind.i64 n] 57) := ⟨_, rfl⟩
  have cR : ∀ o, W.cell? ⟨w.heap.size, o, none⟩ = #[Value.int IntKind.i64 0, Value.int IntKind.i64 0][o]? := fun o => by rw [hW, alloc_cell, if_neg (by omega)]; exact cR o
  have fR : ∀ o, W.frozen? ⟨w.heap.size, o, none⟩ = false := fun o => by rw [hW, alloc_frozen, if_neg (by omega)]; exact fR o
  have cX : ∀ o, W.cell? ⟨k, o, none⟩ = #[Value.int IntKind.i64 p, Value.int IntKind.i64 n][o]? := fun o => by rw [hW, alloc_cell, if_pos hk]
  have fX : ∀ o, W.frozen? ⟨k, o, none⟩ = false := fun o => by rw [hW, alloc_frozen, if_pos hk]
  have hGW : Hid (Gr b w W) := hid (by rw [hW]; exact hG.out.alloc _)
  have hsW : src B b W := by rw [hW]; exact hs.alloc _
  have lW : k < W.heap.size := by rw [hW]; simp; omega
  rw [← hW, ← hk]
  have lk : w.heap.size < k := by omega
  clear hW hk hs hG lV
  refine viaDr (s_next B b _ _ hsW (by omega)) ?_
  intro x u2 hx hs3 hl3
  (try dsimp only at hx)
  by_cases x0 : x = 0
  · subst x0
    go_wp2_with fail
    refine viaDr (s_pickA B b _ _ _ [0, -1, 1000001, 1000000000000, 1000000000001] _ _ _ (by simp) rfl rfl (by repeat (with_reducible first | assumption | apply src.aft | apply src.alloc | apply src.drew | (refine src.set ?_ ?_ ?_ _) | (simp; done) | (simp; omega) | omega)) (by decide) (by decide)) ?_
    intro z u3 hz hs4 hl4
    (try simp at hl4)
    clear hz
    go_wp2_with fail
    exact bodyPost_ret (v := .agg #[.int .i64 p, .int .i64 z]) (by simp [results, go_sem, ↓IntWalk.iteOmega, cX, cR]) rfl ⟨(p, z), rfl, trivial, (show Gr _ _ _ by repeat (with_reducible first | exact hGW.out | apply Gr.aftD | apply Gr.alloc | apply Gr.set | (simp; done) | (simp; omega) | omega)), (by repeat (with_reducible first | assumption | apply src.aft | apply src.alloc | apply src.drew | (refine src.set ?_ ?_ ?_ _) | (simp; done) | (simp; omega) | omega))⟩
  by_cases x1 : x = 1
  · subst x1
    go_wp2_with fail
    refine viaDr (s_pickA B b _ _ _ [2 * n, 1000000000000, 1000000000001, 999999] _ _ _ (by simp) rfl rfl (by repeat (with_reducible first | assumption | apply src.aft | apply src.alloc | apply src.drew | (refine src.set ?_ ?_ ?_ _) | (simp; done) | (simp; omega) | omega)) (by decide) (by decide)) ?_
    intro z u3 hz hs4 hl4
    (try simp at hl4)
    clear hz
    go_wp2_with fail
    exact bodyPost_ret (v := .agg #[.int .i64 z, .int .i64 n]) (by simp [results, go_sem, ↓IntWalk.iteOmega, cX, cR]) rfl ⟨(z, n), rfl, trivial, (show Gr _ _ _ by repeat (with_reducible first | exact hGW.out | apply Gr.aftD | apply Gr.alloc | apply Gr.set | (simp; done) | (simp; omega) | omega)), (by repeat (with_reducible first | assumption | apply src.aft | apply src.alloc | apply src.drew | (refine src.set ?_ ?_ ?_ _) | (simp; done) | (simp; omega) | omega))⟩
  have x0' : (x == 0) = false := by simpa using x0
  have x1' : (x == 1) = false := by simpa using x1
  go_wp2_with fail
  exact bodyPost_ret (v := .agg #[Value.int IntKind.i64 p, Value.int IntKind.i64 n]) (by simp [results, go_sem, ↓IntWalk.iteOmega, cX, cR]) rfl ⟨(p, n), rfl, trivial, (show Gr _ _ _ by repeat (with_reducible first | exact hGW.out | apply Gr.aftD | apply Gr.alloc | apply Gr.set | (simp; done) | (simp; omega) | omega)), (by repeat (with_reducible first | assumption | apply src.aft | apply src.alloc | apply src.drew | (refine src.set ?_ ?_ ?_ _) | (simp; done) | (simp; omega) | omega))⟩
end Go.Proofs.Ytehdkbopkkgabaa
