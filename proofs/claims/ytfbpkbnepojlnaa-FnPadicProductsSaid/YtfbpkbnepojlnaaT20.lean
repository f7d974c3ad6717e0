/- Cutting a number: both texts. -/
import Derived.Test.YtfbpkbnepojlnaaT15
import Derived.Test.YtfbpkbnepojlnaaB6
namespace Go.Proofs.Ytfbpkbnepojlnaa
open Go Go.RowKit

/-- A number with a smaller precision, or a code. -/
def cutpF (p v u n k : Int) : Pd × Int := if padicB p v u n = true then (if inB k 1 n = true then (⟨p, v, u % p ^ k.toNat, k⟩, 0) else (⟨0, 0, 0, 0⟩, 2)) else (⟨0, 0, 0, 0⟩, 1)

set_option maxHeartbeats 2000000 in
theorem i_cut (p v u n k : Int) (w : World) (hp : 2 ≤ p ∧ p ≤ 97) (hu : 0 ≤ u ∧ u ≤ 1000000000) (hk : 1 ≤ k ∧ k ≤ 40) (hb : p ^ k.toNat ≤ 1000000000) :
    Calls Try.prog 76 #[(.agg #[.int .i64 p, .int .i64 v, .int .i64 u, .int .i64 n]), .int .i64 k] w fun e w' => e = .returned (.agg #[.int .i64 p, .int .i64 v, .int .i64 (u % p ^ k.toNat), .int .i64 k]) ∧ Below w.heap.size w w' := by
  have h1 := pow_pos' (show 1 ≤ p by omega) k.toNat
  have HP : Hid (∀ W : World, Calls Try.prog 44 #[.int .i64 p, .int .i64 k] W fun e w' => e = .returned (.int .i64 (p ^ k.toNat)) ∧ W = w') := hid fun W => i_power p k W (by omega) (by omega) (by omega)
  obtain ⟨P, hP⟩ : ∃ P, P = p ^ k.toNat := ⟨_, rfl⟩
  rw [← hP] at h1 HP ⊢
  have hr := Int.emod_nonneg u (show P ≠ 0 by omega)
  have P0 : P ≠ 0 := by omega
  have ut : u.tmod P = u % P := Int.tmod_eq_emod_of_nonneg hu.1
  clear hb hP
  go_enter Try.func76, Try.ntmps76
  go_wp2_with fail
  obtain ⟨W, hW⟩ : ∃ W, W = (w.alloc (Obj.cells #[Value.int IntKind.i64 p, Value.int IntKind.i64 v, Value.int IntKind.i64 u, Value.int IntKind.i64 n] 27)).alloc (Obj.cells #[Value.int IntKind.i64 0, Value.int IntKind.i64 0, Value.int IntKind.i64 0, Value.int IntKind.i64 0] 27) := ⟨_, rfl⟩
  have hE1 : ∀ o, W.cell? ⟨w.heap.size, o, none⟩ = #[Value.int IntKind.i64 p, Value.int IntKind.i64 v, Value.int IntKind.i64 u, Value.int IntKind.i64 n][o]? := fun o => by rw [hW, alloc_cell, if_neg (by simp), alloc_cell, if_pos rfl]
  have f1 : ∀ o, W.frozen? ⟨w.heap.size, o, none⟩ = false := fun o => by rw [hW, alloc_frozen, if_neg (by simp), alloc_frozen, if_pos rfl]
  have c2 : ∀ o, W.cell? ⟨w.heap.size + 1, o, none⟩ = #[Value.int IntKind.i64 0, Value.int IntKind.i64 0, Value.int IntKind.i64 0, Value.int IntKind.i64 0][o]? := fun o => by rw [hW, alloc_cell, if_pos (by simp)]
  have f2 : ∀ o, W.frozen? ⟨w.heap.size + 1, o, none⟩ = false := fun o => by rw [hW, alloc_frozen, if_pos (by simp)]
  have hG : Hid (Ext w.heap.size w W) := hid (by rw [hW]; exact ((Ext.refl w).alloc _).alloc _)
  rw [← hW]
  clear hW
  have hE2 := hE1 0
  simp at hE2
  (refine wp_region_held_drew (S := (fun w' => w'.cell? ⟨w.heap.size, 0, none⟩ = some (Value.int IntKind.i64 p))) (by kernel_rfl) ?_ (fun hHeld => ?_); focus ((try dsimp only); (first | exact hE2 | exact hHeld | (repeat (with_reducible first | exact hE2 | exact hHeld | rw [drewC_cell] | (rw [set_cell, if_neg (by omega)]))))))
  (refine wpAnyH_take (i := 0) (oi := ?ho1) (v := ?hv1) ?hi1 (by kernel_rfl) (by kernel_rfl) (by kernel_rfl) ?hq1 ?hy1 (by assumption) ?hr1; (case hi1 => (simp only [List.getElem?_toArray, List.getElem?_cons_succ, List.getElem?_cons_zero]; first | done | rfl)); (case hq1 => exact fun _ _ _ h => h); (case hy1 => (refine Or.inl ⟨by rfl, ?_⟩; intro w hSw; (try dsimp only at hSw); go_simp; first | done | with_reducible rfl)); (try simp only [Act.put, List.setIfInBounds_toArray, List.set_cons_zero, List.set_cons_succ]))
  (refine wpAnyH_take (i := 2) (oi := ?ho2) (v := ?hv2) ?hi2 (by kernel_rfl) (by kernel_rfl) (by kernel_rfl) ?hq2 ?hy2 (by assumption) ?hr2; (case hi2 => (simp only [List.getElem?_toArray, List.getElem?_cons_succ, List.getElem?_cons_zero]; first | done | rfl)); (case hq2 => exact fun _ _ _ h => h); (case hy2 => (refine Or.inl ⟨by rfl, ?_⟩; intro w hSw; (try dsimp only at hSw); go_simp; first | done | with_reducible rfl)); (try simp only [Act.put, List.setIfInBounds_toArray, List.set_cons_zero, List.set_cons_succ]))
  (refine wpAnyH_take (i := 3) (oi := ?ho3) (v := ?hv3) ?hi3 (by kernel_rfl) (by kernel_rfl) (by kernel_rfl) ?hq3 ?hy3 (by assumption) ?hr3; (case hi3 => (simp only [List.getElem?_toArray, List.getElem?_cons_succ, List.getElem?_cons_zero]; first | done | rfl)); (case hq3 => exact fun _ _ _ h => h); (case hy3 => (refine Or.inl ⟨by rfl, ?_⟩; intro w hSw; (try dsimp only at hSw); go_simp; first | done | with_reducible rfl)); (try simp only [Act.put, List.setIfInBounds_toArray, List.set_cons_zero, List.set_cons_succ]))
  (refine wpAnyH_take (i := 4) (oi := ?ho4) (v := ?hv4) ?hi4 (by kernel_rfl) (by kernel_rfl) (by kernel_rfl) ?hq4 ?hy4 (by assumption) ?hr4; (case hi4 => (simp only [List.getElem?_toArray, List.getElem?_cons_succ, List.getElem?_cons_zero]; first | done | rfl)); (case hq4 => exact fun _ _ _ h => h); (case hy4 => (refine Or.inl ⟨by rfl, ?_⟩; intro w hSw; (try dsimp only at hSw); go_simp; first | done | with_reducible rfl)); (try simp only [Act.put, List.setIfInBounds_toArray, List.set_cons_zero, List.set_cons_succ]))
  (refine wpAnyH_take (i := 7) (oi := ?ho5) (v := ?hv5) ?hi5 (by kernel_rfl) (by kernel_rfl) (by kernel_rfl) ?hq5 ?hy5 (by assumption) ?hr5; (case hi5 => (simp only [List.getElem?_toArray, List.getElem?_cons_succ, List.getElem?_cons_zero]; first | done | rfl)); (case hq5 => exact fun _ _ _ h => h); (case hy5 => (refine Or.inl ⟨by rfl, ?_⟩; intro w hSw; (try dsimp only at hSw); go_simp; first | done | with_reducible rfl)); (try simp only [Act.put, List.setIfInBounds_toArray, List.set_cons_zero, List.set_cons_succ]))
  (refine wpAnyH_ready (rs := [1, 5]) (by decide +kernel) (by simp) ?_; refine AllReadyH.cons (o := ?oa) ?ha (fun K hK => ?ra) (AllReadyH.cons (o := ?ob) ?hb (fun K hK => ?rb) AllReadyH.nil); (case ha => (simp only [List.getElem?_toArray, List.getElem?_cons_succ, List.getElem?_cons_zero]; first | done | rfl)); (case hb => (simp only [List.getElem?_toArray, List.getElem?_cons_succ, List.getElem?_cons_zero]; first | done | rfl)))
  case ra =>
    (rw [if_pos (by rfl)]; go_wp2_with fail)
    (refine hK.out _ _ ?_ (fun hHeld => ?_); focus ((try dsimp only); (first | exact hE2 | exact hHeld | (repeat (with_reducible first | exact hE2 | exact hHeld | rw [drewC_cell] | (rw [set_cell, if_neg (by omega)]))))))
    (clear hK K; (try simp only [Act.put, List.setIfInBounds_toArray, List.set_cons_zero, List.set_cons_succ]))
    (refine wpAnyH_ready (rs := [5]) (by decide +kernel) (by simp) ?_; refine AllReadyH.cons (o := ?ho12) ?hi12 (fun K hK => ?hr12) AllReadyH.nil; (case hi12 => (simp only [List.getElem?_toArray, List.getElem?_cons_succ, List.getElem?_cons_zero]; first | done | rfl)))
    (rw [if_pos (by rfl)]; go_wp2_with (go_at_call 44; refine pur (HP.out _) ?_))
    (refine hK.out _ _ ?_ (fun hHeld => ?_); focus ((try dsimp only); (first | exact hE2 | exact hHeld | (repeat (with_reducible first | exact hE2 | exact hHeld | rw [drewC_cell] | (rw [set_cell, if_neg (by omega)]))))))
    (clear hK K; (try simp only [Act.put, List.setIfInBounds_toArray, List.set_cons_zero, List.set_cons_succ]))
    (refine wpAnyH_take (i := 6) (oi := ?ho6) (v := ?hv6) ?hi6 (by kernel_rfl) (by kernel_rfl) (by kernel_rfl) ?hq6 ?hy6 (by assumption) ?hr6; (case hi6 => (simp only [List.getElem?_toArray, List.getElem?_cons_succ, List.getElem?_cons_zero]; first | done | rfl)); (case hq6 => exact fun _ _ _ h => h); (case hy6 => (refine Or.inl ⟨by rfl, ?_⟩; intro w hSw; (try dsimp only at hSw); go_simp; first | done | with_reducible rfl)); (try simp only [Act.put, List.setIfInBounds_toArray, List.set_cons_zero, List.set_cons_succ]))
    (refine wpAnyH_take (i := 8) (oi := ?ho7) (v := ?hv7) ?hi7 (by kernel_rfl) (by kernel_rfl) (by kernel_rfl) ?hq7 ?hy7 (by assumption) ?hr7; (case hi7 => (simp only [List.getElem?_toArray, List.getElem?_cons_succ, List.getElem?_cons_zero]; first | done | rfl)); (case hq7 => exact fun _ _ _ h => h); (case hy7 => (refine Or.inl ⟨by rfl, ?_⟩; intro w hSw; (try dsimp only at hSw); go_simp; first | done | with_reducible rfl)); (try simp only [Act.put, List.setIfInBounds_toArray, List.set_cons_zero, List.set_cons_succ]))
    (refine wpAnyH_ready (rs := [9]) (by decide +kernel) (by simp) ?_; refine AllReadyH.cons (o := ?ho13) ?hi13 (fun K hK => ?hr13) AllReadyH.nil; (case hi13 => (simp only [List.getElem?_toArray, List.getElem?_cons_succ, List.getElem?_cons_zero]; first | done | rfl)))
    (rw [if_pos (by rfl)]; go_wp2_with fail)
    (refine hK.out _ _ ?_ (fun hHeld => ?_); focus ((try dsimp only); (first | exact hE2 | exact hHeld | (repeat (with_reducible first | exact hE2 | exact hHeld | rw [drewC_cell] | (rw [set_cell, if_neg (by omega)]))))))
    (clear hK K; (try simp only [Act.put, List.setIfInBounds_toArray, List.set_cons_zero, List.set_cons_succ]))
    (refine wpAnyH_take (i := 10) (oi := ?ho8) (v := ?hv8) ?hi8 (by kernel_rfl) (by kernel_rfl) (by kernel_rfl) ?hq8 ?hy8 (by assumption) ?hr8; (case hi8 => (simp only [List.getElem?_toArray, List.getElem?_cons_succ, List.getElem?_cons_zero]; first | done | rfl)); (case hq8 => exact fun _ _ _ h => h); (case hy8 => (refine Or.inl ⟨by rfl, ?_⟩; intro w hSw; (try dsimp only at hSw); go_simp; first | done | with_reducible rfl)); (try simp only [Act.put, List.setIfInBounds_toArray, List.set_cons_zero, List.set_cons_succ]))
    (refine wpAnyH_ready (rs := [11]) (by decide +kernel) (by simp) ?_; refine AllReadyH.cons (o := ?ho14) ?hi14 (fun K hK => ?hr14) AllReadyH.nil; (case hi14 => (simp only [List.getElem?_toArray, List.getElem?_cons_succ, List.getElem?_cons_zero]; first | done | rfl)))
    (rw [if_pos (by rfl)]; go_wp2_with fail)
    (refine hK.out _ _ ?_ (fun hHeld => ?_); focus ((try dsimp only); (first | exact hE2 | exact hHeld | (repeat (with_reducible first | exact hE2 | exact hHeld | rw [drewC_cell] | (rw [set_cell, if_neg (by omega)]))))))
    (clear hK K; (try simp only [Act.put, List.setIfInBounds_toArray, List.set_cons_zero, List.set_cons_succ]))
    (refine wpAnyH_done (by kernel_rfl) ?_ _)
    go_wp2_with fail
    exact bodyPost_ret (v := .agg #[.int .i64 p, .int .i64 v, .int .i64 (u % P), .int .i64 k]) (by simp [results, go_sem, ↓IntWalk.iteOmega, hE1, c2]) rfl ⟨rfl, (by refine Ext.bel ?_; repeat (with_reducible first | exact hG.out | apply Ext.drew | apply Ext.setCell | exact Nat.le_add_right _ _ | exact Nat.le_refl _ | omega))⟩
  case rb =>
    (rw [if_pos (by rfl)]; go_wp2_with (go_at_call 44; refine pur (HP.out _) ?_))
    (refine hK.out _ _ ?_ (fun hHeld => ?_); focus ((try dsimp only); (first | exact hE2 | exact hHeld | (repeat (with_reducible first | exact hE2 | exact hHeld | rw [drewC_cell] | (rw [set_cell, if_neg (by omega)]))))))
    (clear hK K; (try simp only [Act.put, List.setIfInBounds_toArray, List.set_cons_zero, List.set_cons_succ]))
    (refine wpAnyH_ready (rs := [1]) (by decide +kernel) (by simp) ?_; refine AllReadyH.cons (o := ?ho15) ?hi15 (fun K hK => ?hr15) AllReadyH.nil; (case hi15 => (simp only [List.getElem?_toArray, List.getElem?_cons_succ, List.getElem?_cons_zero]; first | done | rfl)))
    (rw [if_pos (by rfl)]; go_wp2_with fail)
    (refine hK.out _ _ ?_ (fun hHeld => ?_); focus ((try dsimp only); (first | exact hE2 | exact hHeld | (repeat (with_reducible first | exact hE2 | exact hHeld | rw [drewC_cell] | (rw [set_cell, if_neg (by omega)]))))))
    (clear hK K; (try simp only [Act.put, List.setIfInBounds_toArray, List.set_cons_zero, List.set_cons_succ]))
    (refine wpAnyH_take (i := 6) (oi := ?ho9) (v := ?hv9) ?hi9 (by kernel_rfl) (by kernel_rfl) (by kernel_rfl) ?hq9 ?hy9 (by assumption) ?hr9; (case hi9 => (simp only [List.getElem?_toArray, List.getElem?_cons_succ, List.getElem?_cons_zero]; first | done | rfl)); (case hq9 => exact fun _ _ _ h => h); (case hy9 => (refine Or.inl ⟨by rfl, ?_⟩; intro w hSw; (try dsimp only at hSw); go_simp; first | done | with_reducible rfl)); (try simp only [Act.put, List.setIfInBounds_toArray, List.set_cons_zero, List.set_cons_succ]))
    (refine wpAnyH_take (i := 8) (oi := ?ho10) (v := ?hv10) ?hi10 (by kernel_rfl) (by kernel_rfl) (by kernel_rfl) ?hq10 ?hy10 (by assumption) ?hr10; (case hi10 => (simp only [List.getElem?_toArray, List.getElem?_cons_succ, List.getElem?_cons_zero]; first | done | rfl)); (case hq10 => exact fun _ _ _ h => h); (case hy10 => (refine Or.inl ⟨by rfl, ?_⟩; intro w hSw; (try dsimp only at hSw); go_simp; first | done | with_reducible rfl)); (try simp only [Act.put, List.setIfInBounds_toArray, List.set_cons_zero, List.set_cons_succ]))
    (refine wpAnyH_ready (rs := [9]) (by decide +kernel) (by simp) ?_; refine AllReadyH.cons (o := ?ho16) ?hi16 (fun K hK => ?hr16) AllReadyH.nil; (case hi16 => (simp only [List.getElem?_toArray, List.getElem?_cons_succ, List.getElem?_cons_zero]; first | done | rfl)))
    (rw [if_pos (by rfl)]; go_wp2_with fail)
    (refine hK.out _ _ ?_ (fun hHeld => ?_); focus ((try dsimp only); (first | exact hE2 | exact hHeld | (repeat (with_reducible first | exact hE2 | exact hHeld | rw [drewC_cell] | (rw [set_cell, if_neg (by omega)]))))))
    (clear hK K; (try simp only [Act.put, List.setIfInBounds_toArray, List.set_cons_zero, List.set_cons_succ]))
    (refine wpAnyH_take (i := 10) (oi := ?ho11) (v := ?hv11) ?hi11 (by kernel_rfl) (by kernel_rfl) (by kernel_rfl) ?hq11 ?hy11 (by assumption) ?hr11; (case hi11 => (simp only [List.getElem?_toArray, List.getElem?_cons_succ, List.getElem?_cons_zero]; first | done | rfl)); (case hq11 => exact fun _ _ _ h => h); (case hy11 => (refine Or.inl ⟨by rfl, ?_⟩; intro w hSw; (try dsimp only at hSw); go_simp; first | done | with_reducible rfl)); (try simp only [Act.put, List.setIfInBounds_toArray, List.set_cons_zero, List.set_cons_succ]))
    (refine wpAnyH_ready (rs := [11]) (by decide +kernel) (by simp) ?_; refine AllReadyH.cons (o := ?ho17) ?hi17 (fun K hK => ?hr17) AllReadyH.nil; (case hi17 => (simp only [List.getElem?_toArray, List.getElem?_cons_succ, List.getElem?_cons_zero]; first | done | rfl)))
    (rw [if_pos (by rfl)]; go_wp2_with fail)
    (refine hK.out _ _ ?_ (fun hHeld => ?_); focus ((try dsimp only); (first | exact hE2 | exact hHeld | (repeat (with_reducible first | exact hE2 | exact hHeld | rw [drewC_cell] | (rw [set_cell, if_neg (by omega)]))))))
    (clear hK K; (try simp only [Act.put, List.setIfInBounds_toArray, List.set_cons_zero, List.set_cons_succ]))
    (refine wpAnyH_done (by kernel_rfl) ?_ _)
    go_wp2_with fail
    exact bodyPost_ret (v := .agg #[.int .i64 p, .int .i64 v, .int .i64 (u % P), .int .i64 k]) (by simp [results, go_sem, ↓IntWalk.iteOmega, hE1, c2]) rfl ⟨rfl, (by refine Ext.bel ?_; repeat (with_reducible first | exact hG.out | apply Ext.drew | apply Ext.setCell | exact Nat.le_add_right _ _ | exact Nat.le_refl _ | omega))⟩

set_option maxRecDepth 20000 in
set_option maxHeartbeats 2000000 in
theorem i_CutPadic_bad (p v u n k : Int) (w : World) (h : ¬ (padicB p v u n = true ∧ inB k 1 n = true)) :
    Calls Try.prog 33 #[(.agg #[.int .i64 p, .int .i64 v, .int .i64 u, .int .i64 n]), .int .i64 k] w fun e w' => e = .returned (.tuple #[.agg #[.int .i64 (cutpF p v u n k).1.p, .int .i64 (cutpF p v u n k).1.v, .int .i64 (cutpF p v u n k).1.u, .int .i64 (cutpF p v u n k).1.n], .int .i64 (cutpF p v u n k).2]) ∧ Below w.heap.size w w' := by
  cases hx : padicB p v u n
  · have e : (cutpF p v u n k) = (⟨0, 0, 0, 0⟩, 1) := by simp [cutpF, hx]
    rw [e]; clear e h
    go_enter Try.func33, Try.ntmps33
    go_wp2_with (go_at_call 16; refine via (i_IsPadic _ _ _ _ _) ?_; intro uu zz; try simp at zz)
    exact bodyPost_ret (v := .tuple #[(.agg #[.int .i64 0, .int .i64 0, .int .i64 0, .int .i64 0]), .int .i64 1]) (by first | (simp [results, go_sem]; done) | simp [results, go_sem, ↓IntWalk.iteOmega]) rfl ⟨rfl, (by refine Ext.bel ?_; repeat (with_reducible first | exact Ext.refl _ | apply Ext.alloc | apply Ext.aft | apply Ext.drew | apply Ext.drewN | apply Ext.setCell | exact Nat.le_add_right _ _ | exact Nat.le_refl _ | (simp; done) | omega))⟩
  cases hi : inB k 1 n
  · have e : (cutpF p v u n k) = (⟨0, 0, 0, 0⟩, 2) := by simp [cutpF, hx, hi]
    rw [e]; clear e h
    go_enter Try.func33, Try.ntmps33
    go_wp2_with (first | (go_at_call 16; refine via (i_IsPadic _ _ _ _ _) ?_; intro uu zz; try simp at zz) | (go_at_call 75; refine pur (i_within _ _ _ _) ?_))
    exact bodyPost_ret (v := .tuple #[(.agg #[.int .i64 0, .int .i64 0, .int .i64 0, .int .i64 0]), .int .i64 2]) (by first | (simp [results, go_sem]; done) | simp [results, go_sem, ↓IntWalk.iteOmega]) rfl ⟨rfl, (by refine Ext.bel ?_; repeat (with_reducible first | exact Ext.refl _ | apply Ext.alloc | apply Ext.aft | apply Ext.drew | apply Ext.drewN | apply Ext.setCell | exact Nat.le_add_right _ _ | exact Nat.le_refl _ | (simp; done) | omega))⟩
  · exact absurd ⟨hx, hi⟩ h
set_option maxRecDepth 20000 in
set_option maxHeartbeats 2000000 in
theorem s_CutPadic_bad (p v u n k : Int) (w : World) (h : ¬ (padicB p v u n = true ∧ inB k 1 n = true)) :
    Calls Try.prog 34 #[(.agg #[.int .i64 p, .int .i64 v, .int .i64 u, .int .i64 n]), .int .i64 k] w fun e w' => e = .returned (.tuple #[.agg #[.int .i64 (cutpF p v u n k).1.p, .int .i64 (cutpF p v u n k).1.v, .int .i64 (cutpF p v u n k).1.u, .int .i64 (cutpF p v u n k).1.n], .int .i64 (cutpF p v u n k).2]) ∧ Below w.heap.size w w' := by
  cases hx : padicB p v u n
  · have e : (cutpF p v u n k) = (⟨0, 0, 0, 0⟩, 1) := by simp [cutpF, hx]
    rw [e]; clear e h
    go_enter Try.func34, Try.ntmps34
    go_wp2_with (go_at_call 54; refine via (s_IsPadic _ _ _ _ _) ?_; intro uu zz; try simp at zz)
    exact bodyPost_ret (v := .tuple #[(.agg #[.int .i64 0, .int .i64 0, .int .i64 0, .int .i64 0]), .int .i64 1]) (by first | (simp [results, go_sem]; done) | simp [results, go_sem, ↓IntWalk.iteOmega]) rfl ⟨rfl, (by refine Ext.bel ?_; repeat (with_reducible first | exact Ext.refl _ | apply Ext.alloc | apply Ext.aft | apply Ext.drew | apply Ext.drewN | apply Ext.setCell | exact Nat.le_add_right _ _ | exact Nat.le_refl _ | (simp; done) | omega))⟩
  cases hi : inB k 1 n
  · have e : (cutpF p v u n k) = (⟨0, 0, 0, 0⟩, 2) := by simp [cutpF, hx, hi]
    rw [e]; clear e h
    go_enter Try.func34, Try.ntmps34
    go_wp2_with (first | (go_at_call 54; refine via (s_IsPadic _ _ _ _ _) ?_; intro uu zz; try simp at zz) | (go_at_call 77; refine pur (s_in _ _ _ _) ?_))
    exact bodyPost_ret (v := .tuple #[(.agg #[.int .i64 0, .int .i64 0, .int .i64 0, .int .i64 0]), .int .i64 2]) (by first | (simp [results, go_sem]; done) | simp [results, go_sem, ↓IntWalk.iteOmega]) rfl ⟨rfl, (by refine Ext.bel ?_; repeat (with_reducible first | exact Ext.refl _ | apply Ext.alloc | apply Ext.aft | apply Ext.drew | apply Ext.drewN | apply Ext.setCell | exact Nat.le_add_right _ _ | exact Nat.le_refl _ | (simp; done) | omega))⟩
  · exact absurd ⟨hx, hi⟩ h

set_option maxRecDepth 20000 in
set_option maxHeartbeats 2000000 in
theorem i_CutPadic (p v u n k : Int) (w : World) :
    Calls Try.prog 33 #[(.agg #[.int .i64 p, .int .i64 v, .int .i64 u, .int .i64 n]), .int .i64 k] w fun e w' => e = .returned (.tuple #[.agg #[.int .i64 (cutpF p v u n k).1.p, .int .i64 (cutpF p v u n k).1.v, .int .i64 (cutpF p v u n k).1.u, .int .i64 (cutpF p v u n k).1.n], .int .i64 (cutpF p v u n k).2]) ∧ Below w.heap.size w w' := by
  by_cases h : padicB p v u n = true ∧ inB k 1 n = true
  case neg => exact i_CutPadic_bad p v u n k w h
  obtain ⟨hx, hi⟩ := h
  obtain ⟨hp, hv, hu, hn, hb⟩ := padic_facts hx
  have hk := inB_iff.1 hi
  have hb2 := (pow_le_bd (k := k.toNat) hp.1 (by omega) hb).2
  have e : (cutpF p v u n k) = (⟨p, v, u % p ^ k.toNat, k⟩, 0) := by simp [cutpF, hx, hi]
  rw [e]; clear e
  have HC : Hid (∀ W : World, Calls Try.prog 76 #[(.agg #[.int .i64 p, .int .i64 v, .int .i64 u, .int .i64 n]), .int .i64 k] W fun e w' => e = .returned (.agg #[.int .i64 p, .int .i64 v, .int .i64 (u % p ^ k.toNat), .int .i64 k]) ∧ Below W.heap.size W w') := hid fun W => i_cut p v u n k W hp hu (by omega) hb2
  obtain ⟨g, hg⟩ : ∃ g, g = u % p ^ k.toNat := ⟨_, rfl⟩
  rw [← hg] at HC ⊢
  clear hg hb hb2
  go_enter Try.func33, Try.ntmps33
  go_wp2_with (first | (go_at_call 16; refine via (i_IsPadic _ _ _ _ _) ?_; intro uu zz; try simp at zz) | (go_at_call 75; refine pur (i_within _ _ _ _) ?_) | (go_at_call 76; refine via (HC.out _) ?_; intro uu zz; try simp at zz))
  exact bodyPost_ret (v := .tuple #[.agg #[.int .i64 p, .int .i64 v, .int .i64 g, .int .i64 k], .int .i64 0]) (by first | (simp [results, go_sem]; done) | simp [results, go_sem, ↓IntWalk.iteOmega]) rfl ⟨rfl, (by refine Ext.bel ?_; repeat (with_reducible first | exact Ext.refl _ | apply Ext.alloc | apply Ext.aft | apply Ext.drew | apply Ext.drewN | apply Ext.setCell | exact Nat.le_add_right _ _ | exact Nat.le_refl _ | (simp; done) | omega))⟩

set_option maxRecDepth 20000 in
set_option maxHeartbeats 2000000 in
theorem s_CutPadic (p v u n k : Int) (w : World) :
    Calls Try.prog 34 #[(.agg #[.int .i64 p, .int .i64 v, .int .i64 u, .int .i64 n]), .int .i64 k] w fun e w' => e = .returned (.tuple #[.agg #[.int .i64 (cutpF p v u n k).1.p, .int .i64 (cutpF p v u n k).1.v, .int .i64 (cutpF p v u n k).1.u, .int .i64 (cutpF p v u n k).1.n], .int .i64 (cutpF p v u n k).2]) ∧ Below w.heap.size w w' := by
  by_cases h : padicB p v u n = true ∧ inB k 1 n = true
  case neg => exact s_CutPadic_bad p v u n k w h
  obtain ⟨hx, hi⟩ := h
  obtain ⟨hp, hv, hu, hn, hb⟩ := padic_facts hx
  have hk := inB_iff.1 hi
  have hb2 := (pow_le_bd (k := k.toNat) hp.1 (by omega) hb).2
  have h1 := pow_pos' (show 1 ≤ p by omega) k.toNat
  have e : (cutpF p v u n k) = (⟨p, v, u % p ^ k.toNat, k⟩, 0) := by simp [cutpF, hx, hi]
  rw [e]; clear e
  have HM : Hid (∀ W : World, Calls Try.prog 50 #[.int .i64 p, .int .i64 k] W fun e w' => e = .returned (.int .i64 (p ^ k.toNat)) ∧ W = w') := hid fun W => by
    have := s_modulus p k W (by omega) (by omega) (by omega)
    rw [show modu p k = p ^ k.toNat by unfold modu; rw [if_pos hb2]] at this
    exact this
  obtain ⟨P, hP⟩ : ∃ P, P = p ^ k.toNat := ⟨_, rfl⟩
  rw [← hP] at h1 HM ⊢
  have hr := Int.emod_nonneg u (show P ≠ 0 by omega)
  clear hP hb hb2
  go_enter Try.func34, Try.ntmps34
  go_wp2_with (first | (go_at_call 54; refine via (s_IsPadic _ _ _ _ _) ?_; intro uu zz; try simp at zz) | (go_at_call 77; refine pur (s_in _ _ _ _) ?_))
  refine wp_region_calm_tail 13 (by decide +kernel) (by decide +kernel) ?_
  simp only [List.take_succ_cons, List.take_zero, List.drop_succ_cons, List.drop_zero]
  repeat (go_big_quiet_step (first | (go_at_call 50; exact calmp (HM.out _))))
  refine wpQuiet_nil ?_; intro uq zq; try simp at zq
  go_wp2_with fail
  exact bodyPost_ret (v := .tuple #[.agg #[.int .i64 p, .int .i64 v, .int .i64 (u % P), .int .i64 k], .int .i64 0]) (by first | (simp [results, go_sem]; done) | simp [results, go_sem, ↓IntWalk.iteOmega]) rfl ⟨rfl, (by refine Ext.bel ?_; repeat (with_reducible first | exact Ext.refl _ | apply Ext.alloc | apply Ext.aft | apply Ext.drew | apply Ext.drewN | apply Ext.setCell | exact Nat.le_add_right _ _ | exact Nat.le_refl _ | (simp; done) | omega))⟩
end Go.Proofs.Ytfbpkbnepojlnaa
