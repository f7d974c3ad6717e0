/- The text of a p-adic number: both texts. -/
import Derived.Test.YtdnfefkkbckmgaaGreatDoorTB4
import Derived.Test.YtdnfefkkbckmgaaGreatDoorC7
namespace Go.Proofs.YtdnfefkkbckmgaaGreatDoor
open Go Go.RowKit

def tailL (p u n : Int) : List UInt8 := if n = 0 then [45] else joinL (digs p u n.toNat)
def textL (p v u n : Int) : List UInt8 := Lib.itoa p ++ [58] ++ Lib.itoa v ++ [58] ++ tailL p u n
theorem text_eq (P V T : List UInt8) : (⟨P.toArray⟩ : ByteArray) ++ ⟨#[58]⟩ ++ ⟨V.toArray⟩ ++ ⟨#[58]⟩ ++ ⟨T.toArray⟩ = ⟨(P ++ [58] ++ V ++ [58] ++ T).toArray⟩ := by
  rw [show (⟨#[58]⟩ : ByteArray) = ⟨([58] : List UInt8).toArray⟩ from rfl, ba_app, ba_app, ba_app, ba_app]
theorem digs_bd {p u : Int} (hp : 2 ≤ p ∧ p ≤ 97) (k : Nat) : ∀ d ∈ digs p u k, 0 ≤ d ∧ d < 100 := by
  intro d hd
  simp only [digs, List.mem_map] at hd
  obtain ⟨i, _, rfl⟩ := hd
  have := digF_bd (p := p) (u := u) (i := i) hp.1
  omega
def heldU (V w' : World) : Prop := (∀ k o, k < V.heap.size → w'.cell? ⟨k, o, none⟩ = V.cell? ⟨k, o, none⟩) ∧ V.heap.size ≤ w'.heap.size
theorem heldU.refl (V : World) : heldU V V := ⟨fun _ _ _ => rfl, Nat.le_refl _⟩
theorem heldU.drew {V w' : World} (h : heldU V w') : heldU V w'.drew := h
theorem heldU.aft {V w' : World} (h : heldU V w') (u : World) : heldU V (Go.Proofs.YtdnfefkkbckmgaaGreatDoor.aft w' u) :=
  ⟨fun k o hk => by have := h.2; rw [aft_cell, if_pos (by omega)]; exact h.1 k o hk, le_aft h.2⟩
theorem heldU.at {G : Nat} {V w' : World} {cs : Array Value} (h1 : G < V.heap.size) (hc : ∀ o, V.cell? ⟨G, o, none⟩ = cs[o]?) (h : heldU V w') : (∀ o, w'.cell? ⟨G, o, none⟩ = cs[o]?) ∧ V.heap.size ≤ w'.heap.size :=
  ⟨fun o => (h.1 G o h1).trans (hc o), h.2⟩
set_option maxRecDepth 20000 in
set_option maxHeartbeats 4000000 in
theorem i_padicText (p v u n : Int) (w : World) (hp : 2 ≤ p ∧ p ≤ 97) (hv : -60 ≤ v ∧ v ≤ 60) (hu : 0 ≤ u ∧ u ≤ 1000000000) (hn : 0 ≤ n ∧ n ≤ 40) (hb : p ^ n.toNat ≤ 1000000000) (ht : tabB w.heap.size w) :
    Calls Tryz.prog 23 #[(.agg #[.int .i64 p, .int .i64 v, .int .i64 u, .int .i64 n])] w fun e w' => e = .returned (.string ⟨(textL p v u n).toArray⟩) ∧ Below w.heap.size w w' := by
  have Hb := hid hb
  have HT := hid ht
  have HDB := hid (digs_bd (u := u) hp n.toNat)
  have HDL := hid (digs_len p u n.toNat)
  obtain ⟨P, hP⟩ : ∃ P, P = Lib.itoa p := ⟨_, rfl⟩
  obtain ⟨V, hV⟩ : ∃ V, V = Lib.itoa v := ⟨_, rfl⟩
  have HPD : Hid (∀ W, Calls Tryz.prog 43 #[.int .i64 p] W fun e w' => e = .returned (.string ⟨P.toArray⟩) ∧ Below W.heap.size W w') := hid fun W => by
    have := i_decS p.toNat W (by omega)
    rw [show ((p.toNat : Nat) : Int) = p by omega] at this
    rw [hP]; exact this
  unfold textL
  rw [← hP, ← hV]
  obtain ⟨T, hT⟩ : ∃ T, T = tailL p u n := ⟨_, rfl⟩
  rw [← hT]
  have hPl : P.length ≤ 3 := by rw [hP]; exact itoa_len (by omega)
  have hVl : V.length ≤ 3 := by rw [hV]; exact itoa_len (by omega)
  have hTl : T.length ≤ 160 := by
    rw [hT]
    unfold tailL
    split
    · simp
    · have := joinL_len (digs p u n.toNat) HDB.out
      rw [HDL.out] at this
      omega
  have HTE := hid hT
  have HVE := hid hV
  clear hb ht hP hV hT
  by_cases h0 : n = 0
  · have h0b : (n == 0) = true := by simpa using h0
    have hT2 : Hid (T = [45]) := hid (by rw [HTE.out]; unfold tailL; rw [if_pos h0])
    clear h0
    go_enter Tryz.func23, Tryz.ntmps23
    go_wp2_with fail
    refine via (i_isZero p v u n _) ?_
    intro u1 z1
    (try simp at z1)
    go_wp2_with fail
    obtain ⟨X, hX⟩ : ∃ X, X = aft (w.alloc (Obj.cells #[.int .i64 p, .int .i64 v, .int .i64 u, .int .i64 n] 23)) u1 := ⟨_, rfl⟩
    have c0 : ∀ o, X.cell? ⟨w.heap.size, o, none⟩ = #[Value.int .i64 p, .int .i64 v, .int .i64 u, .int .i64 n][o]? := fun o => by rw [hX]; rw [aft_cell, if_pos (by simp), alloc_cell, if_pos rfl]
    have E0 : Hid (Ext w.heap.size w X) := hid (by rw [hX]; exact ((Ext.refl w).alloc _).aft _)
    have l0 : w.heap.size < X.heap.size := by rw [hX]; omega
    rw [← hX]
    clear hX
    have HVD : Hid (∀ u, Calls Tryz.prog 43 #[.int .i64 v] (aft X.drew u) fun e w' => e = .returned (.string ⟨V.toArray⟩) ∧ Below (aft X.drew u).heap.size (aft X.drew u) w') := hid fun u => by
      have := i_decimal v (aft X.drew u) (by omega) (HT.out _ (E0.out.drew.aft u).1)
      rw [← HVE.out] at this
      exact this
    (refine wp_region_held_drew (S := (fun w' => (∀ o, w'.cell? ⟨w.heap.size, o, none⟩ = #[Value.int .i64 p, .int .i64 v, .int .i64 u, .int .i64 n][o]?) ∧ X.heap.size ≤ w'.heap.size)) (by kernel_rfl) ?_ (fun hHeld => ?_); focus ((try dsimp only); (refine heldU.at l0 c0 ?_; (repeat (with_reducible first | exact heldU.refl _ | apply heldU.drew | apply heldU.aft)))))
    (refine wpAnyH_take (i := 0) (oi := ?ho1) (v := ?hv1) ?hi1 (by kernel_rfl) (by kernel_rfl) (by kernel_rfl) ?hq1 ?hy1 (by assumption) ?hr1; (case hi1 => (simp only [List.getElem?_toArray, List.getElem?_cons_succ, List.getElem?_cons_zero]; first | done | rfl)); (case hq1 => exact fun _ _ _ h => h); (case hy1 => (refine Or.inl ⟨by rfl, ?_⟩; intro w hSw; (try dsimp only at hSw); go_simp; first | done | with_reducible rfl)); (try simp only [Act.put, List.setIfInBounds_toArray, List.set_cons_zero, List.set_cons_succ]))
    (refine wpAnyH_take (i := 1) (oi := ?ho2) (v := ?hv2) ?hi2 (by kernel_rfl) (by kernel_rfl) (by kernel_rfl) ?hq2 ?hy2 (by assumption) ?hr2; (case hi2 => (simp only [List.getElem?_toArray, List.getElem?_cons_succ, List.getElem?_cons_zero]; first | done | rfl)); (case hq2 => exact fun _ _ _ h => h); (case hy2 => (refine Or.inl ⟨by rfl, ?_⟩; intro w hSw; (try dsimp only at hSw); go_simp; first | done | with_reducible rfl)); (try simp only [Act.put, List.setIfInBounds_toArray, List.set_cons_zero, List.set_cons_succ]))
    (refine wpAnyH_take (i := 4) (oi := ?ho3) (v := ?hv3) ?hi3 (by kernel_rfl) (by kernel_rfl) (by kernel_rfl) ?hq3 ?hy3 (by assumption) ?hr3; (case hi3 => (simp only [List.getElem?_toArray, List.getElem?_cons_succ, List.getElem?_cons_zero]; first | done | rfl)); (case hq3 => exact fun _ _ _ h => h); (case hy3 => (refine Or.inl ⟨by rfl, ?_⟩; intro w hSw; (try dsimp only at hSw); go_simp; first | done | with_reducible rfl)); (try simp only [Act.put, List.setIfInBounds_toArray, List.set_cons_zero, List.set_cons_succ]))
    (refine wpAnyH_take (i := 5) (oi := ?ho4) (v := ?hv4) ?hi4 (by kernel_rfl) (by kernel_rfl) (by kernel_rfl) ?hq4 ?hy4 (by assumption) ?hr4; (case hi4 => (simp only [List.getElem?_toArray, List.getElem?_cons_succ, List.getElem?_cons_zero]; first | done | rfl)); (case hq4 => exact fun _ _ _ h => h); (case hy4 => (refine Or.inl ⟨by rfl, ?_⟩; intro w hSw; (try dsimp only at hSw); go_simp; first | done | with_reducible rfl)); (try simp only [Act.put, List.setIfInBounds_toArray, List.set_cons_zero, List.set_cons_succ]))
    (refine wpAnyH_take (i := 9) (oi := ?ho5) (v := ?hv5) ?hi5 (by kernel_rfl) (by kernel_rfl) (by kernel_rfl) ?hq5 ?hy5 (by assumption) ?hr5; (case hi5 => (simp only [List.getElem?_toArray, List.getElem?_cons_succ, List.getElem?_cons_zero]; first | done | rfl)); (case hq5 => exact fun _ _ _ h => h); (case hy5 => (refine Or.inl ⟨by rfl, ?_⟩; intro w hSw; (try dsimp only at hSw); go_simp; first | done | with_reducible rfl)); (try simp only [Act.put, List.setIfInBounds_toArray, List.set_cons_zero, List.set_cons_succ]))
    (refine wpAnyH_ready (rs := [2]) (by decide +kernel) (by simp) ?_; refine AllReadyH.cons (o := ?ho41) ?hi41 (fun K hK => ?hr41) AllReadyH.nil; (case hi41 => (simp only [List.getElem?_toArray, List.getElem?_cons_succ, List.getElem?_cons_zero]; first | done | rfl)))
    (go_simp; go_at_call 43; refine via (HPD.out _) ?_; intro u7 z7; (try simp at z7); go_wp2_with fail)
    (refine hK.out _ _ ?_ (fun hHeld => ?_); focus ((try dsimp only); (refine heldU.at l0 c0 ?_; (repeat (with_reducible first | exact heldU.refl _ | apply heldU.drew | apply heldU.aft)))))
    (clear hK K; (try simp only [Act.put, List.setIfInBounds_toArray, List.set_cons_zero, List.set_cons_succ]))
    (refine wpAnyH_take (i := 3) (oi := ?ho25) (v := ?hv25) ?hi25 (by kernel_rfl) (by kernel_rfl) (by kernel_rfl) ?hq25 ?hy25 (by assumption) ?hr25; (case hi25 => (simp only [List.getElem?_toArray, List.getElem?_cons_succ, List.getElem?_cons_zero]; first | done | rfl)); (case hq25 => exact fun _ _ _ h => h); (case hy25 => (refine Or.inl ⟨by rfl, ?_⟩; intro w hSw; (try dsimp only at hSw); go_simp; rw [if_neg (by first | omega | (simp; omega))])); (try simp only [Act.put, List.setIfInBounds_toArray, List.set_cons_zero, List.set_cons_succ]))
    (refine wpAnyH_ready (rs := [6]) (by decide +kernel) (by simp) ?_; refine AllReadyH.cons (o := ?ho42) ?hi42 (fun K hK => ?hr42) AllReadyH.nil; (case hi42 => (simp only [List.getElem?_toArray, List.getElem?_cons_succ, List.getElem?_cons_zero]; first | done | rfl)))
    (go_simp; go_at_call 43; refine via (HVD.out _) ?_; intro u8 z8; (try simp at z8); go_wp2_with fail)
    (refine hK.out _ _ ?_ (fun hHeld => ?_); focus ((try dsimp only); (refine heldU.at l0 c0 ?_; (repeat (with_reducible first | exact heldU.refl _ | apply heldU.drew | apply heldU.aft)))))
    (clear hK K; (try simp only [Act.put, List.setIfInBounds_toArray, List.set_cons_zero, List.set_cons_succ]))
    (refine wpAnyH_take (i := 7) (oi := ?ho26) (v := ?hv26) ?hi26 (by kernel_rfl) (by kernel_rfl) (by kernel_rfl) ?hq26 ?hy26 (by assumption) ?hr26; (case hi26 => (simp only [List.getElem?_toArray, List.getElem?_cons_succ, List.getElem?_cons_zero]; first | done | rfl)); (case hq26 => exact fun _ _ _ h => h); (case hy26 => (refine Or.inl ⟨by rfl, ?_⟩; intro w hSw; (try dsimp only at hSw); go_simp; rw [if_neg (by first | omega | (simp; omega))])); (try simp only [Act.put, List.setIfInBounds_toArray, List.set_cons_zero, List.set_cons_succ]))
    (refine wpAnyH_take (i := 8) (oi := ?ho27) (v := ?hv27) ?hi27 (by kernel_rfl) (by kernel_rfl) (by kernel_rfl) ?hq27 ?hy27 (by assumption) ?hr27; (case hi27 => (simp only [List.getElem?_toArray, List.getElem?_cons_succ, List.getElem?_cons_zero]; first | done | rfl)); (case hq27 => exact fun _ _ _ h => h); (case hy27 => (refine Or.inl ⟨by rfl, ?_⟩; intro w hSw; (try dsimp only at hSw); go_simp; rw [if_neg (by first | omega | (simp; omega))])); (try simp only [Act.put, List.setIfInBounds_toArray, List.set_cons_zero, List.set_cons_succ]))
    (refine wpAnyH_take (i := 10) (oi := ?ho28) (v := ?hv28) ?hi28 (by kernel_rfl) (by kernel_rfl) (by kernel_rfl) ?hq28 ?hy28 (by assumption) ?hr28; (case hi28 => (simp only [List.getElem?_toArray, List.getElem?_cons_succ, List.getElem?_cons_zero]; first | done | rfl)); (case hq28 => exact fun _ _ _ h => h); (case hy28 => (refine Or.inl ⟨by rfl, ?_⟩; intro w hSw; (try dsimp only at hSw); go_simp; rw [if_neg (by first | omega | (simp; omega))])); (try simp only [Act.put, List.setIfInBounds_toArray, List.set_cons_zero, List.set_cons_succ]))
    (refine wpAnyH_take (i := 11) (oi := ?ho6) (v := ?hv6) ?hi6 (by kernel_rfl) (by kernel_rfl) (by kernel_rfl) ?hq6 ?hy6 (by assumption) ?hr6; (case hi6 => (simp only [List.getElem?_toArray, List.getElem?_cons_succ, List.getElem?_cons_zero]; first | done | rfl)); (case hq6 => exact fun _ _ _ h => h); (case hy6 => (refine Or.inl ⟨by rfl, ?_⟩; intro w hSw; (try dsimp only at hSw); go_simp; first | done | with_reducible rfl)); (try simp only [Act.put, List.setIfInBounds_toArray, List.set_cons_zero, List.set_cons_succ]))
    (refine wpAnyH_done (by kernel_rfl) ?_ _)
    go_wp2_with fail
    go_ret
    exact ⟨by first | (rw [← text_eq]; done) | (rw [← text_eq]; rfl) | (rw [hT2.out, ← text_eq]; rfl), Ext.bel (by repeat (with_reducible first | exact E0.out | apply Ext.aft | apply Ext.alloc | apply Ext.drew))⟩
  · have h0b : (n == 0) = false := by simpa using h0
    have hT2 : Hid (T = joinL (digs p u n.toNat)) := hid (by rw [HTE.out]; unfold tailL; rw [if_neg h0])
    have hn1 : 1 ≤ n.toNat ∧ n.toNat ≤ 40 := by omega
    clear h0
    go_enter Tryz.func23, Tryz.ntmps23
    go_wp2_with fail
    refine via (i_isZero p v u n _) ?_
    intro u1 z1
    (try simp at z1)
    go_wp2_with fail
    refine viaI (g := id) (i_digits p v u n _ hp hv hu hn Hb.out) ?_
    intro r2 u2 z2 own2
    (try simp at z2)
    have hcm := i_commas r2 (digs p u n.toNat) _ own2.rd (by rw [HDL.out]; exact hn1) HDB.out
    rw [← hT2.out] at hcm
    have HCM := hid hcm
    clear hcm
    go_wp2_with fail
    refine via HCM.out ?_
    intro u3 z3
    (try simp at z3)
    go_wp2_with fail
    obtain ⟨X, hX⟩ : ∃ X, X = aft (aft (aft (w.alloc (Obj.cells #[.int .i64 p, .int .i64 v, .int .i64 u, .int .i64 n] 23)) u1) u2) u3 := ⟨_, rfl⟩
    have c0 : ∀ o, X.cell? ⟨w.heap.size, o, none⟩ = #[Value.int .i64 p, .int .i64 v, .int .i64 u, .int .i64 n][o]? := fun o => by rw [hX]; rw [aft_cell, if_pos (by omega), aft_cell, if_pos (by omega), aft_cell, if_pos (by simp), alloc_cell, if_pos rfl]
    have E0 : Hid (Ext w.heap.size w X) := hid (by rw [hX]; exact ((((Ext.refl w).alloc _).aft _).aft _).aft _)
    have l0 : w.heap.size < X.heap.size := by rw [hX]; omega
    rw [← hX]
    clear hX
    have HVD : Hid (∀ u, Calls Tryz.prog 43 #[.int .i64 v] (aft X.drew u) fun e w' => e = .returned (.string ⟨V.toArray⟩) ∧ Below (aft X.drew u).heap.size (aft X.drew u) w') := hid fun u => by
      have := i_decimal v (aft X.drew u) (by omega) (HT.out _ (E0.out.drew.aft u).1)
      rw [← HVE.out] at this
      exact this
    (refine wp_region_held_drew (S := (fun w' => (∀ o, w'.cell? ⟨w.heap.size, o, none⟩ = #[Value.int .i64 p, .int .i64 v, .int .i64 u, .int .i64 n][o]?) ∧ X.heap.size ≤ w'.heap.size)) (by kernel_rfl) ?_ (fun hHeld => ?_); focus ((try dsimp only); (refine heldU.at l0 c0 ?_; (repeat (with_reducible first | exact heldU.refl _ | apply heldU.drew | apply heldU.aft)))))
    (refine wpAnyH_take (i := 0) (oi := ?ho7) (v := ?hv7) ?hi7 (by kernel_rfl) (by kernel_rfl) (by kernel_rfl) ?hq7 ?hy7 (by assumption) ?hr7; (case hi7 => (simp only [List.getElem?_toArray, List.getElem?_cons_succ, List.getElem?_cons_zero]; first | done | rfl)); (case hq7 => exact fun _ _ _ h => h); (case hy7 => (refine Or.inl ⟨by rfl, ?_⟩; intro w hSw; (try dsimp only at hSw); go_simp; first | done | with_reducible rfl)); (try simp only [Act.put, List.setIfInBounds_toArray, List.set_cons_zero, List.set_cons_succ]))
    (refine wpAnyH_take (i := 1) (oi := ?ho8) (v := ?hv8) ?hi8 (by kernel_rfl) (by kernel_rfl) (by kernel_rfl) ?hq8 ?hy8 (by assumption) ?hr8; (case hi8 => (simp only [List.getElem?_toArray, List.getElem?_cons_succ, List.getElem?_cons_zero]; first | done | rfl)); (case hq8 => exact fun _ _ _ h => h); (case hy8 => (refine Or.inl ⟨by rfl, ?_⟩; intro w hSw; (try dsimp only at hSw); go_simp; first | done | with_reducible rfl)); (try simp only [Act.put, List.setIfInBounds_toArray, List.set_cons_zero, List.set_cons_succ]))
    (refine wpAnyH_take (i := 4) (oi := ?ho9) (v := ?hv9) ?hi9 (by kernel_rfl) (by kernel_rfl) (by kernel_rfl) ?hq9 ?hy9 (by assumption) ?hr9; (case hi9 => (simp only [List.getElem?_toArray, List.getElem?_cons_succ, List.getElem?_cons_zero]; first | done | rfl)); (case hq9 => exact fun _ _ _ h => h); (case hy9 => (refine Or.inl ⟨by rfl, ?_⟩; intro w hSw; (try dsimp only at hSw); go_simp; first | done | with_reducible rfl)); (try simp only [Act.put, List.setIfInBounds_toArray, List.set_cons_zero, List.set_cons_succ]))
    (refine wpAnyH_take (i := 5) (oi := ?ho10) (v := ?hv10) ?hi10 (by kernel_rfl) (by kernel_rfl) (by kernel_rfl) ?hq10 ?hy10 (by assumption) ?hr10; (case hi10 => (simp only [List.getElem?_toArray, List.getElem?_cons_succ, List.getElem?_cons_zero]; first | done | rfl)); (case hq10 => exact fun _ _ _ h => h); (case hy10 => (refine Or.inl ⟨by rfl, ?_⟩; intro w hSw; (try dsimp only at hSw); go_simp; first | done | with_reducible rfl)); (try simp only [Act.put, List.setIfInBounds_toArray, List.set_cons_zero, List.set_cons_succ]))
    (refine wpAnyH_take (i := 9) (oi := ?ho11) (v := ?hv11) ?hi11 (by kernel_rfl) (by kernel_rfl) (by kernel_rfl) ?hq11 ?hy11 (by assumption) ?hr11; (case hi11 => (simp only [List.getElem?_toArray, List.getElem?_cons_succ, List.getElem?_cons_zero]; first | done | rfl)); (case hq11 => exact fun _ _ _ h => h); (case hy11 => (refine Or.inl ⟨by rfl, ?_⟩; intro w hSw; (try dsimp only at hSw); go_simp; first | done | with_reducible rfl)); (try simp only [Act.put, List.setIfInBounds_toArray, List.set_cons_zero, List.set_cons_succ]))
    (refine wpAnyH_ready (rs := [2]) (by decide +kernel) (by simp) ?_; refine AllReadyH.cons (o := ?ho43) ?hi43 (fun K hK => ?hr43) AllReadyH.nil; (case hi43 => (simp only [List.getElem?_toArray, List.getElem?_cons_succ, List.getElem?_cons_zero]; first | done | rfl)))
    (go_simp; go_at_call 43; refine via (HPD.out _) ?_; intro u7 z7; (try simp at z7); go_wp2_with fail)
    (refine hK.out _ _ ?_ (fun hHeld => ?_); focus ((try dsimp only); (refine heldU.at l0 c0 ?_; (repeat (with_reducible first | exact heldU.refl _ | apply heldU.drew | apply heldU.aft)))))
    (clear hK K; (try simp only [Act.put, List.setIfInBounds_toArray, List.set_cons_zero, List.set_cons_succ]))
    (refine wpAnyH_take (i := 3) (oi := ?ho29) (v := ?hv29) ?hi29 (by kernel_rfl) (by kernel_rfl) (by kernel_rfl) ?hq29 ?hy29 (by assumption) ?hr29; (case hi29 => (simp only [List.getElem?_toArray, List.getElem?_cons_succ, List.getElem?_cons_zero]; first | done | rfl)); (case hq29 => exact fun _ _ _ h => h); (case hy29 => (refine Or.inl ⟨by rfl, ?_⟩; intro w hSw; (try dsimp only at hSw); go_simp; rw [if_neg (by first | omega | (simp; omega))])); (try simp only [Act.put, List.setIfInBounds_toArray, List.set_cons_zero, List.set_cons_succ]))
    (refine wpAnyH_ready (rs := [6]) (by decide +kernel) (by simp) ?_; refine AllReadyH.cons (o := ?ho44) ?hi44 (fun K hK => ?hr44) AllReadyH.nil; (case hi44 => (simp only [List.getElem?_toArray, List.getElem?_cons_succ, List.getElem?_cons_zero]; first | done | rfl)))
    (go_simp; go_at_call 43; refine via (HVD.out _) ?_; intro u8 z8; (try simp at z8); go_wp2_with fail)
    (refine hK.out _ _ ?_ (fun hHeld => ?_); focus ((try dsimp only); (refine heldU.at l0 c0 ?_; (repeat (with_reducible first | exact heldU.refl _ | apply heldU.drew | apply heldU.aft)))))
    (clear hK K; (try simp only [Act.put, List.setIfInBounds_toArray, List.set_cons_zero, List.set_cons_succ]))
    (refine wpAnyH_take (i := 7) (oi := ?ho30) (v := ?hv30) ?hi30 (by kernel_rfl) (by kernel_rfl) (by kernel_rfl) ?hq30 ?hy30 (by assumption) ?hr30; (case hi30 => (simp only [List.getElem?_toArray, List.getElem?_cons_succ, List.getElem?_cons_zero]; first | done | rfl)); (case hq30 => exact fun _ _ _ h => h); (case hy30 => (refine Or.inl ⟨by rfl, ?_⟩; intro w hSw; (try dsimp only at hSw); go_simp; rw [if_neg (by first | omega | (simp; omega))])); (try simp only [Act.put, List.setIfInBounds_toArray, List.set_cons_zero, List.set_cons_succ]))
    (refine wpAnyH_take (i := 8) (oi := ?ho31) (v := ?hv31) ?hi31 (by kernel_rfl) (by kernel_rfl) (by kernel_rfl) ?hq31 ?hy31 (by assumption) ?hr31; (case hi31 => (simp only [List.getElem?_toArray, List.getElem?_cons_succ, List.getElem?_cons_zero]; first | done | rfl)); (case hq31 => exact fun _ _ _ h => h); (case hy31 => (refine Or.inl ⟨by rfl, ?_⟩; intro w hSw; (try dsimp only at hSw); go_simp; rw [if_neg (by first | omega | (simp; omega))])); (try simp only [Act.put, List.setIfInBounds_toArray, List.set_cons_zero, List.set_cons_succ]))
    (refine wpAnyH_take (i := 10) (oi := ?ho32) (v := ?hv32) ?hi32 (by kernel_rfl) (by kernel_rfl) (by kernel_rfl) ?hq32 ?hy32 (by assumption) ?hr32; (case hi32 => (simp only [List.getElem?_toArray, List.getElem?_cons_succ, List.getElem?_cons_zero]; first | done | rfl)); (case hq32 => exact fun _ _ _ h => h); (case hy32 => (refine Or.inl ⟨by rfl, ?_⟩; intro w hSw; (try dsimp only at hSw); go_simp; rw [if_neg (by first | omega | (simp; omega))])); (try simp only [Act.put, List.setIfInBounds_toArray, List.set_cons_zero, List.set_cons_succ]))
    (refine wpAnyH_take (i := 11) (oi := ?ho12) (v := ?hv12) ?hi12 (by kernel_rfl) (by kernel_rfl) (by kernel_rfl) ?hq12 ?hy12 (by assumption) ?hr12; (case hi12 => (simp only [List.getElem?_toArray, List.getElem?_cons_succ, List.getElem?_cons_zero]; first | done | rfl)); (case hq12 => exact fun _ _ _ h => h); (case hy12 => (refine Or.inl ⟨by rfl, ?_⟩; intro w hSw; (try dsimp only at hSw); go_simp; first | done | with_reducible rfl)); (try simp only [Act.put, List.setIfInBounds_toArray, List.set_cons_zero, List.set_cons_succ]))
    (refine wpAnyH_done (by kernel_rfl) ?_ _)
    go_wp2_with fail
    go_ret
    exact ⟨by first | (rw [← text_eq]; done) | (rw [← text_eq]; rfl) | (rw [hT2.out, ← text_eq]; rfl), Ext.bel (by repeat (with_reducible first | exact E0.out | apply Ext.aft | apply Ext.alloc | apply Ext.drew))⟩
set_option maxRecDepth 20000 in
set_option maxHeartbeats 4000000 in
theorem s_text (p v u n : Int) (w : World) (hp : 2 ≤ p ∧ p ≤ 97) (hv : -60 ≤ v ∧ v ≤ 60) (hu : 0 ≤ u ∧ u ≤ 1000000000) (hn : 0 ≤ n ∧ n ≤ 40) (hb : p ^ n.toNat ≤ 1000000000) :
    Calls Tryz.prog 18 #[(.agg #[.int .i64 p, .int .i64 v, .int .i64 u, .int .i64 n])] w fun e w' => e = .returned (.string ⟨(textL p v u n).toArray⟩) ∧ Below w.heap.size w w' := by
  have Hb := hid hb
  have HDB := hid (digs_bd (u := u) hp n.toNat)
  have HDL := hid (digs_len p u n.toNat)
  obtain ⟨P, hP⟩ : ∃ P, P = Lib.itoa p := ⟨_, rfl⟩
  obtain ⟨V, hV⟩ : ∃ V, V = Lib.itoa v := ⟨_, rfl⟩
  have HSD : Hid (∀ W, Calls Tryz.prog 32 #[.int .i64 p] W fun e w' => e = .returned (.string ⟨P.toArray⟩) ∧ Below W.heap.size W w') := hid fun W => by
    have := s_dec p.toNat W (by omega)
    rw [show ((p.toNat : Nat) : Int) = p by omega] at this
    rw [hP, itoa_pos (by omega)]; exact this
  have HSN : Hid (∀ W, Calls Tryz.prog 40 #[.int .i64 v] W fun e w' => e = .returned (.string ⟨V.toArray⟩) ∧ Below W.heap.size W w') := hid fun W => by
    rw [hV]; exact s_number v W (by omega)
  unfold textL
  rw [← hP, ← hV]
  obtain ⟨T, hT⟩ : ∃ T, T = tailL p u n := ⟨_, rfl⟩
  rw [← hT]
  have hPl : P.length ≤ 3 := by rw [hP]; exact itoa_len (by omega)
  have hVl : V.length ≤ 3 := by rw [hV]; exact itoa_len (by omega)
  have hTl : T.length ≤ 160 := by
    rw [hT]
    unfold tailL
    split
    · simp
    · have := joinL_len (digs p u n.toNat) HDB.out
      rw [HDL.out] at this
      omega
  have HTE := hid hT
  have HVE := hid hV
  clear hb hP hV hT
  by_cases h0 : n = 0
  · have h0b : ¬ (0 : Int) < n := by omega
    have hT2 : Hid (T = [45]) := hid (by rw [HTE.out]; unfold tailL; rw [if_pos h0])
    clear h0
    go_enter Tryz.func18, Tryz.ntmps18
    go_wp2_with fail
    obtain ⟨X, hX⟩ : ∃ X, X = w.alloc (Obj.cells #[.int .i64 p, .int .i64 v, .int .i64 u, .int .i64 n] 23) := ⟨_, rfl⟩
    have c0 : ∀ o, X.cell? ⟨w.heap.size, o, none⟩ = #[Value.int .i64 p, .int .i64 v, .int .i64 u, .int .i64 n][o]? := fun o => by rw [hX]; rw [alloc_cell, if_pos rfl]
    have E0 : Hid (Ext w.heap.size w X) := hid (by rw [hX]; exact (Ext.refl w).alloc _)
    have l0 : w.heap.size < X.heap.size := by rw [hX]; simp
    rw [← hX]
    clear hX
    (refine wp_region_held_drew (S := (fun w' => (∀ o, w'.cell? ⟨w.heap.size, o, none⟩ = #[Value.int .i64 p, .int .i64 v, .int .i64 u, .int .i64 n][o]?) ∧ X.heap.size ≤ w'.heap.size)) (by kernel_rfl) ?_ (fun hHeld => ?_); focus ((try dsimp only); (refine heldU.at l0 c0 ?_; (repeat (with_reducible first | exact heldU.refl _ | apply heldU.drew | apply heldU.aft)))))
    (refine wpAnyH_take (i := 0) (oi := ?ho13) (v := ?hv13) ?hi13 (by kernel_rfl) (by kernel_rfl) (by kernel_rfl) ?hq13 ?hy13 (by assumption) ?hr13; (case hi13 => (simp only [List.getElem?_toArray, List.getElem?_cons_succ, List.getElem?_cons_zero]; first | done | rfl)); (case hq13 => exact fun _ _ _ h => h); (case hy13 => (refine Or.inl ⟨by rfl, ?_⟩; intro w hSw; (try dsimp only at hSw); go_simp; first | done | with_reducible rfl)); (try simp only [Act.put, List.setIfInBounds_toArray, List.set_cons_zero, List.set_cons_succ]))
    (refine wpAnyH_take (i := 1) (oi := ?ho14) (v := ?hv14) ?hi14 (by kernel_rfl) (by kernel_rfl) (by kernel_rfl) ?hq14 ?hy14 (by assumption) ?hr14; (case hi14 => (simp only [List.getElem?_toArray, List.getElem?_cons_succ, List.getElem?_cons_zero]; first | done | rfl)); (case hq14 => exact fun _ _ _ h => h); (case hy14 => (refine Or.inl ⟨by rfl, ?_⟩; intro w hSw; (try dsimp only at hSw); go_simp; first | done | with_reducible rfl)); (try simp only [Act.put, List.setIfInBounds_toArray, List.set_cons_zero, List.set_cons_succ]))
    (refine wpAnyH_take (i := 4) (oi := ?ho15) (v := ?hv15) ?hi15 (by kernel_rfl) (by kernel_rfl) (by kernel_rfl) ?hq15 ?hy15 (by assumption) ?hr15; (case hi15 => (simp only [List.getElem?_toArray, List.getElem?_cons_succ, List.getElem?_cons_zero]; first | done | rfl)); (case hq15 => exact fun _ _ _ h => h); (case hy15 => (refine Or.inl ⟨by rfl, ?_⟩; intro w hSw; (try dsimp only at hSw); go_simp; first | done | with_reducible rfl)); (try simp only [Act.put, List.setIfInBounds_toArray, List.set_cons_zero, List.set_cons_succ]))
    (refine wpAnyH_take (i := 5) (oi := ?ho16) (v := ?hv16) ?hi16 (by kernel_rfl) (by kernel_rfl) (by kernel_rfl) ?hq16 ?hy16 (by assumption) ?hr16; (case hi16 => (simp only [List.getElem?_toArray, List.getElem?_cons_succ, List.getElem?_cons_zero]; first | done | rfl)); (case hq16 => exact fun _ _ _ h => h); (case hy16 => (refine Or.inl ⟨by rfl, ?_⟩; intro w hSw; (try dsimp only at hSw); go_simp; first | done | with_reducible rfl)); (try simp only [Act.put, List.setIfInBounds_toArray, List.set_cons_zero, List.set_cons_succ]))
    (refine wpAnyH_take (i := 9) (oi := ?ho17) (v := ?hv17) ?hi17 (by kernel_rfl) (by kernel_rfl) (by kernel_rfl) ?hq17 ?hy17 (by assumption) ?hr17; (case hi17 => (simp only [List.getElem?_toArray, List.getElem?_cons_succ, List.getElem?_cons_zero]; first | done | rfl)); (case hq17 => exact fun _ _ _ h => h); (case hy17 => (refine Or.inl ⟨by rfl, ?_⟩; intro w hSw; (try dsimp only at hSw); go_simp; first | done | with_reducible rfl)); (try simp only [Act.put, List.setIfInBounds_toArray, List.set_cons_zero, List.set_cons_succ]))
    (refine wpAnyH_ready (rs := [2]) (by decide +kernel) (by simp) ?_; refine AllReadyH.cons (o := ?ho45) ?hi45 (fun K hK => ?hr45) AllReadyH.nil; (case hi45 => (simp only [List.getElem?_toArray, List.getElem?_cons_succ, List.getElem?_cons_zero]; first | done | rfl)))
    (go_simp; go_at_call 32; refine via (HSD.out _) ?_; intro u7 z7; (try simp at z7); go_wp2_with fail)
    (refine hK.out _ _ ?_ (fun hHeld => ?_); focus ((try dsimp only); (refine heldU.at l0 c0 ?_; (repeat (with_reducible first | exact heldU.refl _ | apply heldU.drew | apply heldU.aft)))))
    (clear hK K; (try simp only [Act.put, List.setIfInBounds_toArray, List.set_cons_zero, List.set_cons_succ]))
    (refine wpAnyH_take (i := 3) (oi := ?ho33) (v := ?hv33) ?hi33 (by kernel_rfl) (by kernel_rfl) (by kernel_rfl) ?hq33 ?hy33 (by assumption) ?hr33; (case hi33 => (simp only [List.getElem?_toArray, List.getElem?_cons_succ, List.getElem?_cons_zero]; first | done | rfl)); (case hq33 => exact fun _ _ _ h => h); (case hy33 => (refine Or.inl ⟨by rfl, ?_⟩; intro w hSw; (try dsimp only at hSw); go_simp; rw [if_neg (by first | omega | (simp; omega))])); (try simp only [Act.put, List.setIfInBounds_toArray, List.set_cons_zero, List.set_cons_succ]))
    (refine wpAnyH_ready (rs := [6]) (by decide +kernel) (by simp) ?_; refine AllReadyH.cons (o := ?ho46) ?hi46 (fun K hK => ?hr46) AllReadyH.nil; (case hi46 => (simp only [List.getElem?_toArray, List.getElem?_cons_succ, List.getElem?_cons_zero]; first | done | rfl)))
    (go_simp; go_at_call 40; refine via (HSN.out _) ?_; intro u8 z8; (try simp at z8); go_wp2_with fail)
    (refine hK.out _ _ ?_ (fun hHeld => ?_); focus ((try dsimp only); (refine heldU.at l0 c0 ?_; (repeat (with_reducible first | exact heldU.refl _ | apply heldU.drew | apply heldU.aft)))))
    (clear hK K; (try simp only [Act.put, List.setIfInBounds_toArray, List.set_cons_zero, List.set_cons_succ]))
    (refine wpAnyH_take (i := 7) (oi := ?ho34) (v := ?hv34) ?hi34 (by kernel_rfl) (by kernel_rfl) (by kernel_rfl) ?hq34 ?hy34 (by assumption) ?hr34; (case hi34 => (simp only [List.getElem?_toArray, List.getElem?_cons_succ, List.getElem?_cons_zero]; first | done | rfl)); (case hq34 => exact fun _ _ _ h => h); (case hy34 => (refine Or.inl ⟨by rfl, ?_⟩; intro w hSw; (try dsimp only at hSw); go_simp; rw [if_neg (by first | omega | (simp; omega))])); (try simp only [Act.put, List.setIfInBounds_toArray, List.set_cons_zero, List.set_cons_succ]))
    (refine wpAnyH_take (i := 8) (oi := ?ho35) (v := ?hv35) ?hi35 (by kernel_rfl) (by kernel_rfl) (by kernel_rfl) ?hq35 ?hy35 (by assumption) ?hr35; (case hi35 => (simp only [List.getElem?_toArray, List.getElem?_cons_succ, List.getElem?_cons_zero]; first | done | rfl)); (case hq35 => exact fun _ _ _ h => h); (case hy35 => (refine Or.inl ⟨by rfl, ?_⟩; intro w hSw; (try dsimp only at hSw); go_simp; rw [if_neg (by first | omega | (simp; omega))])); (try simp only [Act.put, List.setIfInBounds_toArray, List.set_cons_zero, List.set_cons_succ]))
    (refine wpAnyH_take (i := 10) (oi := ?ho36) (v := ?hv36) ?hi36 (by kernel_rfl) (by kernel_rfl) (by kernel_rfl) ?hq36 ?hy36 (by assumption) ?hr36; (case hi36 => (simp only [List.getElem?_toArray, List.getElem?_cons_succ, List.getElem?_cons_zero]; first | done | rfl)); (case hq36 => exact fun _ _ _ h => h); (case hy36 => (refine Or.inl ⟨by rfl, ?_⟩; intro w hSw; (try dsimp only at hSw); go_simp; rw [if_neg (by first | omega | (simp; omega))])); (try simp only [Act.put, List.setIfInBounds_toArray, List.set_cons_zero, List.set_cons_succ]))
    (refine wpAnyH_take (i := 11) (oi := ?ho18) (v := ?hv18) ?hi18 (by kernel_rfl) (by kernel_rfl) (by kernel_rfl) ?hq18 ?hy18 (by assumption) ?hr18; (case hi18 => (simp only [List.getElem?_toArray, List.getElem?_cons_succ, List.getElem?_cons_zero]; first | done | rfl)); (case hq18 => exact fun _ _ _ h => h); (case hy18 => (refine Or.inl ⟨by rfl, ?_⟩; intro w hSw; (try dsimp only at hSw); go_simp; first | done | with_reducible rfl)); (try simp only [Act.put, List.setIfInBounds_toArray, List.set_cons_zero, List.set_cons_succ]))
    (refine wpAnyH_done (by kernel_rfl) ?_ _)
    go_wp2_with fail
    go_ret
    exact ⟨by first | (rw [← text_eq]; done) | (rw [← text_eq]; rfl) | (rw [hT2.out, ← text_eq]; rfl), Ext.bel (by repeat (with_reducible first | exact E0.out | apply Ext.aft | apply Ext.alloc | apply Ext.drew))⟩
  · have h0b : (0 : Int) < n := by omega
    have hT2 : Hid (T = joinL (digs p u n.toNat)) := hid (by rw [HTE.out]; unfold tailL; rw [if_neg h0])
    have hn1 : 1 ≤ n.toNat ∧ n.toNat ≤ 40 := by omega
    clear h0
    go_enter Tryz.func18, Tryz.ntmps18
    go_wp2_with fail
    refine viaI (g := id) (s_digits p v u n _ hp hv hu hn Hb.out) ?_
    intro r2 u2 z2 own2
    (try simp at z2)
    have hcm := s_join r2 (digs p u n.toNat) _ own2.rd (by rw [HDL.out]; exact hn1.2) HDB.out
    rw [← hT2.out] at hcm
    have HCM := hid hcm
    clear hcm
    go_wp2_with fail
    refine via HCM.out ?_
    intro u3 z3
    (try simp at z3)
    go_wp2_with fail
    obtain ⟨X, hX⟩ : ∃ X, X = aft (aft (w.alloc (Obj.cells #[.int .i64 p, .int .i64 v, .int .i64 u, .int .i64 n] 23)) u2) u3 := ⟨_, rfl⟩
    have c0 : ∀ o, X.cell? ⟨w.heap.size, o, none⟩ = #[Value.int .i64 p, .int .i64 v, .int .i64 u, .int .i64 n][o]? := fun o => by rw [hX]; rw [aft_cell, if_pos (by omega), aft_cell, if_pos (by simp), alloc_cell, if_pos rfl]
    have E0 : Hid (Ext w.heap.size w X) := hid (by rw [hX]; exact (((Ext.refl w).alloc _).aft _).aft _)
    have l0 : w.heap.size < X.heap.size := by rw [hX]; omega
    rw [← hX]
    clear hX
    (refine wp_region_held_drew (S := (fun w' => (∀ o, w'.cell? ⟨w.heap.size, o, none⟩ = #[Value.int .i64 p, .int .i64 v, .int .i64 u, .int .i64 n][o]?) ∧ X.heap.size ≤ w'.heap.size)) (by kernel_rfl) ?_ (fun hHeld => ?_); focus ((try dsimp only); (refine heldU.at l0 c0 ?_; (repeat (with_reducible first | exact heldU.refl _ | apply heldU.drew | apply heldU.aft)))))
    (refine wpAnyH_take (i := 0) (oi := ?ho19) (v := ?hv19) ?hi19 (by kernel_rfl) (by kernel_rfl) (by kernel_rfl) ?hq19 ?hy19 (by assumption) ?hr19; (case hi19 => (simp only [List.getElem?_toArray, List.getElem?_cons_succ, List.getElem?_cons_zero]; first | done | rfl)); (case hq19 => exact fun _ _ _ h => h); (case hy19 => (refine Or.inl ⟨by rfl, ?_⟩; intro w hSw; (try dsimp only at hSw); go_simp; first | done | with_reducible rfl)); (try simp only [Act.put, List.setIfInBounds_toArray, List.set_cons_zero, List.set_cons_succ]))
    (refine wpAnyH_take (i := 1) (oi := ?ho20) (v := ?hv20) ?hi20 (by kernel_rfl) (by kernel_rfl) (by kernel_rfl) ?hq20 ?hy20 (by assumption) ?hr20; (case hi20 => (simp only [List.getElem?_toArray, List.getElem?_cons_succ, List.getElem?_cons_zero]; first | done | rfl)); (case hq20 => exact fun _ _ _ h => h); (case hy20 => (refine Or.inl ⟨by rfl, ?_⟩; intro w hSw; (try dsimp only at hSw); go_simp; first | done | with_reducible rfl)); (try simp only [Act.put, List.setIfInBounds_toArray, List.set_cons_zero, List.set_cons_succ]))
    (refine wpAnyH_take (i := 4) (oi := ?ho21) (v := ?hv21) ?hi21 (by kernel_rfl) (by kernel_rfl) (by kernel_rfl) ?hq21 ?hy21 (by assumption) ?hr21; (case hi21 => (simp only [List.getElem?_toArray, List.getElem?_cons_succ, List.getElem?_cons_zero]; first | done | rfl)); (case hq21 => exact fun _ _ _ h => h); (case hy21 => (refine Or.inl ⟨by rfl, ?_⟩; intro w hSw; (try dsimp only at hSw); go_simp; first | done | with_reducible rfl)); (try simp only [Act.put, List.setIfInBounds_toArray, List.set_cons_zero, List.set_cons_succ]))
    (refine wpAnyH_take (i := 5) (oi := ?ho22) (v := ?hv22) ?hi22 (by kernel_rfl) (by kernel_rfl) (by kernel_rfl) ?hq22 ?hy22 (by assumption) ?hr22; (case hi22 => (simp only [List.getElem?_toArray, List.getElem?_cons_succ, List.getElem?_cons_zero]; first | done | rfl)); (case hq22 => exact fun _ _ _ h => h); (case hy22 => (refine Or.inl ⟨by rfl, ?_⟩; intro w hSw; (try dsimp only at hSw); go_simp; first | done | with_reducible rfl)); (try simp only [Act.put, List.setIfInBounds_toArray, List.set_cons_zero, List.set_cons_succ]))
    (refine wpAnyH_take (i := 9) (oi := ?ho23) (v := ?hv23) ?hi23 (by kernel_rfl) (by kernel_rfl) (by kernel_rfl) ?hq23 ?hy23 (by assumption) ?hr23; (case hi23 => (simp only [List.getElem?_toArray, List.getElem?_cons_succ, List.getElem?_cons_zero]; first | done | rfl)); (case hq23 => exact fun _ _ _ h => h); (case hy23 => (refine Or.inl ⟨by rfl, ?_⟩; intro w hSw; (try dsimp only at hSw); go_simp; first | done | with_reducible rfl)); (try simp only [Act.put, List.setIfInBounds_toArray, List.set_cons_zero, List.set_cons_succ]))
    (refine wpAnyH_ready (rs := [2]) (by decide +kernel) (by simp) ?_; refine AllReadyH.cons (o := ?ho47) ?hi47 (fun K hK => ?hr47) AllReadyH.nil; (case hi47 => (simp only [List.getElem?_toArray, List.getElem?_cons_succ, List.getElem?_cons_zero]; first | done | rfl)))
    (go_simp; go_at_call 32; refine via (HSD.out _) ?_; intro u7 z7; (try simp at z7); go_wp2_with fail)
    (refine hK.out _ _ ?_ (fun hHeld => ?_); focus ((try dsimp only); (refine heldU.at l0 c0 ?_; (repeat (with_reducible first | exact heldU.refl _ | apply heldU.drew | apply heldU.aft)))))
    (clear hK K; (try simp only [Act.put, List.setIfInBounds_toArray, List.set_cons_zero, List.set_cons_succ]))
    (refine wpAnyH_take (i := 3) (oi := ?ho37) (v := ?hv37) ?hi37 (by kernel_rfl) (by kernel_rfl) (by kernel_rfl) ?hq37 ?hy37 (by assumption) ?hr37; (case hi37 => (simp only [List.getElem?_toArray, List.getElem?_cons_succ, List.getElem?_cons_zero]; first | done | rfl)); (case hq37 => exact fun _ _ _ h => h); (case hy37 => (refine Or.inl ⟨by rfl, ?_⟩; intro w hSw; (try dsimp only at hSw); go_simp; rw [if_neg (by first | omega | (simp; omega))])); (try simp only [Act.put, List.setIfInBounds_toArray, List.set_cons_zero, List.set_cons_succ]))
    (refine wpAnyH_ready (rs := [6]) (by decide +kernel) (by simp) ?_; refine AllReadyH.cons (o := ?ho48) ?hi48 (fun K hK => ?hr48) AllReadyH.nil; (case hi48 => (simp only [List.getElem?_toArray, List.getElem?_cons_succ, List.getElem?_cons_zero]; first | done | rfl)))
    (go_simp; go_at_call 40; refine via (HSN.out _) ?_; intro u8 z8; (try simp at z8); go_wp2_with fail)
    (refine hK.out _ _ ?_ (fun hHeld => ?_); focus ((try dsimp only); (refine heldU.at l0 c0 ?_; (repeat (with_reducible first | exact heldU.refl _ | apply heldU.drew | apply heldU.aft)))))
    (clear hK K; (try simp only [Act.put, List.setIfInBounds_toArray, List.set_cons_zero, List.set_cons_succ]))
    (refine wpAnyH_take (i := 7) (oi := ?ho38) (v := ?hv38) ?hi38 (by kernel_rfl) (by kernel_rfl) (by kernel_rfl) ?hq38 ?hy38 (by assumption) ?hr38; (case hi38 => (simp only [List.getElem?_toArray, List.getElem?_cons_succ, List.getElem?_cons_zero]; first | done | rfl)); (case hq38 => exact fun _ _ _ h => h); (case hy38 => (refine Or.inl ⟨by rfl, ?_⟩; intro w hSw; (try dsimp only at hSw); go_simp; rw [if_neg (by first | omega | (simp; omega))])); (try simp only [Act.put, List.setIfInBounds_toArray, List.set_cons_zero, List.set_cons_succ]))
    (refine wpAnyH_take (i := 8) (oi := ?ho39) (v := ?hv39) ?hi39 (by kernel_rfl) (by kernel_rfl) (by kernel_rfl) ?hq39 ?hy39 (by assumption) ?hr39; (case hi39 => (simp only [List.getElem?_toArray, List.getElem?_cons_succ, List.getElem?_cons_zero]; first | done | rfl)); (case hq39 => exact fun _ _ _ h => h); (case hy39 => (refine Or.inl ⟨by rfl, ?_⟩; intro w hSw; (try dsimp only at hSw); go_simp; rw [if_neg (by first | omega | (simp; omega))])); (try simp only [Act.put, List.setIfInBounds_toArray, List.set_cons_zero, List.set_cons_succ]))
    (refine wpAnyH_take (i := 10) (oi := ?ho40) (v := ?hv40) ?hi40 (by kernel_rfl) (by kernel_rfl) (by kernel_rfl) ?hq40 ?hy40 (by assumption) ?hr40; (case hi40 => (simp only [List.getElem?_toArray, List.getElem?_cons_succ, List.getElem?_cons_zero]; first | done | rfl)); (case hq40 => exact fun _ _ _ h => h); (case hy40 => (refine Or.inl ⟨by rfl, ?_⟩; intro w hSw; (try dsimp only at hSw); go_simp; rw [if_neg (by first | omega | (simp; omega))])); (try simp only [Act.put, List.setIfInBounds_toArray, List.set_cons_zero, List.set_cons_succ]))
    (refine wpAnyH_take (i := 11) (oi := ?ho24) (v := ?hv24) ?hi24 (by kernel_rfl) (by kernel_rfl) (by kernel_rfl) ?hq24 ?hy24 (by assumption) ?hr24; (case hi24 => (simp only [List.getElem?_toArray, List.getElem?_cons_succ, List.getElem?_cons_zero]; first | done | rfl)); (case hq24 => exact fun _ _ _ h => h); (case hy24 => (refine Or.inl ⟨by rfl, ?_⟩; intro w hSw; (try dsimp only at hSw); go_simp; first | done | with_reducible rfl)); (try simp only [Act.put, List.setIfInBounds_toArray, List.set_cons_zero, List.set_cons_succ]))
    (refine wpAnyH_done (by kernel_rfl) ?_ _)
    go_wp2_with fail
    go_ret
    exact ⟨by first | (rw [← text_eq]; done) | (rw [← text_eq]; rfl) | (rw [hT2.out, ← text_eq]; rfl), Ext.bel (by repeat (with_reducible first | exact E0.out | apply Ext.aft | apply Ext.alloc | apply Ext.drew))⟩

def ptxF (p v u n : Int) : List UInt8 × Int := if padicB p v u n = true then (textL p v u n, 0) else ([], 1)
set_option maxHeartbeats 2000000 in
theorem i_PadicText (p v u n : Int) (w : World) (ht : tabB w.heap.size w) :
    Calls Tryz.prog 10 #[(.agg #[.int .i64 p, .int .i64 v, .int .i64 u, .int .i64 n])] w fun e w' => e = .returned (.tuple #[.string ⟨(ptxF p v u n).1.toArray⟩, .int .i64 (ptxF p v u n).2]) ∧ Below w.heap.size w w' := by
  cases h : padicB p v u n
  · have e : ptxF p v u n = ([], 1) := by simp [ptxF, h]
    rw [e]; clear e
    go_enter Tryz.func10, Tryz.ntmps10
    go_wp2_with (go_at_call 26; refine via (i_IsPadic _ _ _ _ _) ?_; intro uu zz; try simp at zz)
    go_ret2
    exact ⟨rfl, (by refine Ext.bel ?_; repeat (with_reducible first | exact Ext.refl _ | apply Ext.alloc | apply Ext.aft | apply Ext.drew | apply Ext.drewN | apply Ext.setCell | exact Nat.le_add_right _ _ | exact Nat.le_refl _ | (simp; done) | omega))⟩
  · have e : ptxF p v u n = (textL p v u n, 0) := by simp [ptxF, h]
    rw [e]; clear e
    obtain ⟨hp, hv, hu, hn, hb⟩ := padic_facts h
    have hcon := fun W (q : Below w.heap.size w W) (ql : w.heap.size ≤ W.heap.size) => i_padicText p v u n W hp hv hu hn hb (fun w' hb => ht w' (q.trans (hb.mono ql)))
    obtain ⟨T, hT⟩ : ∃ T, T = textL p v u n := ⟨_, rfl⟩
    rw [← hT] at hcon ⊢
    have HC := hid hcon
    clear hT hcon hb ht
    go_enter Tryz.func10, Tryz.ntmps10
    go_wp2_with fail
    refine via (i_IsPadic _ _ _ _ _) ?_
    intro u1 z1
    (try simp at z1)
    go_wp2_with fail
    refine via (HC.out _ (Ext.bel (((Ext.refl w).alloc _).aft _)) (by omega)) ?_
    intro u2 z2
    (try simp at z2)
    go_wp2_with fail
    go_ret2
    exact ⟨rfl, (by refine Ext.bel ?_; repeat (with_reducible first | exact Ext.refl _ | apply Ext.alloc | apply Ext.aft | apply Ext.drew | apply Ext.drewN | apply Ext.setCell | exact Nat.le_add_right _ _ | exact Nat.le_refl _ | (simp; done) | omega))⟩
set_option maxHeartbeats 2000000 in
theorem s_PadicText (p v u n : Int) (w : World) :
    Calls Tryz.prog 11 #[(.agg #[.int .i64 p, .int .i64 v, .int .i64 u, .int .i64 n])] w fun e w' => e = .returned (.tuple #[.string ⟨(ptxF p v u n).1.toArray⟩, .int .i64 (ptxF p v u n).2]) ∧ Below w.heap.size w w' := by
  cases h : padicB p v u n
  · have e : ptxF p v u n = ([], 1) := by simp [ptxF, h]
    rw [e]; clear e
    go_enter Tryz.func11, Tryz.ntmps11
    go_wp2_with (go_at_call 27; refine via (s_IsPadic _ _ _ _ _) ?_; intro uu zz; try simp at zz)
    go_ret2
    exact ⟨rfl, (by refine Ext.bel ?_; repeat (with_reducible first | exact Ext.refl _ | apply Ext.alloc | apply Ext.aft | apply Ext.drew | apply Ext.drewN | apply Ext.setCell | exact Nat.le_add_right _ _ | exact Nat.le_refl _ | (simp; done) | omega))⟩
  · have e : ptxF p v u n = (textL p v u n, 0) := by simp [ptxF, h]
    rw [e]; clear e
    obtain ⟨hp, hv, hu, hn, hb⟩ := padic_facts h
    have hcon := fun W => s_text p v u n W hp hv hu hn hb
    obtain ⟨T, hT⟩ : ∃ T, T = textL p v u n := ⟨_, rfl⟩
    rw [← hT] at hcon ⊢
    have HC := hid hcon
    clear hT hcon hb
    go_enter Tryz.func11, Tryz.ntmps11
    go_wp2_with (first | (go_at_call 27; refine via (s_IsPadic _ _ _ _ _) ?_; intro uu zz; try simp at zz) | (go_at_call 18; refine via (HC.out _) ?_; intro uu zz; try simp at zz))
    go_ret2
    exact ⟨rfl, (by refine Ext.bel ?_; repeat (with_reducible first | exact Ext.refl _ | apply Ext.alloc | apply Ext.aft | apply Ext.drew | apply Ext.drewN | apply Ext.setCell | exact Nat.le_add_right _ _ | exact Nat.le_refl _ | (simp; done) | omega))⟩
end Go.Proofs.YtdnfefkkbckmgaaGreatDoor
