/- Differences of polynomials, the statement's sums, multiples: both texts. -/
import Derived.Test.YtflmoopiajhadaaLW1
import Derived.Test.YtflmoopiajhadaaMB
namespace Go.Proofs.Ytflmoopiajhadaa
open Go Go.RowKit

def negK (xs : List Int) (k : Nat) : List Int := (xs.take k).map (fun c => -c)
theorem negK_len {xs : List Int} {k : Nat} (h : k ≤ xs.length) : (negK xs k).length = k := by simp [negK]; omega
theorem negK_succ {xs : List Int} {k : Nat} (h : k < xs.length) : negK xs (k + 1) = negK xs k ++ [-xs[k]] := by
  unfold negK; rw [take_snocI _ _ h, List.map_append]; rfl
theorem negK_getD (xs : List Int) (j : Nat) : (negK xs xs.length).getD j 0 = -xs.getD j 0 := by
  unfold negK
  rw [List.take_length]
  simp only [List.getD_eq_getElem?_getD, List.getElem?_map]
  cases xs[j]? with
  | none => simp
  | some x => simp
theorem addK_neg (f g : List Int) : addK 1 f (negK g g.length) = addK (-1) f g := by
  unfold addK
  refine trimF_congr fun j => ?_
  rw [addR_getD, addR_getD, negK_getD]; omega
set_option maxRecDepth 20000 in
set_option maxHeartbeats 8000000 in
theorem i_minus (r1 r2 : Value) (f g : List Int) (w : World) (h1 : rdI w r1 f) (h2 : rdI w r2 g) (hl1 : f.length ≤ 1000) (hl2 : g.length ≤ 1000) (hf : ∀ j, i64B (f.getD j 0)) (hg : ∀ j, -9223372036854775807 ≤ g.getD j 0 ∧ g.getD j 0 ≤ 9223372036854775807) (hs : ∀ j, i64B (f.getD j 0 - g.getD j 0)) :
    Calls Try.prog 39 #[r1, r2] w fun e w' => ∃ v, e = .returned v ∧ ownR w.heap.size w' v (addK (-1) f g) ∧ Below w.heap.size w w' := by
  obtain ⟨i0, hi, hz0, hz1, hz2⟩ := info_parts infoI
  obtain ⟨a, cap, rfl, hm0, hc⟩ := h2
  have Hc := hid hc
  have H1 := hid h1
  have Hf := hid hf
  have Hg := hid hg
  have Hs := hid hs
  unfold maxLen at hm0
  clear hc h1 hf hg hs
  go_enter Try.func39, Try.ntmps39
  go_wp2_with fail
  go_loopw [5, 7, 10] (fun r _ i_ wr => ∃ (k : Nat) (uu : World), wr = aft w uu ∧ k ≤ g.length ∧ i_ = .int .i64 k ∧ Hid (ownR w.heap.size wr r (negK g k))) (fun r _ i_ _ => (g.length - intOf i_).toNat)
  case atStart => exact ⟨0, w, (aft_of (Below.refl _ _)).symm, by omega, rfl, hid (ownR.nil _ _)⟩
  case round =>
    obtain ⟨k, uu, rfl, hk, rfl, HO⟩ := hrel
    have zs := size_aft w uu
    by_cases hlt : k < g.length
    · have hltz : (k : Int) < (g.length : Int) := by omega
      obtain ⟨b, o, rfl, hcell⟩ := Hc.out (by intro e; subst e; simp at hlt)
      have h1 := hcell k hlt
      have hb := World.block_lt_of_cell? w _ h1
      have hgb := Hg.out k
      rw [getD_lt hlt] at hgb
      obtain ⟨c, hcx⟩ : ∃ c, c = g[k] := ⟨_, rfl⟩
      rw [← hcx] at h1 hgb
      have HX := hid hcx
      clear hcx hcell
      have hown := HO.out
      have hml : (negK g k).length = k := negK_len hk
      have hwn : IntKind.i64.wrap (-c) = -c := IntWalk.i64_in _ (by omega)
      go_wp2_with (at_builtin; refine wpList_append_own _ rfl _ _ 26 rfl (w.heap.size) 2 i0 (.int .i64 0) 1 8 Try.underlying26 hi hz0 hz1 hz2 rfl (by decide) _ _ _ rfl (((hown).alloc _)) ⟨_, 0, none⟩ 1 1 [.int .i64 (-c)] rfl rfl ?c1 ?c2 ?c3 ?c4 ?c5 ?_)
      case c2 => first | rfl | (intro u hu; simp at hu; subst hu; rfl)
      case c3 => unfold maxLen; omega
      case c4 => omega
      case c5 => first | omega | (simp; omega)
      intro v' w1 hown' hgrow _
      obtain ⟨u', rfl⟩ := grown_aft (W := w) (by repeat (with_reducible first | exact Ext.refl _ | apply Ext.alloc | apply Ext.aft | apply Ext.drew | apply Ext.drewN | apply Ext.setCell | exact Nat.le_add_right _ _ | exact Nat.le_refl _ | (simp; done) | omega)) hgrow (own_row_ge hown)
      have HO' := hid hown'
      clear hown' hgrow hown
      go_wp2_with fail
      go_roundw
      case rel => exact ⟨k + 1, u', rfl, by omega, by go_num, hid (by rw [negK_succ hlt, ← HX.out]; exact ownR.snocK hml HO'.out)⟩
      case measure => simp only [intOf]; omega
    · obtain rfl : k = g.length := by omega
      have hltz : ¬ (g.length : Int) < (g.length : Int) := by omega
      have hml : (negK g g.length).length = g.length := negK_len (Nat.le_refl _)
      have hs' : Hid (∀ j, i64B (f.getD j 0 + (negK g g.length).getD j 0)) := hid fun j => by rw [negK_getD]; exact Hs.out j
      go_wp2_with (go_at_call 43; refine viaI (g := id) (i_sum _ _ f (negK g g.length) _ (H1.out.aft _) HO.out.rd hl1 (by omega) Hf.out hs'.out) ?_; intro rr ur zr hown2; (try simp at zr))
      go_ret
      exact ⟨_, rfl, by rw [addK_neg] at hown2; exact hown2.mono zs, (by refine Ext.bel ?_; repeat (with_reducible first | exact Ext.refl _ | apply Ext.alloc | apply Ext.aft | apply Ext.drew | apply Ext.drewN | apply Ext.setCell | exact Nat.le_add_right _ _ | exact Nat.le_refl _ | (simp; done) | omega))⟩
set_option maxHeartbeats 4000000 in
theorem i_scaled (r : Value) (f : List Int) (q : Int) (w : World) (h : rdI w r f) (hl : f.length ≤ 9) (hc : ∀ c ∈ f, 0 ≤ c * q ∧ c * q ≤ 1000000000000000000) :
    Calls Try.prog 44 #[r, .int .i64 q] w fun e w' => ∃ v, e = .returned v ∧ ownR w.heap.size w' v (prodF f [q]) ∧ Below w.heap.size w w' := by
  have Hc : Hid (∀ c ∈ f, ∀ d ∈ [q], 0 ≤ c * d ∧ c * d ≤ 1000000000000000000) := hid fun c h1 d h2 => by
    obtain rfl : d = q := by simpa using h2
    exact hc c h1
  clear hc
  go_enter Try.func44, Try.ntmps44
  go_wp2_with (go_at_call 40; refine viaI (g := id) (i_product _ _ f [q] _ (h.alloc _) (rd_one w q) hl (by simp) Hc.out) ?_; intro rr ur zr hown; (try simp at zr))
  go_ret
  exact ⟨_, rfl, hown.mono (by first | omega | (simp; done) | (simp; omega)), (by refine Ext.bel ?_; repeat (with_reducible first | exact Ext.refl _ | apply Ext.alloc | apply Ext.aft | apply Ext.drew | apply Ext.drewN | apply Ext.setCell | exact Nat.le_add_right _ _ | exact Nat.le_refl _ | (simp; done) | omega))⟩
end Go.Proofs.Ytflmoopiajhadaa
