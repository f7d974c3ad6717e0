/- Roots by a prime, of which only the number is told. -/
import Derived.Test.YtganmeiaflkkoaaZE
namespace Go.Proofs.Ytganmeiaflkkoaa
open Go Go.RowKit

set_option maxRecDepth 20000 in
set_option maxHeartbeats 4000000 in
theorem s_val8 (m : Int) (r : Value) (xs : List Int) (x : Int) (w : World) (h : rdI w r xs) (hm : 2 ≤ m ∧ m ≤ 1000) (hx : 0 ≤ x ∧ x ≤ 1000) (hxs : ∀ c ∈ xs, 0 ≤ c ∧ c ≤ m - 1) :
    Calls Try.prog 86 #[.int .i64 m, r, .int .i64 x] w fun e w' => e = .returned (.int .i64 (valF m x xs)) ∧ w = w' := by
  obtain ⟨a, cap, rfl, hm0, hc⟩ := h
  have Hc := hid hc
  have Hx := hid hxs
  have Hf := hid (valF_fits (m := m) (x := x) (by omega) (by omega))
  have hmz : m ≠ 0 := by omega
  unfold maxLen at hm0
  clear hc hxs
  go_enter Try.func86, Try.ntmps86
  go_wp2_with fail
  go_loop [7, 8] (fun s i => ∃ k : Nat, k ≤ xs.length ∧ i = .int .i64 ((k : Int) - 1) ∧ s = .int .i64 (valF m x (xs.drop k))) (fun _ i => (intOf i + 1).toNat)
  case atStart => exact ⟨xs.length, by omega, rfl, by simp [valF]⟩
  case round =>
    obtain ⟨k, hk, rfl, rfl⟩ := hrel
    rcases Nat.eq_zero_or_pos k with rfl | hpos
    · simp only [List.drop_zero]
      go_wp2_with fail
      go_ret
      exact ⟨rfl, rfl⟩
    · obtain ⟨j, rfl⟩ : ∃ j, k = j + 1 := ⟨k - 1, by omega⟩
      have hj : j < xs.length := by omega
      obtain ⟨b, o, rfl, hcell⟩ := Hc.out (by intro e; subst e; simp at hj)
      have h1 := hcell j hj
      have h2 := Hf.out (xs.drop (j + 1))
      have h3 := Hx.out xs[j] (List.getElem_mem hj)
      have HS := hid (valF_drop (m := m) (x := x) hj)
      obtain ⟨y, hy⟩ : ∃ y, y = valF m x (xs.drop (j + 1)) := ⟨_, rfl⟩
      rw [← hy] at h2 HS ⊢
      obtain ⟨c, hcx⟩ : ∃ c, c = xs[j] := ⟨_, rfl⟩
      rw [← hcx] at h1 h3 HS
      clear hcx hcell hy
      rw [show (((j + 1 : Nat) : Int) - 1) = (j : Int) by omega]
      have htm : (y * x + c).tmod m = (y * x + c) % m := Int.tmod_eq_emod_of_nonneg (by omega)
      go_wp2_with fail
      go_round
      case rel => exact ⟨j, by omega, by go_num, by rw [HS.out]⟩
      case measure => first | (simp [intOf]; done) | (simp [intOf]; omega)

set_option maxRecDepth 20000 in
set_option maxHeartbeats 4000000 in
theorem s_roots8 (p : Int) (r : Value) (xs : List Int) (w : World) (h : rdI w r xs) (hp : 2 ≤ p ∧ p ≤ 97) (hxs : ∀ c ∈ xs, 0 ≤ c ∧ c ≤ p - 1) :
    Calls Try.prog 59 #[.int .i64 p, r] w fun e w' => ∃ v zs, e = .returned v ∧ ownR w.heap.size w' v zs ∧ zs.length ≤ 97 ∧ Below w.heap.size w w' := by
  obtain ⟨i0, hi, hz0, hz1, hz2⟩ := info_parts infoI
  obtain ⟨P, rfl⟩ : ∃ P : Nat, p = (P : Int) := ⟨p.toNat, by omega⟩
  have H := hid h
  have Hx := hid hxs
  clear h hxs
  go_enter Try.func59, Try.ntmps59
  go_wp2_with fail
  go_loopw [5, 6] (fun v i wr => ∃ (k : Nat) (uu : World) (zs : List Int), wr = aft w uu ∧ k ≤ P ∧ i = .int .i64 k ∧ zs.length ≤ k ∧ Hid (ownR w.heap.size wr v zs)) (fun _ i _ => P - (intOf i).toNat)
  case atStart => exact ⟨0, _, [], (aft_of ((Below.refl _ w).alloc (Nat.le_refl _) _)).symm, by omega, rfl, by simp, hid (own_made w)⟩
  case round =>
    obtain ⟨k, uu, zs, rfl, hk, rfl, hzl, HO⟩ := hrel
    have zs9 := size_aft w uu
    by_cases hlt : k < P
    · have hltz : (k : Int) < (P : Int) := by omega
      obtain ⟨T, hT⟩ : ∃ T, valF (P : Int) (k : Int) xs = T := ⟨_, rfl⟩
      have hcon := s_val8 (P : Int) r xs (k : Int) (aft w uu) (H.out.aft _) (by omega) (by omega) Hx.out
      rw [hT] at hcon
      clear hT
      go_wp2_with fail
      refine pur hcon ?_
      by_cases hT0 : T = 0
      · subst hT0
        clear hcon
        have hown := HO.out
        have HSL := hid hzl
        go_wp2_with (at_builtin; refine wpList_append_own _ rfl _ _ 26 rfl (w.heap.size) 2 i0 (.int .i64 0) 1 8 Try.underlying26 hi hz0 hz1 hz2 rfl (by decide) _ _ _ rfl (hown.alloc _) ⟨_, 0, none⟩ 1 1 [.int .i64 ((k : Int))] rfl rfl ?c1 ?c2 ?c3 ?c4 ?c5 ?_)
        try case c1 => exact cell_one_new _ _ _
        case c2 => first | rfl | (intro u hu; simp at hu; subst hu; rfl)
        case c3 => unfold maxLen; omega
        case c4 => omega
        case c5 => first | omega | (simp; omega)
        intro v' w1 hown' hgrow _
        obtain ⟨u', rfl⟩ := grown_aft (W := w) (by repeat (with_reducible first | exact Ext.refl _ | apply Ext.alloc | apply Ext.aft | apply Ext.drew | apply Ext.drewN | apply Ext.setCell | exact Nat.le_add_right _ _ | exact Nat.le_refl _ | (simp; done) | omega)) hgrow (own_row_ge hown)
        have HO1 : Hid (ownR w.heap.size (aft w u') v' (zs ++ [(k : Int)])) := hid (ownR.snocK rfl hown')
        clear hown' hgrow hown
        go_wp2_with fail
        go_roundw
        case rel => exact ⟨k + 1, u', zs ++ [(k : Int)], rfl, by omega, by go_num, by simp; omega, HO1⟩
        case measure => simp only [intOf]; omega
      · have hTb : (T == 0) = false := by simpa using hT0
        clear hcon hT0
        go_wp2_with fail
        go_roundw
        case rel => exact ⟨k + 1, uu, zs, rfl, by omega, by go_num, by omega, HO⟩
        case measure => simp only [intOf]; omega
    · obtain rfl : k = P := by omega
      have hltz : ¬ (k : Int) < (k : Int) := by omega
      go_wp2_with fail
      go_ret
      first | exact ⟨_, zs, rfl, HO.out, by omega, (by refine Ext.bel ?_; repeat (with_reducible first | exact Ext.refl _ | apply Ext.alloc | apply Ext.aft | apply Ext.drew | apply Ext.drewN | apply Ext.setCell | exact Nat.le_add_right _ _ | exact Nat.le_refl _ | (simp; done) | omega))⟩ | exact ⟨_, rfl, zs, HO.out, by omega, (by refine Ext.bel ?_; repeat (with_reducible first | exact Ext.refl _ | apply Ext.alloc | apply Ext.aft | apply Ext.drew | apply Ext.drewN | apply Ext.setCell | exact Nat.le_add_right _ _ | exact Nat.le_refl _ | (simp; done) | omega))⟩
end Go.Proofs.Ytganmeiaflkkoaa
