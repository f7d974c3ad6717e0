/- Lists that rise, flags: the statement's text. -/
import Derived.Test.YtbkbcbanfnhjpaaMA
namespace Go.Proofs.Ytbkbcbanfnhjpaa
open Go Go.RowKit

/-- The number ahead of place k. -/
def prevI (xs : List Int) (k : Nat) : Int := if k = 0 then -1 else xs.getD (k - 1) 0
theorem prev_zero (xs : List Int) : prevI xs 0 = -1 := rfl
theorem prev_succ {xs : List Int} {k : Nat} (h : k < xs.length) : prevI xs (k + 1) = xs[k] := by
  unfold prevI; rw [if_neg (by omega), Nat.add_sub_cancel]; simp [List.getD, h]
theorem rises_drop {F : Int} {xs : List Int} {k : Nat} (h : k < xs.length) : risesB F (prevI xs k) (xs.drop k) = (decide (prevI xs k < xs[k]) && decide (xs[k] < F) && risesB F (prevI xs (k + 1)) (xs.drop (k + 1))) := by
  rw [List.drop_eq_getElem_cons h, prev_succ h]; rfl
theorem rises_f {F p x : Int} {b : Bool} (hp : -1 ≤ p) (h : ¬ (0 ≤ x ∧ x ≤ F - 1) ∨ x ≤ p) : (decide (p < x) && decide (x < F) && b) = false := by
  rcases h with h | h
  · have : ¬ (p < x ∧ x < F) := by omega
    by_cases h1 : p < x
    · have h2 : ¬ x < F := fun h2 => this ⟨h1, h2⟩
      simp [h2]
    · simp [h1]
  · have h1 : ¬ p < x := by omega
    simp [h1]
theorem rises_t {F p x : Int} {b : Bool} (h1 : p < x) (h2 : x ≤ F - 1) : (decide (p < x) && decide (x < F) && b) = b := by
  have : x < F := by omega
  simp [h1, this]
set_option maxRecDepth 20000 in
set_option maxHeartbeats 4000000 in
theorem s_rises (r : Value) (xs : List Int) (F : Int) (w : World) (h : rdI w r xs) (hF : 0 ≤ F ∧ F ≤ 720) :
    Calls Try.prog 115 #[r, .int .i64 F] w fun e w' => e = .returned (.bool (risesB F (-1) xs)) ∧ Below w.heap.size w w' := by
  obtain ⟨a, cap, rfl, hm, hc⟩ := h
  have Hc := hid hc
  unfold maxLen at hm
  obtain ⟨P, hP⟩ : ∃ P, P = risesB F (-1) xs := ⟨_, rfl⟩
  rw [← hP]
  have HP := hid hP
  clear hc hP
  go_enter Try.func115, Try.ntmps115
  go_wp2_with fail
  go_loopw [5] (fun i wr => ∃ (k : Nat) (uu : World), wr = aft w uu ∧ k ≤ xs.length ∧ i = .int .i64 k ∧ -1 ≤ prevI xs k ∧ Hid (risesB F (prevI xs k) (xs.drop k) = P)) (fun i _ => xs.length - (intOf i).toNat)
  case atStart => exact ⟨0, w, (aft_of (Below.refl _ _)).symm, by omega, rfl, by simp [prevI], hid (by rw [HP.out, prev_zero]; rfl)⟩
  case round =>
    obtain ⟨k, uu, rfl, hk, rfl, hp1, HA⟩ := hrel
    have zs := size_aft w uu
    by_cases hlt : k < xs.length
    · obtain ⟨b, o, rfl, hcell⟩ := Hc.out (by intro e; subst e; simp at hlt)
      have h1 := hcell k hlt
      have hb := World.block_lt_of_cell? w _ h1
      have hd := rises_drop (F := F) hlt
      rw [HA.out] at hd
      have HPS := hid (prev_succ hlt)
      have hpv : 0 < k → w.cell? ⟨b, o + (k - 1), none⟩ = some (.int .i64 (prevI xs k)) := fun h0 => by
        rw [hcell (k - 1) (by omega)]
        unfold prevI; rw [if_neg (by omega)]
        simp [List.getD, show k - 1 < xs.length by omega]
      obtain ⟨x, hx⟩ : ∃ x, x = xs[k] := ⟨_, rfl⟩
      rw [← hx] at h1 hd HPS
      obtain ⟨p, hpe⟩ : ∃ p, p = prevI xs k := ⟨_, rfl⟩
      rw [← hpe] at hp1 hd hpv
      have HD := hid hd
      have HPE := hid hpe
      have hltz : (k : Int) < (xs.length : Int) := by omega
      clear hx hcell hd hpe HA
      cases hin : inB x 0 (F - 1)
      · have hnot : ¬ (0 ≤ x ∧ x ≤ F - 1) := fun h => by rw [inB_t h.1 h.2] at hin; cases hin
        have e : Hid (P = false) := hid (HD.out.trans (rises_f hp1 (.inl hnot)))
        have HV := hid hpv
        clear hpv hnot
        go_wp2_with fail
        refine wp_region_calm (by kernel_rfl) (by kernel_rfl) ?_
        repeat (go_big_quiet_step (first | (go_at_call 69; exact calmpb (s_in _ _ _ _) hin)))
        refine wpQuiet_nil ?_; intro uq zq; try simp at zq
        go_wp2_with fail
        go_ret
        exact ⟨ret_b (by rw [e.out]), (by refine Ext.bel ?_; repeat (with_reducible first | exact Ext.refl _ | apply Ext.alloc | apply Ext.aft | apply Ext.drew | apply Ext.drewN | apply Ext.setCell | exact Nat.le_add_right _ _ | exact Nat.le_refl _ | (simp; done) | omega))⟩
      · have hrg := inB_iff.1 hin
        rcases Nat.eq_zero_or_pos k with h0 | hpos
        · have HR := hid (HD.out.trans (rises_t (show p < x by have := HPE.out; rw [h0] at this; simp [prevI] at this; omega) hrg.2))
          have H0 := hid h0
          have hkz : decide ((0 : Int) < (k : Int)) = false := by simp; omega
          have hkn : decide (0 < k) = false := by simp; omega
          clear hpv h0
          go_wp2_with fail
          refine wp_region_calm (by kernel_rfl) (by kernel_rfl) ?_
          repeat (go_big_quiet_step (first | (go_at_call 69; exact calmpb (s_in _ _ _ _) hin)))
          refine wpQuiet_nil ?_; intro uq zq; try simp at zq
          go_wp2_with fail
          go_roundw
          case rel => exact ⟨k + 1, _, (aft_of ((below_aft w uu).trans ((below_aft _ _).mono (size_aft w uu)))).symm, by omega, by go_num, by rw [HPS.out]; omega, hid HR.out.symm⟩
          case measure => simp only [intOf]; omega
        · obtain ⟨j, rfl⟩ : ∃ j, k = j + 1 := ⟨k - 1, by omega⟩
          have hv := hpv (by omega)
          rw [Nat.add_sub_cancel] at hv
          have hbv := World.block_lt_of_cell? w _ hv
          clear hpv
          by_cases hle : x ≤ p
          · have e : Hid (P = false) := hid (HD.out.trans (rises_f hp1 (.inr hle)))
            go_wp2_with fail
            refine wp_region_calm (by kernel_rfl) (by kernel_rfl) ?_
            repeat (go_big_quiet_step (first | (go_at_call 69; exact calmpb (s_in _ _ _ _) hin)))
            refine wpQuiet_nil ?_; intro uq zq; try simp at zq
            go_wp2_with fail
            go_ret
            exact ⟨ret_b (by rw [e.out]), (by refine Ext.bel ?_; repeat (with_reducible first | exact Ext.refl _ | apply Ext.alloc | apply Ext.aft | apply Ext.drew | apply Ext.drewN | apply Ext.setCell | exact Nat.le_add_right _ _ | exact Nat.le_refl _ | (simp; done) | omega))⟩
          · have HR := hid (HD.out.trans (rises_t (show p < x by omega) hrg.2))
            go_wp2_with fail
            refine wp_region_calm (by kernel_rfl) (by kernel_rfl) ?_
            repeat (go_big_quiet_step (first | (go_at_call 69; exact calmpb (s_in _ _ _ _) hin)))
            refine wpQuiet_nil ?_; intro uq zq; try simp at zq
            go_wp2_with fail
            go_roundw
            case rel => exact ⟨j + 2, _, (aft_of ((below_aft w uu).trans ((below_aft _ _).mono (size_aft w uu)))).symm, by omega, by go_num, by rw [HPS.out]; omega, hid HR.out.symm⟩
            case measure => simp only [intOf]; omega
    · obtain rfl : k = xs.length := by omega
      have e : Hid (P = true) := hid (by rw [← HA.out, List.drop_length]; rfl)
      go_wp2_with fail
      go_ret
      exact ⟨ret_b (by rw [e.out]), (by refine Ext.bel ?_; repeat (with_reducible first | exact Ext.refl _ | apply Ext.alloc | apply Ext.aft | apply Ext.drew | apply Ext.drewN | apply Ext.setCell | exact Nat.le_add_right _ _ | exact Nat.le_refl _ | (simp; done) | omega))⟩
end Go.Proofs.Ytbkbcbanfnhjpaa
