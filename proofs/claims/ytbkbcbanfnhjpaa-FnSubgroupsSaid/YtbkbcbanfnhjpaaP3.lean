/- Permutations: tests, both texts; HasPermutation: both texts. -/
import Derived.Test.YtbkbcbanfnhjpaaMB
namespace Go.Proofs.Ytbkbcbanfnhjpaa
open Go Go.RowKit

def noP (xs : List Int) (i : Nat) : Bool := !inB (xs.getD i 0) 0 ((xs.length : Int) - 1) || (xs.take i).contains (xs.getD i 0)
def permB (xs : List Int) : Bool := !(List.range xs.length).any (noP xs) && inB xs.length 1 6
theorem noP_step {xs : List Int} {k : Nat} (h : (List.range k).any (noP xs) = false) (h2 : noP xs k = false) : (List.range (k + 1)).any (noP xs) = false := by
  rw [List.range_succ, List.any_append, h]; simp [h2]
theorem noP_hit {xs : List Int} {k : Nat} (hk : k < xs.length) (h2 : noP xs k = true) : permB xs = false := by
  unfold permB
  have : (List.range xs.length).any (noP xs) = true := List.any_eq_true.2 ⟨k, by simp [hk], h2⟩
  simp [this]
theorem noP_end {xs : List Int} (h : (List.range xs.length).any (noP xs) = false) : permB xs = inB xs.length 1 6 := by simp [permB, h]
theorem perm_facts {xs : List Int} (h : permB xs = true) : 1 ≤ xs.length ∧ xs.length ≤ 6 ∧ (∀ y ∈ xs, 0 ≤ y ∧ y < (xs.length : Int)) ∧ xs.Nodup := by
  unfold permB at h
  simp only [Bool.and_eq_true, Bool.not_eq_true'] at h
  obtain ⟨h1, h2⟩ := h
  have h3 := inB_iff.1 h2
  have hno : ∀ i, i < xs.length → noP xs i = false := fun i hi => by
    rcases hq : noP xs i
    · rfl
    · have : (List.range xs.length).any (noP xs) = true := List.any_eq_true.2 ⟨i, by simp [hi], hq⟩
      rw [this] at h1; cases h1
  refine ⟨by omega, by omega, fun y hy => ?_, ?_⟩
  · obtain ⟨i, hi, rfl⟩ := List.getElem_of_mem hy
    have := hno i hi
    unfold noP at this
    simp only [Bool.or_eq_false_iff, Bool.not_eq_false'] at this
    have h4 := inB_iff.1 this.1
    rw [List.getD, List.getElem?_eq_getElem hi] at h4
    simp at h4
    omega
  · rw [List.nodup_iff_pairwise_ne, List.pairwise_iff_getElem]
    intro i j hi hj hij e
    have := hno j hj
    unfold noP at this
    simp only [Bool.or_eq_false_iff] at this
    have h5 := this.2
    rw [List.getD, List.getElem?_eq_getElem hj] at h5
    simp only [Option.getD_some, List.contains_eq_mem, decide_eq_false_iff_not] at h5
    exact h5 (by rw [← e, List.mem_take_iff_getElem]; exact ⟨i, by omega, rfl⟩)

theorem lib_hasE {w : World} {v : Value} {xs : List Int} (h : rdI w v xs) (x : Int) {b : Bool} (hb : xs.contains x = b) :
    Calls Try.prog 125 #[v, .int .i64 x] w fun e w' => e = .returned (.bool b) ∧ w = w' := by subst hb; exact lib_has h x
theorem s_hasE (r : Value) (xs : List Int) (x : Int) (w : World) {b : Bool} (h : rdI w r xs) (hb : xs.contains x = b) :
    Calls Try.prog 102 #[r, .int .i64 x] w fun e w' => e = .returned (.bool b) ∧ w = w' := by subst hb; exact s_has r xs x w h
set_option maxRecDepth 20000 in
set_option maxHeartbeats 4000000 in
theorem i_IsPerm (r : Value) (xs : List Int) (w : World) (h : ownR 0 w r xs) (hl : xs.length ≤ 1048576) :
    Calls Try.prog 76 #[r] w fun e w' => e = .returned (.bool (permB xs)) ∧ Below w.heap.size w w' := by
  obtain ⟨P, hP⟩ : ∃ P, P = permB xs := ⟨_, rfl⟩
  rw [← hP]
  have HP := hid hP
  have HO := hid h
  obtain ⟨a, cap, rfl, hm, hc⟩ := h.rd
  have Hc := hid hc
  have HRD := hid h.rd
  unfold maxLen at hm
  clear hc hP h
  go_enter Try.func76, Try.ntmps76
  go_wp2_with fail
  go_loopw [7] (fun i wr => ∃ (k : Nat) (uu : World), wr = aft w uu ∧ k ≤ xs.length ∧ i = .int .i64 k ∧ Hid ((List.range k).any (noP xs) = false)) (fun i _ => xs.length - (intOf i).toNat)
  case atStart => exact ⟨0, w, (aft_of (Below.refl _ _)).symm, by omega, rfl, hid rfl⟩
  case round =>
    obtain ⟨k, uu, rfl, hk, rfl, HA⟩ := hrel
    have zs := size_aft w uu
    by_cases hlt : k < xs.length
    · obtain ⟨g, cp, hsh, hgl, hlc, hcm⟩ := own_some HO.out (by intro e; subst e; simp at hlt)
      cases hsh
      have h1 := own_cell HO.out hlt
      have hb := World.block_lt_of_cell? w _ h1
      obtain ⟨hsl, hot⟩ := cutH_rule (q := k) HO.out (by omega)
      have HT := hid hot.rd
      obtain ⟨x, hx⟩ : ∃ x, x = xs.getD k 0 := ⟨_, rfl⟩
      rw [← hx] at h1
      have hN : noP xs k = (!inB x 0 ((xs.length : Int) - 1) || (xs.take k).contains x) := by unfold noP; rw [← hx]
      have HN := hid hN
      have hltz : (k : Int) < (xs.length : Int) := by omega
      clear hx hot hN
      cases hin : inB x 0 ((xs.length : Int) - 1)
      · have e : Hid (P = false) := hid (by rw [HP.out]; exact noP_hit hlt (by rw [HN.out, hin]; rfl))
        go_wp2_with (first | (go_at_call 73; refine pur (i_within _ _ _ _) ?_) | (go_at_call 78; refine pur (i_size _ xs _ (HRD.out.aft _)) ?_))
        go_ret
        exact ⟨ret_b (by rw [e.out]), (by refine Ext.bel ?_; repeat (with_reducible first | exact Ext.refl _ | apply Ext.alloc | apply Ext.aft | apply Ext.drew | apply Ext.drewN | apply Ext.setCell | exact Nat.le_add_right _ _ | exact Nat.le_refl _ | (simp; done) | omega))⟩
      · cases hct : (xs.take k).contains x
        · have HK := hid (noP_step HA.out (by rw [HN.out, hin, hct]; rfl))
          have HCT := hid hct
          clear hct
          go_wp2_with (first | (go_at_call 73; refine pur (i_within _ _ _ _) ?_) | (go_at_call 78; refine pur (i_size _ xs _ (HRD.out.aft _)) ?_) | (go_at_call 125; refine pur (lib_hasE (HT.out.aft _) _ HCT.out) ?_))
          go_roundw
          case rel => exact ⟨k + 1, uu, rfl, by omega, by go_num, HK⟩
          case measure => simp only [intOf]; omega
        · have e : Hid (P = false) := hid (by rw [HP.out]; exact noP_hit hlt (by rw [HN.out, hct]; simp))
          have HCT := hid hct
          clear hct
          go_wp2_with (first | (go_at_call 73; refine pur (i_within _ _ _ _) ?_) | (go_at_call 78; refine pur (i_size _ xs _ (HRD.out.aft _)) ?_) | (go_at_call 125; refine pur (lib_hasE (HT.out.aft _) _ HCT.out) ?_))
          go_ret
          exact ⟨ret_b (by rw [e.out]), (by refine Ext.bel ?_; repeat (with_reducible first | exact Ext.refl _ | apply Ext.alloc | apply Ext.aft | apply Ext.drew | apply Ext.drewN | apply Ext.setCell | exact Nat.le_add_right _ _ | exact Nat.le_refl _ | (simp; done) | omega))⟩
    · obtain rfl : k = xs.length := by omega
      have e : Hid (P = inB xs.length 1 6) := hid (by rw [HP.out]; exact noP_end HA.out)
      have hltz : ¬ (xs.length : Int) < (xs.length : Int) := by omega
      go_wp2_with (first | (go_at_call 73; refine pur (i_within _ _ _ _) ?_) | (go_at_call 78; refine pur (i_size _ xs _ (HRD.out.aft _)) ?_))
      go_ret
      exact ⟨ret_b (by rw [e.out]), (by refine Ext.bel ?_; repeat (with_reducible first | exact Ext.refl _ | apply Ext.alloc | apply Ext.aft | apply Ext.drew | apply Ext.drewN | apply Ext.setCell | exact Nat.le_add_right _ _ | exact Nat.le_refl _ | (simp; done) | omega))⟩
set_option maxRecDepth 20000 in
set_option maxHeartbeats 4000000 in
theorem s_IsPerm (r : Value) (xs : List Int) (w : World) (h : ownR 0 w r xs) (hl : xs.length ≤ 1048576) :
    Calls Try.prog 70 #[r] w fun e w' => e = .returned (.bool (permB xs)) ∧ Below w.heap.size w w' := by
  obtain ⟨P, hP⟩ : ∃ P, P = permB xs := ⟨_, rfl⟩
  rw [← hP]
  have HP := hid hP
  have HO := hid h
  obtain ⟨a, cap, rfl, hm, hc⟩ := h.rd
  have Hc := hid hc
  unfold maxLen at hm
  clear hc hP h
  go_enter Try.func70, Try.ntmps70
  go_wp2_with fail
  go_loopw [3] (fun i wr => ∃ (k : Nat) (uu : World), wr = aft w uu ∧ k ≤ xs.length ∧ i = .int .i64 k ∧ Hid ((List.range k).any (noP xs) = false)) (fun i _ => xs.length - (intOf i).toNat)
  case atStart => exact ⟨0, w, (aft_of (Below.refl _ _)).symm, by omega, rfl, hid rfl⟩
  case round =>
    obtain ⟨k, uu, rfl, hk, rfl, HA⟩ := hrel
    have zs := size_aft w uu
    by_cases hlt : k < xs.length
    · obtain ⟨g, cp, hsh, hgl, hlc, hcm⟩ := own_some HO.out (by intro e; subst e; simp at hlt)
      cases hsh
      have h1 := own_cell HO.out hlt
      have hb := World.block_lt_of_cell? w _ h1
      obtain ⟨hsl, hot⟩ := cutH_rule (q := k) HO.out (by omega)
      have HT := hid hot.rd
      obtain ⟨x, hx⟩ : ∃ x, x = xs.getD k 0 := ⟨_, rfl⟩
      rw [← hx] at h1
      have hN : noP xs k = (!inB x 0 ((xs.length : Int) - 1) || (xs.take k).contains x) := by unfold noP; rw [← hx]
      have HN := hid hN
      have hltz : (k : Int) < (xs.length : Int) := by omega
      clear hx hot hN
      cases hin : inB x 0 ((xs.length : Int) - 1)
      · have e : Hid (P = false) := hid (by rw [HP.out]; exact noP_hit hlt (by rw [HN.out, hin]; rfl))
        go_wp2_with fail
        refine wp_region_calm (by kernel_rfl) (by kernel_rfl) ?_
        repeat (go_big_quiet_step (first | (go_at_call 69; exact calmpb (s_in _ _ _ _) hin)))
        refine wpQuiet_nil ?_; intro uq zq; try simp at zq
        go_wp2_with fail
        go_ret
        exact ⟨ret_b (by rw [e.out]), (by refine Ext.bel ?_; repeat (with_reducible first | exact Ext.refl _ | apply Ext.alloc | apply Ext.aft | apply Ext.drew | apply Ext.drewN | apply Ext.setCell | exact Nat.le_add_right _ _ | exact Nat.le_refl _ | (simp; done) | omega))⟩
      · cases hct : (xs.take k).contains x
        · have HK := hid (noP_step HA.out (by rw [HN.out, hin, hct]; rfl))
          have HCT := hid hct
          clear hct
          go_wp2_with fail
          refine wp_region_calm (by kernel_rfl) (by kernel_rfl) ?_
          repeat (go_big_quiet_step (first | (go_at_call 69; exact calmpb (s_in _ _ _ _) hin) | (go_at_call 102; exact calmp (s_hasE _ (xs.take k) _ _ ((HT.out.aft _).aft _) HCT.out))))
          refine wpQuiet_nil ?_; intro uq zq; try simp at zq
          go_wp2_with fail
          go_roundw
          case rel => exact ⟨k + 1, _, (aft_of ((below_aft w uu).trans ((below_aft _ _).mono (size_aft w uu)))).symm, by omega, by go_num, HK⟩
          case measure => simp only [intOf]; omega
        · have e : Hid (P = false) := hid (by rw [HP.out]; exact noP_hit hlt (by rw [HN.out, hct]; simp))
          have HCT := hid hct
          clear hct
          go_wp2_with fail
          refine wp_region_calm (by kernel_rfl) (by kernel_rfl) ?_
          repeat (go_big_quiet_step (first | (go_at_call 69; exact calmpb (s_in _ _ _ _) hin) | (go_at_call 102; exact calmp (s_hasE _ (xs.take k) _ _ ((HT.out.aft _).aft _) HCT.out))))
          refine wpQuiet_nil ?_; intro uq zq; try simp at zq
          go_wp2_with fail
          go_ret
          exact ⟨ret_b (by rw [e.out]), (by refine Ext.bel ?_; repeat (with_reducible first | exact Ext.refl _ | apply Ext.alloc | apply Ext.aft | apply Ext.drew | apply Ext.drewN | apply Ext.setCell | exact Nat.le_add_right _ _ | exact Nat.le_refl _ | (simp; done) | omega))⟩
    · obtain rfl : k = xs.length := by omega
      have e : Hid (P = inB xs.length 1 6) := hid (by rw [HP.out]; exact noP_end HA.out)
      have hltz : ¬ (xs.length : Int) < (xs.length : Int) := by omega
      go_wp2_with (first | (go_at_call 69; refine pur (s_in _ _ _ _) ?_))
      go_ret
      exact ⟨ret_b (by rw [e.out]), (by refine Ext.bel ?_; repeat (with_reducible first | exact Ext.refl _ | apply Ext.alloc | apply Ext.aft | apply Ext.drew | apply Ext.drewN | apply Ext.setCell | exact Nat.le_add_right _ _ | exact Nat.le_refl _ | (simp; done) | omega))⟩
end Go.Proofs.Ytbkbcbanfnhjpaa
