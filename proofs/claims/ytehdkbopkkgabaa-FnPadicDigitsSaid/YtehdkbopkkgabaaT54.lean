/- likeInts and sum of the laws; plain: digits and shifts there and back. -/
import Derived.Test.YtehdkbopkkgabaaT56
import Derived.Test.YtehdkbopkkgabaaC7
import Derived.Test.YtehdkbopkkgabaaF2
import Derived.Test.YtehdkbopkkgabaaM5
namespace Go.Proofs.Ytehdkbopkkgabaa
open Go Go.RowKit

set_option maxHeartbeats 1000000 in
theorem l_like (r1 r2 : Value) (xs : List Int) (w : World) (h : rdI w r1 xs) (h' : rdI w r2 xs) :
    Calls Try.prog 32 #[r1, r2] w fun e w' => e = .returned (.bool true) ∧ Below w.heap.size w w' := by
  obtain ⟨a, cap, rfl, hm, hc⟩ := h
  obtain ⟨a', cap', rfl, hm', hc'⟩ := h'
  have Hc := hid hc
  have Hc' := hid hc'
  unfold maxLen at hm
  clear hc hc' hm'
  go_enter Try.func32, Try.ntmps32
  go_wp2_with fail
  go_loopw [5] (fun i wr => ∃ (k : Nat) (uu : World), wr = aft w uu ∧ k ≤ xs.length ∧ i = .int .i64 k) (fun i _ => xs.length - (intOf i).toNat)
  case atStart => exact ⟨0, w, (aft_of (Below.refl _ _)).symm, by omega, rfl⟩
  case round =>
    obtain ⟨k, uu, rfl, hk, rfl⟩ := hrel
    by_cases hlt : k < xs.length
    · obtain ⟨b, o, rfl, hcell⟩ := Hc.out (by intro e; subst e; simp at hlt)
      obtain ⟨b', o', rfl, hcell'⟩ := Hc'.out (by intro e; subst e; simp at hlt)
      have h1 := hcell k hlt
      have h2 := hcell' k hlt
      have h3 := World.block_lt_of_cell? w _ h1
      have h4 := World.block_lt_of_cell? w _ h2
      obtain ⟨x, hx⟩ : ∃ x, x = xs[k] := ⟨_, rfl⟩
      rw [← hx] at h1 h2
      have hz : ((k : Int) : Int) < (xs.length : Int) := by omega
      have hz0 : (0 : Int) ≤ (k : Int) := by omega
      have zs := size_aft w uu
      clear hx hcell hcell'
      go_wp2_with fail
      refine wp_region_calm (by kernel_rfl) (by kernel_rfl) ?_
      repeat (go_big_quiet_step (fail))
      refine wpQuiet_nil ?_; intro uq zq; try simp at zq
      go_wp2_with fail
      go_roundw
      case rel => exact ⟨k + 1, _, (aft_of ((below_aft w uu).trans ((below_aft _ _).mono (size_aft w uu)))).symm, by omega, by go_num⟩
      case measure => simp [intOf]; omega
    · obtain rfl : k = xs.length := by omega
      go_wp2
      go_ret
      exact ⟨rfl, (by refine Ext.bel ?_; repeat (with_reducible first | exact Ext.refl _ | apply Ext.alloc | apply Ext.aft | apply Ext.drew | apply Ext.drewN | apply Ext.setCell | exact Nat.le_add_right _ _ | exact Nat.le_refl _ | (simp; done) | omega))⟩
set_option maxHeartbeats 1000000 in
theorem l_sum (r : Value) (xs : List Int) (w : World) (h : rdI w r xs) (hx : ∀ x ∈ xs, 0 ≤ x ∧ x ≤ 1000) (hl : xs.length ≤ 40) (hs : ∀ k, 0 ≤ lsum (xs.take k) ∧ lsum (xs.take k) ≤ 1000000000) :
    Calls Try.prog 33 #[r] w fun e w' => e = .returned (.int .i64 (lsum xs)) ∧ w = w' := by
  obtain ⟨a, cap, rfl, hm, hc⟩ := h
  have Hc := hid hc
  have Hs := hid hs
  have Hx := hid hx
  clear hc hs hx
  go_enter Try.func33, Try.ntmps33
  go_wp2_with fail
  go_loop [3, 4] (fun s i => ∃ k : Nat, k ≤ xs.length ∧ i = .int .i64 k ∧ s = .int .i64 (lsum (xs.take k))) (fun _ i => xs.length - (intOf i).toNat)
  case atStart => exact ⟨0, by omega, rfl, by simp [lsum]⟩
  case round =>
    obtain ⟨k, hk, rfl, rfl⟩ := hrel
    by_cases hlt : k < xs.length
    · obtain ⟨b, o, rfl, hcell⟩ := Hc.out (by intro e; subst e; simp at hlt)
      have h1 := hcell k hlt
      have h2 := Hs.out k
      have h3 := Hx.out xs[k] (List.getElem_mem hlt)
      obtain ⟨x, hx⟩ : ∃ x, x = xs[k] := ⟨_, rfl⟩
      rw [← hx] at h1 h3
      have HX := hid hx
      clear hx hcell
      go_wp2
      go_round
      case rel => exact ⟨k + 1, by omega, by go_num, by rw [lsum_take hlt, ← HX.out]⟩
      case measure => simp [intOf]; omega
    · obtain rfl : k = xs.length := by omega
      go_wp2
      go_ret
      exact ⟨by simp, rfl⟩

theorem shift_back {p v u n k : Int} {s : Pd} (h : shiftF ⟨p, v, u, n⟩ k = (s, 0)) : (-60 ≤ k ∧ k ≤ 60) ∧ shiftF s (-k) = (⟨p, v, u, n⟩, 0) := by
  unfold shiftF at h
  split at h
  · rename_i h1
    split at h
    · rename_i h2
      unfold limF at h
      split at h
      · rename_i h3
        injection h with h4 h5
        subst h4
        have hk := inB_iff.1 h2
        refine ⟨hk, ?_⟩
        simp only at h1 h3
        have e1 : v + k + -k = v := by omega
        have e2 : inB (-k) (-60) 60 = true := inB_iff.2 (by omega)
        simp only [shiftF, h3, if_true, e2, limF, e1, h1]
      · injection h with h4 h5; omega
    · injection h with h4 h5; omega
  · injection h with h4 h5; omega

theorem digits_back {p v u n : Int} (h : padicB p v u n = true) : fdF p v (digs p u n.toNat) = (⟨p, v, u, n⟩, 0) := by
  obtain ⟨hp, hv, hu, hn, hb⟩ := padic_facts h
  have hs := padicB_place h
  have hd : (digs p u n.toNat).any (noDigit p) = false := by
    rw [List.any_eq_false]
    intro x hx
    simp only [digs, List.mem_map] at hx
    obtain ⟨i, _, rfl⟩ := hx
    have := digF_bd (u := u) (i := i) hp.1
    simp [noDigit, inB_iff]
    omega
  have hr : digs p u n.toNat = [] ∨ ringB p (digs p u n.toNat).length = true := by
    by_cases h0 : n = 0
    · left; subst h0; rfl
    · right
      rw [digs_len, show ((n.toNat : Nat) : Int) = n by omega]
      rw [padicB_alt hs.1 (inB_iff.2 hv) h0] at h
      simp only [Bool.and_eq_true] at h
      exact h.1.1
  have e : dval p (digs p u n.toNat) = u % p ^ n.toNat := by
    have := dval_digs (u := u) hp.1 (s := 0) (k := n.toNat)
    simpa using this
  have hk : knownF p v (dval p (digs p u n.toNat)) (digs p u n.toNat).length = ⟨p, v, u, n⟩ := by
    rw [e, digs_len, show ((n.toNat : Nat) : Int) = n by omega]
    by_cases h0 : n = 0
    · subst h0
      have hu0 : u = 0 := by
        simp only [padicB, Bool.and_eq_true] at h
        have := h.2
        simpa using this
      subst hu0
      simp [knownF]
    · have h2 := h
      rw [padicB_alt hs.1 (inB_iff.2 hv) h0] at h2
      simp only [Bool.and_eq_true, bne_iff_ne] at h2
      have hu2 := inB_iff.1 h2.1.2
      have e2 : u % p ^ n.toNat = u := Int.emod_eq_of_lt (by omega) (by omega)
      rw [e2]
      unfold knownF
      rw [if_neg (by omega), vl_unit hp.1 h2.2]
      simp
  unfold fdF
  rw [if_pos hs.1, if_pos ⟨inB_iff.2 hv, hd⟩, if_pos hr, hk]
  unfold limF
  rw [if_pos h]
theorem digits_ok {p v u n : Int} (h : (digitsF p v u n).2 = 0) : padicB p v u n = true := by
  unfold digitsF at h
  split at h
  · assumption
  · exact absurd h (by simp)
end Go.Proofs.Ytehdkbopkkgabaa
