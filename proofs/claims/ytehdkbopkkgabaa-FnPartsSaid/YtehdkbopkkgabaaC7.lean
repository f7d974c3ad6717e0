/- SumOfDigits and DigitsOf: the program's text; the laws. -/
import Derived.Test.YtehdkbopkkgabaaC6
namespace Go.Proofs.Ytehdkbopkkgabaa
open Go Go.RowKit


set_option maxHeartbeats 1000000 in
theorem i_SumOfDigits (p v u n : Int) (w : World) :
    Calls Try.prog 30 #[(.agg #[.int .i64 p, .int .i64 v, .int .i64 u, .int .i64 n])] w fun e w' => e = .returned (.tuple #[.int .i64 (dsumF p v u n).1, .int .i64 (dsumF p v u n).2]) ∧ Below w.heap.size w w' := by
  cases h : padicB p v u n
  · have e : dsumF p v u n = (0, 1) := by simp [dsumF, h]
    rw [e]; clear e
    go_enter Try.func30, Try.ntmps30
    go_wp2_with (go_at_call 62; refine via (i_IsPadic _ _ _ _ _) ?_; intro uu zz; try simp at zz)
    go_ret2
    exact ⟨rfl, (by refine Ext.bel ?_; repeat (with_reducible first | exact Ext.refl _ | apply Ext.alloc | apply Ext.aft | apply Ext.drew | apply Ext.drewN | apply Ext.setCell | exact Nat.le_add_right _ _ | exact Nat.le_refl _ | (simp; done) | omega))⟩
  · have e : dsumF p v u n = (lsum (digs p u n.toNat), 0) := by simp [dsumF, h]
    rw [e]; clear e
    obtain ⟨hp, hv, hu, hn, hb⟩ := padic_facts h
    have hl : (digs p u n.toNat).length ≤ 1000 := by rw [digs_len]; omega
    have Hx := hid (digs_mem (u := u) (k := n.toNat) hp)
    have Hs := hid (lsum_take_bd (digs_mem (u := u) (k := n.toNat) hp) hl)
    have Hb := hid hb
    obtain ⟨xs, hxs⟩ : ∃ xs, xs = digs p u n.toNat := ⟨_, rfl⟩
    rw [← hxs] at Hx Hs hl ⊢
    have HX := hid hxs
    clear hb hxs
    go_enter Try.func30, Try.ntmps30
    go_wp2_with (go_at_call 62; refine via (i_IsPadic _ _ _ _ _) ?_; intro uu zz; try simp at zz)
    refine viaE (g := id) (i_digits _ _ _ _ _ hp hv hu hn Hb.out) HX.out.symm ?_
    intro r ur zr hown
    try simp at zr
    obtain ⟨a, cap, hr, hm, hc⟩ := hown.rd
    rw [hr]
    have Hc := hid hc
    clear hc hown hm hr hu hv hn hp
    go_wp2_with fail
    go_loop [4, 6, 13] (fun s _ i => ∃ k : Nat, k ≤ xs.length ∧ i = .int .i64 k ∧ s = .int .i64 (lsum (xs.take k))) (fun _ _ i => xs.length - (intOf i).toNat)
    case atStart => exact ⟨0, by omega, rfl, by simp [lsum]⟩
    case round =>
      obtain ⟨k, hk, rfl, rfl⟩ := hrel
      by_cases hlt : k < xs.length
      · obtain ⟨b, o, rfl, hcell⟩ := Hc.out (by intro e; subst e; simp at hlt)
        have h1 := hcell k hlt
        have h2 := Hs.out k
        have h3 := Hx.out xs[k] (List.getElem_mem hlt)
        obtain ⟨x, hx⟩ : ∃ x, x = xs[k] := ⟨_, rfl⟩
        rw [← hx] at h1 h3
        have HX := hid hx
        clear hx hcell
        go_wp2
        go_round
        case rel => exact ⟨k + 1, by omega, by go_num, by rw [lsum_take hlt, ← HX.out]⟩
        case measure => simp [intOf]; omega
      · obtain rfl : k = xs.length := by omega
        go_wp2
        go_ret2
        exact ⟨by simp, (by refine Ext.bel ?_; repeat (with_reducible first | exact Ext.refl _ | apply Ext.alloc | apply Ext.aft | apply Ext.drew | apply Ext.drewN | apply Ext.setCell | exact Nat.le_add_right _ _ | exact Nat.le_refl _ | (simp; done) | omega))⟩

def digitsF (p v u n : Int) : List Int × Int := if padicB p v u n = true then (digs p u n.toNat, 0) else ([], 1)

set_option maxHeartbeats 1000000 in
theorem i_DigitsOf (p v u n : Int) (w : World) :
    Calls Try.prog 21 #[(.agg #[.int .i64 p, .int .i64 v, .int .i64 u, .int .i64 n])] w fun e w' => ∃ r, e = .returned (.tuple #[r, .int .i64 (digitsF p v u n).2]) ∧ ownR w.heap.size w' r (digitsF p v u n).1 ∧ Below w.heap.size w w' := by
  cases h : padicB p v u n
  · have e : digitsF p v u n = ([], 1) := by simp [digitsF, h]
    rw [e]; clear e
    go_enter Try.func21, Try.ntmps21
    go_wp2_with (go_at_call 62; refine via (i_IsPadic _ _ _ _ _) ?_; intro uu zz; try simp at zz)
    go_ret2
    exact ⟨.slice none 0 0, rfl, ownR.nil _ _, (by refine Ext.bel ?_; repeat (with_reducible first | exact Ext.refl _ | apply Ext.alloc | apply Ext.aft | apply Ext.drew | apply Ext.drewN | apply Ext.setCell | exact Nat.le_add_right _ _ | exact Nat.le_refl _ | (simp; done) | omega))⟩
  · have e : digitsF p v u n = (digs p u n.toNat, 0) := by simp [digitsF, h]
    rw [e]; clear e
    obtain ⟨hp, hv, hu, hn, hb⟩ := padic_facts h
    have Hb := hid hb
    clear hb
    go_enter Try.func21, Try.ntmps21
    go_wp2_with (first | (go_at_call 62; refine via (i_IsPadic _ _ _ _ _) ?_; intro uu zz; try simp at zz) | (go_at_call 84; refine viaI (g := id) (i_digits _ _ _ _ _ hp hv hu hn Hb.out) ?_; intro r ur zr hown; try simp at zr))
    go_ret2
    exact ⟨_, rfl, hown.mono (by first | omega | (simp; omega)), (by refine Ext.bel ?_; repeat (with_reducible first | exact Ext.refl _ | apply Ext.alloc | apply Ext.aft | apply Ext.drew | apply Ext.drewN | apply Ext.setCell | exact Nat.le_add_right _ _ | exact Nat.le_refl _ | (simp; done) | omega))⟩
set_option maxHeartbeats 1000000 in
theorem s_DigitsOf (p v u n : Int) (w : World) :
    Calls Try.prog 22 #[(.agg #[.int .i64 p, .int .i64 v, .int .i64 u, .int .i64 n])] w fun e w' => ∃ r, e = .returned (.tuple #[r, .int .i64 (digitsF p v u n).2]) ∧ ownR w.heap.size w' r (digitsF p v u n).1 ∧ Below w.heap.size w w' := by
  cases h : padicB p v u n
  · have e : digitsF p v u n = ([], 1) := by simp [digitsF, h]
    rw [e]; clear e
    go_enter Try.func22, Try.ntmps22
    go_wp2_with (go_at_call 85; refine via (s_IsPadic _ _ _ _ _) ?_; intro uu zz; try simp at zz)
    go_ret2
    exact ⟨.slice none 0 0, rfl, ownR.nil _ _, (by refine Ext.bel ?_; repeat (with_reducible first | exact Ext.refl _ | apply Ext.alloc | apply Ext.aft | apply Ext.drew | apply Ext.drewN | apply Ext.setCell | exact Nat.le_add_right _ _ | exact Nat.le_refl _ | (simp; done) | omega))⟩
  · have e : digitsF p v u n = (digs p u n.toNat, 0) := by simp [digitsF, h]
    rw [e]; clear e
    obtain ⟨hp, hv, hu, hn, hb⟩ := padic_facts h
    have Hb := hid hb
    clear hb
    go_enter Try.func22, Try.ntmps22
    go_wp2_with (first | (go_at_call 85; refine via (s_IsPadic _ _ _ _ _) ?_; intro uu zz; try simp at zz) | (go_at_call 86; refine viaI (g := id) (s_digits _ _ _ _ _ hp hv hu hn Hb.out) ?_; intro r ur zr hown; try simp at zr))
    go_ret2
    exact ⟨_, rfl, hown.mono (by first | omega | (simp; omega)), (by refine Ext.bel ?_; repeat (with_reducible first | exact Ext.refl _ | apply Ext.alloc | apply Ext.aft | apply Ext.drew | apply Ext.drewN | apply Ext.setCell | exact Nat.le_add_right _ _ | exact Nat.le_refl _ | (simp; done) | omega))⟩

end Go.Proofs.Ytehdkbopkkgabaa
