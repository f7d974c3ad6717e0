/- The least primitive root of a small prime: both texts. -/
import Derived.Test.YtehdkbopkkgabaaT47
namespace Go.Proofs.Ytehdkbopkkgabaa
open Go Go.RowKit

/-- The least number whose order by p is p - 1. -/
def leastR (p r : Int) : Prop := 1 ≤ r ∧ r ≤ 7 ∧ r < p ∧ ordV p 1 r = p - 1 ∧ ∀ j : Nat, 1 ≤ j → (j : Int) < r → ordV p 1 j ≠ p - 1
theorem least_ex {p : Int} (hs : smallP p = true) : ∃ r, leastR p r := by
  obtain ⟨g, h1, h7, hgp, hg⟩ := root_ex hs
  have key : ∀ k : Nat, (∀ j : Nat, 1 ≤ j → j < k → ordV p 1 j ≠ p - 1) ∨ ∃ r : Nat, 1 ≤ r ∧ r < k ∧ ordV p 1 r = p - 1 ∧ ∀ j : Nat, 1 ≤ j → j < r → ordV p 1 j ≠ p - 1 := by
    intro k
    induction k with
    | zero => left; intro j h1 h2; omega
    | succ k ih =>
      rcases ih with ih | ⟨r, a, b, c, d⟩
      · by_cases h0 : 1 ≤ k
        · by_cases hk : ordV p 1 k = p - 1
          · exact .inr ⟨k, h0, by omega, hk, ih⟩
          · left
            intro j a b
            rcases Nat.lt_or_ge j k with h | h
            · exact ih j a h
            · obtain rfl : j = k := by omega
              exact hk
        · left; intro j a b; omega
      · exact .inr ⟨r, a, by omega, c, d⟩
  obtain ⟨G, rfl⟩ : ∃ G : Nat, g = (G : Int) := ⟨g.toNat, by omega⟩
  rcases key G with h | ⟨r, a, b, c, d⟩
  · exact ⟨G, by omega, h7, hgp, hg, fun j a b => h j a (by omega)⟩
  · exact ⟨r, by omega, by omega, by omega, c, fun j a b => d j a (by omega)⟩
open Classical in
noncomputable def rootF (p : Int) : Int := if h : ∃ r, leastR p r then h.choose else 0
theorem rootF_least {p : Int} (hs : smallP p = true) : leastR p (rootF p) := by
  have h := least_ex hs
  unfold rootF
  rw [dif_pos h]
  exact h.choose_spec
theorem ring1 {p : Int} (hs : smallP p = true) : ringB p 1 = true := by
  have hp := smallP_bd hs
  obtain ⟨P, rfl⟩ : ∃ P : Nat, p = (P : Int) := ⟨p.toNat, by omega⟩
  have h := (by decide +kernel : ∀ q : Fin 98, smallP (q.val : Int) = true → ringB (q.val : Int) 1 = true) ⟨P, by omega⟩
  exact h hs
noncomputable def rootpF (p : Int) : Int × Int := if smallP p = true then (rootF p, 0) else (0, 1)

theorem i_order1 {p : Int} (hs : smallP p = true) (a : Nat) (W : World) (ha : a ≤ 7) : Calls Try.prog 82 #[.agg #[.int .i64 p, .int .i64 1], .int .i64 a] W fun x w' => x = .returned (.int .i64 (ordV p 1 a)) ∧ Below W.heap.size W w' := by
  have := i_order p 1 a W (ring1 hs) (by omega)
  rw [ord_same (ring1 hs)] at this
  exact this
theorem s_order1 {p : Int} (hs : smallP p = true) (a : Nat) (W : World) (ha : a ≤ 7) : Calls Try.prog 72 #[.agg #[.int .i64 p, .int .i64 1], .int .i64 a] W fun x w' => x = .returned (.int .i64 (ordV p 1 a)) ∧ Below W.heap.size W w' := s_order p 1 a W (ring1 hs) (by omega)

set_option maxHeartbeats 1000000 in
theorem i_primitiveRoot (p : Int) (w : World) (hs : smallP p = true) :
    Calls Try.prog 70 #[.int .i64 p] w fun e w' => e = .returned (.int .i64 (rootF p)) ∧ Below w.heap.size w w' := by
  have hp := smallP_bd hs
  have HR := hid (rootF_least hs)
  have HO := hid (@i_order1 p hs)
  obtain ⟨g, hg⟩ : ∃ g, g = rootF p := ⟨_, rfl⟩
  rw [← hg] at HR ⊢
  clear hs hg
  go_enter Try.func70, Try.ntmps70
  go_wp2_with fail
  go_loopw [3] (fun i wr => ∃ k : Nat, i = .int .i64 k ∧ 1 ≤ k ∧ (k : Int) ≤ g ∧ Ext w.heap.size w wr) (fun i _ => 8 - (intOf i).toNat)
  case atStart => exact ⟨1, rfl, by omega, HR.out.1, Ext.refl _⟩
  case round =>
    obtain ⟨k, rfl, h1, hk, he⟩ := hrel
    have HE := hid he
    clear he
    obtain ⟨_, h7, _, _, _⟩ := HR.out
    by_cases hgk : (k : Int) = g
    · have hb : (ordV p 1 k != p - 1) = false := by have e := HR.out.2.2.2.1; rw [← hgk] at e; exact bne_eq_false_iff_eq.2 e
      have HK := hid hgk
      clear hgk
      go_wp2_with (go_at_call 82; refine via (HO.out k _ (by omega)) ?_; intro uu zz; try simp at zz)
      go_ret
      exact ⟨by rw [HK.out]; rfl, Ext.bel (HE.out.aft _)⟩
    · have hb : (ordV p 1 k != p - 1) = true := bne_iff_ne.2 (HR.out.2.2.2.2 k h1 (by omega))
      go_wp2_with (go_at_call 82; refine via (HO.out k _ (by omega)) ?_; intro uu zz; try simp at zz)
      go_roundw
      case rel => exact ⟨k + 1, by go_num, by omega, by omega, HE.out.aft _⟩
      case measure => simp [intOf]; omega

set_option maxHeartbeats 1000000 in
theorem i_PrimitiveRoot (p : Int) (w : World) :
    Calls Try.prog 11 #[.int .i64 p] w fun e w' => e = .returned (.tuple #[.int .i64 (rootpF p).1, .int .i64 (rootpF p).2]) ∧ Below w.heap.size w w' := by
  by_cases hs : smallP p = true
  · have e : rootpF p = (rootF p, 0) := by simp [rootpF, hs]
    rw [e]; clear e
    have HI := hid fun W => i_primitiveRoot p W hs
    obtain ⟨g, hg⟩ : ∃ g, g = rootF p := ⟨_, rfl⟩
    rw [← hg] at HI ⊢
    clear hg
    go_enter Try.func11, Try.ntmps11
    go_wp2_with (first | (go_at_call 69; refine pur (i_small _ _) ?_) | (go_at_call 70; refine via (HI.out _) ?_; intro uu zz; try simp at zz))
    go_ret2
    exact ⟨rfl, (by refine Ext.bel ?_; repeat (with_reducible first | exact Ext.refl _ | apply Ext.alloc | apply Ext.aft | apply Ext.drew | apply Ext.drewN | apply Ext.setCell | exact Nat.le_add_right _ _ | exact Nat.le_refl _ | (simp; done) | omega))⟩
  · have e : rootpF p = (0, 1) := by simp [rootpF, hs]
    rw [e]; clear e
    have hs' : smallP p = false := by simpa using hs
    clear hs
    go_enter Try.func11, Try.ntmps11
    go_wp2_with (first | (go_at_call 69; refine pur (i_small _ _) ?_))
    go_ret2
    exact ⟨rfl, (by refine Ext.bel ?_; repeat (with_reducible first | exact Ext.refl _ | apply Ext.alloc | apply Ext.aft | apply Ext.drew | apply Ext.drewN | apply Ext.setCell | exact Nat.le_add_right _ _ | exact Nat.le_refl _ | (simp; done) | omega))⟩

set_option maxHeartbeats 1000000 in
theorem s_PrimitiveRoot (p : Int) (w : World) :
    Calls Try.prog 12 #[.int .i64 p] w fun e w' => e = .returned (.tuple #[.int .i64 (rootpF p).1, .int .i64 (rootpF p).2]) ∧ Below w.heap.size w w' := by
  by_cases hs : smallP p = true
  · have e : rootpF p = (rootF p, 0) := by simp [rootpF, hs]
    rw [e]; clear e
    have hp := smallP_bd hs
    have HR := hid (rootF_least hs)
    have HO := hid (@s_order1 p hs)
    obtain ⟨g, hg⟩ : ∃ g, g = rootF p := ⟨_, rfl⟩
    rw [← hg] at HR ⊢
    clear hg
    go_enter Try.func12, Try.ntmps12
    go_wp2_with (go_at_call 71; refine pur (s_small _ _) ?_)
    go_loopw [4] (fun i wr => ∃ k : Nat, i = .int .i64 k ∧ 1 ≤ k ∧ (k : Int) ≤ g ∧ Ext w.heap.size w wr) (fun i _ => 8 - (intOf i).toNat)
    case atStart => exact ⟨1, rfl, by omega, HR.out.1, Ext.refl _⟩
    case round =>
      obtain ⟨k, rfl, h1, hk, he⟩ := hrel
      have HE := hid he
      clear he
      obtain ⟨_, h7, _, _, _⟩ := HR.out
      by_cases hgk : (k : Int) = g
      · have hb : (ordV p 1 k != p - 1) = false := by have e := HR.out.2.2.2.1; rw [← hgk] at e; exact bne_eq_false_iff_eq.2 e
        have HK := hid hgk
        clear hgk
        go_wp2_with (go_at_call 72; refine via (HO.out k _ (by omega)) ?_; intro uu zz; try simp at zz)
        go_ret2
        exact ⟨by rw [HK.out]; rfl, Ext.bel (HE.out.aft _)⟩
      · have hb : (ordV p 1 k != p - 1) = true := bne_iff_ne.2 (HR.out.2.2.2.2 k h1 (by omega))
        go_wp2_with (go_at_call 72; refine via (HO.out k _ (by omega)) ?_; intro uu zz; try simp at zz)
        go_roundw
        case rel => exact ⟨k + 1, by go_num, by omega, by omega, HE.out.aft _⟩
        case measure => simp [intOf]; omega
  · have e : rootpF p = (0, 1) := by simp [rootpF, hs]
    rw [e]; clear e
    have hs' : smallP p = false := by simpa using hs
    clear hs
    go_enter Try.func12, Try.ntmps12
    go_wp2_with (first | (go_at_call 71; refine pur (s_small _ _) ?_))
    go_ret2
    exact ⟨rfl, (by refine Ext.bel ?_; repeat (with_reducible first | exact Ext.refl _ | apply Ext.alloc | apply Ext.aft | apply Ext.drew | apply Ext.drewN | apply Ext.setCell | exact Nat.le_add_right _ _ | exact Nat.le_refl _ | (simp; done) | omega))⟩

/-- The order of the root. -/
theorem root_order {p : Int} (hs : smallP p = true) : ordpF p 1 (rootF p) = (p - 1, 0) := by
  have h := rootF_least hs
  have hp := smallP_bd hs
  have e : rootF p % p = rootF p := Int.emod_eq_of_lt (by have := h.1; omega) h.2.2.1
  have hu : unitF p 1 (rootF p) = 0 := by
    unfold unitF
    rw [if_pos (ring1 hs), if_pos (by rw [inB_iff]; have := h.1; have := h.2.2.1; have e1 : p ^ (1 : Int).toNat = p := Int.pow_one p; rw [e1]; omega), if_neg (by rw [e]; have := h.1; omega)]
  simp only [ordpF, hu, if_true]
  rw [h.2.2.2.1]
end Go.Proofs.Ytehdkbopkkgabaa
