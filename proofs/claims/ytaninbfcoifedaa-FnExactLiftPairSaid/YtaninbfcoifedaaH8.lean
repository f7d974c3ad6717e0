/- MultiplyInRing: both texts. -/
import Derived.Test.YtaninbfcoifedaaH7
import Derived.Test.YtaninbfcoifedaaH5
namespace Go.Proofs.Ytaninbfcoifedaa
open Go Go.RowKit

theorem trimN_congr {a b : List Int} : ∀ n : Nat, (∀ j, j < n → a.getD j 0 = b.getD j 0) → trimN a n = trimN b n := by
  intro n
  induction n with
  | zero => intro _; rfl
  | succ n ih =>
    intro h
    simp only [trimN]
    rw [h n (by omega), ih fun j hj => h j (by omega)]
theorem trimN_more (a : List Int) (n : Nat) (h : a.length ≤ n) : trimN a n = trimN a a.length := by
  induction n with
  | zero => rw [show a.length = 0 by omega]
  | succ n ih =>
    rcases Nat.lt_or_ge n a.length with h1 | h1
    · rw [show n + 1 = a.length by omega]
    · simp only [trimN]
      rw [List.getD_eq_getElem?_getD, List.getElem?_eq_none h1]
      simp only [Option.getD_none, if_true]
      exact ih h1
theorem trimN_zero (a : List Int) : ∀ n j : Nat, trimN a n ≤ j → j < n → a.getD j 0 = 0 := by
  intro n
  induction n with
  | zero => intro j _ h; omega
  | succ n ih =>
    intro j h1 h2
    simp only [trimN] at h1
    split at h1
    · rename_i h0
      rcases Nat.lt_or_ge j n with h3 | h3
      · exact ih j h1 h3
      · rw [show j = n by omega]; exact h0
    · omega
theorem trimF_congr {a b : List Int} (h : ∀ j, a.getD j 0 = b.getD j 0) : trimF a = trimF b := by
  have e : trimN a a.length = trimN b b.length := by
    rw [← trimN_more a (max a.length b.length) (by omega), ← trimN_more b (max a.length b.length) (by omega)]
    exact trimN_congr _ fun j _ => h j
  unfold trimF
  have ha := trimN_le a a.length
  have hb := trimN_le b b.length
  rw [← e]
  apply List.ext_getElem
  · simp; omega
  · intro i h1 h2
    simp only [List.getElem_take]
    have hi1 : i < a.length := by simp at h1; omega
    have hi2 : i < b.length := by simp at h2; omega
    rw [← getD_lt hi1, ← getD_lt hi2, h i]
theorem trimF_getD (a : List Int) (j : Nat) : (trimF a).getD j 0 = a.getD j 0 := by
  unfold trimF
  rw [List.getD_eq_getElem?_getD, List.getElem?_take]
  split
  · rw [List.getD_eq_getElem?_getD]
  · rename_i h
    rcases Nat.lt_or_ge j a.length with h1 | h1
    · rw [trimN_zero a a.length j (by omega) h1]; rfl
    · rw [List.getD_eq_getElem?_getD, List.getElem?_eq_none h1]
/-- A product in a ring. -/
def mulR (m : Int) (xs ys : List Int) : List Int := if xs = [] ∨ ys = [] then [] else trimF (modL m (prodS xs ys xs.length))
theorem redF_prod (m : Int) (xs ys : List Int) : redF m (prodF xs ys) = mulR m xs ys := by
  unfold prodF mulR
  split
  · rfl
  · unfold redF
    refine trimF_congr fun j => ?_
    have h1 := modL_getD (m := m) (xs := trimF (prodS xs ys xs.length)) j
    have h2 := modL_getD (m := m) (xs := prodS xs ys xs.length) j
    rw [h2, ← trimF_getD (prodS xs ys xs.length) j]
    exact h1
theorem mulR_len (m : Int) (xs ys : List Int) : (mulR m xs ys).length ≤ xs.length + ys.length := by
  unfold mulR
  split
  · simp
  · have := trimF_len (modL m (prodS xs ys xs.length))
    rw [modL_len, prodS_len] at this
    omega
theorem prodF_len (xs ys : List Int) : (prodF xs ys).length ≤ xs.length + ys.length := by
  unfold prodF
  split
  · simp
  · have := trimF_len (prodS xs ys xs.length)
    rw [prodS_len] at this
    omega
theorem ring_prods {M : Int} {xs ys : List Int} (hM : 1 ≤ M ∧ M ≤ 1000000000) (h1 : ∀ c ∈ xs, 0 ≤ c ∧ c ≤ M - 1) (h2 : ∀ c ∈ ys, 0 ≤ c ∧ c ≤ M - 1) : ∀ c ∈ xs, ∀ d ∈ ys, 0 ≤ c * d ∧ c * d ≤ 1000000000000000000 := by
  intro c hc d hd
  have a := h1 c hc
  have b := h2 d hd
  have e := Int.mul_nonneg a.1 b.1
  have f : c * d ≤ 1000000000 * 1000000000 := Int.mul_le_mul (by omega) (by omega) b.1 (by omega)
  omega

def multiplyInRingF (p n : Int) (xs ys : List Int) : List Int × Int :=
  if inRingB p n xs = true ∧ inRingB p n ys = true then (if (mulR (p ^ n.toNat) xs ys).length ≤ 9 then (mulR (p ^ n.toNat) xs ys, 0) else ([], 3)) else ([], 1)
theorem inRing_M {p n : Int} {xs : List Int} (h : inRingB p n xs = true) : (2 ≤ p ∧ p ≤ 97) ∧ (1 ≤ n ∧ n ≤ 40) ∧ 1 ≤ p ^ n.toNat ∧ p ^ n.toNat ≤ 1000000000 := by
  have a := ringB_iff.1 (inRing_facts h).1
  have hp := smallP_bd a.1
  exact ⟨hp, ⟨a.2.1, a.2.2.1⟩, pow_pos' (show 1 ≤ p by omega) n.toNat, a.2.2.2⟩

set_option maxHeartbeats 2000000 in
theorem i_timesIn (p n : Int) (r1 r2 : Value) (xs ys : List Int) (w : World) (h1 : rdI w r1 xs) (h2 : rdI w r2 ys) (hx : inRingB p n xs = true) (hy : inRingB p n ys = true) :
    Calls Try.prog 28 #[(.agg #[.int .i64 p, .int .i64 n]), r1, r2] w fun e w' => ∃ v, e = .returned v ∧ ownR w.heap.size w' v (mulR (p ^ n.toNat) xs ys) ∧ Below w.heap.size w w' := by
  obtain ⟨hp, hn, hM⟩ := inRing_M hx
  have fx := inRing_facts hx
  have fy := inRing_facts hy
  have H1 := hid fx.1
  have Hc := hid (ring_prods hM fx.2.2.1 fy.2.2.1)
  have hl1 : xs.length ≤ 9 := fx.2.1
  have hl2 : ys.length ≤ 1000 := by have := fy.2.1; omega
  have hl3 : (prodF xs ys).length ≤ 1000000 := by have := prodF_len xs ys; omega
  have Hm := hid hM
  rw [← redF_prod]
  clear fx fy hM hx hy
  go_enter Try.func28, Try.ntmps28
  go_wp2_with (first | (go_at_call 49; refine via (i_modulus _ _ _ H1.out) ?_; intro uu zz; try simp at zz) | (go_at_call 52; refine viaI (g := id) (i_product _ _ _ _ _ (by repeat (with_reducible first | assumption | apply rdI.aft | apply rdI.alloc | apply rdI.drew | apply rdI.drewN)) (by repeat (with_reducible first | assumption | apply rdI.aft | apply rdI.alloc | apply rdI.drew | apply rdI.drewN)) hl1 hl2 Hc.out) ?_; intro rr ur zr hown; (try simp at zr)))
  refine viaI (g := id) (i_reduce _ _ _ _ hown.rd Hm.out hl3) ?_
  intro rq uq zq hown2; (try simp at zq)
  go_wp2_with fail
  go_ret
  exact ⟨_, rfl, hown2.mono (by first | omega | (simp; omega)), (by refine Ext.bel ?_; repeat (with_reducible first | exact Ext.refl _ | apply Ext.alloc | apply Ext.aft | apply Ext.drew | apply Ext.drewN | apply Ext.setCell | exact Nat.le_add_right _ _ | exact Nat.le_refl _ | (simp; done) | omega))⟩

theorem own_len {B : Nat} {w : World} {v : Value} {xs : List Int} (h : ownR B w v xs) : ∃ a cap, v = .slice a xs.length cap := by
  obtain ⟨a, cap, e, _, _⟩ := h.rd
  exact ⟨a, cap, e⟩

set_option maxHeartbeats 4000000 in
theorem i_MultiplyInRing (p n : Int) (r1 r2 : Value) (xs ys : List Int) (w : World) (h1 : rdI w r1 xs) (h2 : rdI w r2 ys) :
    Calls Try.prog 17 #[(.agg #[.int .i64 p, .int .i64 n]), r1, r2] w fun e w' => ∃ v, e = .returned (.tuple #[v, .int .i64 (multiplyInRingF p n xs ys).2]) ∧ ownR w.heap.size w' v (multiplyInRingF p n xs ys).1 ∧ Below w.heap.size w w' := by
  cases hx : inRingB p n xs
  · have e : multiplyInRingF p n xs ys = ([], 1) := by unfold multiplyInRingF; rw [if_neg (by simp [hx])]
    rw [e]; clear e
    go_enter Try.func17, Try.ntmps17
    go_wp2_with (go_at_call 27; refine via (i_IsInRing _ _ r1 xs _ (by repeat (with_reducible first | assumption | apply rdI.aft | apply rdI.alloc | apply rdI.drew | apply rdI.drewN))) ?_; intro uu zz; try simp at zz)
    go_ret2
    exact ⟨.slice none 0 0, rfl, ownR.nil _ _, (by refine Ext.bel ?_; repeat (with_reducible first | exact Ext.refl _ | apply Ext.alloc | apply Ext.aft | apply Ext.drew | apply Ext.drewN | apply Ext.setCell | exact Nat.le_add_right _ _ | exact Nat.le_refl _ | (simp; done) | omega))⟩
  cases hy : inRingB p n ys
  · have e : multiplyInRingF p n xs ys = ([], 1) := by unfold multiplyInRingF; rw [if_neg (by simp [hy])]
    rw [e]; clear e
    go_enter Try.func17, Try.ntmps17
    go_wp2_with fail
    refine via (i_IsInRing _ _ r1 xs _ (by repeat (with_reducible first | assumption | apply rdI.aft | apply rdI.alloc | apply rdI.drew | apply rdI.drewN))) ?_
    intro uu zz; try simp at zz
    go_wp2_with fail
    refine via (i_IsInRing _ _ r2 ys _ (by repeat (with_reducible first | assumption | apply rdI.aft | apply rdI.alloc | apply rdI.drew | apply rdI.drewN))) ?_
    intro uu zz; try simp at zz
    go_wp2_with fail
    go_ret2
    exact ⟨.slice none 0 0, rfl, ownR.nil _ _, (by refine Ext.bel ?_; repeat (with_reducible first | exact Ext.refl _ | apply Ext.alloc | apply Ext.aft | apply Ext.drew | apply Ext.drewN | apply Ext.setCell | exact Nat.le_add_right _ _ | exact Nat.le_refl _ | (simp; done) | omega))⟩
  have Hx := hid hx
  have Hy := hid hy
  obtain ⟨R, hR⟩ : ∃ R, R = mulR (p ^ n.toNat) xs ys := ⟨_, rfl⟩
  have e0 : multiplyInRingF p n xs ys = if R.length ≤ 9 then (R, 0) else ([], 3) := by unfold multiplyInRingF; rw [if_pos ⟨hx, hy⟩, hR]
  rw [e0]; clear e0
  have hlR : R.length ≤ 1000 := by have := mulR_len (p ^ n.toNat) xs ys; have := (inRing_facts hx).2.1; have := (inRing_facts hy).2.1; rw [hR]; omega
  have HR := hid hR.symm
  clear hR
  by_cases hl : R.length ≤ 9
  all_goals
    first | rw [if_pos hl] | rw [if_neg hl]
    have hlz : ((R.length : Int) ≤ 9) = (R.length ≤ 9) := by simp; omega
    go_enter Try.func17, Try.ntmps17
    go_wp2_with fail
    refine via (i_IsInRing _ _ r1 xs _ (by repeat (with_reducible first | assumption | apply rdI.aft | apply rdI.alloc | apply rdI.drew | apply rdI.drewN))) ?_
    intro uu zz; try simp at zz
    go_wp2_with fail
    refine via (i_IsInRing _ _ r2 ys _ (by repeat (with_reducible first | assumption | apply rdI.aft | apply rdI.alloc | apply rdI.drew | apply rdI.drewN))) ?_
    intro uu zz; try simp at zz
    go_wp2_with fail
    refine viaE (g := id) (i_timesIn _ _ _ _ xs ys _ (by repeat (with_reducible first | assumption | apply rdI.aft | apply rdI.alloc | apply rdI.drew | apply rdI.drewN)) (by repeat (with_reducible first | assumption | apply rdI.aft | apply rdI.alloc | apply rdI.drew | apply rdI.drewN)) Hx.out Hy.out) HR.out ?_
    intro rr ur zr hown
    try simp at zr
    obtain ⟨ar, cr, hrr⟩ := own_len hown
    subst hrr
    go_wp2_with fail
    go_ret2
    first
      | exact ⟨_, rfl, hown.mono (by first | omega | (simp; omega)), (by refine Ext.bel ?_; repeat (with_reducible first | exact Ext.refl _ | apply Ext.alloc | apply Ext.aft | apply Ext.drew | apply Ext.drewN | apply Ext.setCell | exact Nat.le_add_right _ _ | exact Nat.le_refl _ | (simp; done) | omega))⟩
      | exact ⟨.slice none 0 0, rfl, ownR.nil _ _, (by refine Ext.bel ?_; repeat (with_reducible first | exact Ext.refl _ | apply Ext.alloc | apply Ext.aft | apply Ext.drew | apply Ext.drewN | apply Ext.setCell | exact Nat.le_add_right _ _ | exact Nat.le_refl _ | (simp; done) | omega))⟩

end Go.Proofs.Ytaninbfcoifedaa
