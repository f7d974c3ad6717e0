/- Plain: the product of the lifts is the polynomial. -/
import Derived.Test.YtflmoopiajhadaaLE
namespace Go.Proofs.Ytflmoopiajhadaa
open Go Go.RowKit

theorem step_rem {p : Int} {c h g : List Int} (hs : smallP p = true) (hg : isMod p g) (hh : isMod p h) (hlg : 2 ≤ g.length) (hc : cop p g h) :
    remP p (redF p (addK (-1) c (timesP p (stX p c (invP p h g) g) h))) g = [] ∧ ∀ j, (co (redF p (addK (-1) c (timesP p (stX p c (invP p h g) g) h))) j - (co c j - cv (co (stX p c (invP p h g) g)) (co h) j)) % p = 0 := by
  have hp := smallP_bd hs
  obtain ⟨X, hX⟩ : ∃ X, X = stX p c (invP p h g) g := ⟨_, rfl⟩
  have hX2 : mg p (co g) (fun j => cv (co X) (co h) j - co c j) := by rw [hX]; exact (step_cong hs hg hh hlg hc).2
  rw [← hX]
  obtain ⟨W, hW⟩ : ∃ W, W = redF p (addK (-1) c (timesP p X h)) := ⟨_, rfl⟩
  have hWm : isMod p W := by rw [hW]; exact isMod_red (by omega) _
  have hWc : ∀ j, (co W j - (co c j - cv (co X) (co h) j)) % p = 0 := fun j => by
    rw [hW, co_red, co_add, co_times]
    refine mod_eq0 ?_
    rw [Int.emod_emod]
    refine mod_of0 ?_
    have := mod_self0 (cv (co X) (co h) j) p
    rw [show co c j + -1 * (cv (co X) (co h) j % p) - (co c j - cv (co X) (co h) j) = cv (co X) (co h) j - cv (co X) (co h) j % p by omega]
    exact this
  rw [← hW]
  refine ⟨?_, hWc⟩
  have e1 : mg p (co g) (co W) := (cong_sym hX2).of fun j => by
    have := hWc j
    rw [show co c j - cv (co X) (co h) j - co W j = -(co W j - (co c j - cv (co X) (co h) j)) by omega]
    exact neg0 this
  have hr := rem_len hs hWm.1 hg (by omega)
  refine small_eq (N := g.length - 1) hs hg (by omega) (isMod_rem hs hWm.1) (isMod_nil p) ((dg_list p _).mono (by omega)) ((dg_list p _).mono (by simp)) (by omega) ?_
  exact (e1.sub (rem_mg (p := p) (f := W) (g := g) (by omega))).eq fun j => by simp [co_nil]; omega
/-- What a step adds solves its equation. -/
theorem step_sum {p : Int} {c h g : List Int} (hs : smallP p = true) (hg : isMod p g) (hh : isMod p h) (hlg : 2 ≤ g.length) (hlh : 2 ≤ h.length) (hc : cop p g h) (hcl : c.length + 2 ≤ g.length + h.length) (j : Nat) :
    (co c j - (cv (co (stX p c (invP p h g) g)) (co h) j + cv (co (stX p c (invP p g h) h)) (co g) j)) % p = 0 := by
  have h2 := step_two hs hg hh hlg hlh hc hcl
  obtain ⟨h0, hWc⟩ := step_rem (c := c) hs hg hh hlg hc
  have hd := div_eq (p := p) (f := redF p (addK (-1) c (timesP p (stX p c (invP p h g) g) h))) (g := g) (by omega) j
  rw [h2, h0] at hd
  have := mod_sub0 hd (hWc j)
  rw [show co (redF p (addK (-1) c (timesP p (stX p c (invP p h g) g) h))) j - (co [] j + cv (co (stX p c (invP p g h) h)) (co g) j) - (co (redF p (addK (-1) c (timesP p (stX p c (invP p h g) g) h))) j - (co c j - cv (co (stX p c (invP p h g) g)) (co h) j)) = co c j - (cv (co (stX p c (invP p h g) g)) (co h) j + cv (co (stX p c (invP p g h) h)) (co g) j) by rw [co_nil]; omega] at this
  exact this
theorem cv_mod2 {n : Int} {x x' y y' : Nat → Int} (hx : ∀ i, (x i - x' i) % n = 0) (hy : ∀ i, (y i - y' i) % n = 0) (j : Nat) : (cv x y j - cv x' y' j) % n = 0 := by
  have h1 := cv_modL (h := y) hx j
  have h2 := cv_modL (h := x') hy j
  rw [cv_comm y, cv_comm y'] at h2
  have := mod_add0 h1 h2
  rwa [show cv x y j - cv x' y j + (cv x' y j - cv x' y' j) = cv x y j - cv x' y' j by omega] at this
theorem mod_up {n m a : Int} (h : a % m = 0) (hn : m % n = 0) : a % n = 0 := by
  have h1 := Int.dvd_of_emod_eq_zero h
  have h2 := Int.dvd_of_emod_eq_zero hn
  exact Int.emod_eq_zero_of_dvd (Int.dvd_trans h2 h1)
theorem mul_up {q p a : Int} (h : a % p = 0) : q * a % (q * p) = 0 := by
  obtain ⟨t, rfl⟩ := Int.dvd_of_emod_eq_zero h
  exact Int.emod_eq_zero_of_dvd ⟨t, by grind⟩
/-- Hensel's step. -/
theorem hensel {p m q : Int} {f g h a b : List Int} (k : pairG p m f g h) (ka : lif p m g a) (kb : lif p m h b) (hq0 : 1 ≤ q) (hqp : q % p = 0) (hqm : m % (q * p) = 0)
    (hf : ∀ j, (co f j - cv (co a) (co b) j) % q = 0) (j : Nat) :
    (co f j - cv (co (redF m (addK q a (stX p (misP p m q f a b) (invP p h g) g)))) (co (redF m (addK q b (stX p (misP p m q f a b) (invP p g h) h)))) j) % (q * p) = 0 := by
  obtain ⟨hm1, hm2⟩ := pair_mis (q := q) k ka kb
  obtain ⟨hs, m2, _, _, hpm, hg, hh, hlg, hlh, _, _, _, hlf, hf1, _, hg1, hh1, hc⟩ := k
  have hp := smallP_bd hs
  have hsum := step_sum hs hg hh hlg hlh hc hm1 j
  obtain ⟨c, hcd⟩ : ∃ c, c = misP p m q f a b := ⟨_, rfl⟩
  rw [← hcd] at hsum ⊢
  obtain ⟨X, hX⟩ : ∃ X, X = stX p c (invP p h g) g := ⟨_, rfl⟩
  obtain ⟨Y, hY⟩ : ∃ Y, Y = stX p c (invP p g h) h := ⟨_, rfl⟩
  rw [← hX, ← hY] at hsum ⊢
  clear hX hY
  -- e: the difference by q
  obtain ⟨e, he⟩ := Int.dvd_of_emod_eq_zero (hf j)
  have hce : (co c j - e) % p = 0 := by
    obtain ⟨t, ht⟩ := Int.dvd_of_emod_eq_zero hqm
    have hcv : co (prodF a b) j = cv (co a) (co b) j := by
      unfold prodF co
      rw [if_neg (by rintro (h | h) <;> subst h <;> simp [lif] at ka kb <;> omega), trimF_getD]
      exact prod_conv (by have := kb.2.1; omega) j
    have hd : co (dif m f a b) j = (q * e) % m := by
      unfold dif
      rw [co_red, co_add, hcv, show co f j + -1 * cv (co a) (co b) j = co f j - cv (co a) (co b) j by omega, he]
    have h1 : co c j = (q * e) % m / q % p := by
      rw [hcd]
      unfold misP
      rw [co_red]
      have : co ((dif m f a b).map (· / q)) j = co (dif m f a b) j / q := by
        unfold co
        simp only [List.getD_eq_getElem?_getD, List.getElem?_map]
        cases (dif m f a b)[j]? with
        | none => simp
        | some x => simp
      rw [this, hd]
    rw [h1]
    refine mod_eq0 ?_
    rw [Int.emod_emod, ht, show q * e % (q * p * t) = q * (e - p * (t * (q * e / (q * p * t)))) by rw [Int.emod_def]; grind, Int.mul_ediv_cancel_left _ (by omega)]
    rw [Int.sub_emod, Int.mul_emod_right]
    simp
  have hA : ∀ i, (co (redF m (addK q a X)) i - (co a i + q * co X i)) % (q * p) = 0 := fun i => by
    rw [co_red, co_add]
    refine mod_up ?_ hqm
    have := mod_self0 (co a i + q * co X i) m
    rw [show (co a i + q * co X i) % m - (co a i + q * co X i) = -(co a i + q * co X i - (co a i + q * co X i) % m) by omega]
    exact neg0 this
  have hB : ∀ i, (co (redF m (addK q b Y)) i - (co b i + q * co Y i)) % (q * p) = 0 := fun i => by
    rw [co_red, co_add]
    refine mod_up ?_ hqm
    have := mod_self0 (co b i + q * co Y i) m
    rw [show (co b i + q * co Y i) % m - (co b i + q * co Y i) = -(co b i + q * co Y i - (co b i + q * co Y i) % m) by omega]
    exact neg0 this
  have h1 := cv_mod2 hA hB j
  have h2 : cv (fun i => co a i + q * co X i) (fun i => co b i + q * co Y i) j = cv (co a) (co b) j + q * (cv (co X) (co b) j + cv (co Y) (co a) j) + q * (q * cv (co X) (co Y) j) := by
    rw [cv_add, cv_addR, cv_addR, cv_scaleR, cv_scale, cv_scale, cv_scaleR, cv_comm (co a) (co Y)]
    grind
  have h3 : (cv (co X) (co b) j - cv (co X) (co h) j) % p = 0 := by
    have := cv_modL (h := co X) kb.2.2.2 j
    rwa [cv_comm (co b), cv_comm (co h)] at this
  have h4 : (cv (co Y) (co a) j - cv (co Y) (co g) j) % p = 0 := by
    have := cv_modL (h := co Y) ka.2.2.2 j
    rwa [cv_comm (co a), cv_comm (co g)] at this
  have h5 : (e - (cv (co X) (co b) j + cv (co Y) (co a) j)) % p = 0 := by
    have := mod_sub0 (mod_sub0 (mod_sub0 hsum hce) h3) h4
    rwa [show co c j - (cv (co X) (co h) j + cv (co Y) (co g) j) - (co c j - e) - (cv (co X) (co b) j - cv (co X) (co h) j) - (cv (co Y) (co a) j - cv (co Y) (co g) j) = e - (cv (co X) (co b) j + cv (co Y) (co a) j) by omega] at this
  have h6 := mul_up (q := q) h5
  have h7 : q * (q * cv (co X) (co Y) j) % (q * p) = 0 := mul_up (mod_mul0 hqp)
  have := mod_sub0 (mod_sub0 h6 h7) h1
  rw [h2] at this
  rw [show q * (e - (cv (co X) (co b) j + cv (co Y) (co a) j)) - q * (q * cv (co X) (co Y) j) - (cv (co (redF m (addK q a X))) (co (redF m (addK q b Y))) j - (cv (co a) (co b) j + q * (cv (co X) (co b) j + cv (co Y) (co a) j) + q * (q * cv (co X) (co Y) j))) = q * e + cv (co a) (co b) j - cv (co (redF m (addK q a X))) (co (redF m (addK q b Y))) j by grind, ← he, show co f j - cv (co a) (co b) j + cv (co a) (co b) j - cv (co (redF m (addK q a X))) (co (redF m (addK q b Y))) j = co f j - cv (co (redF m (addK q a X))) (co (redF m (addK q b Y))) j by omega] at this
  exact this
/-- Round by round to the end. -/
theorem lift_end {p m : Int} {f g h : List Int} {n : Nat} (k : pairG p m f g h) (hmn : m = p ^ n) : ∀ (t i : Nat) (a b : List Int), 1 ≤ i → i ≤ n → n ≤ i + t → lif p m g a → lif p m h b → (∀ j, (co f j - cv (co a) (co b) j) % p ^ i = 0) →
    lif p m g (liftP p m f g h t (p ^ i) a b).1 ∧ lif p m h (liftP p m f g h t (p ^ i) a b).2 ∧ ∀ j, (co f j - cv (co (liftP p m f g h t (p ^ i) a b).1) (co (liftP p m f g h t (p ^ i) a b).2) j) % m = 0 := by
  have hp := smallP_bd k.1
  intro t
  induction t with
  | zero =>
    intro i a b h1 h2 h3 ka kb hf
    obtain rfl : i = n := by omega
    rw [hmn]
    rw [hmn] at ka kb
    exact ⟨ka, kb, hf⟩
  | succ t ih =>
    intro i a b h1 h2 h3 ka kb hf
    by_cases hq : p ^ i < m
    · rw [liftP, if_pos hq]
      have hin : i < n := by
        rcases Nat.lt_or_ge i n with h | h
        · exact h
        · obtain rfl : i = n := by omega
          omega
      have hqp : p ^ i % p = 0 := by
        obtain ⟨i, rfl⟩ : ∃ r, i = r + 1 := ⟨i - 1, by omega⟩
        rw [Int.pow_succ]; exact Int.mul_emod_left _ _
      have hq0 : 1 ≤ p ^ i := by have := (Int.pow_pos (show 0 < p by omega) : 0 < p ^ i); omega
      have hqm : m % (p ^ i * p) = 0 := by
        rw [hmn, ← Int.pow_succ, show n = (i + 1) + (n - (i + 1)) by omega, Int.pow_add]
        exact Int.mul_emod_right _ _
      obtain ⟨na, nb⟩ := pair_next (q := p ^ i) k ka kb hqp
      have hh := hensel k ka kb hq0 hqp hqm hf
      rw [← Int.pow_succ] at hh ⊢
      exact ih (i + 1) _ _ (by omega) (by omega) (by omega) na nb hh
    · rw [liftP_stop hq]
      have hin : i = n := by
        rcases Nat.lt_or_ge i n with h | h
        · exfalso
          apply hq
          rw [hmn, show n = i + (n - i) by omega, Int.pow_add]
          have hq0 : 1 ≤ p ^ i := by have := (Int.pow_pos (show 0 < p by omega) : 0 < p ^ i); omega
          obtain ⟨d, hd⟩ : ∃ d, n - i = d + 1 := ⟨n - i - 1, by omega⟩
          have hq1 : 2 ≤ p ^ (n - i) := by
            have := (Int.pow_pos (show 0 < p by omega) : 0 < p ^ d)
            rw [hd, Int.pow_succ]
            have := Int.mul_le_mul (show 1 ≤ p ^ d by omega) hp.1 (by omega) (by omega)
            omega
          have := Int.mul_le_mul_of_nonneg_left hq1 (show 0 ≤ p ^ i by omega)
          omega
        · omega
      subst hin
      rw [hmn]
      rw [hmn] at ka kb
      exact ⟨ka, kb, hf⟩
end Go.Proofs.Ytflmoopiajhadaa
