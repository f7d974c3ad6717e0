/- Plain law of division in a ring: the divisor times the quotient plus the remainder. -/
import Derived.Test.YtdhnpmjoajaeiaaH15
namespace Go.Proofs.Ytdhnpmjoajaeiaa
open Go Go.RowKit

/-- A sum over the first n numbers. -/
def sumR (f : Nat → Int) : Nat → Int
  | 0 => 0
  | n + 1 => sumR f n + f n
theorem sumR_congr {f g : Nat → Int} : ∀ n : Nat, (∀ i, i < n → f i = g i) → sumR f n = sumR g n := by
  intro n
  induction n with
  | zero => intro _; rfl
  | succ n ih => intro h; simp only [sumR]; rw [ih (fun i hi => h i (by omega)), h n (by omega)]
theorem sumR_head (f : Nat → Int) (n : Nat) : sumR f (n + 1) = f 0 + sumR (fun i => f (i + 1)) n := by
  induction n with
  | zero => simp [sumR]
  | succ n ih => rw [sumR, ih, sumR]; omega
theorem sumR_rev (f : Nat → Int) : ∀ n : Nat, sumR (fun i => f (n - 1 - i)) n = sumR f n := by
  intro n
  induction n with
  | zero => rfl
  | succ n ih =>
    rw [sumR_head]
    have : sumR (fun i => f (n + 1 - 1 - (i + 1))) n = sumR f n := by
      rw [← ih]
      exact sumR_congr n fun i hi => by congr 1; omega
    rw [this]
    simp only [sumR, Nat.add_sub_cancel, Nat.sub_zero]
    omega
theorem sumR_add (f g : Nat → Int) (n : Nat) : sumR (fun i => f i + g i) n = sumR f n + sumR g n := by
  induction n with
  | zero => rfl
  | succ n ih => simp only [sumR]; rw [ih]; omega
theorem sumR_single (c : Int) (k : Nat) : ∀ n : Nat, sumR (fun i => if i = k then c else 0) n = if k < n then c else 0 := by
  intro n
  induction n with
  | zero => simp [sumR]
  | succ n ih =>
    simp only [sumR]
    rw [ih]
    by_cases h1 : k < n
    · rw [if_pos h1, if_neg (by omega), if_pos (by omega)]; omega
    · by_cases h2 : n = k
      · rw [if_neg h1, if_pos h2, if_pos (by omega)]; omega
      · rw [if_neg h1, if_neg h2, if_neg (by omega)]; omega
theorem sumR_zero (f : Nat → Int) (n : Nat) (h : ∀ i, i < n → f i = 0) : sumR f n = 0 := by
  induction n with
  | zero => rfl
  | succ n ih => simp only [sumR]; rw [ih (fun i hi => h i (by omega)), h n (by omega)]; rfl
theorem sumR_more (f : Nat → Int) (n : Nat) : ∀ k : Nat, (∀ i, n ≤ i → i < n + k → f i = 0) → sumR f (n + k) = sumR f n := by
  intro k
  induction k with
  | zero => intro _; rfl
  | succ k ih =>
    intro h
    show sumR f (n + k) + f (n + k) = _
    rw [ih (fun i a b => h i a (by omega)), h (n + k) (by omega) (by omega)]; omega
/-- The numbers of a product. -/
def conv (f g : List Int) (j : Nat) : Int := sumR (fun i => f.getD i 0 * g.getD (j - i) 0) (j + 1)
theorem conv_comm (f g : List Int) (j : Nat) : conv f g j = conv g f j := by
  unfold conv
  rw [← sumR_rev]
  refine sumR_congr _ fun i hi => ?_
  rw [show j + 1 - 1 - i = j - i by omega, show j - (j - i) = i by omega, Int.mul_comm]
theorem conv_congr {f f' : List Int} (g : List Int) (h : ∀ j, f.getD j 0 = f'.getD j 0) (j : Nat) : conv f g j = conv f' g j := by
  unfold conv
  exact sumR_congr _ fun i hi => by rw [h]
theorem getD_set (l : List Int) (k j : Nat) (c : Int) (hk : k < l.length) : (l.set k c).getD j 0 = if j = k then c else l.getD j 0 := by
  simp only [List.getD_eq_getElem?_getD, List.getElem?_set]
  by_cases h : k = j
  · rw [if_pos h, if_pos h.symm, if_pos (by omega)]; rfl
  · rw [if_neg h, if_neg (fun e => h e.symm)]
theorem conv_set (q g : List Int) (k : Nat) (c : Int) (j : Nat) (hk : k < q.length) (h0 : q.getD k 0 = 0) : conv (q.set k c) g j = conv q g j + (if k ≤ j then c * g.getD (j - k) 0 else 0) := by
  unfold conv
  have e : ∀ i, i < j + 1 → (q.set k c).getD i 0 * g.getD (j - i) 0 = q.getD i 0 * g.getD (j - i) 0 + (if i = k then c * g.getD (j - k) 0 else 0) := by
    intro i _
    rw [getD_set q k i c hk]
    by_cases h : i = k
    · subst h; rw [if_pos rfl, if_pos rfl, h0]; simp
    · rw [if_neg h, if_neg h]; omega
  rw [sumR_congr _ e, sumR_add, sumR_single]
  by_cases h : k ≤ j
  · rw [if_pos (by omega), if_pos h]
  · rw [if_neg (by omega), if_neg h]
theorem conv_zero (g : List Int) (n j : Nat) : conv (List.replicate n 0) g j = 0 := by
  unfold conv
  refine sumR_zero _ _ fun i _ => ?_
  have : (List.replicate n (0 : Int)).getD i 0 = 0 := by
    simp only [List.getD_eq_getElem?_getD, List.getElem?_replicate]
    split <;> rfl
  rw [this]; simp
theorem getD_out {l : List Int} {j : Nat} (h : l.length ≤ j) : l.getD j 0 = 0 := by
  rw [List.getD_eq_getElem?_getD, List.getElem?_eq_none h]; rfl
/-- The dividend is, by the modulus, the rest plus the divisor times the quotient, behind each round. -/
theorem div_inv {m : Int} {f g : List Int} (hg : 1 ≤ g.length) :
    ∀ t, t ≤ divN f g → (∀ i, i < divN f g - t → (divS m (fun x => x) f g (divN f g) t).2.getD i 0 = 0) ∧ ∀ j, f.getD j 0 % m = ((divS m (fun x => x) f g (divN f g) t).1.getD j 0 + conv (divS m (fun x => x) f g (divN f g) t).2 g j) % m := by
  intro t
  induction t with
  | zero =>
    intro _
    refine ⟨fun i hi => ?_, fun j => ?_⟩
    · simp only [divS, List.getD_eq_getElem?_getD, List.getElem?_replicate]
      split <;> rfl
    · simp only [divS]
      rw [conv_zero]; simp
  | succ t ih =>
    intro ht
    obtain ⟨h0, h1⟩ := ih (by omega)
    obtain ⟨k, hk⟩ : ∃ k, k = divN f g - 1 - t := ⟨_, rfl⟩
    rw [divS_succ m (fun x => x) f g _ t k (by omega)]
    obtain ⟨hl1, hl2⟩ := divS_len m (fun x => x) f g (divN f g) t
    obtain ⟨A, hA⟩ : ∃ A, A = (divS m (fun x => x) f g (divN f g) t).1 := ⟨_, rfl⟩
    obtain ⟨q, hq⟩ : ∃ q, q = (divS m (fun x => x) f g (divN f g) t).2 := ⟨_, rfl⟩
    rw [← hA] at hl1 h1 ⊢
    rw [← hq] at hl2 h0 h1 ⊢
    clear hA hq ih
    dsimp only
    obtain ⟨c, hc⟩ : ∃ c, c = A.getD (k + g.length - 1) 0 := ⟨_, rfl⟩
    rw [← hc]
    have hkq : k < q.length := by omega
    have hkf : k + g.length ≤ f.length := by unfold divN at hk ht; omega
    refine ⟨fun i hi => ?_, fun j => ?_⟩
    · rw [getD_set q k i c hkq, if_neg (by omega)]
      exact h0 i (by omega)
    · rw [conv_set q g k c j hkq (h0 k (by omega)), h1 j]
      rcases Nat.lt_or_ge j A.length with hj | hj
      · rw [subK_getD _ _ _ _ _ _ hj]
        by_cases h2 : k ≤ j ∧ j < k + g.length
        · rw [if_pos h2, if_pos h2.1]
          rw [Int.add_comm ((A.getD j 0 - c * g.getD (j - k) 0) % m), Int.add_emod_emod]
          congr 1
          omega
        · rw [if_neg h2]
          by_cases h3 : k ≤ j
          · rw [if_pos h3, getD_out (l := g) (by omega)]; congr 1; omega
          · rw [if_neg h3]; congr 1; omega
      · rw [getD_out hj, getD_out (by rw [subK_len]; exact hj)]
        rw [if_pos (by omega), getD_out (l := g) (by omega)]
        congr 1; omega
theorem getD_add {o : List Int} {j t : Nat} {v : Int} (hj : j < o.length) : (addAt o j v).getD t 0 = o.getD t 0 + (if t = j then v else 0) := by
  unfold addAt
  rw [getD_set o j t _ hj]
  by_cases h : t = j
  · subst h; rw [if_pos rfl, if_pos rfl]
  · rw [if_neg h, if_neg h]; omega
theorem rowS_getD (o : List Int) (i : Nat) (c : Int) (g : List Int) (j : Nat) : ∀ k, i + k ≤ o.length → (rowS o i c g k).getD j 0 = o.getD j 0 + (if i ≤ j ∧ j < i + k then c * g.getD (j - i) 0 else 0) := by
  intro k
  induction k with
  | zero => intro _; rw [rowS_zero, if_neg (by omega)]; omega
  | succ k ih =>
    intro hk
    rw [rowS_succ, getD_add (by rw [rowS_len]; omega), ih (by omega)]
    by_cases h1 : j = i + k
    · subst h1
      rw [if_neg (by omega), if_pos rfl, if_pos (by omega), show i + k - i = k by omega]; omega
    · rw [if_neg h1]
      by_cases h2 : i ≤ j ∧ j < i + k
      · rw [if_pos h2, if_pos (by omega)]; omega
      · rw [if_neg h2, if_neg (by omega)]; omega
theorem prodS_getD {f g : List Int} (hg : 1 ≤ g.length) (j : Nat) : ∀ i, i ≤ f.length → (prodS f g i).getD j 0 = sumR (fun t => if t ≤ j then f.getD t 0 * g.getD (j - t) 0 else 0) i := by
  intro i
  induction i with
  | zero =>
    intro _
    show (List.replicate _ (0 : Int)).getD j 0 = 0
    simp only [List.getD_eq_getElem?_getD, List.getElem?_replicate]
    split <;> rfl
  | succ i ih =>
    intro hi
    rw [prodS_succ, rowS_getD _ _ _ _ _ _ (by rw [prodS_len]; omega), ih (by omega)]
    show _ = sumR _ i + _
    congr 1
    dsimp only
    by_cases h1 : i ≤ j ∧ j < i + g.length
    · rw [if_pos h1, if_pos h1.1]
    · rw [if_neg h1]
      by_cases h2 : i ≤ j
      · rw [if_pos h2, getD_out (l := g) (by omega)]; simp
      · rw [if_neg h2]
theorem prod_conv {f g : List Int} (hg : 1 ≤ g.length) (j : Nat) : (prodS f g f.length).getD j 0 = conv f g j := by
  rw [prodS_getD hg j _ (Nat.le_refl _)]
  unfold conv
  have e1 : sumR (fun t => if t ≤ j then f.getD t 0 * g.getD (j - t) 0 else 0) (f.length + (j + 1)) = sumR (fun t => if t ≤ j then f.getD t 0 * g.getD (j - t) 0 else 0) f.length :=
    sumR_more _ _ _ fun i h1 h2 => by rw [getD_out h1]; simp
  have e2 : sumR (fun t => if t ≤ j then f.getD t 0 * g.getD (j - t) 0 else 0) (j + 1 + f.length) = sumR (fun t => if t ≤ j then f.getD t 0 * g.getD (j - t) 0 else 0) (j + 1) :=
    sumR_more _ _ _ fun i h1 h2 => by rw [if_neg (by omega)]
  rw [← e1, show f.length + (j + 1) = j + 1 + f.length by omega, e2]
  exact sumR_congr _ fun i hi => by rw [if_pos (by omega)]
theorem conv_nil (f : List Int) (j : Nat) : conv f [] j = 0 := by
  unfold conv
  exact sumR_zero _ _ fun i _ => by simp
theorem mulR_getD (m : Int) (f g : List Int) (j : Nat) : (mulR m f g).getD j 0 = conv f g j % m := by
  unfold mulR
  split
  · rename_i h
    have : conv f g j = 0 := by
      rcases h with h | h
      · subst h; rw [conv_comm]; exact conv_nil _ _
      · subst h; exact conv_nil _ _
    rw [this]; simp
  · rename_i h
    have hg : 1 ≤ g.length := by
      rcases g with _ | ⟨x, g⟩
      · exact absurd (Or.inr rfl) h
      · simp
    rw [trimF_getD, modL_getD, prod_conv hg]
theorem trimF_id {f : List Int} (h : lastNZ f = true) : trimF f = f := by
  rcases Nat.eq_zero_or_pos f.length with h0 | h0
  · rw [List.eq_nil_of_length_eq_zero h0]; rfl
  · obtain ⟨k, hk⟩ : ∃ k, f.length = k + 1 := ⟨f.length - 1, by omega⟩
    rw [lastNZ_at hk] at h
    unfold trimF
    rw [hk]
    have : trimN f (k + 1) = k + 1 := by
      simp only [trimN]
      rw [getD_lt (show k < f.length by omega)]
      rw [if_neg (by simpa using h)]
    rw [this, ← hk, List.take_length]
/-- What the law writes: the product's numbers plus the remainder's, by the modulus. -/
def sumF (m : Int) (a b : List Int) (n : Nat) : List Int := (List.range n).map fun k => (a.getD k 0 + b.getD k 0) % m
theorem sumF_succ (m : Int) (a b : List Int) (n : Nat) : sumF m a b (n + 1) = sumF m a b n ++ [(a.getD n 0 + b.getD n 0) % m] := by simp [sumF, List.range_succ]
theorem sumF_len (m : Int) (a b : List Int) (n : Nat) : (sumF m a b n).length = n := by simp [sumF]
theorem sumF_getD (m : Int) (a b : List Int) (j : Nat) : (sumF m a b (max a.length b.length)).getD j 0 = (a.getD j 0 + b.getD j 0) % m := by
  rcases Nat.lt_or_ge j (max a.length b.length) with h | h
  · unfold sumF
    simp only [List.getD_eq_getElem?_getD, List.getElem?_map]
    rw [List.getElem?_range h]
    rfl
  · rw [getD_out (by rw [sumF_len]; exact h), getD_out (l := a) (by omega), getD_out (l := b) (by omega)]; simp
/-- The law: the dividend is the divisor times the quotient plus the remainder. -/
theorem ring_law {p n : Int} {f g q x : List Int} (h : divideInRingF p n f g = (q, x, 0)) :
    ∃ M, multiplyInRingF p n g q = (M, 0) ∧ M.length ≤ 9 ∧ (∀ c ∈ M, 0 ≤ c ∧ c ≤ p ^ n.toNat - 1) ∧ x.length ≤ 9 ∧ (∀ c ∈ x, 0 ≤ c ∧ c ≤ p ^ n.toNat - 1) ∧ trimF (sumF (p ^ n.toNat) M x (max M.length x.length)) = f ∧ x.length < g.length ∧ ringB p n = true := by
  unfold divideInRingF at h
  split at h
  next hx =>
    split at h
    next hmo =>
      obtain ⟨hf, hg⟩ := hx
      simp only [Prod.mk.injEq, and_true] at h
      obtain ⟨rfl, rfl⟩ := h
      obtain ⟨hp, hn, hm1, hm2⟩ := inRing_M hf
      obtain ⟨hrg, hfl, hfb, hfn⟩ := inRing_facts hf
      obtain ⟨_, hgl, hgb, _⟩ := inRing_facts hg
      have hg1 := monic_len hmo
      have hgm : g.getD (g.length - 1) 0 = 1 := by
        have := monicB_at (xs := g) (k := g.length - 1) (by omega)
        rw [hmo] at this
        simpa using this.symm
      obtain ⟨m, hm⟩ : ∃ m, m = p ^ n.toNat := ⟨_, rfl⟩
      unfold multiplyInRingF
      rw [← hm] at hm1 hm2 hfb hgb ⊢
      have hfb' : ∀ c ∈ f, 0 ≤ c ∧ c ≤ m - 1 := hfb
      have hbd := divS_bd hm1 (lead := fun x => x) (fun x hx => hx) hfb' (g := g) (n := divN f g) (divN f g)
      obtain ⟨hs1, hs2⟩ := divS_len m (fun x => x) f g (divN f g) (divN f g)
      have hql := trimF_len (divS m (fun x => x) f g (divN f g) (divN f g)).2
      have hxl := trimF_len (divS m (fun x => x) f g (divN f g) (divN f g)).1
      have hqb : ∀ c ∈ quoF m (fun x => x) f g, 0 ≤ c ∧ c ≤ m - 1 := fun c hc => hbd.2 c (trimF_mem hc)
      have hxb : ∀ c ∈ remF m (fun x => x) f g, 0 ≤ c ∧ c ≤ m - 1 := fun c hc => hbd.1 c (trimF_mem hc)
      have hqi : inRingB p n (quoF m (fun x => x) f g) = true := by
        have h2 : (quoF m (fun x => x) f g).any (noRes p n) = false := by
          rw [List.any_eq_false]
          intro c hc
          have := hqb c hc
          simp only [noRes, ← hm, Bool.not_eq_true, Bool.not_eq_false']
          exact inB_iff.2 this
        unfold inRingB
        rw [hrg, h2, show lastNZ (quoF m (fun x => x) f g) = true from lastNZ_trim _]
        simp only [Bool.true_and, Bool.not_false, Bool.and_true, decide_eq_true_eq]
        unfold quoF
        unfold divN at hs2 hql ⊢
        omega
      have hml : (mulR m g (quoF m (fun x => x) f g)).length ≤ 9 := by
        unfold mulR
        split
        · simp
        · rename_i hne
          have h1 := trimF_len (modL m (prodS g (quoF m (fun x => x) f g) g.length))
          rw [modL_len, prodS_len] at h1
          have h2 : 1 ≤ (quoF m (fun x => x) f g).length := by
            rcases hq0 : quoF m (fun x => x) f g with _ | ⟨y, ys⟩
            · exact absurd (Or.inr hq0) hne
            · simp
          unfold quoF at h1 h2 ⊢
          unfold divN at h1 h2 hql hs2 ⊢
          omega
      rw [if_pos ⟨hg, hqi⟩, if_pos hml]
      refine ⟨_, rfl, hml, ?_, ?_, hxb, ?_, ?_, hrg⟩
      · intro c hc
        unfold mulR at hc
        split at hc
        · simp at hc
        · exact modL_mem hm1 c (trimF_mem hc)
      · unfold remF; omega
      · refine Eq.trans ?_ (trimF_id hfn)
        refine trimF_congr fun j => ?_
        rw [sumF_getD, mulR_getD, conv_comm]
        have hi := (div_inv (m := m) hg1 (divN f g) (Nat.le_refl _)).2 j
        have e1 : (remF m (fun x => x) f g).getD j 0 = (divS m (fun x => x) f g (divN f g) (divN f g)).1.getD j 0 := trimF_getD _ _
        have e2 : conv (quoF m (fun x => x) f g) g j = conv (divS m (fun x => x) f g (divN f g) (divN f g)).2 g j := conv_congr g (fun i => trimF_getD _ _) j
        rw [e1, e2, Int.emod_add_emod, Int.add_comm, ← hi]
        have := getD_bd (b := m - 1) (by omega) hfb' j
        exact Int.emod_eq_of_lt this.1 (by omega)
      · unfold remF trimF
        rw [List.length_take]
        have h1 := trimN_bd (divS m (fun x => x) f g (divN f g) (divN f g)).1 (g.length - 1) (divS m (fun x => x) f g (divN f g) (divN f g)).1.length fun j h1 h2 =>
          div_top hm1 hg1 (fun x hx => by rw [hgm]; simp) (fun x hx => hx) hfb' _ (Nat.le_refl _) j (by omega) (by omega)
        omega
    next => simp at h
  next => simp at h
end Go.Proofs.Ytdhnpmjoajaeiaa
