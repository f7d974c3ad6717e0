/- Plain: lists of numbers by a prime as polynomials; division; Euclid's steps. -/
import Derived.Test.YtaninbfcoifedaaLA
namespace Go.Proofs.Ytaninbfcoifedaa
open Go Go.RowKit

def co (f : List Int) : Nat → Int := fun i => f.getD i 0
theorem conv_cv (f g : List Int) (j : Nat) : conv f g j = cv (co f) (co g) j := rfl
theorem mod_eq0 {a b m : Int} (h : a % m = b % m) : (a - b) % m = 0 := by rw [Int.sub_emod, h, Int.sub_self]; simp
theorem mod_of0 {a b m : Int} (h : (a - b) % m = 0) : a % m = b % m := Int.emod_eq_emod_iff_emod_sub_eq_zero.2 h
theorem mod_self0 (a p : Int) : (a - a % p) % p = 0 := mod_eq0 (by rw [Int.emod_emod])
theorem dg_list (p : Int) (f : List Int) : dg p f.length (co f) := fun j hj => by unfold co; rw [getD_out hj]; simp
/-- Division, whatever the leading numbers are. -/
theorem div_invG {m : Int} {lead : Int → Int} {f g : List Int} (hg : 1 ≤ g.length) :
    ∀ t, t ≤ divN f g → (∀ i, i < divN f g - t → (divS m lead f g (divN f g) t).2.getD i 0 = 0) ∧ ∀ j, f.getD j 0 % m = ((divS m lead f g (divN f g) t).1.getD j 0 + conv (divS m lead f g (divN f g) t).2 g j) % m := by
  intro t
  induction t with
  | zero =>
    intro _
    refine ⟨fun i hi => ?_, fun j => ?_⟩
    · simp only [divS, List.getD_eq_getElem?_getD, List.getElem?_replicate]
      split <;> rfl
    · simp only [divS]
      rw [conv_zero]; simp
  | succ t ih =>
    intro ht
    obtain ⟨h0, h1⟩ := ih (by omega)
    obtain ⟨k, hk⟩ : ∃ k, k = divN f g - 1 - t := ⟨_, rfl⟩
    rw [divS_succ m lead f g _ t k (by omega)]
    obtain ⟨hl1, hl2⟩ := divS_len m lead f g (divN f g) t
    obtain ⟨A, hA⟩ : ∃ A, A = (divS m lead f g (divN f g) t).1 := ⟨_, rfl⟩
    obtain ⟨q, hq⟩ : ∃ q, q = (divS m lead f g (divN f g) t).2 := ⟨_, rfl⟩
    rw [← hA] at hl1 h1 ⊢
    rw [← hq] at hl2 h0 h1 ⊢
    clear hA hq ih
    dsimp only
    obtain ⟨c, hc⟩ : ∃ c, c = lead (A.getD (k + g.length - 1) 0) := ⟨_, rfl⟩
    rw [← hc]
    have hkq : k < q.length := by omega
    have hkf : k + g.length ≤ f.length := by unfold divN at hk ht; omega
    refine ⟨fun i hi => ?_, fun j => ?_⟩
    · rw [getD_set q k i c hkq, if_neg (by omega)]
      exact h0 i (by omega)
    · rw [conv_set q g k c j hkq (h0 k (by omega)), h1 j]
      rcases Nat.lt_or_ge j A.length with hj | hj
      · rw [subK_getD _ _ _ _ _ _ hj]
        by_cases h2 : k ≤ j ∧ j < k + g.length
        · rw [if_pos h2, if_pos h2.1]
          rw [Int.add_comm ((A.getD j 0 - c * g.getD (j - k) 0) % m), Int.add_emod_emod]
          congr 1
          omega
        · rw [if_neg h2]
          by_cases h3 : k ≤ j
          · rw [if_pos h3, getD_out (l := g) (by omega)]; congr 1; omega
          · rw [if_neg h3]; congr 1; omega
      · rw [getD_out hj, getD_out (by rw [subK_len]; exact hj)]
        rw [if_pos (by omega), getD_out (l := g) (by omega)]
        congr 1; omega
theorem div_eq {p : Int} {f g : List Int} (hg : 1 ≤ g.length) (j : Nat) : (co f j - (co (remP p f g) j + cv (co (quoP p f g)) (co g) j)) % p = 0 := by
  have h := (div_invG (m := p) (lead := leadF p (inv (g.getD (g.length - 1) 0) p)) (f := f) (g := g) hg _ (Nat.le_refl _)).2 j
  have e1 : co (remP p f g) j = (divS p (leadF p (inv (g.getD (g.length - 1) 0) p)) f g (divN f g) (divN f g)).1.getD j 0 := trimF_getD _ _
  have e2 : cv (co (quoP p f g)) (co g) j = conv (divS p (leadF p (inv (g.getD (g.length - 1) 0) p)) f g (divN f g) (divN f g)).2 g j := conv_congr g (fun i => trimF_getD _ _) j
  rw [e1, e2]
  exact mod_eq0 h
theorem quo_len {p : Int} (f g : List Int) : (quoP p f g).length ≤ f.length + 1 - g.length := by
  have h2 := trimF_len (divS p (leadF p (inv (g.getD (g.length - 1) 0) p)) f g (divN f g) (divN f g)).2
  rw [(divS_len _ _ _ _ _ _).2] at h2
  exact h2
theorem co_times (p : Int) (f g : List Int) (j : Nat) : co (timesP p f g) j = cv (co f) (co g) j % p := by
  unfold timesP
  rw [redF_prod]
  exact mulR_getD _ _ _ _
theorem co_red (p : Int) (f : List Int) (j : Nat) : co (redF p f) j = co f j % p := by
  unfold redF co
  rw [trimF_getD]
  exact modL_getD (m := p) (xs := f) j
theorem co_bd {p : Int} {f : List Int} (hp : 1 ≤ p) (h : isMod p f) (j : Nat) : 0 ≤ co f j ∧ co f j < p := by
  have := getD_bd (b := p - 1) (by omega) h.1 j
  unfold co
  omega
theorem mod_same {p : Int} {a b : List Int} (hp : 1 ≤ p) (ha : isMod p a) (hb : isMod p b) (h : ∀ j, (co a j - co b j) % p = 0) : a = b := by
  rw [← trimF_id ha.2, ← trimF_id hb.2]
  refine trimF_congr fun j => ?_
  have h1 := co_bd hp ha j
  have h2 := co_bd hp hb j
  have h3 := mod_of0 (h j)
  rw [Int.emod_eq_of_lt h1.1 h1.2, Int.emod_eq_of_lt h2.1 h2.2] at h3
  exact h3
theorem len_of {p : Int} {a : List Int} {N : Nat} (ha : isMod p a) (h : dg p N (co a)) : a.length ≤ N := by
  rcases Nat.lt_or_ge N a.length with hl | hl
  · have h1 := isMod_last ha (by omega)
    have h2 := h (a.length - 1) (by omega)
    unfold co at h2
    rw [Int.emod_eq_of_lt (by omega) (by omega)] at h2
    omega
  · exact hl
theorem top_list {p : Int} {g : List Int} (hs : smallP p = true) (hg : isMod p g) (hl : 1 ≤ g.length) : top p (g.length - 1) (co g) :=
  ⟨(dg_list p g).mono (by omega), inv (g.getD (g.length - 1) 0) p, inv_ok hs (isMod_last hg hl)⟩
def one (j : Nat) : Int := if j = 0 then 1 else 0
theorem cv_one (a : Nat → Int) (j : Nat) : cv one a j = a j := by
  unfold cv
  rw [sumR_head, sumR_zero]
  · simp [one]
  · intro i _; simp [one]
theorem dg_one (p : Int) : dg p 1 one := fun j hj => by unfold one; rw [if_neg (by omega)]; simp
theorem mg_refl (p : Int) (g : Nat → Int) : mg p g g := (mg.self (dg_one p)).eq fun j => cv_one g j
theorem mg_nil (p : Int) (g : Nat → Int) : mg p g (co []) := mg.zero fun j => by simp [co]
/-- Sum of multiples of two. -/
def cmb (p : Int) (g h a : Nat → Int) : Prop := ∃ (α β : Nat → Int) (N : Nat), dg p N α ∧ dg p N β ∧ ∀ j, (a j - (cv α g j + cv β h j)) % p = 0
theorem cmb.mg {p : Int} {g h a D : Nat → Int} (k : cmb p g h a) (hg : mg p D g) (hh : mg p D h) : mg p D a := by
  obtain ⟨α, β, N, h1, h2, h3⟩ := k
  exact ((hg.cvL h1).add (hh.cvL h2)).of fun j => by
    have := h3 j
    rw [show cv α g j + cv β h j - a j = -(a j - (cv α g j + cv β h j)) by omega, Int.neg_emod_eq_sub_emod, Int.sub_emod, this]; simp
theorem cmb.left (p : Int) (g h : Nat → Int) : cmb p g h g := ⟨one, fun _ => 0, 1, dg_one p, fun j _ => by simp, fun j => by
  have : cv (fun _ => 0) h j = 0 := sumR_zero _ _ fun i _ => by simp
  rw [cv_one, this]; simp⟩
theorem cmb.swap {p : Int} {g h a : Nat → Int} (k : cmb p g h a) : cmb p h g a := by
  obtain ⟨α, β, N, h1, h2, h3⟩ := k
  exact ⟨β, α, N, h2, h1, fun j => by rw [Int.add_comm]; exact h3 j⟩
theorem cmb.sub {p : Int} {g h a b : Nat → Int} (k : cmb p g h a) (k' : cmb p g h b) : cmb p g h (fun j => a j - b j) := by
  obtain ⟨α, β, N, h1, h2, h3⟩ := k
  obtain ⟨α', β', N', h1', h2', h3'⟩ := k'
  refine ⟨fun j => α j - α' j, fun j => β j - β' j, max N N', (h1.mono (by omega)).sub (h1'.mono (by omega)), (h2.mono (by omega)).sub (h2'.mono (by omega)), fun j => ?_⟩
  have := mod_sub0 (h3 j) (h3' j)
  rw [cv_sub, cv_sub, show a j - b j - (cv α g j - cv α' g j + (cv β h j - cv β' h j)) = a j - (cv α g j + cv β h j) - (b j - (cv α' g j + cv β' h j)) by omega]
  exact this
theorem cmb.cvL {p : Int} {g h a c : Nat → Int} {M : Nat} (k : cmb p g h a) (hc : dg p M c) : cmb p g h (cv c a) := by
  obtain ⟨α, β, N, h1, h2, h3⟩ := k
  refine ⟨cv c α, cv c β, M + N - 1, hc.cvL h1, hc.cvL h2, fun j => ?_⟩
  rw [cv_assoc, cv_assoc, ← cv_addR, ← cv_subR, cv_comm]
  exact cv_zp h3 j
theorem cmb.of {p : Int} {g h a b : Nat → Int} (k : cmb p g h a) (e : ∀ j, (a j - b j) % p = 0) : cmb p g h b := by
  obtain ⟨α, β, N, h1, h2, h3⟩ := k
  refine ⟨α, β, N, h1, h2, fun j => ?_⟩
  have := mod_sub0 (h3 j) (e j)
  rw [show b j - (cv α g j + cv β h j) = a j - (cv α g j + cv β h j) - (a j - b j) by omega]
  exact this
/-- The greatest common divisor is a sum of multiples. -/
theorem rem_cmb {p : Int} {G H : Nat → Int} {f g : List Int} (hg : 1 ≤ g.length) (kf : cmb p G H (co f)) (kg : cmb p G H (co g)) : cmb p G H (co (remP p f g)) :=
  (kf.sub (kg.cvL (dg_list p (quoP p f g)))).of fun j => by
    have := div_eq (p := p) (f := f) hg j
    rw [show co f j - cv (co (quoP p f g)) (co g) j - co (remP p f g) j = co f j - (co (remP p f g) j + cv (co (quoP p f g)) (co g) j) by omega]
    exact this
theorem monic_cmb {p : Int} {G H : Nat → Int} {f : List Int} (kf : cmb p G H (co f)) : cmb p G H (co (monicP p f)) := by
  unfold monicP
  split
  · rename_i h; rw [h] at kf; exact kf
  · refine (kf.cvL (dg_list p [inv (f.getD (f.length - 1) 0) p])).of fun j => ?_
    rw [co_times, cv_comm (co f)]
    exact mod_self0 _ _
theorem com_cmb {p : Int} {G H : Nat → Int} : ∀ (n : Nat) (f g : List Int), cmb p G H (co f) → cmb p G H (co g) → cmb p G H (co (comF p n f g)) := by
  intro n
  induction n with
  | zero => intro f g kf _; exact monic_cmb kf
  | succ n ih =>
    intro f g kf kg
    unfold comF
    split
    · exact monic_cmb kf
    · rename_i hg
      refine ih _ _ kg (rem_cmb ?_ kf kg)
      rcases g with _ | ⟨x, g⟩
      · exact absurd rfl hg
      · simp
/-- f plus k times g. -/
def addR (k : Int) (f g : List Int) : List Int := (List.range (max f.length g.length)).map fun i => f.getD i 0 + k * g.getD i 0
def addK (k : Int) (f g : List Int) : List Int := trimF (addR k f g)
theorem addR_len (k : Int) (f g : List Int) : (addR k f g).length = max f.length g.length := by simp [addR]
theorem addR_getD (k : Int) (f g : List Int) (j : Nat) : (addR k f g).getD j 0 = f.getD j 0 + k * g.getD j 0 := by
  rcases Nat.lt_or_ge j (max f.length g.length) with h | h
  · unfold addR
    simp only [List.getD_eq_getElem?_getD, List.getElem?_map]
    rw [List.getElem?_range h]
    rfl
  · rw [getD_out (by rw [addR_len]; exact h), getD_out (l := f) (by omega), getD_out (l := g) (by omega)]; simp
theorem co_add (k : Int) (f g : List Int) (j : Nat) : co (addK k f g) j = co f j + k * co g j := by
  unfold addK co
  rw [trimF_getD, addR_getD]
theorem addK_len (k : Int) (f g : List Int) : (addK k f g).length ≤ max f.length g.length := by
  have := trimF_len (addR k f g)
  rw [addR_len] at this
  exact this
theorem red_congr {p : Int} {a b : List Int} (h : ∀ j, co a j % p = co b j % p) : redF p a = redF p b := by
  unfold redF
  refine trimF_congr fun j => ?_
  have := h j
  unfold co at this
  rw [← modL_getD, ← modL_getD] at this
  exact this
theorem red_id {p : Int} {a : List Int} (hp : 1 ≤ p) (h : isMod p a) : redF p a = a := mod_same hp (isMod_red hp _) h fun j => by
  rw [co_red]
  exact mod_eq0 (by rw [Int.emod_emod])
end Go.Proofs.Ytaninbfcoifedaa
