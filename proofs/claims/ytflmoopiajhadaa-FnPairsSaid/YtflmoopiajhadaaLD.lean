/- Plain: one step of the lifting of a pair, by both texts. -/
import Derived.Test.YtflmoopiajhadaaLC
namespace Go.Proofs.Ytflmoopiajhadaa
open Go Go.RowKit

theorem neg0 {p a : Int} (h : a % p = 0) : -a % p = 0 := by rw [Int.neg_emod_eq_sub_emod, Int.sub_emod, h]; simp
theorem rem_mg {p : Int} {f g : List Int} (hg : 1 ≤ g.length) : mg p (co g) (fun j => co f j - co (remP p f g) j) :=
  (mg.self (p := p) (g := co g) (dg_list p (quoP p f g))).of fun j => by
    have := div_eq (p := p) (f := f) hg j
    rw [show cv (co (quoP p f g)) (co g) j - (co f j - co (remP p f g) j) = -(co f j - (co (remP p f g) j + cv (co (quoP p f g)) (co g) j)) by omega]
    exact neg0 this
theorem small_eq {p : Int} {g a b : List Int} {N : Nat} (hs : smallP p = true) (hg : isMod p g) (hl : 1 ≤ g.length) (ha : isMod p a) (hb : isMod p b) (la : dg p N (co a)) (lb : dg p N (co b)) (hN : N < g.length) (h : mg p (co g) (fun j => co a j - co b j)) : a = b := by
  have hp := smallP_bd hs
  exact mod_same (by omega) ha hb (mg.small (top_list hs hg hl) h ((la.sub lb).mono (by omega)))
theorem rem_same {p : Int} {f1 f2 g : List Int} (hs : smallP p = true) (hg : isMod p g) (hl : 1 ≤ g.length) (h1 : ∀ x ∈ f1, 0 ≤ x ∧ x ≤ p - 1) (h2 : ∀ x ∈ f2, 0 ≤ x ∧ x ≤ p - 1) (h : mg p (co g) (fun j => co f1 j - co f2 j)) : remP p f1 g = remP p f2 g := by
  have r1 := rem_len hs h1 hg hl
  have r2 := rem_len hs h2 hg hl
  refine small_eq (N := g.length - 1) hs hg hl (isMod_rem hs h1) (isMod_rem hs h2) ((dg_list p _).mono (by omega)) ((dg_list p _).mono (by omega)) (by omega) ?_
  exact ((h.sub (rem_mg (p := p) (f := f1) hl)).add (rem_mg (p := p) (f := f2) hl)).eq fun j => by omega
theorem cong_mul {p : Int} {g a b c : Nat → Int} {M : Nat} (h : mg p g (fun j => a j - b j)) (hc : dg p M c) : mg p g (fun j => cv c a j - cv c b j) :=
  (h.cvL hc).eq fun j => by rw [cv_subR]
theorem cong_add {p : Int} {g a b c : Nat → Int} (h : mg p g (fun j => a j - b j)) (h' : mg p g (fun j => b j - c j)) : mg p g (fun j => a j - c j) := (h.add h').eq fun j => by omega
theorem cong_sym {p : Int} {g a b : Nat → Int} (h : mg p g (fun j => a j - b j)) : mg p g (fun j => b j - a j) := ((mg.zero (a := fun _ => 0) fun j => by simp).sub h).eq fun j => by omega
theorem cong_of {p : Int} {g a b : Nat → Int} (h : ∀ j, (a j - b j) % p = 0) : mg p g (fun j => a j - b j) := mg.zero h
theorem times_co {p : Int} (f g : List Int) (j : Nat) : (cv (co f) (co g) j - co (timesP p f g) j) % p = 0 := by rw [co_times]; exact mod_self0 _ _
/-- The difference by the modulus, and what is missing. -/
def dif (m : Int) (f a b : List Int) : List Int := redF m (addK (-1) f (prodF a b))
def misP (p m q : Int) (f a b : List Int) : List Int := redF p ((dif m f a b).map (· / q))
def stX (p : Int) (c s g : List Int) : List Int := remP p (timesP p c s) g
def invP (p : Int) (h g : List Int) : List Int := remP p (cofP p h g) g
theorem isMod_cof {p : Int} (hp : 1 ≤ p) (h g : List Int) : isMod p (cofP p h g) := timesP_mod hp _ _
/-- The first part of a step: the cofactor and its remainder do the same. -/
theorem step_one {p : Int} {c h g : List Int} (hs : smallP p = true) (hg : isMod p g) (hl : 1 ≤ g.length) : stX p c (cofP p h g) g = stX p c (invP p h g) g := by
  have hp := smallP_bd hs
  refine rem_same hs hg hl (timesP_mod (by omega) _ _).1 (timesP_mod (by omega) _ _).1 ?_
  have e1 := cong_mul (rem_mg (p := p) (f := cofP p h g) hl) (dg_list p c)
  exact cong_add (cong_sym (cong_of (times_co c (cofP p h g)))) (cong_add e1 (cong_of (times_co c (invP p h g))))
/-- What a step adds is right by the divisor. -/
theorem step_cong {p : Int} {c h g : List Int} (hs : smallP p = true) (hg : isMod p g) (hh : isMod p h) (hl : 2 ≤ g.length) (hc : cop p g h) :
    mg p (co g) (fun j => co (stX p c (invP p h g) g) j - cv (co c) (co (cofP p h g)) j) ∧ mg p (co g) (fun j => cv (co (stX p c (invP p h g) g)) (co h) j - co c j) := by
  have e1 : mg p (co g) (fun j => co (stX p c (invP p h g) g) j - cv (co c) (co (cofP p h g)) j) := by
    rw [← step_one hs hg (by omega)]
    exact cong_add (cong_sym (rem_mg (p := p) (f := timesP p c (cofP p h g)) (g := g) (by omega))) (cong_sym (cong_of (times_co c (cofP p h g))))
  refine ⟨e1, ?_⟩
  have e2 := cong_mul (cof_ok hs hg hh hl hc) (dg_list p c)
  have e3 := cong_mul e1 (dg_list p h)
  have e4 : mg p (co g) (fun j => cv (co (stX p c (invP p h g) g)) (co h) j - cv (co c) (cv (co (cofP p h g)) (co h)) j) := e3.eq fun j => by rw [cv_comm (co h), cv_comm (co h), cv_assoc]
  exact cong_add e4 (e2.eq fun j => by rw [cv_comm (co c) one, cv_one])
theorem stX_mod {p : Int} {c s g : List Int} (hs : smallP p = true) : isMod p (stX p c s g) := by
  have hp := smallP_bd hs
  exact isMod_rem hs (timesP_mod (by omega) _ _).1
theorem stX_len {p : Int} {c s g : List Int} (hs : smallP p = true) (hg : isMod p g) (hl : 1 ≤ g.length) : (stX p c s g).length < g.length := by
  have hp := smallP_bd hs
  exact rem_len hs (timesP_mod (by omega) _ _).1 hg hl
/-- The second part of a step: a quotient and a remainder do the same. -/
theorem step_two {p : Int} {c h g : List Int} (hs : smallP p = true) (hg : isMod p g) (hh : isMod p h) (hlg : 2 ≤ g.length) (hlh : 2 ≤ h.length) (hc : cop p g h) (hcl : c.length + 2 ≤ g.length + h.length) :
    quoP p (redF p (addK (-1) c (timesP p (stX p c (invP p h g) g) h))) g = stX p c (invP p g h) h := by
  have hp := smallP_bd hs
  obtain ⟨X, hX⟩ : ∃ X, X = stX p c (invP p h g) g := ⟨_, rfl⟩
  have hXl : X.length < g.length := by rw [hX]; exact stX_len hs hg (by omega)
  have hX2 : mg p (co g) (fun j => cv (co X) (co h) j - co c j) := by rw [hX]; exact (step_cong hs hg hh hlg hc).2
  rw [← hX]
  obtain ⟨W, hW⟩ : ∃ W, W = redF p (addK (-1) c (timesP p X h)) := ⟨_, rfl⟩
  have hWm : isMod p W := by rw [hW]; exact isMod_red (by omega) _
  have hWc : ∀ j, (co W j - (co c j - cv (co X) (co h) j)) % p = 0 := fun j => by
    rw [hW, co_red, co_add, co_times]
    refine mod_eq0 ?_
    rw [Int.emod_emod]
    refine mod_of0 ?_
    have := mod_self0 (cv (co X) (co h) j) p
    rw [show co c j + -1 * (cv (co X) (co h) j % p) - (co c j - cv (co X) (co h) j) = cv (co X) (co h) j - cv (co X) (co h) j % p by omega]
    exact this
  have hWd : dg p (g.length + h.length - 2) (co W) := fun j hj => by
    have h1 := dg_list p c j (by omega)
    have h2 := (dg_list p X).cvL (dg_list p h) j (by omega)
    have := mod_add0 (hWc j) (mod_sub0 h1 h2)
    rwa [show co W j - (co c j - cv (co X) (co h) j) + (co c j - cv (co X) (co h) j) = co W j by omega] at this
  rw [← hW]
  clear hW
  obtain ⟨o, ho⟩ : ∃ o, o = quoP p W g := ⟨_, rfl⟩
  have hom : isMod p o := by rw [ho]; exact isMod_quo hs hWm.1
  have hr0 : remP p W g = [] := by
    have e1 : mg p (co g) (co W) := (cong_sym hX2).of fun j => by
      have := hWc j
      rw [show co c j - cv (co X) (co h) j - co W j = -(co W j - (co c j - cv (co X) (co h) j)) by omega]
      exact neg0 this
    have hr := rem_len hs hWm.1 hg (by omega)
    refine small_eq (N := g.length - 1) hs hg (by omega) (isMod_rem hs hWm.1) (isMod_nil p) ((dg_list p _).mono (by omega)) ((dg_list p _).mono (by simp)) (by omega) ?_
    exact (e1.sub (rem_mg (p := p) (f := W) (g := g) (by omega))).eq fun j => by simp [co_nil]; omega
  have hoW : ∀ j, (co W j - cv (co o) (co g) j) % p = 0 := fun j => by
    have := div_eq (p := p) (f := W) (g := g) (by omega) j
    rw [hr0, ← ho] at this
    simpa [co_nil] using this
  have hod : dg p (h.length - 1) (co o) := top_deg (top_list hs hg (by omega)) o.length (dg_list p o) fun j hj => by
    have := mod_sub0 (hWd j (by omega)) (hoW j)
    rwa [show co W j - (co W j - cv (co o) (co g) j) = cv (co o) (co g) j by omega] at this
  rw [← ho]
  have hy := (step_cong (c := c) hs hh hg hlh hc.swap).1
  have hyl : (stX p c (invP p g h) h).length < h.length := stX_len hs hh (by omega)
  refine small_eq (N := h.length - 1) hs hh (by omega) hom (stX_mod hs) hod ((dg_list p _).mono (by omega)) (by omega) ?_
  -- o = o (t g) = (o g) t = (c - x h) t = c t = y
  obtain ⟨T, hT⟩ : ∃ T, T = cofP p g h := ⟨_, rfl⟩
  have e1 := cof_ok hs hh hg hlh hc.swap
  rw [← hT] at e1 hy
  have e2 : mg p (co h) (fun j => cv (co o) (cv (co T) (co g)) j - co o j) := (cong_mul e1 (dg_list p o)).eq fun j => by rw [cv_comm (co o) one, cv_one]
  have e3 : mg p (co h) (fun j => cv (co T) (fun i => cv (co o) (co g) i - co W i) j) := by
    refine mg.zero fun j => ?_
    rw [cv_comm]
    refine cv_zp (fun i => ?_) j
    rw [show cv (co o) (co g) i - co W i = -(co W i - cv (co o) (co g) i) by omega]
    exact neg0 (hoW i)
  have e4 : mg p (co h) (fun j => cv (co T) (fun i => co W i - co c i) j) := by
    refine mg.cvL ?_ (dg_list p T)
    have x1 : mg p (co h) (fun j => co W j - (co c j - cv (co X) (co h) j)) := mg.zero hWc
    exact (x1.sub (mg.self (p := p) (g := co h) (dg_list p X))).eq fun j => by omega
  have e5 : mg p (co h) (fun j => cv (co o) (cv (co T) (co g)) j - cv (co c) (co T) j) := by
    refine (e3.add e4).eq fun j => ?_
    rw [cv_subR, cv_subR, cv_comm (co T) (co c)]
    have : cv (co T) (cv (co o) (co g)) j = cv (co o) (cv (co T) (co g)) j := by
      rw [← cv_assoc, ← cv_assoc]
      exact cv_congr j (fun i => cv_comm _ _ i) (fun _ => rfl)
    rw [this]; omega
  exact cong_add (cong_sym e2) (cong_add e5 (cong_sym hy))
end Go.Proofs.Ytflmoopiajhadaa
