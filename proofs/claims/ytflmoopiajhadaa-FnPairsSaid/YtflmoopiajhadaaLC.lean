/- Plain: Euclid's steps by a prime; the cofactor. -/
import Derived.Test.YtflmoopiajhadaaMB
namespace Go.Proofs.Ytflmoopiajhadaa
open Go Go.RowKit

abbrev Four := List Int × List Int × List Int × List Int
def nextV (p : Int) (a b u v : List Int) : List Int := redF p (addK (-1) u (timesP p (quoP p a b) v))
def eucF (p : Int) : Nat → List Int → List Int → List Int → List Int → Four
  | 0, a, b, u, v => (a, b, u, v)
  | n + 1, a, b, u, v => if b.length ≤ 1 then (a, b, u, v) else eucF p n b (remP p a b) v (nextV p a b u v)
theorem eucF_stop {p : Int} {n : Nat} {a b u v : List Int} (h : b.length ≤ 1) : eucF p n a b u v = (a, b, u, v) := by
  cases n with
  | zero => rfl
  | succ n => simp [eucF, h]
theorem eucF_step {p : Int} {n : Nat} {a b u v : List Int} (h : 2 ≤ b.length) : eucF p (n + 1) a b u v = eucF p n b (remP p a b) v (nextV p a b u v) := by
  rw [eucF, if_neg (by omega)]
/-- What holds before each step. -/
def EU (p : Int) (g h a b u v : List Int) : Prop :=
  isMod p a ∧ isMod p b ∧ isMod p u ∧ isMod p v ∧ b.length < a.length ∧ v.length + a.length ≤ g.length + 1 ∧ u.length + b.length ≤ g.length + 1 ∧
  mg p (co g) (fun j => co a j - cv (co u) (co h) j) ∧ mg p (co g) (fun j => co b j - cv (co v) (co h) j)
theorem cv_modL {p : Int} {x y h : Nat → Int} (e : ∀ i, (x i - y i) % p = 0) (j : Nat) : (cv x h j - cv y h j) % p = 0 := by
  rw [← cv_sub]
  exact cv_zp e j
theorem times_len {p : Int} (hp : 1 ≤ p) (f g : List Int) : (timesP p f g).length ≤ f.length + g.length - 1 :=
  len_of (timesP_mod hp f g) fun j hj => by
    rw [co_times, Int.emod_emod]
    exact (dg_list p f).cvL (dg_list p g) j hj
theorem next_fun {p : Int} (a b u v : List Int) (i : Nat) : ((co u i - cv (co (quoP p a b)) (co v) i) - co (nextV p a b u v) i) % p = 0 := by
  unfold nextV
  rw [co_red, co_add, co_times]
  refine mod_eq0 ?_
  rw [Int.emod_emod]
  refine mod_of0 ?_
  have := mod_self0 (cv (co (quoP p a b)) (co v) i) p
  rw [show co u i - cv (co (quoP p a b)) (co v) i - (co u i + -1 * (cv (co (quoP p a b)) (co v) i % p)) = -(cv (co (quoP p a b)) (co v) i - cv (co (quoP p a b)) (co v) i % p) by omega, Int.neg_emod_eq_sub_emod, Int.sub_emod, this]
  simp
theorem next_len {p : Int} (hp : 1 ≤ p) (a b u v : List Int) : (nextV p a b u v).length ≤ max u.length (a.length + 1 - b.length + v.length - 1) := by
  have h1 := times_len hp (quoP p a b) v
  have h2 := quo_len (p := p) a b
  refine len_of (isMod_red hp _) fun j hj => ?_
  unfold nextV
  rw [co_red, co_add, Int.emod_emod]
  have hw := dg_list p (timesP p (quoP p a b) v) j (by omega)
  have hu := dg_list p u j (by omega)
  exact mod_add0 hu (mod_mul0' hw)
theorem EU.step {p : Int} {g h a b u v : List Int} (hs : smallP p = true) (k : EU p g h a b u v) (hb : 1 ≤ b.length) : EU p g h b (remP p a b) v (nextV p a b u v) := by
  have hp := smallP_bd hs
  obtain ⟨ma, mb, mu, mv, hl, l1, l2, k1, k2⟩ := k
  have hr := rem_len hs ma.1 mb hb
  have hn := next_len (p := p) (by omega) a b u v
  refine ⟨mb, isMod_rem hs ma.1, mv, isMod_red (by omega) _, hr, by omega, by omega, k2, ?_⟩
  refine (k1.sub (k2.cvL (dg_list p (quoP p a b)))).of fun j => ?_
  rw [cv_subR, ← cv_assoc]
  have e1 := div_eq (p := p) (f := a) hb j
  have e2 := cv_modL (h := co h) (next_fun (p := p) a b u v) j
  rw [cv_sub] at e2
  have := mod_sub0 e1 e2
  rw [show co a j - cv (co u) (co h) j - (cv (co (quoP p a b)) (co b) j - cv (cv (co (quoP p a b)) (co v)) (co h) j) - (co (remP p a b) j - cv (co (nextV p a b u v)) (co h) j) = co a j - (co (remP p a b) j + cv (co (quoP p a b)) (co b) j) - (cv (co u) (co h) j - cv (cv (co (quoP p a b)) (co v)) (co h) j - cv (co (nextV p a b u v)) (co h) j) by omega]
  exact this
theorem euc_all {p : Int} {g h : List Int} (hs : smallP p = true) : ∀ (n : Nat) (a b u v : List Int), b.length ≤ n + 1 → EU p g h a b u v → 2 ≤ a.length →
    EU p g h (eucF p n a b u v).1 (eucF p n a b u v).2.1 (eucF p n a b u v).2.2.1 (eucF p n a b u v).2.2.2 ∧ (eucF p n a b u v).2.1.length ≤ 1 ∧ 2 ≤ (eucF p n a b u v).1.length ∧
    ∀ D, mg p D (co (eucF p n a b u v).1) → mg p D (co (eucF p n a b u v).2.1) → mg p D (co a) ∧ mg p D (co b) := by
  intro n
  induction n with
  | zero => intro a b u v hb k ha; exact ⟨k, by simp only [eucF]; omega, ha, fun D h1 h2 => ⟨h1, h2⟩⟩
  | succ n ih =>
    intro a b u v hb k ha
    by_cases h1 : b.length ≤ 1
    · rw [eucF_stop h1]; exact ⟨k, h1, ha, fun D h1 h2 => ⟨h1, h2⟩⟩
    · rw [eucF_step (by omega)]
      have hr := rem_len hs k.1.1 k.2.1 (by omega)
      obtain ⟨i1, i2, i3, i4⟩ := ih b (remP p a b) v (nextV p a b u v) (by omega) (k.step hs (by omega)) (by omega)
      refine ⟨i1, i2, i3, fun D d1 d2 => ?_⟩
      obtain ⟨j1, j2⟩ := i4 D d1 d2
      refine ⟨(j2.add (j1.cvL (dg_list p (quoP p a b)))).of fun j => ?_, j1⟩
      have := div_eq (p := p) (f := a) (g := b) (by omega) j
      rw [show co (remP p a b) j + cv (co (quoP p a b)) (co b) j - co a j = -(co a j - (co (remP p a b) j + cv (co (quoP p a b)) (co b) j)) by omega, Int.neg_emod_eq_sub_emod, Int.sub_emod, this]
      simp
/-- Where Euclid's steps end. -/
def eucE (p : Int) (h g : List Int) : Four := eucF p g.length g (remP p h g) [] [1]
/-- The cofactor: its product with h has the remainder 1 by g. -/
def cofP (p : Int) (h g : List Int) : List Int := timesP p (eucE p h g).2.2.2 [inv ((eucE p h g).2.1.getD 0 0) p]
theorem isMod_nil (p : Int) : isMod p [] := ⟨fun x hx => by simp at hx, rfl⟩
theorem isMod_one {p : Int} (hp : 2 ≤ p) : isMod p [1] := ⟨fun x hx => by simp at hx; omega, rfl⟩
theorem co_nil (j : Nat) : co [] j = 0 := rfl
theorem co_unit (j : Nat) : co [1] j = one j := by
  cases j with
  | zero => rfl
  | succ j => rfl
theorem EU.start {p : Int} {g h : List Int} (hs : smallP p = true) (hg : isMod p g) (hh : isMod p h) (hl : 1 ≤ g.length) : EU p g h g (remP p h g) [] [1] := by
  have hp := smallP_bd hs
  have hr := rem_len hs hh.1 hg hl
  refine ⟨hg, isMod_rem hs hh.1, isMod_nil p, isMod_one hp.1, hr, by simp; omega, by simp; omega, ?_, ?_⟩
  · refine (mg_refl p (co g)).of fun j => ?_
    have : cv (co []) (co h) j = 0 := sumR_zero _ _ fun i _ => by simp [co_nil]
    rw [this]; simp
  · have e := mg.self (p := p) (g := co g) (dg_list p (quoP p h g))
    have e0 : mg p (co g) (fun j => 0 - cv (co (quoP p h g)) (co g) j) := (mg.zero fun j => by simp).sub e
    refine e0.of fun j => ?_
    have := div_eq (p := p) (f := h) (g := g) hl j
    rw [cv_congr j (fun i => co_unit i) (fun _ => rfl), cv_one]
    rw [show 0 - cv (co (quoP p h g)) (co g) j - (co (remP p h g) j - co h j) = co h j - (co (remP p h g) j + cv (co (quoP p h g)) (co g) j) by omega]
    exact this
theorem const_unit {p : Int} {D : Nat → Int} {k : Nat} {c : List Int} (hD : top p k D) (hk : 1 ≤ k) (hc : isMod p c) (hl : c.length = 1) (h : mg p D (co c)) : False := by
  have h1 := mg.small hD h ((dg_list p c).mono (by omega)) 0
  have h2 := isMod_last hc (by omega)
  rw [show c.length - 1 = 0 by omega] at h2
  unfold co at h1
  rw [Int.emod_eq_of_lt (by omega) (by omega)] at h1
  omega
/-- Coprime: some sum of multiples is a constant. -/
def cop (p : Int) (g h : List Int) : Prop := ∃ c : List Int, isMod p c ∧ c.length = 1 ∧ cmb p (co g) (co h) (co c)
theorem cop.swap {p : Int} {g h : List Int} (k : cop p g h) : cop p h g := by
  obtain ⟨c, h1, h2, h3⟩ := k
  exact ⟨c, h1, h2, h3.swap⟩
theorem comF_mod {p : Int} (hp : 1 ≤ p) : ∀ (n : Nat) (f g : List Int), isMod p (comF p n f g) := by
  have hm : ∀ f, isMod p (monicP p f) := fun f => by
    unfold monicP
    split
    · exact isMod_nil p
    · exact timesP_mod hp _ _
  intro n
  induction n with
  | zero => intro f g; exact hm f
  | succ n ih =>
    intro f g
    unfold comF
    split
    · exact hm f
    · exact ih _ _
theorem cop_of {p : Int} {g h : List Int} (hp : 1 ≤ p) (hc : (commonP p g h).length = 1) : cop p g h :=
  ⟨commonP p g h, comF_mod hp _ _ _, hc, com_cmb _ _ _ (cmb.left p _ _) (cmb.left p _ _).swap⟩
theorem euc_end {p : Int} {g h : List Int} (hs : smallP p = true) (hg : isMod p g) (hh : isMod p h) (hl : 2 ≤ g.length) (hc : cop p g h) :
    EU p g h (eucE p h g).1 (eucE p h g).2.1 (eucE p h g).2.2.1 (eucE p h g).2.2.2 ∧ (eucE p h g).2.1.length = 1 := by
  have hr := rem_len hs hh.1 hg (by omega)
  obtain ⟨h1, h2, h3, h4⟩ := euc_all (g := g) (h := h) hs g.length g (remP p h g) [] [1] (by omega) (EU.start hs hg hh (by omega)) hl
  refine ⟨h1, ?_⟩
  by_cases h0 : (eucE p h g).2.1.length = 1
  · exact h0
  · exfalso
    obtain ⟨A, hA⟩ : ∃ A, A = (eucE p h g).1 := ⟨_, rfl⟩
    have hb : (eucE p h g).2.1 = [] := List.eq_nil_of_length_eq_zero (by unfold eucE at h0 ⊢; omega)
    obtain ⟨d1, d2⟩ := h4 (co A) (by rw [hA]; exact mg_refl p _) (by show mg p _ (co (eucE p h g).2.1); rw [hb]; exact mg_nil p _)
    have d3 : mg p (co A) (co h) := by
      refine (d2.add (d1.cvL (dg_list p (quoP p h g)))).of fun j => ?_
      have := div_eq (p := p) (f := h) (g := g) (by omega) j
      rw [show co (remP p h g) j + cv (co (quoP p h g)) (co g) j - co h j = -(co h j - (co (remP p h g) j + cv (co (quoP p h g)) (co g) j)) by omega, Int.neg_emod_eq_sub_emod, Int.sub_emod, this]
      simp
    obtain ⟨c, c1, c2, c3⟩ := hc
    have hA2 : 2 ≤ A.length := by rw [hA]; exact h3
    exact const_unit (top_list hs (by rw [hA]; exact h1.1) (by omega)) (by omega) c1 c2 (c3.mg d1 d3)
/-- A product with the cofactor has the remainder 1. -/
theorem cof_ok {p : Int} {g h : List Int} (hs : smallP p = true) (hg : isMod p g) (hh : isMod p h) (hl : 2 ≤ g.length) (hc : cop p g h) :
    mg p (co g) (fun j => cv (co (cofP p h g)) (co h) j - one j) := by
  have hp := smallP_bd hs
  obtain ⟨k, h1⟩ := euc_end hs hg hh hl hc
  obtain ⟨B, hB⟩ : ∃ B, B = (eucE p h g).2.1 := ⟨_, rfl⟩
  obtain ⟨V, hV⟩ : ∃ V, V = (eucE p h g).2.2.2 := ⟨_, rfl⟩
  have e1 := k.2.2.2.2.2.2.2.2
  have mb := k.2.1
  unfold cofP
  rw [← hB, ← hV] at e1 ⊢
  rw [← hB] at mb h1
  have hi := inv_ok hs (isMod_last mb (by omega))
  rw [show B.length - 1 = 0 by omega] at hi
  obtain ⟨i, hi0⟩ : ∃ i, i = inv (B.getD 0 0) p := ⟨_, rfl⟩
  rw [← hi0] at hi ⊢
  -- i (v h - b) is a multiple; i b is 1
  have e2 := (mg.zero (p := p) (g := co g) (a := fun _ => 0) fun j => by simp).sub (e1.cvL (dg_list p [i]))
  refine e2.of fun j => ?_
  rw [cv_subR]
  have hci : ∀ (x : Nat → Int) (j : Nat), cv (co [i]) x j = i * x j := fun x j => by
    have : cv (co [i]) x j = cv (fun t => i * one t) x j := cv_congr j (fun t => by
      cases t with
      | zero => simp [co, one]
      | succ t => simp [co, one]) (fun _ => rfl)
    rw [this, cv_scale, cv_one]
  rw [hci, hci]
  have h2 : (cv (co (timesP p V [i])) (co h) j - i * cv (co V) (co h) j) % p = 0 := by
    have e3 := cv_modL (p := p) (x := co (timesP p V [i])) (y := fun t => i * co V t) (h := co h) (fun t => by
      rw [co_times, cv_comm, hci]
      exact mod_eq0 (by rw [Int.emod_emod])) j
    rw [cv_scale] at e3
    exact e3
  have h3 : (i * co B j - one j) % p = 0 := by
    cases j with
    | zero =>
      show (i * B.getD 0 0 - 1) % p = 0
      rw [Int.sub_emod, hi]
      rw [Int.emod_eq_of_lt (show (0 : Int) ≤ 1 by omega) (by omega)]
      rfl
    | succ j =>
      have : co B (j + 1) = 0 := getD_out (by omega)
      rw [this]
      simp [one]
  have := mod_sub0 h3 h2
  have e4 : 0 - (i * co B j - i * cv (co V) (co h) j) - (cv (co (timesP p V [i])) (co h) j - one j) = -(i * co B j - one j) - (cv (co (timesP p V [i])) (co h) j - i * cv (co V) (co h) j) := by omega
  rw [e4]
  refine mod_sub0 ?_ h2
  rw [Int.neg_emod_eq_sub_emod, Int.sub_emod, h3]
  simp
end Go.Proofs.Ytflmoopiajhadaa
