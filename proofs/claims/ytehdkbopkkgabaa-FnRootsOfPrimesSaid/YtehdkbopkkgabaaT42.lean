/- The two orders are one. -/
import Derived.Test.YtehdkbopkkgabaaT41
namespace Go.Proofs.Ytehdkbopkkgabaa

theorem prime_mul {q r c : Int} (hq : smallP q = true) (hr : smallP r = true) (hne : q ≠ r) (hc : ¬ c % r = 0) : ¬ (q * c) % r = 0 := by
  have hq1 := smallP_bd hq
  have hr1 := smallP_bd hr
  have hcop : Nat.Coprime r.natAbs q.natAbs := by
    have h1 : Nat.gcd r.natAbs q.natAbs ∣ r.natAbs := Nat.gcd_dvd_left _ _
    have h2 : Nat.gcd r.natAbs q.natAbs ∣ q.natAbs := Nat.gcd_dvd_right _ _
    have h3 := Nat.le_of_dvd (show 0 < r.natAbs by omega) h1
    have h4 := Nat.le_of_dvd (show 0 < q.natAbs by omega) h2
    have a1 := prime_div2 ⟨r.natAbs, by omega⟩ (by simp only; rw [show ((r.natAbs : Nat) : Int) = r by omega]; exact smallP_prime hr) ⟨Nat.gcd r.natAbs q.natAbs, by omega⟩ (Nat.mod_eq_zero_of_dvd h1)
    have a2 := prime_div2 ⟨q.natAbs, by omega⟩ (by simp only; rw [show ((q.natAbs : Nat) : Int) = q by omega]; exact smallP_prime hq) ⟨Nat.gcd r.natAbs q.natAbs, by omega⟩ (Nat.mod_eq_zero_of_dvd h2)
    simp only at a1 a2
    rcases a1 with a1 | a1
    · exact a1
    · rcases a2 with a2 | a2
      · exact a2
      · omega
  intro hz
  have h5 : r.natAbs ∣ q.natAbs * c.natAbs := by
    rw [← Int.natAbs_mul]
    exact Int.natAbs_dvd_natAbs.2 (Int.dvd_of_emod_eq_zero hz)
  have h6 := Nat.Coprime.dvd_of_dvd_mul_left hcop h5
  exact hc (Int.emod_eq_zero_of_dvd (Int.natAbs_dvd_natAbs.1 h6))
theorem vl_other {q r e : Int} (hq : smallP q = true) (hr : smallP r = true) (hne : q ≠ r) (he : 1 ≤ e) (hz : e % q = 0) : vl (e / q) r = vl e r := by
  have hq1 := smallP_bd hq
  have hr1 := smallP_bd hr
  obtain ⟨_, h2⟩ := vl_succ hq1.1 he hz
  obtain ⟨c, e1, e2, e3⟩ := vl_spec hr1.1 (show e / q ≠ 0 by omega)
  have h1 : e / q * q = e := Int.ediv_mul_cancel (Int.dvd_of_emod_eq_zero hz)
  refine (vl_eq hr1.1 (c := q * c) ?_ (prime_mul hq hr hne e2)).symm
  rw [Int.mul_assoc, ← e1, Int.mul_comm, h1]
theorem zero_of_vl {q e : Int} (hq : 2 ≤ q) (h : vl e q ≠ 0) : e % q = 0 := by
  by_cases hz : e % q = 0
  · exact hz
  · have := vl_eq hq (n := e) (c := e) (k := 0) (by simp) hz
    omega
theorem strip_other {a M q r : Int} (hq : smallP q = true) (hr : smallP r = true) (hne : q ≠ r) : ∀ (k : Nat) (e : Int), 1 ≤ e → k ≤ vl e q → vl (stripK a M q k e) r = vl e r := by
  have hq1 := smallP_bd hq
  intro k
  induction k with
  | zero => intro e _ _; rfl
  | succ k ih =>
    intro e he hk
    unfold stripK
    split
    · have hz := zero_of_vl (e := e) hq1.1 (by omega)
      obtain ⟨h1, h2⟩ := vl_succ hq1.1 he hz
      rw [ih (e / q) h2 (by omega), vl_other hq hr hne he hz]
    · rfl
theorem ord_eq {a M : Int} : ∀ (L : List (Int × Int)), (∀ x ∈ L, smallP x.1 = true) → (L.map Prod.fst).Nodup → ∀ e, 1 ≤ e → (∀ x ∈ L, x.2.toNat = vl e x.1) → ordI a M L e = ordS a M L e := by
  intro L
  induction L with
  | nil => intro _ _ e _ _; rfl
  | cons x L ih =>
    intro hs hn e he hv
    have hx := hs x (List.mem_cons_self ..)
    have hxb := smallP_bd hx
    unfold ordI ordS
    rw [hv x (List.mem_cons_self ..)]
    rw [List.map_cons, List.nodup_cons] at hn
    refine ih (fun y hy => hs y (List.mem_cons_of_mem _ hy)) hn.2 _ (strip_ge hxb.1 _ _ he rfl) (fun y hy => ?_)
    rw [hv y (List.mem_cons_of_mem _ hy)]
    refine (strip_other hx (hs y (List.mem_cons_of_mem _ hy)) (fun e9 => ?_) _ _ he (Nat.le_refl _)).symm
    exact hn.1 (by rw [e9]; exact List.mem_map_of_mem hy)
theorem ordS_fst {a M : Int} : ∀ (L L' : List (Int × Int)), L.map Prod.fst = L'.map Prod.fst → ∀ e, ordS a M L e = ordS a M L' e := by
  intro L
  induction L with
  | nil => intro L' h e; cases L' with
    | nil => rfl
    | cons y L' => simp at h
  | cons x L ih =>
    intro L' h e
    cases L' with
    | nil => simp at h
    | cons y L' =>
      simp at h
      unfold ordS
      rw [h.1]
      exact ih L' h.2 _
theorem ordS_append {a M : Int} : ∀ (L : List (Int × Int)) (y : Int × Int) (e : Int), ordS a M (L ++ [y]) e = stripK a M y.1 (vl (ordS a M L e) y.1) (ordS a M L e) := by
  intro L
  induction L with
  | nil => intro y e; rfl
  | cons x L ih => intro y e; exact ih y _
theorem ordS_bd {a M : Int} : ∀ (L : List (Int × Int)), (∀ x ∈ L, 2 ≤ x.1) → ∀ e, 1 ≤ e → 1 ≤ ordS a M L e ∧ ordS a M L e ≤ e := by
  intro L
  induction L with
  | nil => intro _ e h; exact ⟨h, Int.le_refl _⟩
  | cons x L ih =>
    intro hs e he
    have hx := hs x (List.mem_cons_self ..)
    have h1 := @strip_ge a M x.1 hx (vl e x.1) e he rfl
    have h2 := @strip_bd a M x.1 hx (vl e x.1) e (by omega)
    have h3 := ih (fun y hy => hs y (List.mem_cons_of_mem _ hy)) _ h1
    unfold ordS
    omega
/-- What the program's order is, is what the statement's is. -/
theorem ord_same {p n a M : Int} (h : ringB p n = true) :
    ordI a M (facI (3 * (p ^ n.toNat - p ^ (n.toNat - 1)).toNat + 300) (p ^ n.toNat - p ^ (n.toNat - 1)) 2) (p ^ n.toNat - p ^ (n.toNat - 1)) = ordS a M (facS (3 * (p - 1).toNat + 300) (p - 1) 2 ++ [(p, 0)]) (p ^ n.toNat - p ^ (n.toNat - 1)) := by
  obtain ⟨r1, r2, r3, r4, r5, r6, r7⟩ := ring_facts2 h
  have q3 := Int.mul_le_mul_of_nonneg_left (show (2 : Int) ≤ p by omega) (show 0 ≤ p ^ (n.toNat - 1) by omega)
  obtain ⟨P, rfl⟩ : ∃ P : Nat, p = (P : Int) := ⟨p.toNat, by omega⟩
  obtain ⟨N, rfl⟩ : ∃ N : Nat, n = (N : Int) := ⟨n.toNat, by omega⟩
  rw [Int.toNat_natCast] at *
  have hN : N < 30 := by
    rcases Nat.lt_or_ge N 30 with h1 | h1
    · exact h1
    · have := pow_large r1.1 h1; omega
  have hc := chk_all ⟨P, by omega⟩ ⟨N, hN⟩ h
  simp only at hc
  obtain ⟨u, hu⟩ : ∃ u : Nat, u = P ^ N - P ^ (N - 1) := ⟨_, rfl⟩
  have hle : P ^ (N - 1) ≤ P ^ N := by
    have : ((P ^ (N - 1) : Nat) : Int) ≤ ((P ^ N : Nat) : Int) := by push_cast; omega
    omega
  have huI : ((P : Int) ^ N - (P : Int) ^ (N - 1)) = (u : Int) := by
    rw [hu]
    push_cast [hle]
    rfl
  have hu1 : 1 ≤ u ∧ u < 2 ^ 64 := by omega
  have hup : N = 1 → u + 1 = P := fun e => by
    subst e
    rw [hu]
    have : P ^ 1 = P := Nat.pow_one P
    rw [this, Nat.sub_self, Nat.pow_zero]
    omega
  rw [huI]
  unfold chkN at hc
  rw [← hu] at hc
  clear hu huI r3 r4 r5 r6 r7 q3 hle
  obtain ⟨u', rfl⟩ : ∃ k, u = k + 1 := ⟨u - 1, by omega⟩
  dsimp only at hc
  split at hc
  · simp at hc
  · rename_i L hL
    have e1 := facN_spec 300 (3 * ((u' + 1 : Nat) : Int).toNat + 300) (u' + 1) 2 L (by omega) (by omega) hu1.1 hu1.2 hL
    have e1 : facI (3 * ((u' + 1 : Nat) : Int).toNat + 300) ((u' + 1 : Nat) : Int) 2 = L.map (fun x => ((x.1 : Int), (x.2 : Int))) := e1
    rw [e1]
    rw [Bool.and_eq_true, Bool.and_eq_true] at hc
    obtain ⟨⟨hc1, hc2⟩, hc3⟩ := hc
    have hc1 := eq_of_beq hc1
    have hc3 := of_decide_eq_true hc3
    rw [List.all_eq_true] at hc2
    have hfst : (L.map (fun x => ((x.1 : Int), (x.2 : Int)))).map Prod.fst = L.map (fun x => (x.1 : Int)) := by rw [List.map_map]; rfl
    have hA : ∀ x ∈ L.map (fun x : Nat × Nat => ((x.1 : Int), (x.2 : Int))), smallP x.1 = true ∧ x.2.toNat = vl ((u' + 1 : Nat) : Int) x.1 := by
      intro x hx
      obtain ⟨y, hy, rfl⟩ := List.mem_map.1 hx
      have h1 := hc2 y hy
      rw [Bool.and_eq_true] at h1
      have h2 := eq_of_beq h1.2
      have h3 := smallP_bd h1.1
      refine ⟨h1.1, ?_⟩
      simp only
      rw [Int.toNat_natCast, h2]
      exact (vN_vl (by omega) hu1.1 hu1.2).1.symm
    have hnd : ((L.map (fun x : Nat × Nat => ((x.1 : Int), (x.2 : Int)))).map Prod.fst).Nodup := by
      rw [hfst]
      have h4 : L.map (fun x => (x.1 : Int)) = (L.map Prod.fst).map (fun k : Nat => (k : Int)) := by rw [List.map_map]; rfl
      rw [h4]
      exact List.Pairwise.map _ (fun a b hab e => hab (by exact_mod_cast e)) hc3
    rw [ord_eq _ (fun x hx => (hA x hx).1) hnd _ (by omega) (fun x hx => (hA x hx).2)]
    by_cases hn1 : N = 1
    · have hn1' : ((N : Nat) : Int) = 1 ∨ N = 1 := .inr hn1
      rw [if_pos hn1] at hc1
      rw [ordS_append]
      rw [ordS_fst _ (facS (3 * ((P : Int) - 1).toNat + 300) ((P : Int) - 1) 2) (by rw [hfst]; exact hc1)]
      have hm := facS_mem (3 * ((P : Int) - 1).toNat + 300) ((P : Int) - 1) 2 (by omega) (by omega) (by omega) (by omega)
      have hb := @ordS_bd a M (facS (3 * ((P : Int) - 1).toNat + 300) ((P : Int) - 1) 2) (fun x hx => (hm x hx).1) ((u' + 1 : Nat) : Int) (by omega)
      have hpp := hup hn1
      obtain ⟨g, hg⟩ : ∃ g, g = ordS a M (facS (3 * ((P : Int) - 1).toNat + 300) ((P : Int) - 1) 2) ((u' + 1 : Nat) : Int) := ⟨_, rfl⟩
      rw [← hg] at hb ⊢
      have hz : ¬ g % (P : Int) = 0 := by rw [Int.emod_eq_of_lt (by omega) (by omega)]; omega
      have hv : vl g (P : Int) = 0 := vl_eq (by omega) (c := g) (k := 0) (by simp) hz
      simp only
      rw [hv]
      rfl
    · rw [if_neg hn1] at hc1
      exact ordS_fst _ _ (by rw [hfst]; exact hc1) _
end Go.Proofs.Ytehdkbopkkgabaa
