/- Plain: the even part has all or half of a group; the center and the meeting of groups are groups. -/
import Derived.Test.YtbkbcbanfnhjpaaW22
import Derived.Test.YtbkbcbanfnhjpaaW19
import Derived.Test.YtbkbcbanfnhjpaaU5
import Derived.Test.YtbkbcbanfnhjpaaX7
namespace Go.Proofs.Ytbkbcbanfnhjpaa
open Go Go.RowKit

theorem tr_small : ∀ n : Fin 5, (List.range (facN n)).all (trOk n) = true := by decide +kernel
theorem tr_facts {n r : Nat} (hn : n ≤ 6) (hr : r < facN n) : trOk n r = true := by
  have h : (List.range (facN n)).all (trOk n) = true := by
    by_cases h4 : n < 5
    · exact tr_small ⟨n, h4⟩
    · obtain rfl | rfl : n = 5 ∨ n = 6 := by omega
      · exact tr_5
      · exact tr_6
  rw [List.all_eq_true] at h
  exact h r (List.mem_range.2 hr)
theorem tr_perm {n i : Nat} (hn : n ≤ 6) (hi : i < n - 1) : PermP n (trP n i) := by
  have h : ∀ n : Fin 7, ((List.range ((n : Nat) - 1)).all fun i => permB (trP n i)) = true := by decide +kernel
  have h1 := h ⟨n, by omega⟩
  rw [List.all_eq_true] at h1
  obtain ⟨_, _, hr, hd⟩ := perm_facts (h1 i (List.mem_range.2 hi))
  have hl : (trP n i).length = n := by simp [trP]
  rw [hl] at hr
  exact ⟨⟨hl, hr⟩, hd⟩
theorem ev_one {n : Nat} (hn : n ≤ 6) : evB (idP n) = true := by
  have h : ∀ n : Fin 7, evB (idP n) = true := by decide +kernel
  exact h ⟨n, by omega⟩
theorem ev_tr {n i : Nat} {x : List Int} (hn : n ≤ 6) (hx : PermP n x) (hi : i < n - 1) : evB (prodF (trP n i) x) = !evB x := by
  have hr := hx.1.rk
  have hw := with_rank hx
  obtain ⟨r, e⟩ : ∃ r : Nat, rankF x = (r : Int) := ⟨(rankF x).toNat, by omega⟩
  rw [e] at hr hw
  have h := tr_facts hn (show r < facN n by omega)
  unfold trOk at h
  simp only [Bool.and_eq_true, List.all_eq_true] at h
  have := h.2 i (List.mem_range.2 hi)
  rw [hw] at this
  simpa using this
theorem tr_less {n : Nat} {x : List Int} (hn : n ≤ 6) (hx : PermP n x) (h0 : rankF x ≠ 0) : ∃ i, i < n - 1 ∧ rankF (prodF (trP n i) x) < rankF x := by
  have hr := hx.1.rk
  have hw := with_rank hx
  obtain ⟨r, e⟩ : ∃ r : Nat, rankF x = (r : Int) := ⟨(rankF x).toNat, by omega⟩
  rw [e] at hr hw h0
  have h := tr_facts hn (show r < facN n by omega)
  unfold trOk at h
  simp only [Bool.and_eq_true, Bool.or_eq_true, beq_iff_eq] at h
  rcases h.1 with h1 | h1
  · exact absurd h1 (by omega)
  · obtain ⟨i, hi, q⟩ := List.any_eq_true.1 h1
    rw [hw] at q
    exact ⟨i, List.mem_range.1 hi, by rw [e]; simpa using q⟩
/-- Signs multiply. -/
theorem ev_prod {n : Nat} (hn : n ≤ 6) : ∀ (N : Nat) {a : List Int}, PermP n a → rankF a ≤ N → ∀ {b : List Int}, PermP n b → evB (prodF a b) = (evB a == evB b) := by
  have base : ∀ {a : List Int}, PermP n a → rankF a = 0 → ∀ {b : List Int}, PermP n b → evB (prodF a b) = (evB a == evB b) := fun ha h0 b hb => by
    have e := rank_inj ha (PermP.id n) (by rw [h0, rank_id hn])
    rw [e, id_prod hb.1, ev_one hn]
    simp
  intro N
  induction N with
  | zero => intro a ha h b hb; exact base ha (by have := ha.1.rk; omega) hb
  | succ N ih =>
    intro a ha h b hb
    by_cases h0 : rankF a = 0
    · exact base ha h0 hb
    · obtain ⟨i, hi, hlt⟩ := tr_less hn ha h0
      have T := tr_perm hn hi
      have h1 := ih (T.prod ha) (by omega) hb
      rw [prod_assocL (n := n) ha.1.1 hb.1, ev_tr hn (ha.prod hb) hi, ev_tr hn ha hi] at h1
      revert h1
      cases evB (prodF a b) <;> cases evB a <;> cases evB b <;> decide
theorem even_half {m : Nat} {rs : List Int} (h : GrpR m rs) : (filtF m rs evB).length = rs.length ∨ 2 * (filtF m rs evB).length = rs.length := by
  unfold filtF
  rw [← List.countP_eq_length_filter]
  have hs := List.length_eq_countP_add_countP (fun x => evB (withF m x)) (l := rs)
  by_cases ho : ∃ g ∈ rs, evB (withF m g) = false
  · obtain ⟨g, hg, hge⟩ := ho
    right
    have hp := (h.ontoP hg).countP_eq (fun x => evB (withF m x))
    rw [List.countP_map] at hp
    have e : rs.countP ((fun x => evB (withF m x)) ∘ fun u => rankF (prodF (withF m g) (withF m u))) = rs.countP (fun a => decide ¬(evB (withF m a) = true)) := by
      refine List.countP_congr fun u hu => ?_
      have G := h.perm hg
      have U := h.perm hu
      simp only [Function.comp]
      rw [with_rank (G.prod U), ev_prod h.le _ G (Int.self_le_toNat _) U, hge]
      cases evB (withF m u) <;> simp
    rw [e] at hp
    omega
  · left
    refine (List.countP_eq_length).2 fun x hx => ?_
    rcases hq : evB (withF m x) with _ | _
    · exact absurd ⟨x, hx, hq⟩ ho
    · rfl
theorem GrpR.sub {m : Nat} {rs : List Int} (h : GrpR m rs) (p : Int → Bool) (h0 : p 0 = true) (hm : ∀ x ∈ rs, ∀ y ∈ rs, p x = true → p y = true → p (rankF (prodF (withF m x) (withF m y))) = true) : GrpR m (rs.filter p) :=
  ⟨h.le, fun x hx => h.rng x (List.mem_filter.1 hx).1, h.asc.filter p, List.mem_filter.2 ⟨h.one, h0⟩, fun x hx y hy => by
    have q1 := List.mem_filter.1 hx
    have q2 := List.mem_filter.1 hy
    exact List.mem_filter.2 ⟨h.mul x q1.1 y q2.1, hm x q1.1 y q2.1 q1.2 q2.2⟩⟩
theorem cent_iff {m : Nat} {rs : List Int} {X : List Int} : centB m rs X = true ↔ ∀ y ∈ rs, prodF X (withF m y) = prodF (withF m y) X := by
  unfold centB memF
  rw [List.all_eq_true]
  constructor
  · intro h y hy
    have := h _ (List.mem_map.2 ⟨y, hy, rfl⟩)
    unfold comB at this
    simpa using this
  · intro h z hz
    obtain ⟨y, hy, rfl⟩ := List.mem_map.1 hz
    unfold comB
    simpa using h y hy
theorem with_zero {m : Nat} (h : m ≤ 6) : withF m 0 = idP m := by
  have := with_rank (PermP.id m)
  rw [rank_id h] at this
  exact this
theorem cent_grp {m : Nat} {rs : List Int} (h : GrpR m rs) : GrpR m (filtF m rs (centB m rs)) := by
  refine h.sub (fun x => centB m rs (withF m x)) (cent_iff.2 fun y hy => ?_) fun x hx y hy hcx hcy => cent_iff.2 fun z hz => ?_
  · rw [with_zero h.le, id_prod (h.perm hy).1, prod_id (h.perm hy).1]
  · have X := h.perm hx
    have Y := h.perm hy
    have Z := h.perm hz
    rw [with_rank (X.prod Y), prod_assocL (n := m) Y.1.1 Z.1, cent_iff.1 hcy z hz, ← prod_assocL (n := m) Z.1.1 Y.1, cent_iff.1 hcx z hz, prod_assocL (n := m) X.1.1 Y.1]
/-- The center is abelian. -/
theorem cent_abel {n : Int} {rs C : List Int} {P : Int} (h : centF n rs = (C, P, 0)) : P = n ∧ abelF P C = (true, 0) := by
  unfold centF at h
  split at h
  · rename_i hg
    obtain ⟨m, rfl, hm1, hm6, _⟩ := group_facts hg
    have hG := group_grp hg
    simp only [Int.toNat_natCast, Prod.mk.injEq, and_true] at h
    obtain ⟨rfl, rfl⟩ := h
    refine ⟨rfl, ?_⟩
    have hC := cent_grp hG
    have hgb := groupB_of hm1 hC
    have e : filtF m (filtF m rs (centB m rs)) (centB m (filtF m rs (centB m rs))) = filtF m rs (centB m rs) := by
      conv => lhs; unfold filtF
      rw [show (rs.filter fun x => centB m rs (withF m x)) = filtF m rs (centB m rs) from rfl]
      refine List.filter_eq_self.2 fun x hx => cent_iff.2 fun y hy => ?_
      have q1 := List.mem_filter.1 hx
      have q2 := List.mem_filter.1 hy
      exact cent_iff.1 q1.2 y q2.1
    unfold abelF centF
    rw [if_pos hgb, if_pos hgb]
    simp only [Int.toNat_natCast]
    exact Prod.ext (decide_eq_true (congrArg List.length e)) rfl
  · simp at h
theorem meet_facts {n : Int} {rs ss A : List Int} {k P : Int} (h : meetF n rs k ss = (A, P, 0)) : P = n ∧ subF P A n rs = (true, 0) ∧ subF P A k ss = (true, 0) ∧ subF n rs k ss = (decide (A.length = rs.length), 0) := by
  by_cases h0 : twoC n rs k ss = 0
  · have hg : (groupB n rs = true ∧ groupB k ss = true) ∧ n = k := by
      unfold twoC at h0
      split at h0
      · rename_i h1
        split at h0
        · exact ⟨h1, ‹_›⟩
        · omega
      · omega
    obtain ⟨⟨hg1, hg2⟩, rfl⟩ := hg
    unfold meetF at h
    rw [if_pos h0] at h
    simp only [Prod.mk.injEq, and_true] at h
    obtain ⟨rfl, rfl⟩ := h
    obtain ⟨m, rfl, hm1, hm6, _⟩ := group_facts hg1
    have G1 := group_grp hg1
    have G2 := group_grp hg2
    have hA : GrpR m (commonL rs ss) := G1.sub (fun x => ss.contains x) (by rw [List.contains_eq_mem]; simpa using G2.one) fun x hx y hy q1 q2 => by
      rw [List.contains_eq_mem, decide_eq_true_eq] at q1 q2 ⊢
      exact G2.mul x q1 y q2
    have hgA := groupB_of hm1 hA
    have t1 : twoC m (commonL rs ss) m rs = 0 := by unfold twoC; rw [if_pos ⟨hgA, hg1⟩, if_pos rfl]
    have t2 : twoC m (commonL rs ss) m ss = 0 := by unfold twoC; rw [if_pos ⟨hgA, hg2⟩, if_pos rfl]
    refine ⟨rfl, ?_, ?_, ?_⟩
    · unfold subF
      rw [if_pos t1]
      have : partB (commonL rs ss) rs = true := by
        unfold partB
        rw [Bool.not_eq_true', List.any_eq_false]
        intro x hx
        have := (List.mem_filter.1 hx).1
        simp [List.contains_eq_mem, this]
      rw [this]
    · unfold subF
      rw [if_pos t2]
      have : partB (commonL rs ss) ss = true := by
        unfold partB
        rw [Bool.not_eq_true', List.any_eq_false]
        intro x hx
        have := (List.mem_filter.1 hx).2
        simpa using this
      rw [this]
    · unfold subF
      rw [if_pos h0, common_all]
      rfl
  · exfalso
    unfold meetF at h
    rw [if_neg h0] at h
    simp only [Prod.mk.injEq] at h
    exact h0 h.2.2
end Go.Proofs.Ytbkbcbanfnhjpaa
