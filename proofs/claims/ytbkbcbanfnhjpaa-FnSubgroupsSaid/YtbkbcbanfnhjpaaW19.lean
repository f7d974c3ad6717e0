/- Plain: a conjugate group is a group, and conjugating back leads back. -/
import Derived.Test.YtbkbcbanfnhjpaaW18
namespace Go.Proofs.Ytbkbcbanfnhjpaa
open Go Go.RowKit

theorem perm_of_prod {n : Nat} {a y : List Int} (ha : PermP n a) (h1 : PermL n y) (h2 : (prodF y a).Nodup) : PermP n y := by
  refine ⟨h1, ?_⟩
  refine List.pairwise_iff_getElem.2 fun i j hi hj hij e => ?_
  have hil : i < n := by rw [h1.1] at hi; exact hi
  have hjl : j < n := by rw [h1.1] at hj; exact hj
  obtain ⟨p, hp, ep⟩ := List.getElem_of_mem (ha.perm.mem_iff.2 (mem_idP.2 ⟨by omega, by omega⟩) : (i : Int) ∈ a)
  obtain ⟨q, hq, eq⟩ := List.getElem_of_mem (ha.perm.mem_iff.2 (mem_idP.2 ⟨by omega, by omega⟩) : (j : Int) ∈ a)
  have hlp : p < (prodF y a).length := by rw [prodF_len]; exact hp
  have hlq : q < (prodF y a).length := by rw [prodF_len]; exact hq
  have e1 : (prodF y a)[p] = y[i] := by
    simp only [prodF, List.getElem_map, ep, Int.toNat_natCast, List.getD_eq_getElem?_getD, List.getElem?_eq_getElem hi, Option.getD_some]
  have e2 : (prodF y a)[q] = y[j] := by
    simp only [prodF, List.getElem_map, eq, Int.toNat_natCast, List.getD_eq_getElem?_getD, List.getElem?_eq_getElem hj, Option.getD_some]
  have := nodup_at h2 hlp hlq (by rw [e1, e2, e])
  subst this
  rw [ep] at eq
  omega
theorem op_perm {n : Nat} {a : List Int} (ha : PermP n a) : PermP n (opF a) :=
  perm_of_prod ha ⟨by rw [opF_len, ha.1.1], by have := opF_rng a; rw [ha.1.1] at this; exact this⟩ (by rw [op_prod ha]; exact (PermP.id n).2)
theorem conj_back {n : Nat} {a b : List Int} (ha : PermP n a) (hb : PermP n b) : conjF (opF a) (conjF a b) = b := by
  refine conj_uniq (op_perm ha) (conj_perm ha hb) hb ?_
  have ho := op_perm ha
  conv => rhs; unfold conjF
  rw [← prod_assocL (n := n) (ha.prod hb).1.1 ho.1, ← prod_assocL (n := n) ha.1.1 hb.1, op_prod ha, id_prod hb.1]
theorem conj_prod {n : Nat} {a b c : List Int} (ha : PermP n a) (hb : PermP n b) (hc : PermP n c) : conjF a (prodF b c) = prodF (conjF a b) (conjF a c) := by
  have B := conj_perm ha hb
  have C := conj_perm ha hc
  refine conj_uniq ha (hb.prod hc) (B.prod C) ?_
  rw [prod_assocL (n := n) C.1.1 ha.1, conj_mul ha hc, ← prod_assocL (n := n) ha.1.1 hc.1, conj_mul ha hb, prod_assocL (n := n) hb.1.1 hc.1]
theorem conj_id {n : Nat} {a : List Int} (ha : PermP n a) : conjF a (idP n) = idP n :=
  conj_uniq ha (PermP.id n) (PermP.id n) (by rw [prod_id ha.1, id_prod ha.1])
theorem permB_of {n : Nat} {x : List Int} (h : PermP n x) (h1 : 1 ≤ n) (h6 : n ≤ 6) : permB x = true := by
  have hl := h.1.1
  unfold permB
  have hno : (List.range x.length).any (noP x) = false := by
    rw [List.any_eq_false]
    intro i hi
    rw [List.mem_range] at hi
    have hr := h.1.2 _ (List.getElem_mem hi)
    have e : x.getD i 0 = x[i] := by simp [List.getD, List.getElem?_eq_getElem hi]
    have hb : inB x[i] 0 ((x.length : Int) - 1) = true := inB_iff.2 (by omega)
    have hc : (x.take i).contains x[i] = false := by
      rw [List.contains_eq_mem, decide_eq_false_iff_not, List.mem_take_iff_getElem]
      rintro ⟨j, hj, e2⟩
      have := nodup_at h.2 (by omega) hi e2
      omega
    unfold noP
    rw [e, hb, hc]
    decide
  have h3 : inB (x.length : Int) 1 6 = true := inB_iff.2 (by omega)
  rw [hno, h3]
  rfl
theorem rises_of {F : Int} : ∀ (rs : List Int) (p : Int), rs.Pairwise (· < ·) → (∀ x ∈ rs, p < x ∧ x < F) → risesB F p rs = true := by
  intro rs
  induction rs with
  | nil => intro p _ _; rfl
  | cons y r ih =>
    intro p hp h
    have hy := h y (by simp)
    rw [List.pairwise_cons] at hp
    simp only [risesB, Bool.and_eq_true, decide_eq_true_eq]
    exact ⟨hy, ih y hp.2 (fun x hx => ⟨hp.1 x hx, (h x (by simp [hx])).2⟩)⟩
theorem groupB_of {m : Nat} {rs : List Int} (h1 : 1 ≤ m) (h : GrpR m rs) : groupB m rs = true := by
  have hl := h.le
  unfold groupB
  simp only [Bool.and_eq_true, Int.toNat_natCast, decide_eq_true_eq]
  refine ⟨⟨⟨by omega, ?_⟩, rises_of _ _ h.asc (fun x hx => by have := h.rng x hx; omega)⟩, ?_⟩
  · rcases hq : rs with _ | ⟨z, t⟩
    · have := h.one; rw [hq] at this; simp at this
    · have hz := h.rng z (by rw [hq]; simp)
      have h0 := h.one
      have ha := h.asc
      rw [hq] at h0 ha
      rw [List.pairwise_cons] at ha
      rcases List.mem_cons.1 h0 with e | e
      · rw [← e]; rfl
      · have := ha.1 0 e; omega
  · unfold closedB
    rw [List.all_eq_true]
    intro x hx
    rw [List.all_eq_true]
    intro y hy
    rw [List.contains_eq_mem]
    simpa using h.mul x hx y hy
theorem conj_mem {m : Nat} {rs A : List Int} {z : Int} (h : GrpR m rs) (hA : PermP m A) : z ∈ listedU (conjR m rs A) (facN m) ↔ ∃ x ∈ rs, rankF (conjF A (withF m x)) = z := by
  rw [listedU_mem]
  unfold conjR memF
  rw [List.map_map]
  constructor
  · rintro ⟨_, _, q⟩
    obtain ⟨x, hx, e⟩ := List.mem_map.1 q
    exact ⟨x, hx, e⟩
  · rintro ⟨x, hx, e⟩
    have := (conj_perm hA (h.perm hx)).1.rk
    rw [e] at this
    exact ⟨this.1, this.2, List.mem_map.2 ⟨x, hx, e⟩⟩
theorem conj_grp {m : Nat} {rs A : List Int} (h : GrpR m rs) (hA : PermP m A) : GrpR m (listedU (conjR m rs A) (facN m)) := by
  refine ⟨h.le, fun x hx => ⟨(listedU_mem.1 hx).1, (listedU_mem.1 hx).2.1⟩, listedU_asc _ _, ?_, fun x hx y hy => ?_⟩
  · refine (conj_mem h hA).2 ⟨0, h.one, ?_⟩
    have e : withF m 0 = idP m := by
      have e0 : rankF (idP m) = 0 := rank_id h.le
      have := with_rank (PermP.id m)
      rw [e0] at this
      exact this
    rw [e, conj_id hA, ← e, h.rank h.one]
  · obtain ⟨a, ha, rfl⟩ := (conj_mem h hA).1 hx
    obtain ⟨b, hb, rfl⟩ := (conj_mem h hA).1 hy
    have PA := h.perm ha
    have PB := h.perm hb
    rw [with_rank (conj_perm hA PA), with_rank (conj_perm hA PB), ← conj_prod hA PA PB]
    refine (conj_mem h hA).2 ⟨_, h.mul a ha b hb, ?_⟩
    rw [with_rank (PA.prod PB)]
theorem conj_round {m : Nat} {rs A : List Int} (h : GrpR m rs) (hA : PermP m A) : listedU (conjR m (listedU (conjR m rs A) (facN m)) (opF A)) (facN m) = rs := by
  have hg := conj_grp h hA
  refine listedU_self h.asc h.rng fun z => ?_
  have hz := conj_mem (z := z) hg (op_perm hA)
  constructor
  · intro q
    refine (listedU_mem.1 (hz.2 ⟨rankF (conjF A (withF m z)), (conj_mem h hA).2 ⟨z, q, rfl⟩, ?_⟩)).2.2
    rw [with_rank (conj_perm hA (h.perm q)), conj_back hA (h.perm q), h.rank q]
  · intro q
    unfold conjR memF at q
    rw [List.map_map] at q
    obtain ⟨y, hy, e⟩ := List.mem_map.1 q
    obtain ⟨x, hx, rfl⟩ := (conj_mem h hA).1 hy
    simp only [Function.comp] at e
    rw [with_rank (conj_perm hA (h.perm hx)), conj_back hA (h.perm hx), h.rank hx] at e
    rw [← e]; exact hx
/-- What a conjugation with the code 0 tells. -/
theorem cj_round {n : Int} {rs A Z : List Int} {P : Int} (h : cjF n rs A = (Z, P, 0)) : permB A = true ∧ permB (opF A) = true ∧ 1 ≤ A.length ∧ A.length ≤ 6 ∧ (∀ y ∈ A, 0 ≤ y ∧ y < (A.length : Int)) ∧ P = n ∧ cjF P Z (opF A) = (rs, n, 0) ∧ Z.length ≤ 1000 := by
  have hZl := cjF_len n rs A
  rw [h] at hZl
  by_cases h0 : memC n rs A = 0
  · obtain ⟨hg, hp, hl⟩ := cj_zero h0
    obtain ⟨m, rfl, hm1, hm6, _⟩ := group_facts hg
    have hG := group_grp hg
    obtain ⟨_, _, hr, hnd⟩ := perm_facts hp
    have hlm : A.length = m := by omega
    have hr' := hr
    rw [hlm] at hr'
    have hA : PermP m A := ⟨⟨hlm, hr'⟩, hnd⟩
    unfold cjF at h
    rw [if_pos h0] at h
    simp only [Int.toNat_natCast, Prod.mk.injEq, and_true] at h
    obtain ⟨rfl, rfl⟩ := h
    have hpo := permB_of (op_perm hA) hm1 hm6
    refine ⟨hp, hpo, by omega, by omega, hr, rfl, ?_, hZl⟩
    have hm0 : memC m (listedU (conjR m rs A) (facN m)) (opF A) = 0 := by
      unfold memC
      rw [if_pos ⟨groupB_of hm1 (conj_grp hG hA), hpo⟩, if_pos (by rw [opF_len, hlm])]
    unfold cjF
    rw [if_pos hm0]
    simp only [Int.toNat_natCast]
    rw [conj_round hG hA]
  · exfalso
    unfold cjF at h
    rw [if_neg h0] at h
    simp only [Prod.mk.injEq] at h
    exact h0 h.2.2
end Go.Proofs.Ytbkbcbanfnhjpaa
