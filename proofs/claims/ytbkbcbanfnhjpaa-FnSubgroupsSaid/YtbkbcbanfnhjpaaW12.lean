/- Plain: classes of a group. -/
import Derived.Test.YtbkbcbanfnhjpaaW6
import Derived.Test.YtbkbcbanfnhjpaaY2
namespace Go.Proofs.Ytbkbcbanfnhjpaa
open Go Go.RowKit

theorem invT_at {n : Nat} {a : List Int} (h : PermP n a) : ∀ k, k ≤ n → ∀ j, j < k → ∀ (hjn : j < a.length), (invT a k).getD (a[j]).toNat 0 = (j : Int) := by
  intro k
  induction k with
  | zero => intro _ j hj; omega
  | succ k ih =>
    intro hk j hj hjn
    have hkl : k < a.length := by rw [h.1.1]; omega
    have hrj := h.1.2 _ (List.getElem_mem hjn)
    have hrk := h.1.2 _ (List.getElem_mem hkl)
    have hil := invT_len a k
    rw [h.1.1] at hil
    have e : a.getD k 0 = a[k] := by simp [List.getD, List.getElem?_eq_getElem hkl]
    unfold invT
    rw [e, List.getD_eq_getElem?_getD]
    by_cases hjk : j = k
    · subst hjk
      rw [List.getElem?_set_self (by omega)]; rfl
    · have hne : (a[k]).toNat ≠ (a[j]).toNat := fun q => hjk (nodup_at h.2 hjn hkl (by omega))
      rw [List.getElem?_set_ne hne]
      have := ih (by omega) j (by omega) hjn
      rw [List.getD_eq_getElem?_getD] at this
      exact this
theorem op_prod {n : Nat} {a : List Int} (h : PermP n a) : prodF (opF a) a = idP n := by
  unfold prodF opF
  refine List.ext_getElem (by simp [h.1.1, idP_len]) fun i h1 h2 => ?_
  simp only [List.length_map] at h1
  rw [List.getElem_map, invT_at h a.length (by rw [h.1.1]; exact Nat.le_refl _) i h1 h1]
  simp [idP]
/-- What a conjugate is. -/
theorem conj_mul {n : Nat} {a b : List Int} (ha : PermP n a) (hb : PermP n b) : prodF (conjF a b) a = prodF a b := by
  unfold conjF
  rw [prod_assocL (n := n) (by rw [opF_len, ha.1.1]) ha.1, op_prod ha, prod_id (ha.1.prod hb.1)]
theorem conj_perm {n : Nat} {a b : List Int} (ha : PermP n a) (hb : PermP n b) : PermP n (conjF a b) := by
  have h1 : PermL n (conjF a b) := by
    unfold conjF
    have ho : PermL n (opF a) := ⟨by rw [opF_len, ha.1.1], by have := opF_rng a; rw [ha.1.1] at this; exact this⟩
    exact (ha.1.prod hb.1).prod ho
  refine ⟨h1, ?_⟩
  -- its product with a is without repetitions, and a is onto
  have h2 := (ha.prod hb).2
  rw [← conj_mul ha hb] at h2
  refine List.pairwise_iff_getElem.2 fun i j hi hj hij e => ?_
  have hil : i < n := by rw [h1.1] at hi; exact hi
  have hjl : j < n := by rw [h1.1] at hj; exact hj
  obtain ⟨p, hp, ep⟩ := List.getElem_of_mem (ha.perm.mem_iff.2 (mem_idP.2 ⟨by omega, by omega⟩) : (i : Int) ∈ a)
  obtain ⟨q, hq, eq⟩ := List.getElem_of_mem (ha.perm.mem_iff.2 (mem_idP.2 ⟨by omega, by omega⟩) : (j : Int) ∈ a)
  have hlp : p < (prodF (conjF a b) a).length := by rw [prodF_len]; exact hp
  have hlq : q < (prodF (conjF a b) a).length := by rw [prodF_len]; exact hq
  have e1 : (prodF (conjF a b) a)[p] = (conjF a b)[i] := by
    simp only [prodF, List.getElem_map, ep, Int.toNat_natCast, List.getD_eq_getElem?_getD, List.getElem?_eq_getElem hi, Option.getD_some]
  have e2 : (prodF (conjF a b) a)[q] = (conjF a b)[j] := by
    simp only [prodF, List.getElem_map, eq, Int.toNat_natCast, List.getD_eq_getElem?_getD, List.getElem?_eq_getElem hj, Option.getD_some]
  have := nodup_at h2 hlp hlq (by rw [e1, e2, e])
  subst this
  rw [ep] at eq
  omega
theorem conj_uniq {n : Nat} {a b c : List Int} (ha : PermP n a) (hb : PermP n b) (hc : PermP n c) (h : prodF c a = prodF a b) : conjF a b = c :=
  prod_cancel (conj_perm ha hb) hc ha (by rw [conj_mul ha hb, h])
/-- Products with the same left factor. -/
theorem prod_cancelL {n : Nat} {a x y : List Int} (ha : PermP n a) (hx : PermL n x) (hy : PermL n y) (h : prodF a x = prodF a y) : x = y := by
  refine List.ext_getElem (by rw [hx.1, hy.1]) fun i h1 h2 => ?_
  have r1 := hx.2 _ (List.getElem_mem h1)
  have r2 := hy.2 _ (List.getElem_mem h2)
  have l1 : (x[i]).toNat < a.length := by rw [ha.1.1]; omega
  have l2 : (y[i]).toNat < a.length := by rw [ha.1.1]; omega
  have h3 : (prodF a x)[i]? = (prodF a y)[i]? := by rw [h]
  unfold prodF at h3
  rw [List.getElem?_map, List.getElem?_map, List.getElem?_eq_getElem h1, List.getElem?_eq_getElem h2] at h3
  simp only [Option.map_some, Option.some.injEq, List.getD_eq_getElem?_getD, List.getElem?_eq_getElem l1, List.getElem?_eq_getElem l2, Option.getD_some] at h3
  have := nodup_at ha.2 l1 l2 h3
  omega
/-- The ranks of a group: what IsGroup says, as a list of permutations. -/
structure GrpR (m : Nat) (rs : List Int) : Prop where
  le : m ≤ 6
  rng : ∀ x ∈ rs, 0 ≤ x ∧ x < (facN m : Int)
  asc : rs.Pairwise (· < ·)
  one : (0 : Int) ∈ rs
  mul : ∀ x ∈ rs, ∀ y ∈ rs, rankF (prodF (withF m x) (withF m y)) ∈ rs
theorem GrpR.perm {m : Nat} {rs : List Int} (h : GrpR m rs) {x : Int} (hx : x ∈ rs) : PermP m (withF m x) := with_perm h.le (h.rng x hx).1 (h.rng x hx).2
theorem GrpR.rank {m : Nat} {rs : List Int} (h : GrpR m rs) {x : Int} (hx : x ∈ rs) : rankF (withF m x) = x := (with_ok h.le (h.rng x hx).1 (h.rng x hx).2).rank
/-- Products with one member of a group are all members. -/
theorem GrpR.onto {m : Nat} {rs : List Int} (h : GrpR m rs) {g : Int} (hg : g ∈ rs) : ∀ y ∈ rs, ∃ u ∈ rs, rankF (prodF (withF m g) (withF m u)) = y := by
  have hp : (rs.map fun u => rankF (prodF (withF m g) (withF m u))).Perm rs := by
    refine perm_of_sub ?_ (fun y hy => ?_) (by simp)
    · have := asc_nodup h.asc
      unfold List.Nodup at this ⊢
      rw [List.pairwise_map]
      refine List.Pairwise.imp_of_mem (fun {a b} ha hb hne e => hne ?_) this
      have e2 := prod_cancelL (h.perm hg) (h.perm ha).1 (h.perm hb).1 (rank_inj ((h.perm hg).prod (h.perm ha)) ((h.perm hg).prod (h.perm hb)) e)
      rw [← h.rank ha, ← h.rank hb, e2]
    · obtain ⟨u, hu, rfl⟩ := List.mem_map.1 hy
      exact h.mul g hg u hu
  intro y hy
  obtain ⟨u, hu, e⟩ := List.mem_map.1 (hp.mem_iff.2 hy)
  exact ⟨u, hu, e⟩
theorem GrpR.ontoR {m : Nat} {rs : List Int} (h : GrpR m rs) {g : Int} (hg : g ∈ rs) : ∀ y ∈ rs, ∃ u ∈ rs, rankF (prodF (withF m u) (withF m g)) = y := by
  have hp : (rs.map fun u => rankF (prodF (withF m u) (withF m g))).Perm rs := by
    refine perm_of_sub ?_ (fun y hy => ?_) (by simp)
    · have := asc_nodup h.asc
      unfold List.Nodup at this ⊢
      rw [List.pairwise_map]
      refine List.Pairwise.imp_of_mem (fun {a b} ha hb hne e => hne ?_) this
      have e2 := prod_cancel (h.perm ha) (h.perm hb) (h.perm hg) (rank_inj ((h.perm ha).prod (h.perm hg)) ((h.perm hb).prod (h.perm hg)) e)
      rw [← h.rank ha, ← h.rank hb, e2]
    · obtain ⟨u, hu, rfl⟩ := List.mem_map.1 hy
      exact h.mul u hu g hg
  intro y hy
  obtain ⟨u, hu, e⟩ := List.mem_map.1 (hp.mem_iff.2 hy)
  exact ⟨u, hu, e⟩
/-- The ranks of the conjugates of one permutation, as they come. -/
def clsR (m : Nat) (rs : List Int) (x : Int) : List Int := rs.map fun y => rankF (conjF (withF m y) (withF m x))
theorem cls_mem {m : Nat} {rs : List Int} (h : GrpR m rs) {x : Int} (hx : x ∈ rs) : ∀ k ∈ clsR m rs x, k ∈ rs := fun k hk => by
  unfold clsR at hk
  obtain ⟨g, hg, rfl⟩ := List.mem_map.1 hk
  obtain ⟨u, hu, e⟩ := h.ontoR hg _ (h.mul g hg x hx)
  have e2 := rank_inj ((h.perm hu).prod (h.perm hg)) ((h.perm hg).prod (h.perm hx)) e
  rw [conj_uniq (h.perm hg) (h.perm hx) (h.perm hu) e2, h.rank hu]
  exact hu
/-- Classes that meet hold each other's permutations. -/
theorem cls_meet {m : Nat} {rs : List Int} (h : GrpR m rs) {x y k : Int} (hx : x ∈ rs) (hy : y ∈ rs) (h1 : k ∈ clsR m rs x) (h2 : k ∈ clsR m rs y) : x ∈ clsR m rs y := by
  unfold clsR at h1 h2 ⊢
  obtain ⟨a, ha, e1⟩ := List.mem_map.1 h1
  obtain ⟨b, hb, e2⟩ := List.mem_map.1 h2
  have A := h.perm ha
  have B := h.perm hb
  have X := h.perm hx
  have Y := h.perm hy
  have ec := rank_inj (conj_perm A X) (conj_perm B Y) (by rw [e1, e2])
  obtain ⟨u, hu, eu⟩ := h.onto ha b hb
  have U := h.perm hu
  have eu2 : prodF (withF m a) (withF m u) = withF m b := by rw [← with_rank (A.prod U), eu]
  refine List.mem_map.2 ⟨u, hu, ?_⟩
  have key : prodF (withF m x) (withF m u) = prodF (withF m u) (withF m y) := by
    refine prod_cancelL A (X.prod U).1 (U.prod Y).1 ?_
    rw [← prod_assocL X.1.1 U.1, ← prod_assocL U.1.1 Y.1, eu2, ← conj_mul A X, ec, prod_assocL A.1.1 U.1, eu2, conj_mul B Y]
  rw [conj_uniq U Y X key, h.rank hx]
theorem cls_self {m : Nat} {rs : List Int} (h : GrpR m rs) {x : Int} (hx : x ∈ rs) : x ∈ clsR m rs x := by
  unfold clsR
  have h0 : withF m 0 = idP m := by
    have := with_rank (PermP.id m)
    rwa [show rankF (idP m) = 0 by have hq : ∀ n : Fin 7, rankF (idP n) = 0 := by decide
                                   exact hq ⟨m, by have := h.le; omega⟩] at this
  refine List.mem_map.2 ⟨0, h.one, ?_⟩
  rw [h0, conj_uniq (PermP.id m) (h.perm hx) (h.perm hx) (by rw [prod_id (h.perm hx).1, id_prod (h.perm hx).1]), h.rank hx]
/-- The classes, those of what is done left out. -/
def clsG (m : Nat) (rs : List Int) : List Int → List Int → List (List Int)
  | _, [] => []
  | done, x :: r => if done.contains x = true then clsG m rs done r else listedU (clsR m rs x) (facN m) :: clsG m rs (done ++ clsR m rs x) r
theorem clsG_has {m : Nat} {rs done r : List Int} {x : Int} (h : done.contains x = true) : clsG m rs done (x :: r) = clsG m rs done r := by conv => lhs; unfold clsG; rw [if_pos h]
theorem clsG_new {m : Nat} {rs done r : List Int} {x : Int} (h : done.contains x = false) : clsG m rs done (x :: r) = listedU (clsR m rs x) (facN m) :: clsG m rs (done ++ clsR m rs x) r := by conv => lhs; unfold clsG; rw [if_neg (by rw [h]; decide)]
end Go.Proofs.Ytbkbcbanfnhjpaa
