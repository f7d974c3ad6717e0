/- Plain: the sizes of classes; a conjugate's conjugate. -/
import Derived.Test.YtbkbcbanfnhjpaaW13
import Derived.Test.YtbkbcbanfnhjpaaY4
namespace Go.Proofs.Ytbkbcbanfnhjpaa
open Go Go.RowKit

theorem fiber_mul (f : Int → Int) (m F : Nat) : ∀ (N : Nat) (U : List Int), U.length ≤ N → (∀ x ∈ U, 0 ≤ f x ∧ f x < (F : Int)) → (∀ x ∈ U, U.countP (fun y => decide (f y = f x)) = m) → U.length = m * (listedU (U.map f) F).length := by
  intro N
  induction N with
  | zero =>
    intro U hU _ _
    have : U = [] := List.eq_nil_of_length_eq_zero (by omega)
    subst this
    have h0 : (listedU ([].map f) F).length = 0 := by
      have := nodup_sub_len (l := ([] : List Int)) (asc_nodup (listedU_asc ([].map f) F)) (fun y hy => (listedU_mem.1 hy).2.2)
      simpa using this
    rw [h0]; simp
  | succ N ih =>
    intro U hU hr h
    rcases U with _ | ⟨x, r⟩
    · have h0 : (listedU (([] : List Int).map f) F).length = 0 := by
        have := nodup_sub_len (l := ([] : List Int)) (asc_nodup (listedU_asc ([].map f) F)) (fun y hy => (listedU_mem.1 hy).2.2)
        simpa using this
      rw [h0]; simp
    · have hx := h x (by simp)
      have hsplit := List.length_eq_countP_add_countP (fun y => decide (f y = f x)) (l := x :: r)
      rw [hx] at hsplit
      have h2 : (x :: r).countP (fun y => !(decide (f y = f x))) = (x :: r).countP (fun a => decide ¬(decide (f a = f x) = true)) := List.countP_congr (fun y _ => by simp)
      have hlt : ((x :: r).filter (fun y => !(decide (f y = f x)))).length ≤ N := by
        rw [← List.countP_eq_length_filter]
        have : 0 < m := by rw [← hx]; exact List.countP_pos_iff.2 ⟨x, by simp, by simp⟩
        simp only [List.length_cons] at hU hsplit
        omega
      have hi := ih _ hlt (fun y hy => hr y (List.mem_filter.1 hy).1) (fun y hy => by
        have hy2 := List.mem_filter.1 hy
        have hne : f y ≠ f x := by simpa using hy2.2
        rw [List.countP_filter, ← h y hy2.1]
        refine List.countP_congr fun z _ => ?_
        simp only [Bool.and_eq_true, decide_eq_true_eq, Bool.not_eq_true', decide_eq_false_iff_not]
        exact ⟨fun e => e.1, fun e => ⟨e, by rw [e]; exact hne⟩⟩)
      have hcard : (listedU ((x :: r).map f) F).length = 1 + (listedU (((x :: r).filter (fun y => !(decide (f y = f x)))).map f) F).length := by
        have hnd : (f x :: listedU (((x :: r).filter (fun y => !(decide (f y = f x)))).map f) F).Nodup := by
          rw [List.nodup_cons]
          refine ⟨fun hm => ?_, asc_nodup (listedU_asc _ _)⟩
          obtain ⟨_, _, hm⟩ := listedU_mem.1 hm
          obtain ⟨y, hy, e⟩ := List.mem_map.1 hm
          have := (List.mem_filter.1 hy).2
          simp [e] at this
        have hme : ∀ z, z ∈ listedU ((x :: r).map f) F ↔ z ∈ (f x :: listedU (((x :: r).filter (fun y => !(decide (f y = f x)))).map f) F) := fun z => by
          rw [listedU_mem, List.mem_cons, listedU_mem]
          constructor
          · rintro ⟨q1, q2, q3⟩
            by_cases hz : z = f x
            · exact .inl hz
            · refine .inr ⟨q1, q2, ?_⟩
              obtain ⟨y, hy, rfl⟩ := List.mem_map.1 q3
              exact List.mem_map.2 ⟨y, List.mem_filter.2 ⟨hy, by simpa using hz⟩, rfl⟩
          · rintro (rfl | ⟨q1, q2, q3⟩)
            · exact ⟨(hr x (by simp)).1, (hr x (by simp)).2, List.mem_map.2 ⟨x, by simp, rfl⟩⟩
            · obtain ⟨y, hy, rfl⟩ := List.mem_map.1 q3
              exact ⟨q1, q2, List.mem_map.2 ⟨y, (List.mem_filter.1 hy).1, rfl⟩⟩
        have a1 := nodup_sub_len (asc_nodup (listedU_asc ((x :: r).map f) F)) (fun z hz => (hme z).1 hz)
        have a2 := nodup_sub_len hnd (fun z hz => (hme z).2 hz)
        simp only [List.length_cons] at a1 a2
        omega
      rw [hcard, Nat.mul_add, Nat.mul_one, ← hi, ← List.countP_eq_length_filter, h2]
      exact hsplit
theorem GrpR.ontoP {m : Nat} {rs : List Int} (h : GrpR m rs) {g : Int} (hg : g ∈ rs) : (rs.map fun u => rankF (prodF (withF m g) (withF m u))).Perm rs := by
  refine perm_of_sub ?_ (fun y hy => ?_) (by simp)
  · have := asc_nodup h.asc
    unfold List.Nodup at this ⊢
    rw [List.pairwise_map]
    refine List.Pairwise.imp_of_mem (fun {a b} ha hb hne e => hne ?_) this
    have e2 := prod_cancelL (h.perm hg) (h.perm ha).1 (h.perm hb).1 (rank_inj ((h.perm hg).prod (h.perm ha)) ((h.perm hg).prod (h.perm hb)) e)
    rw [← h.rank ha, ← h.rank hb, e2]
  · obtain ⟨u, hu, rfl⟩ := List.mem_map.1 hy
    exact h.mul g hg u hu
/-- The size of a class divides the size of the group. -/
theorem cls_dvd {m : Nat} {rs : List Int} (h : GrpR m rs) {x : Int} (hx : x ∈ rs) : (listedU (clsR m rs x) (facN m)).length ∣ rs.length := by
  have X := h.perm hx
  have key := fiber_mul (fun y => rankF (conjF (withF m y) (withF m x))) (rs.countP (fun z => decide (rankF (conjF (withF m z) (withF m x)) = x))) (facN m) _ rs (Nat.le_refl _) (fun y hy => by
    exact (conj_perm (h.perm hy) X).1.rk) (fun g hg => by
    have G := h.perm hg
    rw [← (h.ontoP hg).countP_eq, List.countP_map]
    refine List.countP_congr fun z hz => ?_
    have Z := h.perm hz
    have GZ := G.prod Z
    simp only [Function.comp, decide_eq_true_eq]
    rw [with_rank GZ]
    have hd := conj_mul G X
    have hdP := conj_perm G X
    constructor
    · intro e
      have e2 := rank_inj (conj_perm GZ X) hdP e
      have e3 := conj_mul GZ X
      rw [e2, ← prod_assocL G.1.1 Z.1, hd, prod_assocL X.1.1 Z.1, prod_assocL Z.1.1 X.1] at e3
      have e4 := prod_cancelL G (X.prod Z).1 (Z.prod X).1 e3
      rw [conj_uniq Z X X e4, h.rank hx]
    · intro e
      have e2 : conjF (withF m z) (withF m x) = withF m x := rank_inj (conj_perm Z X) X (by rw [e, h.rank hx])
      have e3 := conj_mul Z X
      rw [e2] at e3
      rw [conj_uniq GZ X hdP (by rw [← prod_assocL G.1.1 Z.1, hd, prod_assocL X.1.1 Z.1, e3, prod_assocL Z.1.1 X.1])])
  exact ⟨_, by rw [Nat.mul_comm]; exact key⟩
def finD (m : Nat) (rs : List Int) : List Int → List Int → List Int
  | D, [] => D
  | D, x :: r => if D.contains x = true then finD m rs D r else finD m rs (D ++ clsR m rs x) r
theorem finD_sup {m : Nat} {rs : List Int} : ∀ (r D : List Int), ∀ y ∈ D, y ∈ finD m rs D r := by
  intro r
  induction r with
  | nil => intro D y hy; exact hy
  | cons x r ih =>
    intro D y hy
    unfold finD
    split
    · exact ih D y hy
    · exact ih _ y (List.mem_append_left _ hy)
theorem finD_all {m : Nat} {rs : List Int} (h : GrpR m rs) : ∀ (r D : List Int), (∀ x ∈ r, x ∈ rs) → ∀ x ∈ r, x ∈ finD m rs D r := by
  intro r
  induction r with
  | nil => intro D _ x hx; simp at hx
  | cons z r ih =>
    intro D hr x hx
    unfold finD
    split
    · rename_i hc
      rcases List.mem_cons.1 hx with rfl | hx
      · exact finD_sup r D x (by rw [List.contains_eq_mem] at hc; simpa using hc)
      · exact ih D (fun y hy => hr y (by simp [hy])) x hx
    · rcases List.mem_cons.1 hx with rfl | hx
      · exact finD_sup r _ x (List.mem_append_right _ (cls_self h (hr x (by simp))))
      · exact ih _ (fun y hy => hr y (by simp [hy])) x hx
theorem finD_sub {m : Nat} {rs : List Int} (h : GrpR m rs) : ∀ (r D : List Int), (∀ x ∈ r, x ∈ rs) → (∀ x ∈ D, x ∈ rs) → ∀ x ∈ finD m rs D r, x ∈ rs := by
  intro r
  induction r with
  | nil => intro D _ hD x hx; exact hD x hx
  | cons z r ih =>
    intro D hr hD x hx
    unfold finD at hx
    split at hx
    · exact ih D (fun y hy => hr y (by simp [hy])) hD x hx
    · exact ih _ (fun y hy => hr y (by simp [hy])) (fun y hy => (List.mem_append.1 hy).elim (hD y) (cls_mem h (hr z (by simp)) y)) x hx
theorem listedU_add {F : Nat} {A B : List Int} (hd : ∀ x ∈ B, ¬ x ∈ A) : (listedU (A ++ B) F).length = (listedU A F).length + (listedU B F).length := by
  have hn : (listedU A F ++ listedU B F).Nodup := by
    rw [List.nodup_append]
    exact ⟨asc_nodup (listedU_asc _ _), asc_nodup (listedU_asc _ _), fun a ha b hb e => by subst e; exact hd a (listedU_mem.1 hb).2.2 (listedU_mem.1 ha).2.2⟩
  have hm : ∀ z, z ∈ listedU (A ++ B) F ↔ z ∈ listedU A F ++ listedU B F := fun z => by
    rw [List.mem_append, listedU_mem, listedU_mem, listedU_mem, List.mem_append]
    constructor
    · rintro ⟨q1, q2, q3 | q3⟩
      · exact .inl ⟨q1, q2, q3⟩
      · exact .inr ⟨q1, q2, q3⟩
    · rintro (⟨q1, q2, q3⟩ | ⟨q1, q2, q3⟩)
      · exact ⟨q1, q2, .inl q3⟩
      · exact ⟨q1, q2, .inr q3⟩
  have a1 := nodup_sub_len (asc_nodup (listedU_asc (A ++ B) F)) (fun z hz => (hm z).1 hz)
  have a2 := nodup_sub_len hn (fun z hz => (hm z).2 hz)
  rw [List.length_append] at a1 a2
  omega
theorem tot_cons (x : List Int) (r : List (List Int)) : tot (x :: r) = x.length + tot r := by simp [tot]
theorem cls_tot {m : Nat} {rs : List Int} (h : GrpR m rs) : ∀ (r D : List Int), (∀ x ∈ r, x ∈ rs) → doneOk m rs D → tot (clsG m rs D r) + (listedU D (facN m)).length = (listedU (finD m rs D r) (facN m)).length := by
  intro r
  induction r with
  | nil => intro D _ _; simp [clsG, tot, finD]
  | cons x r ih =>
    intro D hr hD
    have hx := hr x (by simp)
    cases hc : D.contains x
    · rw [clsG_new hc, tot_cons]
      have e : finD m rs D (x :: r) = finD m rs (D ++ clsR m rs x) r := by conv => lhs; unfold finD; rw [if_neg (by rw [hc]; decide)]
      rw [e, ← ih _ (fun y hy => hr y (by simp [hy])) (hD.add hx), listedU_add (hD.apart h hx (by rw [List.contains_eq_mem] at hc; simpa using hc))]
      omega
    · rw [clsG_has hc]
      have e : finD m rs D (x :: r) = finD m rs D r := by conv => lhs; unfold finD; rw [if_pos hc]
      rw [e, ← ih _ (fun y hy => hr y (by simp [hy])) hD]
/-- All classes together have as many as the group. -/
theorem cls_all {m : Nat} {rs : List Int} (h : GrpR m rs) : tot (clsG m rs [] rs) = rs.length := by
  have h1 := cls_tot h rs [] (fun _ hx => hx) (doneOk.nil m rs)
  have h2 : listedU (finD m rs [] rs) (facN m) = rs := listedU_self h.asc h.rng (fun x => ⟨fun hx => finD_all h rs [] (fun _ hx => hx) x hx, fun hx => finD_sub h rs [] (fun _ hx => hx) (fun _ hx => by simp at hx) x hx⟩)
  have h3 : (listedU ([] : List Int) (facN m)).length = 0 := by
    have := nodup_sub_len (l := ([] : List Int)) (asc_nodup (listedU_asc [] (facN m))) (fun y hy => (listedU_mem.1 hy).2.2)
    simpa using this
  rw [h2, h3] at h1
  omega
/-- What each class is. -/
theorem cls_each {m : Nat} {rs : List Int} (h : GrpR m rs) : ∀ (r D : List Int), (∀ x ∈ r, x ∈ rs) → ∀ ls ∈ clsG m rs D r, 0 < ls.length ∧ ls.length ∣ rs.length ∧ ∀ y ∈ ls, y ∈ rs := by
  intro r
  induction r with
  | nil => intro D _ ls hls; simp [clsG] at hls
  | cons x r ih =>
    intro D hr ls hls
    have hx := hr x (by simp)
    cases hc : D.contains x
    · rw [clsG_new hc] at hls
      rcases List.mem_cons.1 hls with rfl | hls
      · refine ⟨?_, cls_dvd h hx, fun y hy => cls_mem h hx y (listedU_mem.1 hy).2.2⟩
        exact List.length_pos_of_mem (listedU_mem.2 ⟨(h.rng x hx).1, (h.rng x hx).2, cls_self h hx⟩)
      · exact ih _ (fun y hy => hr y (by simp [hy])) ls hls
    · rw [clsG_has hc] at hls
      exact ih _ (fun y hy => hr y (by simp [hy])) ls hls
end Go.Proofs.Ytbkbcbanfnhjpaa
