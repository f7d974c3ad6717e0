/- Plain: what some generate is a group; the number of its permutations divides that of all. -/
import Derived.Test.YtbkbcbanfnhjpaaW5
namespace Go.Proofs.Ytbkbcbanfnhjpaa
open Go Go.RowKit

theorem prod_assocL {n : Nat} {a b c : List Int} (hb : b.length = n) (hc : PermL n c) : prodF (prodF a b) c = prodF a (prodF b c) := by
  unfold prodF
  rw [List.map_map]
  refine List.map_congr_left fun y hy => ?_
  have h := hc.2 y hy
  have hl : y.toNat < b.length := by omega
  simp only [Function.comp, List.getD_eq_getElem?_getD, List.getElem?_map]
  rw [List.getElem?_eq_getElem hl]
  rfl
theorem expG_pre (gs : List (List Int)) (x : List Int) : ∀ ms : List (List Int), ms <+: expG gs x ms := by
  induction gs with
  | nil => intro ms; exact List.prefix_refl _
  | cons a gs ih => intro ms; rw [expG_cons]; exact (addG_pre ms _).trans (ih _)
theorem bfsG_pre (gs : List (List Int)) : ∀ (f k : Nat) (ms : List (List Int)), ms <+: bfsG gs f k ms := by
  intro f
  induction f with
  | zero => intro k ms; exact List.prefix_refl _
  | succ f ih =>
    intro k ms
    unfold bfsG
    split
    · exact List.prefix_refl _
    · exact (expG_pre gs _ ms).trans (ih _ _)
theorem expG_all {P : List Int → Prop} {x : List Int} (hx : P x) : ∀ (gs : List (List Int)) (ms : List (List Int)), (∀ a ∈ gs, ∀ y, P y → P (prodF a y)) → (∀ y ∈ ms, P y) → ∀ y ∈ expG gs x ms, P y := by
  intro gs
  induction gs with
  | nil => intro ms _ h; exact h
  | cons a gs ih =>
    intro ms hs h
    rw [expG_cons]
    refine ih _ (fun b hb => hs b (by simp [hb])) fun y hy => ?_
    unfold addG at hy
    split at hy
    · exact h y hy
    · rcases List.mem_append.1 hy with hy | hy
      · exact h y hy
      · rw [List.mem_singleton.1 hy]; exact hs a (by simp) x hx
theorem bfsG_all {P : List Int → Prop} {gs : List (List Int)} (hs : ∀ a ∈ gs, ∀ y, P y → P (prodF a y)) : ∀ (f k : Nat) (ms : List (List Int)), (∀ y ∈ ms, P y) → ∀ y ∈ bfsG gs f k ms, P y := by
  intro f
  induction f with
  | zero => intro k ms h; exact h
  | succ f ih =>
    intro k ms h
    unfold bfsG
    split
    · exact h
    · rename_i x hx
      exact ih _ _ (expG_all (h x (List.mem_of_getElem? hx)) gs ms hs h)
theorem addG_in (ms : List (List Int)) (b : List Int) : rankF b ∈ (addG ms b).map rankF := by
  unfold addG
  split
  · rename_i h; rw [List.contains_eq_mem] at h; simpa using h
  · simp
theorem pre_map {ms ms' : List (List Int)} (h : ms <+: ms') {r : Int} (hr : r ∈ ms.map rankF) : r ∈ ms'.map rankF := by
  obtain ⟨t, rfl⟩ := h
  rw [List.map_append]
  exact List.mem_append_left _ hr
theorem expG_in (x : List Int) : ∀ (gs : List (List Int)) (ms : List (List Int)), ∀ a ∈ gs, rankF (prodF a x) ∈ (expG gs x ms).map rankF := by
  intro gs
  induction gs with
  | nil => intro ms a ha; simp at ha
  | cons b gs ih =>
    intro ms a ha
    rw [expG_cons]
    rcases List.mem_cons.1 ha with rfl | ha
    · exact pre_map (expG_pre gs x _) (addG_in ms _)
    · exact ih _ a ha
theorem expG_good {n : Nat} {x : List Int} (hx : PermL n x) : ∀ (gs : List (List Int)) (ms : List (List Int)), (∀ a ∈ gs, PermL n a) → GoodM n ms → GoodM n (expG gs x ms) := by
  intro gs
  induction gs with
  | nil => intro ms _ h; exact h
  | cons a gs ih => intro ms hs h; rw [expG_cons]; exact ih _ (fun b hb => hs b (by simp [hb])) (h.add ((hs a (by simp)).prod hx))
theorem bfsG_closed {n : Nat} {gs : List (List Int)} (hs : ∀ a ∈ gs, PermL n a) : ∀ (f k : Nat) (ms : List (List Int)), GoodM n ms → facN n + 1 ≤ f + k → (∀ i x, i < k → ms[i]? = some x → ∀ a ∈ gs, rankF (prodF a x) ∈ ms.map rankF) →
    GoodM n (bfsG gs f k ms) ∧ ∀ x ∈ bfsG gs f k ms, ∀ a ∈ gs, rankF (prodF a x) ∈ (bfsG gs f k ms).map rankF := by
  intro f
  induction f with
  | zero =>
    intro k ms hg hf h
    refine ⟨hg, fun x hx a ha => ?_⟩
    have hx : x ∈ ms := hx
    obtain ⟨i, hi, e⟩ := List.getElem_of_mem hx
    have := hg.len
    exact h i x (by omega) (by rw [List.getElem?_eq_getElem hi, e]) a ha
  | succ f ih =>
    intro k ms hg hf h
    unfold bfsG
    split
    · rename_i hn
      refine ⟨hg, fun x hx a ha => ?_⟩
      obtain ⟨i, hi, e⟩ := List.getElem_of_mem hx
      have := List.getElem?_eq_none_iff.1 hn
      exact h i x (by omega) (by rw [List.getElem?_eq_getElem hi, e]) a ha
    · rename_i x hx
      have hpx := hg.perm x (List.mem_of_getElem? hx)
      refine ih _ _ (expG_good hpx gs ms hs hg) (by omega) fun i y hi hy a ha => ?_
      obtain ⟨t, ht⟩ := expG_pre gs x ms
      have hk := (List.getElem?_eq_some_iff.1 hx).1
      rw [← ht, List.getElem?_append_left (by omega)] at hy
      rcases Nat.lt_or_ge i k with h1 | h1
      · exact pre_map (expG_pre gs x ms) (h i y h1 hy a ha)
      · obtain rfl : i = k := by omega
        rw [hx] at hy
        injection hy with hy
        subst hy
        exact expG_in x gs ms a ha
theorem genM_good {n : Nat} {gs : List (List Int)} (hs : ∀ a ∈ gs, PermL n a) : GoodM n (genM n gs) ∧ ∀ x ∈ genM n gs, ∀ a ∈ gs, rankF (prodF a x) ∈ (genM n gs).map rankF :=
  bfsG_closed hs _ _ _ (GoodM.one n) (by omega) (fun i x hi => by omega)
theorem genM_id (n : Nat) (gs : List (List Int)) : idP n ∈ genM n gs := (bfsG_pre gs _ _ _).subset (by simp)
/-- A list of permutations that has the one and is closed. -/
structure SubG (n : Nat) (M : List (List Int)) : Prop where
  perm : ∀ x ∈ M, PermP n x
  one : idP n ∈ M
  mul : ∀ x ∈ M, ∀ y ∈ M, prodF x y ∈ M
  nodup : (M.map rankF).Nodup
theorem genM_sub {n : Nat} {gs : List (List Int)} (hs : ∀ a ∈ gs, PermP n a) : SubG n (genM n gs) := by
  obtain ⟨hg, hc⟩ := genM_good (n := n) (gs := gs) (fun a ha => (hs a ha).1)
  have hp : ∀ x ∈ genM n gs, PermP n x := bfsG_all (P := PermP n) (fun a ha y hy => (hs a ha).prod hy) _ _ _ (fun y hy => by rw [List.mem_singleton.1 hy]; exact PermP.id n)
  have hcl : ∀ a ∈ gs, ∀ x ∈ genM n gs, prodF a x ∈ genM n gs := fun a ha x hx => by
    obtain ⟨y, hy, e⟩ := List.mem_map.1 (hc x hx a ha)
    rw [← rank_inj (hp y hy) ((hs a ha).prod (hp x hx)) e]; exact hy
  refine ⟨hp, genM_id n gs, ?_, hg.nodup⟩
  have := bfsG_all (P := fun x => PermP n x ∧ ∀ y ∈ genM n gs, prodF x y ∈ genM n gs) (gs := gs) (fun a ha x hx => ⟨(hs a ha).prod hx.1, fun y hy => by
    rw [prod_assocL hx.1.1.1 (hp y hy).1]
    exact hcl a ha _ (hx.2 y hy)⟩) (facN n + 1) 0 [idP n] (fun y hy => by
    rw [List.mem_singleton.1 hy]
    exact ⟨PermP.id n, fun z hz => by rw [id_prod (hp z hz).1]; exact hz⟩)
  exact fun x hx y hy => (this x hx).2 y hy
/-- Each generator is in what they generate. -/
theorem genM_gen {n : Nat} {gs : List (List Int)} (hs : ∀ a ∈ gs, PermP n a) : ∀ a ∈ gs, rankF a ∈ (genM n gs).map rankF := fun a ha => by
  have := (genM_good (n := n) (gs := gs) (fun a ha => (hs a ha).1)).2 (idP n) (genM_id n gs) a ha
  rwa [prod_id (hs a ha).1] at this
theorem nodup_sub_len : ∀ {x l : List Int}, x.Nodup → (∀ y ∈ x, y ∈ l) → x.length ≤ l.length := by
  intro x
  induction x with
  | nil => intro l _ _; simp
  | cons a r ih =>
    intro l hn hs
    have ha := hs a (by simp)
    rw [List.nodup_cons] at hn
    have := ih (l := l.erase a) hn.2 (fun y hy => (List.mem_erase_of_ne (fun e => hn.1 (by rw [← e]; exact hy))).2 (hs y (by simp [hy])))
    rw [List.length_erase_of_mem ha] at this
    have := List.length_pos_of_mem ha
    simp
    omega
theorem asc_nodup {xs : List Int} (h : xs.Pairwise (· < ·)) : xs.Nodup := h.imp (fun h => by omega)
theorem listedU_card {F : Nat} {cs : List Int} (hn : cs.Nodup) (hr : ∀ x ∈ cs, 0 ≤ x ∧ x < (F : Int)) : (listedU cs F).length = cs.length := by
  refine Nat.le_antisymm (nodup_sub_len (asc_nodup (listedU_asc _ _)) fun y hy => (listedU_mem.1 hy).2.2) (nodup_sub_len hn fun y hy => listedU_mem.2 ⟨(hr y hy).1, (hr y hy).2, hy⟩)
theorem asc_sub_eq {a b : List Int} (ha : a.Pairwise (· < ·)) (hb : b.Pairwise (· < ·)) (hs : ∀ x ∈ a, x ∈ b) (hl : a.length = b.length) : a = b :=
  asc_unique ha hb fun _ => (perm_of_sub (asc_nodup ha) hs hl).mem_iff
theorem count_listed (cs : List Int) (F : Nat) : (idP F).countP (fun y => cs.contains y) = (listedU cs F).length := by
  unfold idP listedU
  rw [List.countP_map, List.length_map, List.countP_eq_length_filter]
  rfl
/-- The products of all with one. -/
def cosR (n : Nat) (M : List (List Int)) (r : Int) : List Int := M.map fun h => rankF (prodF h (withF n r))
/-- The number of permutations of a subgroup divides that of all. -/
theorem lagrange {n : Nat} {M : List (List Int)} (hn : n ≤ 6) (h : SubG n M) : M.length ∣ facN n := by
  have hF : (idP (facN n)).length = facN n := idP_len _
  have hx0 : ∀ r : Int, r ∈ idP (facN n) → PermP n (withF n r) := fun r hr => with_perm hn (mem_idP.1 hr).1 (mem_idP.1 hr).2
  have hnd : ∀ r ∈ idP (facN n), (cosR n M r).Nodup := fun r hr => by
    unfold cosR
    have h1 := h.nodup
    unfold List.Nodup at h1 ⊢
    rw [List.pairwise_map] at h1 ⊢
    refine List.Pairwise.imp_of_mem (fun {a b} ha hb hne => ?_) h1
    intro e
    exact hne (by rw [prod_cancel (h.perm a ha) (h.perm b hb) (hx0 r hr) (rank_inj ((h.perm a ha).prod (hx0 r hr)) ((h.perm b hb).prod (hx0 r hr)) e)])
  have hrg : ∀ r ∈ idP (facN n), ∀ y ∈ cosR n M r, 0 ≤ y ∧ y < (facN n : Int) := fun r hr y hy => by
    unfold cosR at hy
    obtain ⟨z, hz, rfl⟩ := List.mem_map.1 hy
    exact ((h.perm z hz).prod (hx0 r hr)).1.rk
  have hlen : ∀ r ∈ idP (facN n), (listedU (cosR n M r) (facN n)).length = M.length := fun r hr => by
    rw [listedU_card (hnd r hr) (hrg r hr)]; unfold cosR; rw [List.length_map]
  have hself : ∀ r ∈ idP (facN n), r ∈ cosR n M r := fun r hr => by
    unfold cosR
    refine List.mem_map.2 ⟨idP n, h.one, ?_⟩
    rw [id_prod (hx0 r hr).1]
    exact (with_ok hn (mem_idP.1 hr).1 (mem_idP.1 hr).2).rank
  have hsub : ∀ x ∈ idP (facN n), ∀ y ∈ idP (facN n), y ∈ cosR n M x → ∀ z ∈ cosR n M y, z ∈ cosR n M x := fun x hx y hy hyx z hz => by
    unfold cosR at hyx hz ⊢
    obtain ⟨p, hp, e⟩ := List.mem_map.1 hyx
    obtain ⟨q, hq, rfl⟩ := List.mem_map.1 hz
    refine List.mem_map.2 ⟨prodF q p, h.mul q hq p hp, ?_⟩
    rw [prod_assocL (h.perm p hp).1.1 (hx0 x hx).1, ← with_rank ((h.perm p hp).prod (hx0 x hx)), e]
  have key := fiber_dvd (fun r => listedU (cosR n M r) (facN n)) M.length _ (idP (facN n)) (Nat.le_refl _) (fun x hx => by
    rw [← hlen x hx, ← count_listed]
    refine List.countP_congr fun y hy => ?_
    rw [decide_eq_true_eq, List.contains_eq_mem, decide_eq_true_eq]
    constructor
    · intro e
      have h1 := hself y hy
      have h2 : y ∈ listedU (cosR n M y) (facN n) := listedU_mem.2 ⟨(mem_idP.1 hy).1, (mem_idP.1 hy).2, h1⟩
      rw [e] at h2
      exact (listedU_mem.1 h2).2.2
    · intro hyx
      refine asc_sub_eq (listedU_asc _ _) (listedU_asc _ _) (fun z hz => ?_) (by rw [hlen y hy, hlen x hx])
      have h3 := listedU_mem.1 hz
      exact listedU_mem.2 ⟨h3.1, h3.2.1, hsub x hx y hy hyx z h3.2.2⟩)
  rwa [hF] at key
theorem genR_dvd {n : Nat} {gs : List (List Int)} (hn : n ≤ 6) (hs : ∀ a ∈ gs, PermP n a) : 0 < (genR n gs).length ∧ (genR n gs).length ∣ facN n := by
  have h := genM_sub hs
  have hl : (genR n gs).length = (genM n gs).length := by
    unfold genR
    rw [listedU_card h.nodup (fun x hx => by obtain ⟨y, hy, rfl⟩ := List.mem_map.1 hx; exact (h.perm y hy).1.rk), List.length_map]
  rw [hl]
  exact ⟨List.length_pos_of_mem h.one, lagrange hn h⟩
end Go.Proofs.Ytbkbcbanfnhjpaa
