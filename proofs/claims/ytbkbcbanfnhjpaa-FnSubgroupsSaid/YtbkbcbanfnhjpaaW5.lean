/- Plain: a permutation is told by its rank; how many a subgroup has. -/
import Derived.Test.YtbkbcbanfnhjpaaMA
namespace Go.Proofs.Ytbkbcbanfnhjpaa
open Go Go.RowKit

theorem perm_of_sub : ∀ {x l : List Int}, x.Nodup → (∀ y ∈ x, y ∈ l) → x.length = l.length → x.Perm l := by
  intro x
  induction x with
  | nil => intro l _ _ h; rw [List.eq_nil_of_length_eq_zero h.symm]
  | cons a r ih =>
    intro l hn hs hl
    have ha := hs a (by simp)
    rw [List.nodup_cons] at hn
    refine List.Perm.trans (List.Perm.cons a (ih (l := l.erase a) hn.2 (fun y hy => ?_) ?_)) (List.perm_cons_erase ha).symm
    · have hne : y ≠ a := fun e => hn.1 (by rw [← e]; exact hy)
      exact (List.mem_erase_of_ne hne).2 (hs y (by simp [hy]))
    · rw [List.length_erase_of_mem ha]; simp at hl; omega
theorem rankG_lin (r : List Int) : ∀ n : Int, rankG n r = n * (facN r.length : Int) + rankG 0 r := by
  induction r with
  | nil => intro n; simp [rankG, facN]
  | cons x r ih =>
    intro n
    show rankG (n * ((r.length + 1 : Nat) : Int) + (lessN x r : Int)) r = n * (((r.length + 1) * facN r.length : Nat) : Int) + rankG (0 * ((r.length + 1 : Nat) : Int) + (lessN x r : Int)) r
    rw [ih, ih (0 * ((r.length + 1 : Nat) : Int) + (lessN x r : Int)), Int.zero_mul, Int.zero_add, Int.add_mul, Int.natCast_mul, ← Int.mul_assoc, Int.add_assoc]
theorem with_rankG : ∀ (x left : List Int), left.Pairwise (· < ·) → x.Perm left → withG x.length (rankG 0 x) left = x := by
  intro x
  induction x with
  | nil => intro left _ _; rfl
  | cons a r ih =>
    intro left ha hp
    obtain ⟨l1, l2, rfl⟩ := List.append_of_mem (hp.mem_iff.1 (List.mem_cons_self (a := a) (l := r)))
    have hr : r.Perm (l1 ++ l2) := (hp.trans List.perm_middle).cons_inv
    have hpa := List.pairwise_append.1 ha
    have h1 : ∀ y ∈ l1, y < a := fun y hy => hpa.2.2 y hy a (by simp)
    have h2 : ∀ y ∈ l2, a < y := fun y hy => (List.pairwise_cons.1 hpa.2.1).1 y hy
    have hless : lessN a r = l1.length := by
      unfold lessN
      rw [hr.countP_eq, List.countP_append, List.countP_eq_length.2 (fun y hy => by simpa using h1 y hy), List.countP_eq_zero.2 (fun y hy => by have := h2 y hy; simp; omega), Nat.add_zero]
    have hb := rankG_bd r 0 (by omega)
    have hf := facN_pos r.length
    rw [Int.zero_mul, Int.zero_add, Int.one_mul] at hb
    have hrk : rankG 0 (a :: r) = (l1.length : Int) * (facN r.length : Int) + rankG 0 r := by
      show rankG (0 * ((r.length + 1 : Nat) : Int) + (lessN a r : Int)) r = _
      rw [rankG_lin, hless, Int.zero_mul, Int.zero_add]
    have hdiv : rankG 0 (a :: r) / (facN r.length : Int) = (l1.length : Int) := by
      rw [hrk, Int.add_comm, Int.add_mul_ediv_right _ _ (by omega), Int.ediv_eq_zero_of_lt hb.1 hb.2]; omega
    have hmod : rankG 0 (a :: r) % (facN r.length : Int) = rankG 0 r := by
      rw [hrk, Int.add_comm, Int.add_mul_emod_self_right, Int.emod_eq_of_lt hb.1 hb.2]
    show (l1 ++ a :: l2).getD (rankG 0 (a :: r) / (facN r.length : Int)).toNat 0 :: withG r.length (rankG 0 (a :: r) % (facN r.length : Int)) ((l1 ++ a :: l2).eraseIdx (rankG 0 (a :: r) / (facN r.length : Int)).toNat) = a :: r
    rw [hdiv, hmod, Int.toNat_natCast]
    have hget : (l1 ++ a :: l2).getD l1.length 0 = a := by simp [List.getD]
    have her : (l1 ++ a :: l2).eraseIdx l1.length = l1 ++ l2 := by rw [List.eraseIdx_append_of_length_le (Nat.le_refl _)]; simp
    rw [hget, her, ih (l1 ++ l2) (List.Pairwise.sublist (List.Sublist.append (List.Sublist.refl l1) (List.sublist_cons_self a l2)) ha) hr]
/-- A permutation. -/
def PermP (n : Nat) (x : List Int) : Prop := PermL n x ∧ x.Nodup
theorem idP_asc (n : Nat) : (idP n).Pairwise (· < ·) := by
  unfold idP
  rw [List.pairwise_map]
  exact List.Pairwise.imp (R := fun (a b : Nat) => a < b) (fun h => by omega) List.pairwise_lt_range
theorem mem_idP {n : Nat} {y : Int} : y ∈ idP n ↔ 0 ≤ y ∧ y < (n : Int) := by
  unfold idP
  rw [List.mem_map]
  constructor
  · rintro ⟨i, hi, rfl⟩; rw [List.mem_range] at hi; omega
  · intro h; exact ⟨y.toNat, by rw [List.mem_range]; omega, by omega⟩
theorem PermP.perm {n : Nat} {x : List Int} (h : PermP n x) : x.Perm (idP n) := perm_of_sub h.2 (fun y hy => mem_idP.2 (h.1.2 y hy)) (by rw [idP_len]; exact h.1.1)
theorem with_rank {n : Nat} {x : List Int} (h : PermP n x) : withF n (rankF x) = x := by
  unfold withF rankF
  have := with_rankG x (idP n) (idP_asc n) h.perm
  rw [h.1.1] at this
  exact this
theorem rank_inj {n : Nat} {x y : List Int} (hx : PermP n x) (hy : PermP n y) (h : rankF x = rankF y) : x = y := by
  rw [← with_rank hx, ← with_rank hy, h]
theorem with_perm {n : Nat} {r : Int} (hn : n ≤ 6) (h0 : 0 ≤ r) (h1 : r < (facN n : Int)) : PermP n (withF n r) := by
  have h := with_ok hn h0 h1
  exact ⟨⟨h.len, h.rng⟩, h.nodup⟩
theorem PermP.id (n : Nat) : PermP n (idP n) := ⟨PermL.id n, (idP_asc n).imp (fun h => by omega)⟩
theorem nodup_at {a : List Int} (h : a.Nodup) {i j : Nat} (hi : i < a.length) (hj : j < a.length) (e : a[i] = a[j]) : i = j := by
  rcases Nat.lt_trichotomy i j with hlt | he | hlt
  · exact absurd e (List.pairwise_iff_getElem.1 h i j hi hj hlt)
  · exact he
  · exact absurd e.symm (List.pairwise_iff_getElem.1 h j i hj hi hlt)
theorem PermP.prod {n : Nat} {a b : List Int} (ha : PermP n a) (hb : PermP n b) : PermP n (prodF a b) := by
  refine ⟨ha.1.prod hb.1, ?_⟩
  unfold prodF
  refine List.Pairwise.map _ (fun p q h => ?_) (List.Pairwise.and_mem.1 hb.2)
  obtain ⟨hp, hq, hne⟩ := h
  have h1 := hb.1.2 p hp
  have h2 := hb.1.2 q hq
  have l1 : p.toNat < a.length := by rw [ha.1.1]; omega
  have l2 : q.toNat < a.length := by rw [ha.1.1]; omega
  rw [List.getD_eq_getElem?_getD, List.getElem?_eq_getElem l1, List.getD_eq_getElem?_getD, List.getElem?_eq_getElem l2]
  intro e
  simp only [Option.getD_some] at e
  have := nodup_at ha.2 l1 l2 e
  omega
theorem prod_id {n : Nat} {a : List Int} (ha : PermL n a) : prodF a (idP n) = a := by
  unfold prodF idP
  rw [List.map_map]
  refine List.ext_getElem (by simp [ha.1]) fun i h1 h2 => ?_
  simp only [List.getElem_map, List.getElem_range, Function.comp, Int.toNat_natCast, List.getD_eq_getElem?_getD]
  rw [List.getElem?_eq_getElem h2]; rfl
theorem id_prod {n : Nat} {a : List Int} (ha : PermL n a) : prodF (idP n) a = a := by
  unfold prodF
  refine (List.map_congr_left (g := id) fun y hy => ?_).trans (List.map_id a)
  have h := ha.2 y hy
  have hl : y.toNat < (idP n).length := by rw [idP_len]; omega
  rw [List.getD_eq_getElem?_getD, List.getElem?_eq_getElem hl]
  simp [idP]
  omega
/-- Products with the same right factor. -/
theorem prod_cancel {n : Nat} {a b x : List Int} (ha : PermP n a) (hb : PermP n b) (hx : PermP n x) (h : prodF a x = prodF b x) : a = b := by
  refine List.ext_getElem (by rw [ha.1.1, hb.1.1]) fun i h1 h2 => ?_
  have hi : (i : Int) ∈ x := hx.perm.mem_iff.2 (mem_idP.2 ⟨by omega, by have := ha.1.1; omega⟩)
  obtain ⟨k, hk, e⟩ := List.getElem_of_mem hi
  unfold prodF at h
  have h3 : (x.map fun i => a.getD i.toNat 0)[k]? = (x.map fun i => b.getD i.toNat 0)[k]? := by rw [h]
  rw [List.getElem?_map, List.getElem?_map, List.getElem?_eq_getElem hk, e] at h3
  simp only [Option.map_some, Option.some.injEq, Int.toNat_natCast, List.getD_eq_getElem?_getD] at h3
  rw [List.getElem?_eq_getElem h1, List.getElem?_eq_getElem h2] at h3
  simpa using h3
/-- If all fibers of a map have as many members, their number divides that of all. -/
theorem fiber_dvd {α β : Type} [DecidableEq β] (f : α → β) (m : Nat) : ∀ (N : Nat) (U : List α), U.length ≤ N → (∀ x ∈ U, U.countP (fun y => decide (f y = f x)) = m) → m ∣ U.length := by
  intro N
  induction N with
  | zero => intro U hU _; rw [Nat.le_zero.1 hU]; exact Nat.dvd_zero m
  | succ N ih =>
    intro U hU h
    rcases U with _ | ⟨x, r⟩
    · exact Nat.dvd_zero m
    · have hx := h x (by simp)
      have hsplit := List.length_eq_countP_add_countP (fun y => decide (f y = f x)) (l := x :: r)
      rw [hx] at hsplit
      have hlt : ((x :: r).filter (fun y => !(decide (f y = f x)))).length ≤ N := by
        rw [← List.countP_eq_length_filter]
        have : 0 < m := by rw [← hx]; exact List.countP_pos_iff.2 ⟨x, by simp, by simp⟩
        have h2 : (x :: r).countP (fun y => !(decide (f y = f x))) = (x :: r).countP (fun a => decide ¬(decide (f a = f x) = true)) := List.countP_congr (fun y _ => by simp)
        simp only [List.length_cons] at hU hsplit
        omega
      have := ih _ hlt (fun y hy => by
        have hy2 := List.mem_filter.1 hy
        have hne : f y ≠ f x := by simpa using hy2.2
        rw [List.countP_filter, ← h y hy2.1]
        refine List.countP_congr fun z _ => ?_
        simp only [Bool.and_eq_true, decide_eq_true_eq, Bool.not_eq_true', decide_eq_false_iff_not]
        exact ⟨fun e => e.1, fun e => ⟨e, by rw [e]; exact hne⟩⟩)
      rw [← List.countP_eq_length_filter] at this
      have h2 : (x :: r).countP (fun y => !(decide (f y = f x))) = (x :: r).countP (fun a => decide ¬(decide (f a = f x) = true)) := List.countP_congr (fun y _ => by simp)
      rw [h2] at this
      rw [hsplit]
      exact Nat.dvd_add (Nat.dvd_refl m) this
end Go.Proofs.Ytbkbcbanfnhjpaa
