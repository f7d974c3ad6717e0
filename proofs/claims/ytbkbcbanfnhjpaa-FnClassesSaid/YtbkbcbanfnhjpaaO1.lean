/- Sorted, each once: plain; orbits: both texts. -/
import Derived.Test.YtbkbcbanfnhjpaaP2
namespace Go.Proofs.Ytbkbcbanfnhjpaa
open Go Go.RowKit

theorem bang {ys : List Int} {m : Nat} (h : m < ys.length) : ys.toArray[m]! = ys[m] := by simp [h]
theorem keeps_iff {d : Array Int} {j : Nat} : Lib.keeps d j = true ↔ (j = 0 ∨ d[j]! ≠ d[j - 1]!) := by unfold Lib.keeps; exact decide_eq_true_iff
theorem compactUp_ok {ys : List Int} (hs : ys.Pairwise (· ≤ ·)) : ∀ m, m ≤ ys.length → (Lib.compactUpTo ys.toArray m).Pairwise (· < ·) ∧ ∀ x, x ∈ Lib.compactUpTo ys.toArray m ↔ x ∈ ys.take m := by
  intro m
  induction m with
  | zero => intro _; simp [Lib.compactUpTo]
  | succ m ih =>
    intro hm
    obtain ⟨h1, h2⟩ := ih (by omega)
    have hlt : m < ys.length := by omega
    rw [Lib.compactUpTo_succ]
    have hle : ∀ x ∈ ys.take m, ∀ h0 : 0 < m, x ≤ ys[m - 1] := by
      intro x hx h0
      obtain ⟨i, hi, rfl⟩ := List.mem_take_iff_getElem.1 hx
      rcases Nat.lt_or_ge i (m - 1) with h | h
      · exact (List.pairwise_iff_getElem.1 hs) i (m - 1) (by omega) (by omega) h
      · have : i = m - 1 := by omega
        subst this; exact Int.le_refl _
    rw [List.take_succ_eq_append_getElem hlt]
    by_cases hk : Lib.keeps ys.toArray m = true
    · rw [if_pos hk, bang hlt]
      refine ⟨List.pairwise_append.2 ⟨h1, List.pairwise_singleton _ _, fun x hx y hy => ?_⟩, fun x => by simp only [List.mem_append, h2]⟩
      simp only [List.mem_singleton] at hy
      subst hy
      have hx' := (h2 x).1 hx
      have h0 : 0 < m := by
        rcases Nat.eq_zero_or_pos m with h | h
        · subst h; simp at hx'
        · exact h
      have h3 := hle x hx' h0
      have h4 := (List.pairwise_iff_getElem.1 hs) (m - 1) m (by omega) hlt (by omega)
      rcases keeps_iff.1 hk with h5 | h5
      · omega
      · rw [bang hlt, bang (show m - 1 < ys.length by omega)] at h5
        omega
    · rw [if_neg hk, List.append_nil]
      refine ⟨h1, fun x => ?_⟩
      have h5 : ¬ (m = 0 ∨ ys.toArray[m]! ≠ ys.toArray[m - 1]!) := fun h => hk (keeps_iff.2 h)
      have h0 : 0 < m := by omega
      have h6 : ys[m] = ys[m - 1] := by
        have : ys.toArray[m]! = ys.toArray[m - 1]! := by
          rcases Classical.em (ys.toArray[m]! = ys.toArray[m - 1]!) with h | h
          · exact h
          · exact absurd (.inr h) h5
        rwa [bang hlt, bang (show m - 1 < ys.length by omega)] at this
      simp only [h2, List.mem_append, List.mem_singleton]
      refine ⟨.inl, fun h => ?_⟩
      rcases h with h | h
      · exact h
      · rw [h, h6]; exact List.mem_take_iff_getElem.2 ⟨m - 1, by omega, rfl⟩
theorem sort_compact {xs : List Int} {F : Nat} (hr : ∀ x ∈ xs, 0 ≤ x ∧ x < (F : Int)) : Lib.compact (xs.mergeSort fun x y => decide (x ≤ y)) = listedU xs F := by
  have hs : (xs.mergeSort fun x y => decide (x ≤ y)).Pairwise (· ≤ ·) := by
    have := List.pairwise_mergeSort (le := fun (x y : Int) => decide (x ≤ y)) (by intro a b c h1 h2; simp at *; omega) (by intro a b; simp; omega) xs
    exact this.imp fun h => by simpa using h
  have hp := List.mergeSort_perm xs fun x y => decide (x ≤ y)
  obtain ⟨h1, h2⟩ := compactUp_ok hs _ (Nat.le_refl _)
  rw [List.take_length] at h2
  exact (listedU_self (xs := Lib.compact _) h1 (fun x hx => hr x (hp.mem_iff.1 ((h2 x).1 hx))) (fun x => by rw [show Lib.compact (xs.mergeSort fun x y => decide (x ≤ y)) = Lib.compactUpTo _ _ from rfl, h2, hp.mem_iff])).symm

/-- The images of a point. -/
def imgs (m : Nat) (rs : List Int) (p : Nat) : List Int := rs.map fun x => (withF m x).getD p 0
theorem imgs_len (m : Nat) (rs : List Int) (p : Nat) : (imgs m rs p).length = rs.length := by simp [imgs]
theorem imgs_snoc {m : Nat} {rs : List Int} {p k : Nat} (h : k < rs.length) : imgs m (rs.take (k + 1)) p = imgs m (rs.take k) p ++ [(withF m rs[k]).getD p 0] := by
  rw [take_snocI _ _ h]; unfold imgs; rw [List.map_append]; rfl
theorem imgs_bd {m : Nat} {rs : List Int} {p : Nat} (hm : m ≤ 6) (hr : ∀ x ∈ rs, 0 ≤ x ∧ x < (facN m : Int)) (hp : p < m) : ∀ y ∈ imgs m rs p, 0 ≤ y ∧ y < (m : Int) := by
  intro y hy
  simp only [imgs, List.mem_map] at hy
  obtain ⟨x, hx, rfl⟩ := hy
  have hw := with_ok hm (hr x hx).1 (hr x hx).2
  have hpl : p < (withF m x).length := by rw [hw.len]; exact hp
  rw [List.getD, List.getElem?_eq_getElem hpl]
  exact hw.rng _ (List.getElem_mem hpl)
def orbF (m : Nat) (rs : List Int) (p : Nat) : List Int := listedU (imgs m rs p) m

set_option maxRecDepth 20000 in
set_option maxHeartbeats 4000000 in
theorem s_listed (B : Nat) (v : Value) (F : Nat) (xs : List Int) (w : World) (h : ownF B w v (flagsOf F xs)) (hF : 0 < F ∧ F ≤ 720) :
    Calls Try.prog 88 #[v] w fun e w' => ∃ r, e = .returned r ∧ ownR w.heap.size w' r (listedU xs F) ∧ Below w.heap.size w w' := by
  obtain ⟨i0, hi, hz0, hz1, hz2⟩ := info_parts infoI
  obtain ⟨g, cf, hg, _, hgl⟩ := h.shape (by rw [flagsOf_len]; exact hF.1)
  rw [flagsOf_len] at hg
  subst hg
  have HF := hid h
  clear h
  go_enter Try.func88, Try.ntmps88
  go_wp2_with fail
  go_loopw [3, 4] (fun r i wr => ∃ k : Nat, k ≤ F ∧ i = .int .i64 k ∧ Hid (ownR w.heap.size wr r (listedU xs k)) ∧ Ext w.heap.size w wr) (fun _ i _ => F - (intOf i).toNat)
  case atStart => exact ⟨0, by omega, rfl, hid (own_made w), (Ext.refl _).alloc _⟩
  case round =>
    obtain ⟨k, hk, rfl, HO, hE⟩ := hrel
    by_cases hlt : k < F
    · have hcq := HF.out.cell (q := k) (by rw [flagsOf_len]; exact hlt)
      rw [flagsOf_at hlt] at hcq
      have hcq2 := hE.1.cell (p := ⟨g, k, none⟩) hgl
      rw [hcq] at hcq2
      have hsn := listedU_succ xs k
      have hll := listedU_len xs k
      have hltz : (k : Int) < (F : Int) := by omega
      have hown := HO.out
      have HE2 := hid hE
      cases hb : xs.contains (k : Int)
      · rw [hb] at hsn hcq2
        have HS := hid hsn
        clear hsn hcq hown hE
        go_wp2_with fail
        go_roundw
        case rel => exact ⟨k + 1, by omega, by go_num, hid (by rw [HS.out]; first | exact HO.out | (rw [if_neg (by simp)]; exact HO.out)), HE2.out⟩
        case measure => simp only [intOf]; omega
      · rw [hb] at hsn hcq2
        have HS := hid hsn
        clear hsn hcq hE
        go_wp2_with (at_builtin; refine wpList_append_own _ rfl _ _ 24 rfl (w.heap.size) 2 i0 (.int .i64 0) 1 8 Try.underlying24 hi hz0 hz1 hz2 rfl (by decide) _ _ _ rfl (hown.alloc _) ⟨_, 0, none⟩ 1 1 [.int .i64 ((k : Int))] rfl rfl ?c1 ?c2 ?c3 ?c4 ?c5 ?_)
        try case c1 => exact cell_one_new _ _ _
        case c2 => first | rfl | (intro u hu; simp at hu; subst hu; rfl)
        case c3 => unfold maxLen; omega
        case c4 => omega
        case c5 => first | (have := HE2.out.2; simp; omega) | omega
        intro v' w1 hown' hgrow _
        have HN : Hid (ownR w.heap.size w1 v' (listedU xs (k + 1))) := hid (by rw [HS.out]; simp only [if_true]; exact ownR.snoc hown')
        have HE3 : Hid (Ext w.heap.size w w1) := hid (ext_grown (HE2.out.alloc _) hgrow (own_row_ge hown))
        clear hown' hgrow hown
        go_wp2_with fail
        go_roundw
        case rel => exact ⟨k + 1, by omega, by go_num, HN, HE3.out⟩
        case measure => simp only [intOf]; omega
    · obtain rfl : k = F := by omega
      have hltz : ¬ (k : Int) < (k : Int) := by omega
      have HE2 := hid hE
      clear hE
      go_wp2_with fail
      go_ret
      exact ⟨_, rfl, HO.out, HE2.out.1⟩
end Go.Proofs.Ytbkbcbanfnhjpaa
