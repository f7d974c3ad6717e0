/- Several small texts in one: P1 P2 O1 J2 P9v J3. -/
import Derived.Test.YtbkbcbanfnhjpaaMA
/- Groups in the laws: sizes, copies, comparisons. -/
namespace Go.Proofs.Ytbkbcbanfnhjpaa
open Go Go.RowKit

theorem l_szI (r : Value) (xs : List Int) (L : Int) (w : World) (h : rdI w r xs) (hL : 0 ≤ L ∧ L ≤ 1048576) :
    Calls Try.prog 68 #[r, .int .i64 L] w fun e w' => e = .returned (.int .i64 (if L < xs.length then -1 else L - xs.length)) ∧ w = w' := by
  obtain ⟨a, cap, rfl, hm, _⟩ := h
  unfold maxLen at hm
  by_cases hl : L < xs.length
  · rw [if_pos hl]
    go_enter Try.func68, Try.ntmps68
    go_wp2_with fail
    go_ret
    exact ⟨rfl, rfl⟩
  · rw [if_neg hl]
    go_enter Try.func68, Try.ntmps68
    go_wp2_with fail
    go_ret
    exact ⟨rfl, rfl⟩
theorem l_szG (n : Int) (r : Value) (xs : List Int) (L : Int) (w : World) (h : rdI w r xs) (hL : 0 ≤ L ∧ L ≤ 1048576) :
    Calls Try.prog 31 #[(.agg #[.int .i64 n, r]), .int .i64 L] w fun e w' => e = .returned (.int .i64 (if L < xs.length then -1 else L - xs.length)) ∧ Below w.heap.size w w' := by
  have hR := h.alloc (Obj.cells #[.int .i64 n, r] 44)
  by_cases hl : L < xs.length
  · rw [if_pos hl]
    go_enter Try.func31, Try.ntmps31
    go_wp2_with (go_at_call 68; refine pur (l_szI _ xs L _ hR hL) ?_; rw [if_pos hl])
    go_ret
    exact ⟨rfl, (by refine Ext.bel ?_; repeat (with_reducible first | exact Ext.refl _ | apply Ext.alloc | apply Ext.aft | apply Ext.drew | apply Ext.drewN | apply Ext.setCell | exact Nat.le_add_right _ _ | exact Nat.le_refl _ | (simp; done) | omega))⟩
  · rw [if_neg hl]
    go_enter Try.func31, Try.ntmps31
    go_wp2_with (go_at_call 68; refine pur (l_szI _ xs L _ hR hL) ?_; rw [if_neg hl])
    go_ret
    exact ⟨rfl, (by refine Ext.bel ?_; repeat (with_reducible first | exact Ext.refl _ | apply Ext.alloc | apply Ext.aft | apply Ext.drew | apply Ext.drewN | apply Ext.setCell | exact Nat.le_add_right _ _ | exact Nat.le_refl _ | (simp; done) | omega))⟩
theorem l_szGp (n : Int) (r : Value) (xs : List Int) (L : Int) (w : World) (h : rdI w r xs) (hL : 0 ≤ L ∧ L ≤ 1048576) (hl : ¬ L < xs.length) :
    Calls Try.prog 31 #[(.agg #[.int .i64 n, r]), .int .i64 L] w fun e w' => e = .returned (.int .i64 (L - xs.length)) ∧ Below w.heap.size w w' := by
  have := l_szG n r xs L w h hL; rwa [if_neg hl] at this
theorem l_szGn (n : Int) (r : Value) (xs : List Int) (L : Int) (w : World) (h : rdI w r xs) (hL : 0 ≤ L ∧ L ≤ 1048576) (hl : L < xs.length) :
    Calls Try.prog 31 #[(.agg #[.int .i64 n, r]), .int .i64 L] w fun e w' => e = .returned (.int .i64 (-1)) ∧ Below w.heap.size w w' := by
  have := l_szG n r xs L w h hL; rwa [if_pos hl] at this
set_option maxHeartbeats 4000000 in
theorem l_toG (n : Int) (r : Value) (xs : List Int) (w : World) (h : rdI w r xs) (hl : xs.length ≤ 1048576) :
    Calls Try.prog 33 #[(.agg #[.int .i64 n, r])] w fun e w' => ∃ v, e = .returned (.agg #[.int .i64 n, v]) ∧ ownR w.heap.size w' v xs ∧ Below w.heap.size w w' := by
  go_enter Try.func33, Try.ntmps33
  go_wp2_with fail
  refine viaI (g := id) (l_toI _ _ _ (h.below (by refine Ext.bel ?_; repeat (with_reducible first | exact Ext.refl _ | apply Ext.alloc | apply Ext.aft | apply Ext.drew | apply Ext.drewN | apply Ext.setCell | exact Nat.le_add_right _ _ | exact Nat.le_refl _ | (simp; done) | omega))) hl) ?_
  intro v1 u1 z1 own1
  try simp at z1
  obtain ⟨a1, c1, hsh, _, _⟩ := own1.rd
  subst hsh
  go_wp2_with fail
  exact bodyPost_ret (v := .agg #[.int .i64 n, .slice a1 xs.length c1]) (by first | (simp [results, go_sem]; done) | simp [results, go_sem, ↓IntWalk.iteOmega]) rfl ⟨_, rfl, (((own1.setCell _ _ _ _ (by simp)).setCell _ _ _ _ (by simp)).setCell _ _ _ _ (by simp)).mono (by simp; omega), (by refine Ext.bel ?_; repeat (with_reducible first | exact Ext.refl _ | apply Ext.alloc | apply Ext.aft | apply Ext.drew | apply Ext.drewN | apply Ext.setCell | exact Nat.le_add_right _ _ | exact Nat.le_refl _ | (simp; done) | omega))⟩
set_option maxHeartbeats 4000000 in
theorem l_eqG (n : Int) (r1 r2 : Value) (xs : List Int) (w : World) (h1 : rdI w r1 xs) (h2 : rdI w r2 xs) :
    Calls Try.prog 26 #[.agg #[.int .i64 n, r1], .agg #[.int .i64 n, r2]] w fun e w' => e = .returned (.bool true) ∧ Below w.heap.size w w' := by
  go_enter Try.func26, Try.ntmps26
  go_wp2_with (first | (go_at_call 80; refine via (l_eqI _ _ xs _ (by exact (h1.alloc _).alloc _) (by exact (h2.alloc _).alloc _)) ?_; intro uu zz; try simp at zz))
  go_ret
  exact ⟨rfl, (by refine Ext.bel ?_; repeat (with_reducible first | exact Ext.refl _ | apply Ext.alloc | apply Ext.aft | apply Ext.drew | apply Ext.drewN | apply Ext.setCell | exact Nat.le_add_right _ _ | exact Nat.le_refl _ | (simp; done) | omega))⟩
end Go.Proofs.Ytbkbcbanfnhjpaa

/- IsGroup, CountElements: the laws. -/
namespace Go.Proofs.Ytbkbcbanfnhjpaa
open Go Go.RowKit

theorem i_size (r : Value) (xs : List Int) (w : World) (h : rdI w r xs) :
    Calls Try.prog 78 #[r] w fun e w' => e = .returned (.int .i64 xs.length) ∧ w = w' := by
  obtain ⟨a, cap, rfl, hm, _⟩ := h
  unfold maxLen at hm
  go_enter Try.func78, Try.ntmps78
  go_wp2
  go_ret
  exact ⟨rfl, rfl⟩
def countF (n : Int) (xs : List Int) : Int × Int := if groupB n xs = true then ((xs.length : Int), 0) else (0, 1)
theorem i_IsGroupE (n : Int) (r : Value) (rs : List Int) (w : World) (b : Bool) (h : rdI w r rs) (hl : rs.length ≤ 1048576) (hb : groupB n rs = b) :
    Calls Try.prog 43 #[(.agg #[.int .i64 n, r])] w fun e w' => e = .returned (.bool b) ∧ Below w.heap.size w w' := by subst hb; exact i_IsGroup n r rs w h hl
theorem s_IsGroupE (n : Int) (r : Value) (rs : List Int) (w : World) (b : Bool) (h : rdI w r rs) (hl : rs.length ≤ 1048576) (hb : groupB n rs = b) :
    Calls Try.prog 57 #[(.agg #[.int .i64 n, r])] w fun e w' => e = .returned (.bool b) ∧ Below w.heap.size w w' := by subst hb; exact s_IsGroup n r rs w h hl
set_option maxHeartbeats 1000000 in
theorem i_Count (n : Int) (r : Value) (xs : List Int) (w : World) (h : rdI w r xs) (hl : xs.length ≤ 1048576) :
    Calls Try.prog 41 #[(.agg #[.int .i64 n, r])] w fun e w' => e = .returned (.tuple #[.int .i64 (countF n xs).1, .int .i64 (countF n xs).2]) ∧ Below w.heap.size w w' := by
  have hR := h.alloc (Obj.cells #[.int .i64 n, r] 26)
  cases hg : groupB n xs
  · have e : countF n xs = (0, 1) := by simp [countF, hg]
    rw [e]; clear e
    go_enter Try.func41, Try.ntmps41
    go_wp2_with (first | (go_at_call 43; refine via (i_IsGroupE _ _ xs _ false hR hl hg) ?_; intro uu zz; try simp at zz))
    exact bodyPost_ret (v := .tuple #[.int .i64 0, .int .i64 1]) (by first | (simp [results, go_sem]; done) | simp [results, go_sem, ↓IntWalk.iteOmega]) rfl ⟨rfl, (by refine Ext.bel ?_; repeat (with_reducible first | exact Ext.refl _ | apply Ext.alloc | apply Ext.aft | apply Ext.drew | apply Ext.drewN | apply Ext.setCell | exact Nat.le_add_right _ _ | exact Nat.le_refl _ | (simp; done) | omega))⟩
  · have e : countF n xs = ((xs.length : Int), 0) := by simp [countF, hg]
    rw [e]; clear e
    have HG := hid hg
    obtain ⟨a, c, hsh, hm, _⟩ := id h
    unfold maxLen at hm
    subst hsh
    clear hg
    go_enter Try.func41, Try.ntmps41
    go_wp2_with (first | (go_at_call 43; refine via (i_IsGroupE _ _ xs _ true hR hl HG.out) ?_; intro uu zz; try simp at zz) | (go_at_call 78; refine pur (i_size _ xs _ (hR.aft _)) ?_))
    exact bodyPost_ret (v := .tuple #[.int .i64 xs.length, .int .i64 0]) (by first | (simp [results, go_sem]; done) | simp [results, go_sem, ↓IntWalk.iteOmega]) rfl ⟨rfl, (by refine Ext.bel ?_; repeat (with_reducible first | exact Ext.refl _ | apply Ext.alloc | apply Ext.aft | apply Ext.drew | apply Ext.drewN | apply Ext.setCell | exact Nat.le_add_right _ _ | exact Nat.le_refl _ | (simp; done) | omega))⟩
set_option maxHeartbeats 1000000 in
theorem s_Count (n : Int) (r : Value) (xs : List Int) (w : World) (h : rdI w r xs) (hl : xs.length ≤ 1048576) :
    Calls Try.prog 42 #[(.agg #[.int .i64 n, r])] w fun e w' => e = .returned (.tuple #[.int .i64 (countF n xs).1, .int .i64 (countF n xs).2]) ∧ Below w.heap.size w w' := by
  have hR := h.alloc (Obj.cells #[.int .i64 n, r] 26)
  cases hg : groupB n xs
  · have e : countF n xs = (0, 1) := by simp [countF, hg]
    rw [e]; clear e
    go_enter Try.func42, Try.ntmps42
    go_wp2_with (first | (go_at_call 57; refine via (s_IsGroupE _ _ xs _ false hR hl hg) ?_; intro uu zz; try simp at zz))
    exact bodyPost_ret (v := .tuple #[.int .i64 0, .int .i64 1]) (by first | (simp [results, go_sem]; done) | simp [results, go_sem, ↓IntWalk.iteOmega]) rfl ⟨rfl, (by refine Ext.bel ?_; repeat (with_reducible first | exact Ext.refl _ | apply Ext.alloc | apply Ext.aft | apply Ext.drew | apply Ext.drewN | apply Ext.setCell | exact Nat.le_add_right _ _ | exact Nat.le_refl _ | (simp; done) | omega))⟩
  · have e : countF n xs = ((xs.length : Int), 0) := by simp [countF, hg]
    rw [e]; clear e
    have HG := hid hg
    obtain ⟨a, c, hsh, hm, _⟩ := id h
    unfold maxLen at hm
    subst hsh
    clear hg
    go_enter Try.func42, Try.ntmps42
    go_wp2_with (first | (go_at_call 57; refine via (s_IsGroupE _ _ xs _ true hR hl HG.out) ?_; intro uu zz; try simp at zz) | (go_at_call 78; refine pur (i_size _ xs _ (hR.aft _)) ?_))
    exact bodyPost_ret (v := .tuple #[.int .i64 xs.length, .int .i64 0]) (by first | (simp [results, go_sem]; done) | simp [results, go_sem, ↓IntWalk.iteOmega]) rfl ⟨rfl, (by refine Ext.bel ?_; repeat (with_reducible first | exact Ext.refl _ | apply Ext.alloc | apply Ext.aft | apply Ext.drew | apply Ext.drewN | apply Ext.setCell | exact Nat.le_add_right _ _ | exact Nat.le_refl _ | (simp; done) | omega))⟩

end Go.Proofs.Ytbkbcbanfnhjpaa

/- Sorted, each once: plain; orbits: both texts. -/
namespace Go.Proofs.Ytbkbcbanfnhjpaa
open Go Go.RowKit

theorem bang {ys : List Int} {m : Nat} (h : m < ys.length) : ys.toArray[m]! = ys[m] := by simp [h]
theorem keeps_iff {d : Array Int} {j : Nat} : Lib.keeps d j = true ↔ (j = 0 ∨ d[j]! ≠ d[j - 1]!) := by unfold Lib.keeps; exact decide_eq_true_iff
theorem compactUp_ok {ys : List Int} (hs : ys.Pairwise (· ≤ ·)) : ∀ m, m ≤ ys.length → (Lib.compactUpTo ys.toArray m).Pairwise (· < ·) ∧ ∀ x, x ∈ Lib.compactUpTo ys.toArray m ↔ x ∈ ys.take m := by
  intro m
  induction m with
  | zero => intro _; simp [Lib.compactUpTo]
  | succ m ih =>
    intro hm
    obtain ⟨h1, h2⟩ := ih (by omega)
    have hlt : m < ys.length := by omega
    rw [Lib.compactUpTo_succ]
    have hle : ∀ x ∈ ys.take m, ∀ h0 : 0 < m, x ≤ ys[m - 1] := by
      intro x hx h0
      obtain ⟨i, hi, rfl⟩ := List.mem_take_iff_getElem.1 hx
      rcases Nat.lt_or_ge i (m - 1) with h | h
      · exact (List.pairwise_iff_getElem.1 hs) i (m - 1) (by omega) (by omega) h
      · have : i = m - 1 := by omega
        subst this; exact Int.le_refl _
    rw [List.take_succ_eq_append_getElem hlt]
    by_cases hk : Lib.keeps ys.toArray m = true
    · rw [if_pos hk, bang hlt]
      refine ⟨List.pairwise_append.2 ⟨h1, List.pairwise_singleton _ _, fun x hx y hy => ?_⟩, fun x => by simp only [List.mem_append, h2]⟩
      simp only [List.mem_singleton] at hy
      subst hy
      have hx' := (h2 x).1 hx
      have h0 : 0 < m := by
        rcases Nat.eq_zero_or_pos m with h | h
        · subst h; simp at hx'
        · exact h
      have h3 := hle x hx' h0
      have h4 := (List.pairwise_iff_getElem.1 hs) (m - 1) m (by omega) hlt (by omega)
      rcases keeps_iff.1 hk with h5 | h5
      · omega
      · rw [bang hlt, bang (show m - 1 < ys.length by omega)] at h5
        omega
    · rw [if_neg hk, List.append_nil]
      refine ⟨h1, fun x => ?_⟩
      have h5 : ¬ (m = 0 ∨ ys.toArray[m]! ≠ ys.toArray[m - 1]!) := fun h => hk (keeps_iff.2 h)
      have h0 : 0 < m := by omega
      have h6 : ys[m] = ys[m - 1] := by
        have : ys.toArray[m]! = ys.toArray[m - 1]! := by
          rcases Classical.em (ys.toArray[m]! = ys.toArray[m - 1]!) with h | h
          · exact h
          · exact absurd (.inr h) h5
        rwa [bang hlt, bang (show m - 1 < ys.length by omega)] at this
      simp only [h2, List.mem_append, List.mem_singleton]
      refine ⟨.inl, fun h => ?_⟩
      rcases h with h | h
      · exact h
      · rw [h, h6]; exact List.mem_take_iff_getElem.2 ⟨m - 1, by omega, rfl⟩
theorem sort_compact {xs : List Int} {F : Nat} (hr : ∀ x ∈ xs, 0 ≤ x ∧ x < (F : Int)) : Lib.compact (xs.mergeSort fun x y => decide (x ≤ y)) = listedU xs F := by
  have hs : (xs.mergeSort fun x y => decide (x ≤ y)).Pairwise (· ≤ ·) := by
    have := List.pairwise_mergeSort (le := fun (x y : Int) => decide (x ≤ y)) (by intro a b c h1 h2; simp at *; omega) (by intro a b; simp; omega) xs
    exact this.imp fun h => by simpa using h
  have hp := List.mergeSort_perm xs fun x y => decide (x ≤ y)
  obtain ⟨h1, h2⟩ := compactUp_ok hs _ (Nat.le_refl _)
  rw [List.take_length] at h2
  exact (listedU_self (xs := Lib.compact _) h1 (fun x hx => hr x (hp.mem_iff.1 ((h2 x).1 hx))) (fun x => by rw [show Lib.compact (xs.mergeSort fun x y => decide (x ≤ y)) = Lib.compactUpTo _ _ from rfl, h2, hp.mem_iff])).symm

/-- The images of a point. -/
def imgs (m : Nat) (rs : List Int) (p : Nat) : List Int := rs.map fun x => (withF m x).getD p 0
theorem imgs_len (m : Nat) (rs : List Int) (p : Nat) : (imgs m rs p).length = rs.length := by simp [imgs]
theorem imgs_snoc {m : Nat} {rs : List Int} {p k : Nat} (h : k < rs.length) : imgs m (rs.take (k + 1)) p = imgs m (rs.take k) p ++ [(withF m rs[k]).getD p 0] := by
  rw [take_snocI _ _ h]; unfold imgs; rw [List.map_append]; rfl
theorem imgs_bd {m : Nat} {rs : List Int} {p : Nat} (hm : m ≤ 6) (hr : ∀ x ∈ rs, 0 ≤ x ∧ x < (facN m : Int)) (hp : p < m) : ∀ y ∈ imgs m rs p, 0 ≤ y ∧ y < (m : Int) := by
  intro y hy
  simp only [imgs, List.mem_map] at hy
  obtain ⟨x, hx, rfl⟩ := hy
  have hw := with_ok hm (hr x hx).1 (hr x hx).2
  have hpl : p < (withF m x).length := by rw [hw.len]; exact hp
  rw [List.getD, List.getElem?_eq_getElem hpl]
  exact hw.rng _ (List.getElem_mem hpl)
def orbF (m : Nat) (rs : List Int) (p : Nat) : List Int := listedU (imgs m rs p) m

set_option maxRecDepth 20000 in
set_option maxHeartbeats 4000000 in
theorem s_listed (B : Nat) (v : Value) (F : Nat) (xs : List Int) (w : World) (h : ownF B w v (flagsOf F xs)) (hF : 0 < F ∧ F ≤ 720) :
    Calls Try.prog 88 #[v] w fun e w' => ∃ r, e = .returned r ∧ ownR w.heap.size w' r (listedU xs F) ∧ Below w.heap.size w w' := by
  obtain ⟨i0, hi, hz0, hz1, hz2⟩ := info_parts infoI
  obtain ⟨g, cf, hg, _, hgl⟩ := h.shape (by rw [flagsOf_len]; exact hF.1)
  rw [flagsOf_len] at hg
  subst hg
  have HF := hid h
  clear h
  go_enter Try.func88, Try.ntmps88
  go_wp2_with fail
  go_loopw [3, 4] (fun r i wr => ∃ k : Nat, k ≤ F ∧ i = .int .i64 k ∧ Hid (ownR w.heap.size wr r (listedU xs k)) ∧ Ext w.heap.size w wr) (fun _ i _ => F - (intOf i).toNat)
  case atStart => exact ⟨0, by omega, rfl, hid (own_made w), (Ext.refl _).alloc _⟩
  case round =>
    obtain ⟨k, hk, rfl, HO, hE⟩ := hrel
    by_cases hlt : k < F
    · have hcq := HF.out.cell (q := k) (by rw [flagsOf_len]; exact hlt)
      rw [flagsOf_at hlt] at hcq
      have hcq2 := hE.1.cell (p := ⟨g, k, none⟩) hgl
      rw [hcq] at hcq2
      have hsn := listedU_succ xs k
      have hll := listedU_len xs k
      have hltz : (k : Int) < (F : Int) := by omega
      have hown := HO.out
      have HE2 := hid hE
      cases hb : xs.contains (k : Int)
      · rw [hb] at hsn hcq2
        have HS := hid hsn
        clear hsn hcq hown hE
        go_wp2_with fail
        go_roundw
        case rel => exact ⟨k + 1, by omega, by go_num, hid (by rw [HS.out]; first | exact HO.out | (rw [if_neg (by simp)]; exact HO.out)), HE2.out⟩
        case measure => simp only [intOf]; omega
      · rw [hb] at hsn hcq2
        have HS := hid hsn
        clear hsn hcq hE
        go_wp2_with (at_builtin; refine wpList_append_own _ rfl _ _ 24 rfl (w.heap.size) 2 i0 (.int .i64 0) 1 8 Try.underlying24 hi hz0 hz1 hz2 rfl (by decide) _ _ _ rfl (hown.alloc _) ⟨_, 0, none⟩ 1 1 [.int .i64 ((k : Int))] rfl rfl ?c1 ?c2 ?c3 ?c4 ?c5 ?_)
        try case c1 => exact cell_one_new _ _ _
        case c2 => first | rfl | (intro u hu; simp at hu; subst hu; rfl)
        case c3 => unfold maxLen; omega
        case c4 => omega
        case c5 => first | (have := HE2.out.2; simp; omega) | omega
        intro v' w1 hown' hgrow _
        have HN : Hid (ownR w.heap.size w1 v' (listedU xs (k + 1))) := hid (by rw [HS.out]; simp only [if_true]; exact ownR.snoc hown')
        have HE3 : Hid (Ext w.heap.size w w1) := hid (ext_grown (HE2.out.alloc _) hgrow (own_row_ge hown))
        clear hown' hgrow hown
        go_wp2_with fail
        go_roundw
        case rel => exact ⟨k + 1, by omega, by go_num, HN, HE3.out⟩
        case measure => simp only [intOf]; omega
    · obtain rfl : k = F := by omega
      have hltz : ¬ (k : Int) < (k : Int) := by omega
      have HE2 := hid hE
      clear hE
      go_wp2_with fail
      go_ret
      exact ⟨_, rfl, HO.out, HE2.out.1⟩
end Go.Proofs.Ytbkbcbanfnhjpaa

/- slices.DeleteFunc over slices of slices; the group of some permutations: the program's text. -/
namespace Go.Proofs.Ytbkbcbanfnhjpaa
open Go Go.RowKit

/-- What is asked of a predicate while a row is rewritten: in every world in which all but that row lies as in w, at each of these lists, it tells p, and all that lay lies. -/
def predG (g : Nat) (lb : Array Value) (p : List Int → Bool) (xss : List (List Int)) (row : Option Nat) (w : World) : Prop :=
  ∀ (W : World) (v : Value) (xs : List Int), w.grownBy W row → xs ∈ xss → ownR 0 W v xs → Calls Try.prog g (#[v] ++ lb) W fun e w' => e = .returned (.bool (p xs)) ∧ Below W.heap.size W w'
theorem below_grownBy {w w' : World} (h : Below w.heap.size w w') (row : Option Nat) : w.grownBy w' row := ⟨h.os, h.tape, h.output, h.size, fun k hk _ => h.block k hk⟩
set_option maxRecDepth 20000 in
set_option maxHeartbeats 2000000 in
theorem lib_indexX (g : Nat) (lb : Array Value) (p : List Int → Bool) (row : Option Nat) (eg : ∀ args w, (callFunc g args).run Try.prog w = .ok (.enter g args) w) (r : Value) (xs : List (List Int)) (w : World) (h : rdRR w r xs) (hp : predG g lb p xs row w) :
    Calls Try.prog 126 #[r, .func (.func g) #[] lb] w fun e w' => (∃ k : Int, e = .returned (.int .i64 k) ∧ ((k = -1 ∧ xs.any p = false) ∨ ∃ (i : Nat) (h : i < xs.length), k = i ∧ (xs.take i).any p = false ∧ p xs[i] = true)) ∧ Below w.heap.size w w' := by
  obtain ⟨a, cap, rfl, hm, hc⟩ := h
  have Hc := hid hc
  have Hp := hid hp
  unfold maxLen at hm
  clear hc hp
  go_enter Try.func126, Try.ntmps126
  go_wp2_with fail
  go_loopw [5, 8] (fun _ i wr => ∃ k : Nat, k ≤ xs.length ∧ i = .int .i64 k ∧ Hid (Below w.heap.size w wr) ∧ Hid ((xs.take k).any p = false)) (fun _ i _ => xs.length - (intOf i).toNat)
  case atStart => exact ⟨0, by omega, rfl, hid (Below.refl _ _), hid (by simp)⟩
  case round =>
    obtain ⟨k, hk, rfl, HB, HA⟩ := hrel
    by_cases hlt : k < xs.length
    · obtain ⟨b, o, rfl, hcell⟩ := Hc.out (by intro e; subst e; simp at hlt)
      obtain ⟨e1, h1, ho⟩ := hcell k hlt
      have hbl := World.block_lt_of_cell? w _ h1
      have h2 := HB.out.cell (p := ⟨b, o + k, none⟩) hbl
      rw [h1] at h2
      have ho2 : ownR 0 wr e1 xs[k] := ho.kept fun j hj _ => HB.out.block j hj
      have hcall := Hp.out _ e1 xs[k] (below_grownBy HB.out row) (List.getElem_mem hlt) ho2
      have hltz : (k : Int) < (xs.length : Int) := by omega
      clear hcell h1 ho ho2
      cases hq : p xs[k] with
      | true =>
        rw [hq] at hcall
        have HQ := hid hq
        clear hq
        go_wp2_with fail
        refine hcall.mono ?_
        rintro e w' ⟨rfl, hb'⟩
        have HB' := hid (HB.out.trans (hb'.mono HB.out.size))
        clear hb'
        go_wp2_with fail
        go_ret
        exact ⟨⟨_, rfl, .inr ⟨k, hlt, rfl, HA.out, HQ.out⟩⟩, HB'.out⟩
      | false =>
        rw [hq] at hcall
        have HQ := hid hq
        clear hq
        go_wp2_with fail
        refine hcall.mono ?_
        rintro e w' ⟨rfl, hb'⟩
        have HB' := hid (HB.out.trans (hb'.mono HB.out.size))
        clear hb'
        go_wp2_with fail
        go_roundw
        case rel => exact ⟨k + 1, by omega, by go_num, HB', hid (anyR_take_f hlt HA.out HQ.out)⟩
        case measure => simp only [intOf]; omega
    · obtain rfl : k = xs.length := by omega
      have hltz : ¬ (xs.length : Int) < (xs.length : Int) := by omega
      have HN := hid (show xs.any p = false by have := HA.out; rwa [List.take_length] at this)
      go_wp2
      go_ret
      refine ⟨⟨_, rfl, .inl ⟨rfl, ?_⟩⟩, HB.out⟩
      first | exact HN.out | (have := HN.out; simpa using this)

/-- What a round of the deletion keeps: what is kept so far stands in front, what is not yet seen stands as it was. -/
structure DelInv (p : List Int → Bool) (es : List Value) (xss : List (List Int)) (cs fs : List Value) (i j : Nat) : Prop where
  len : cs.length = es.length
  ij : i ≤ j
  jn : j ≤ xss.length
  pre : cs.take i = fs
  flen : fs.length = i
  rest : ∀ t, j ≤ t → cs[t]? = es[t]?
  fl : ((xss.take j).filter fun x => !p x).length = i
theorem DelInv.skip {p : List Int → Bool} {es : List Value} {xss : List (List Int)} {cs fs : List Value} {i j : Nat} (h : DelInv p es xss cs fs i j) (hj : j < xss.length) (hp : p xss[j] = true) : DelInv p es xss cs fs i (j + 1) :=
  ⟨h.len, by have := h.ij; omega, hj, h.pre, h.flen, fun t ht => h.rest t (by omega), by rw [List.take_succ_eq_append_getElem hj, List.filter_append, List.length_append, h.fl]; simp [hp]⟩
theorem DelInv.keep {p : List Int → Bool} {es : List Value} {xss : List (List Int)} {cs fs : List Value} {i j : Nat} {e : Value} (h : DelInv p es xss cs fs i j) (hl : es.length = xss.length) (hj : j < xss.length) (hp : p xss[j] = false) : DelInv p es xss (cs.set i e) (fs ++ [e]) (i + 1) (j + 1) := by
  have hij := h.ij
  have hil : i < cs.length := by rw [h.len, hl]; omega
  refine ⟨by rw [List.length_set]; exact h.len, by omega, hj, ?_, by rw [List.length_append, h.flen]; rfl, fun t ht => by rw [List.getElem?_set_ne (by omega)]; exact h.rest t (by omega), by rw [List.take_succ_eq_append_getElem hj, List.filter_append, List.length_append, h.fl]; simp [hp]⟩
  rw [List.take_succ_eq_append_getElem (by rw [List.length_set]; exact hil), List.take_set_of_le (by omega), h.pre]
  simp

theorem own_setCells {B g cap n : Nat} {T : TypeId} : ∀ (vs : List Value) (o i : Nat) (w : World) (cs : List Value), i ≤ o → w.ownsRow B T 1 (.slice (some ⟨g, 0, none⟩) n cap) n cs →
    ∃ cs', (w.setCells g o vs).ownsRow B T 1 (.slice (some ⟨g, 0, none⟩) n cap) n cs' ∧ cs'.take i = cs.take i ∧ w.grownBy (w.setCells g o vs) (some g) := by
  intro vs
  induction vs with
  | nil => intro o i w cs _ h; exact ⟨cs, h, rfl, grownBy_refl _ _⟩
  | cons v r ih =>
    intro o i w cs hi h
    obtain ⟨h1, h2⟩ := h.stored o v
    obtain ⟨cs', h3, h4, h5⟩ := ih (o + 1) i _ _ (by omega) h1
    exact ⟨cs', h3, by rw [h4, List.take_set_of_le hi], grownBy_trans h2 h5⟩
theorem own_prefix {B g cap n m : Nat} {T : TypeId} {w : World} {cs : List Value} (h : w.ownsRow B T 1 (.slice (some ⟨g, 0, none⟩) n cap) n cs) (hm : m ≤ n) : w.ownsRow B T 1 (.slice (some ⟨g, 0, none⟩) m cap) m (cs.take m) := by
  have hl := h.1
  rcases h.2 with ⟨e, _⟩ | ⟨g', c, cur, e, hb, hh, h1, h2, h3, h4⟩
  · cases e
  · cases e
    refine ⟨by rw [List.length_take]; omega, .inr ⟨g, cap, cur, rfl, hb, hh, by omega, h2, h3, ?_⟩⟩
    have e : cur.toList.take (m * 1) = (cur.toList.take (n * 1)).take (m * 1) := by rw [List.take_take]; congr 1; omega
    rw [e, h4, Nat.mul_one]
theorem zeroS : ∀ w, (zeroValue 24).run Try.prog w = .ok (.slice none 0 0) w := fun w => by simp [go_sem]
set_option maxRecDepth 20000 in
set_option maxHeartbeats 8000000 in
theorem lib_deleteX (B g0 : Nat) (lb : Array Value) (p : List Int → Bool) (eg : ∀ args w, (callFunc g0 args).run Try.prog w = .ok (.enter g0 args) w) (v : Value) (xss : List (List Int)) (w : World) (h : ownRR B w v xss) (hp : predG g0 lb p xss v.ownBlock w) :
    Calls Try.prog 111 #[v, .func (.func g0) #[] lb] w fun e w' => ∃ v', e = .returned v' ∧ ownRR B w' v' (xss.filter fun x => !p x) ∧ w.grownBy w' v.ownBlock := by
  have hrd := h.rd
  obtain ⟨es, hel, hrow, hee⟩ := h
  obtain ⟨a, cap, hsh, hm, _⟩ := id hrd
  unfold maxLen at hm
  have Hp := hid hp
  have Hel := hid hel
  have Hrow := hid hrow
  have Hee := hid hee
  have HRD := hid hrd
  subst hsh
  clear hp hel hrow hee hrd
  go_enter Try.func111, Try.ntmps111
  go_wp2_with fail
  refine (lib_indexX g0 lb p _ eg _ xss _ HRD.out Hp.out).mono ?_
  rintro e w1 ⟨⟨k, rfl, hk⟩, hb1⟩
  have HB1 := hid hb1
  clear hb1
  rcases hk with ⟨rfl, hno⟩ | ⟨i, hi, rfl, hpre, hit⟩
  · have hfe : Hid ((xss.filter fun x => !p x) = xss) := hid (List.filter_eq_self.2 fun x hx => by
      have := (List.any_eq_false.1 hno) x hx; simpa using this)
    clear hno
    go_wp2_with fail
    go_ret
    refine ⟨_, rfl, ?_, below_grownBy HB1.out _⟩
    rw [hfe.out]
    exact ownRR.below ⟨es, Hel.out, Hrow.out, Hee.out⟩ HB1.out
  · obtain ⟨g, hag, hgB⟩ : ∃ g, a = some ⟨g, 0, none⟩ ∧ B ≤ g := by
      rcases Hrow.out.2 with ⟨e0, hn⟩ | ⟨g, cap', cur, e0, hg, _⟩
      · omega
      · injection e0 with e1; exact ⟨g, e1, hg⟩
    subst hag
    have hcap : xss.length ≤ cap := by
      rcases Hrow.out.2 with ⟨e0, hn⟩ | ⟨g', cap', cur, e0, hg, hh, h1, _⟩
      · cases e0
      · injection e0 with e1 e2 e3; omega
    have hG1 : w.grownBy w1 (some g) := below_grownBy HB1.out _
    have HI0 : Hid (DelInv p es xss es (es.take i) i (i + 1)) := hid ⟨rfl, by omega, hi, rfl, by rw [List.length_take, Hel.out]; omega, fun _ _ => rfl, by
      rw [List.take_succ_eq_append_getElem hi, List.filter_append, List.length_append]
      have e1 : ((xss.take i).filter fun x => !p x) = xss.take i := List.filter_eq_self.2 fun x hx => by
        have := (List.any_eq_false.1 hpre) x hx; simpa using this
      rw [e1, List.length_take]; simp [hit]; omega⟩
    have HF0 : Hid (∀ t, (h : t < ((xss.take (i + 1)).filter fun x => !p x).length) → ∃ e, (es.take i)[t]? = some e ∧ ownR B w e ((xss.take (i + 1)).filter fun x => !p x)[t]) := hid (by
      have e1 : ((xss.take (i + 1)).filter fun x => !p x) = xss.take i := by
        rw [List.take_succ_eq_append_getElem hi, List.filter_append]
        have e1 : ((xss.take i).filter fun x => !p x) = xss.take i := List.filter_eq_self.2 fun x hx => by
          have := (List.any_eq_false.1 hpre) x hx; simpa using this
        rw [e1]; simp [hit]
      rw [e1]
      intro t ht
      have ht' : t < i := by rw [List.length_take] at ht; omega
      obtain ⟨e, he1, he2⟩ := Hee.out t (by omega)
      exact ⟨e, by rw [List.getElem?_take_of_lt ht']; exact he1, by rw [List.getElem_take]; exact he2⟩)
    have HR1 : Hid (w1.ownsRow B 24 1 (.slice (some ⟨g, 0, none⟩) xss.length cap) xss.length es) := hid (owns_kept Hrow.out fun k hk _ => HB1.out.block k hk)
    have HG1 := hid hG1
    have hik : ((i : Int) == -1) = false := by rw [beq_eq_false_iff_ne]; omega
    clear hpre hit hG1
    go_wp2_with fail
    go_loopw [5, 6] (fun s t wr => ∃ (i j : Nat) (cs fs : List Value), s = .int .i64 i ∧ t = .int .i64 j ∧ i < j ∧ j ≤ xss.length ∧ Hid (DelInv p es xss cs fs i j) ∧ Hid (∀ t, (h : t < ((xss.take j).filter fun x => !p x).length) → ∃ e, fs[t]? = some e ∧ ownR B w e ((xss.take j).filter fun x => !p x)[t]) ∧ Hid (wr.ownsRow B 24 1 (.slice (some ⟨g, 0, none⟩) xss.length cap) xss.length cs) ∧ Hid (w.grownBy wr (some g))) (fun _ t _ => xss.length - (intOf t).toNat)
    case atStart => exact ⟨i, i + 1, es, es.take i, rfl, by go_num, by omega, by omega, HI0, HF0, HR1, HG1⟩
    case round =>
      obtain ⟨i, j, cs, fs, rfl, rfl, hij, hj, HI, HF, HR, HG⟩ := hrel
      by_cases hlt : j < xss.length
      · have hltz : (j : Int) < (xss.length : Int) := by omega
        obtain ⟨e1, he1, ho1⟩ := Hee.out j hlt
        have hcj := HR.out.cellAt j (by omega)
        rw [HI.out.rest j (Nat.le_refl _), he1] at hcj
        have hci := HR.out.cellAt i (by omega)
        have hcl := HI.out.len
        have hel := Hel.out
        obtain ⟨y, hy⟩ : ∃ y, cs[i]? = some y := ⟨_, List.getElem?_eq_getElem (by omega)⟩
        rw [hy] at hci
        have hfi := HR.out.frozenAt i
        have ho2 : ownR 0 wr e1 xss[j] := (ho1.mono (Nat.zero_le _)).kept fun k hk hb => HG.out.block k hk fun e => by
          injection e with e; subst e
          exact own_apart Hrow.out ho1 k hb rfl
        have hcall := Hp.out _ e1 xss[j] HG.out (List.getElem_mem hlt) ho2
        obtain ⟨a1, c1, hsh1, _, _⟩ := ho1.rd
        subst hsh1
        have hiz : (i : Int) < (xss.length : Int) := by omega
        cases hq : p xss[j] with
        | true =>
          rw [hq] at hcall
          have HI2 := hid (HI.out.skip hlt hq)
          have HF2 : Hid (∀ t, (h : t < ((xss.take (j + 1)).filter fun x => !p x).length) → ∃ e, fs[t]? = some e ∧ ownR B w e ((xss.take (j + 1)).filter fun x => !p x)[t]) := hid (by
            have e1 : ((xss.take (j + 1)).filter fun x => !p x) = ((xss.take j).filter fun x => !p x) := by rw [List.take_succ_eq_append_getElem hlt, List.filter_append]; simp [hq]
            rw [e1]; exact HF.out)
          clear hq hy he1 ho1 ho2 hci hfi
          go_wp2_with fail
          refine hcall.mono ?_
          rintro e w' ⟨rfl, hb'⟩
          have HR2 := hid (owns_kept HR.out fun k hk _ => hb'.block k hk)
          have HG2 := hid (grownBy_trans HG.out (below_grownBy hb' (some g)))
          clear hb'
          go_wp2_with fail
          go_roundw
          case rel => exact ⟨i, j + 1, cs, fs, rfl, by go_num, by omega, by omega, HI2, HF2, HR2, HG2⟩
          case measure => simp only [intOf]; omega
        | false =>
          rw [hq] at hcall
          have HI2 := hid (HI.out.keep (e := .slice a1 (xss[j]).length c1) Hel.out hlt hq)
          have HF2 : Hid (∀ t, (h : t < ((xss.take (j + 1)).filter fun x => !p x).length) → ∃ e, (fs ++ [.slice a1 (xss[j]).length c1])[t]? = some e ∧ ownR B w e ((xss.take (j + 1)).filter fun x => !p x)[t]) := hid (by
            have e1 : ((xss.take (j + 1)).filter fun x => !p x) = ((xss.take j).filter fun x => !p x) ++ [xss[j]] := by rw [List.take_succ_eq_append_getElem hlt, List.filter_append]; simp [hq]
            rw [e1]
            have hfl := HI.out.fl
            have hfl2 := HI.out.flen
            intro t ht
            rcases Nat.lt_or_ge t ((xss.take j).filter fun x => !p x).length with h1 | h1
            · obtain ⟨e, h2, h3⟩ := HF.out t h1
              exact ⟨e, by rw [List.getElem?_append_left (by omega)]; exact h2, by rw [List.getElem_append_left h1]; exact h3⟩
            · obtain rfl : t = ((xss.take j).filter fun x => !p x).length := by simp at ht; omega
              exact ⟨_, by rw [List.getElem?_append_right (by omega), show ((xss.take j).filter fun x => !p x).length - fs.length = 0 by omega]; rfl, by simpa using ho1⟩)
          clear hq hy he1 ho2
          go_wp2_with fail
          refine hcall.mono ?_
          rintro e w' ⟨rfl, hb'⟩
          have hR2 := owns_kept HR.out fun k hk _ => hb'.block k hk
          have HG2 := hid (grownBy_trans HG.out (below_grownBy hb' (some g)))
          have hcc := hR2.cellAt i (by omega)
          have hff := hR2.frozenAt i
          obtain ⟨y, hy⟩ : ∃ y, cs[i]? = some y := ⟨_, List.getElem?_eq_getElem (by omega)⟩
          rw [hy] at hcc
          have HS := hid (hR2.stored i (.slice a1 (xss[j]).length c1))
          clear hb' hci hfi hy hR2
          go_wp2_with fail
          go_roundw
          case rel => exact ⟨i + 1, j + 1, _, _, by go_num, by go_num, by omega, by omega, HI2, HF2, hid HS.out.1, hid (grownBy_trans HG2.out HS.out.2)⟩
          case measure => simp only [intOf]; omega
      · obtain rfl : j = xss.length := by omega
        have hltz : ¬ (xss.length : Int) < (xss.length : Int) := by omega
        have hcl : ∀ ty, (Builtin.clear_ #[37] ty #[.slice (some ⟨g, i, none⟩) (xss.length - i) (cap - i)]).run Try.prog wr = .ok (.tuple #[]) (wr.setCells g i (List.replicate (xss.length - i) (.slice none 0 0))) :=
          fun ty => Lib.run_clear_slice wr _ _ ty _ Try.underlying37 zeroS rfl rfl g i _ _ (by omega) (fun t ht => by
            rw [HR.out.cellAt (i + t) (by omega), List.getElem?_eq_getElem (by have := HI.out.len; have := Hel.out; omega)]; rfl) (fun t ht => HR.out.frozenAt (i + t))
        have hne : ¬ cap = i := by omega
        have hiz : (i : Int) ≤ (xss.length : Int) := by omega
        go_wp2_with fail
        go_ret
        have hI := HI.out
        have htk : xss.take xss.length = xss := List.take_length
        obtain ⟨cs', h1, h2, h3⟩ := own_setCells (List.replicate (xss.length - i) (.slice none 0 0)) i i _ _ (Nat.le_refl _) HR.out
        have hfl := hI.fl
        rw [htk] at hfl
        have hF := HF.out
        rw [htk] at hF
        refine ⟨_, rfl, ⟨fs, ?_, ?_, ?_⟩, grownBy_trans HG.out h3⟩
        · rw [hI.flen, hfl]
        · rw [hfl]
          have := own_prefix h1 (m := i) (by omega)
          rw [h2, hI.pre] at this
          exact this
        · intro t ht
          obtain ⟨e, he1, he2⟩ := hF t ht
          refine ⟨e, he1, he2.kept fun k hk hb => (grownBy_trans HG.out h3).block k hk fun e => ?_⟩
          injection e with e; subst e
          exact own_apart Hrow.out he2 k hb rfl

theorem i_rankE (B : Nat) (r : Value) (xs : List Int) (w : World) (q : Int) (h : ownR B w r xs) (hl : xs.length ≤ 6) (hq : rankF xs = q) :
    Calls Try.prog 91 #[r] w fun e w' => e = .returned (.int .i64 q) ∧ w = w' := by subst hq; exact i_rank B r xs w h hl
theorem map_snoc {xss : List (List Int)} {k : Nat} (h : k < xss.length) : (xss.take (k + 1)).map rankF = (xss.take k).map rankF ++ [rankF xss[k]] := by
  rw [List.take_succ_eq_append_getElem h, List.map_append]; rfl
theorem row_shape {B T n : Nat} {w : World} {v : Value} {cs : List Value} (h : w.ownsRow B T 1 v n cs) : ∃ a c, v = .slice a n c := by
  rcases h.2 with ⟨e, hn⟩ | ⟨g, cap, cur, e, _⟩
  · subst hn; exact ⟨_, _, e⟩
  · exact ⟨_, _, e⟩
theorem store_cell {B b o : Nat} {wr w1 w3 : World} {s x : Value} {xs : List Int} (h : wr.cell? ⟨b, o, none⟩ = some x) (hg : w1.grownBy w3 s.ownBlock) (hs : ownR B wr s xs) (hb : b < B) (he : Below wr.heap.size wr w1 := by (refine Ext.bel ?_; repeat (with_reducible first | exact Ext.refl _ | apply Ext.alloc | apply Ext.aft | apply Ext.drew | apply Ext.drewN))) : w3.cell? ⟨b, o, none⟩ = some x :=
  hg.cell (by rw [he.cell (p := ⟨b, o, none⟩) (World.block_lt_of_cell? wr _ h)]; exact h) fun e => by have := own_row_ge hs b e.symm; omega
theorem store_frozen {B b o : Nat} {wr w1 w3 : World} {s : Value} {xs : List Int} (h : wr.frozen? ⟨b, o, none⟩ = false) (hg : w1.grownBy w3 s.ownBlock) (hs : ownR B wr s xs) (hb : b < B) (hl : b < wr.heap.size) (he : Below wr.heap.size wr w1 := by (refine Ext.bel ?_; repeat (with_reducible first | exact Ext.refl _ | apply Ext.alloc | apply Ext.aft | apply Ext.drew | apply Ext.drewN))) : w3.frozen? ⟨b, o, none⟩ = false := by
  rw [World.frozen?_of_block (hg.block b (Nat.lt_of_lt_of_le hl he.size) fun e => by have := own_row_ge hs b e.symm; omega), he.frozen (p := ⟨b, o, none⟩) hl]
  exact h
def boxOK (n0 : Nat) (wr : World) : Prop := ∀ b k, b = n0 ∨ b = n0 + 1 → k < 2 → wr.frozen? ⟨b, k, none⟩ = false ∧ (wr.cell? ⟨b, k, none⟩).isSome = true
theorem boxOK.below {n0 : Nat} {w w' : World} (h : boxOK n0 w) (hb : Below w.heap.size w w') (hl : n0 + 2 ≤ w.heap.size) : boxOK n0 w' := fun b k hbk hk => by
  have hlt : b < w.heap.size := by omega
  rw [hb.cell (p := ⟨b, k, none⟩) hlt, hb.frozen (p := ⟨b, k, none⟩) hlt]; exact h b k hbk hk
theorem boxOK.grown {n0 : Nat} {w w' : World} {s : Value} (h : boxOK n0 w) (hg : w.grownBy w' s.ownBlock) (hs : ∀ k, s.ownBlock = some k → n0 + 2 ≤ k) (hl : n0 + 2 ≤ w.heap.size) : boxOK n0 w' := fun b k hbk hk => by
  have hlt : b < w.heap.size := by omega
  have hne : some b ≠ s.ownBlock := fun e => by have := hs b e.symm; omega
  have hbl := hg.block b hlt hne
  rw [World.cell?_of_block (a := ⟨b, k, none⟩) hbl, World.frozen?_of_block (a := ⟨b, k, none⟩) hbl]; exact h b k hbk hk
theorem boxOK.set {n0 : Nat} {w : World} (h : boxOK n0 w) (b o : Nat) (v : Value) : boxOK n0 (w.setCell ⟨b, o, none⟩ v) := fun b' k hbk hk => by
  obtain ⟨h1, h2⟩ := h b' k hbk hk
  refine ⟨by simpa using h1, ?_⟩
  rw [set_cell]
  split
  · rename_i e; obtain ⟨rfl, rfl⟩ := e; simpa using h2
  · exact h2
set_option maxRecDepth 20000 in
set_option maxHeartbeats 8000000 in
theorem i_groupOf (m : Nat) (v : Value) (xss : List (List Int)) (w : World) (h : rdRR w v xss) (hm6 : m ≤ 6) (hx : ∀ xs ∈ xss, xs.length = m) (hl : xss.length ≤ 1000) :
    Calls Try.prog 110 #[.int .i64 (m : Int), v] w fun e w' => ∃ s, e = .returned (.agg #[.int .i64 (m : Int), s]) ∧ ownR w.heap.size w' s (listedU (xss.map rankF) (facN m)) ∧ Below w.heap.size w w' := by
  obtain ⟨i0, hi, hz0, hz1, hz2⟩ := info_parts infoI
  obtain ⟨a, cap, hsh, hm, hc⟩ := h
  subst hsh
  have Hc := hid hc
  have Hx := hid hx
  have HRK : Hid (∀ x ∈ xss.map rankF, 0 ≤ x ∧ x < (facN m : Int)) := hid (fun x hx' => by
    obtain ⟨y, hy, rfl⟩ := List.mem_map.1 hx'
    have := rankF_bd y
    rw [hx y hy] at this
    exact this)
  clear hc hx hm
  go_enter Try.func110, Try.ntmps110
  go_wp2_with fail
  go_loopw [12, 7] (fun i _ wr => ∃ (k : Nat) (s : Value), k ≤ xss.length ∧ i = .int .i64 k ∧ wr.cell? ⟨w.heap.size + 1, 0, none⟩ = some (.int .i64 (m : Int)) ∧ wr.cell? ⟨w.heap.size + 1, 1, none⟩ = some s ∧ Hid (ownR (w.heap.size + 2) wr s ((xss.take k).map rankF)) ∧ Hid (Ext w.heap.size w wr) ∧ w.heap.size + 2 ≤ wr.heap.size ∧ Hid (boxOK w.heap.size wr)) (fun i _ _ => xss.length - (intOf i).toNat)
  case atStart => exact ⟨0, .slice none 0 0, by omega, rfl, by simp [go_sem], by simp [go_sem], hid (ownR.nil _ _), hid (by repeat (with_reducible first | exact Ext.refl _ | apply Ext.alloc | apply Ext.aft | apply Ext.drew | apply Ext.drewN | apply Ext.setCell | exact Nat.le_add_right _ _ | exact Nat.le_refl _ | (simp; done) | omega)), by simp, hid (fun b k hb hk => by
    rcases hb with rfl | rfl <;> (obtain rfl | rfl : k = 0 ∨ k = 1 := by omega) <;> simp [go_sem])⟩
  case round =>
    obtain ⟨k, s, hk, rfl, c0, c1, HO, HE, hsz, HFz⟩ := hrel
    by_cases hlt : k < xss.length
    · have hltz : (k : Int) < (xss.length : Int) := by omega
      obtain ⟨b, o, rfl, hcel⟩ := Hc.out (by intro e; subst e; simp at hlt)
      obtain ⟨e1, hc1, ho1⟩ := hcel k hlt
      have hb1 := World.block_lt_of_cell? w _ hc1
      have hc2 := HE.out.1.cell (p := ⟨b, o + k, none⟩) hb1
      rw [hc1] at hc2
      have ho2 : ownR 0 wr e1 xss[k] := ho1.kept fun j hj _ => HE.out.1.block j hj
      have hxl := Hx.out _ (List.getElem_mem hlt)
      obtain ⟨q, hq⟩ : ∃ q, rankF xss[k] = q := ⟨_, rfl⟩
      have HQ := hid hq
      have HS := hid (map_snoc hlt)
      have HO2 := hid ho2
      have hsl : ((xss.take k).map rankF).length = k := by rw [List.length_map, List.length_take]; omega
      obtain ⟨sa, sc, hss, _, _⟩ := HO.out.rd
      subst hss
      have hfz := HFz.out (w.heap.size + 1) 1 (.inr rfl) (by omega)
      clear hcel hc1 ho1 ho2 hq
      go_wp2_with fail
      have hne1 : (w.heap.size + 1 = wr.heap.size) = False := by simp; omega
      have hne2 : (w.heap.size + 1 == wr.heap.size) = false := by rw [beq_eq_false_iff_ne]; omega
      have hal1 : ∀ o, (wr.alloc o).cell? ⟨w.heap.size + 1, 1, none⟩ = some (.slice sa ((xss.take k).map rankF).length sc) := fun o => by
        rw [World.cell?_alloc_old wr o ⟨w.heap.size + 1, 1, none⟩ (show w.heap.size + 1 ≠ wr.heap.size by omega)]; exact c1
      have hss := hsl
      go_region_law (first | (go_simp; go_at_call 91; refine pur (i_rankE 0 _ xss[k] _ q (by first | exact HO2.out | exact HO2.out.drew | exact HO2.out.alloc _ | exact HO2.out.drew.alloc _) (by omega) HQ.out) ?_; dsimp only) | (refine step_append_own (by rfl) _ _ 24 (by rfl) (w.heap.size + 2) 2 i0 (.int .i64 0) 1 8 Try.underlying24 hi hz0 hz1 hz2 rfl (by decide) (.slice sa ((xss.take k).map rankF).length sc) ((xss.take k).map rankF).length (vI ((xss.take k).map rankF)) (by first | rfl | (rw [hsl]; rfl)) (HO.out.below (by refine Ext.bel ?_; repeat (with_reducible first | exact Ext.refl _ | apply Ext.alloc | apply Ext.aft | apply Ext.drew | apply Ext.drewN))) ⟨wr.heap.size, 0, none⟩ 1 1 [.int .i64 q] (by rfl) (by rfl) (by exact one_new) (by intro u hu; simp at hu; subst hu; rfl) (by rw [hsl]; unfold maxLen; omega) (by rw [hsl]; omega) (by simp; omega) ?_; intro v3 w3 hw3 hg3; obtain ⟨a3, k3, hsh3⟩ := row_shape hw3; subst hsh3; have b0 := store_cell c0 hg3 HO.out (by omega); have b1 := store_cell c1 hg3 HO.out (by omega); have b2 := store_frozen hfz.1 hg3 HO.out (by omega) (by omega)))
      all_goals
        have HN : Hid (ownR (w.heap.size + 2) (w3.setCell ⟨w.heap.size + 1, 1, none⟩ (.slice a3 (((xss.take k).map rankF).length + 1) k3)) (.slice a3 (((xss.take k).map rankF).length + 1) k3) ((xss.take (k + 1)).map rankF)) := hid (by
          refine ownR.setCell ?_ _ _ _ _ (by omega)
          rw [HS.out, HQ.out]
          exact ownR.snoc hw3)
        have HE3 : Hid (Ext w.heap.size w (w3.setCell ⟨w.heap.size + 1, 1, none⟩ (.slice a3 (((xss.take k).map rankF).length + 1) k3))) := hid (Ext.setCell (Ext.grown (by repeat (with_reducible first | exact HE.out | apply Ext.alloc | apply Ext.drew | apply Ext.aft | apply Ext.drewN)) hg3 (fun b hb => by have := own_row_ge HO.out b hb; omega)) _ _ _ _ (by omega))
        have HF3 : Hid (boxOK w.heap.size (w3.setCell ⟨w.heap.size + 1, 1, none⟩ (.slice a3 (((xss.take k).map rankF).length + 1) k3))) := hid (((HFz.out.below (by refine Ext.bel ?_; repeat (with_reducible first | exact Ext.refl _ | apply Ext.alloc | apply Ext.aft | apply Ext.drew | apply Ext.drewN)) hsz).grown hg3 (own_row_ge HO.out) (by simp; omega)).set _ _ _)
        have hsz3 : w.heap.size + 2 ≤ w3.heap.size := by have := hg3.size; simp at this; omega
        rw [hsl] at HN HE3 HF3
        clear hw3 hg3
        go_wp2_with fail
        go_roundw
        case rel => exact ⟨k + 1, _, by omega, by go_num, by simp [go_sem, b0], by simp [go_sem, b1], HN, HE3, by simpa using hsz3, HF3⟩
        case measure => simp only [intOf]; omega
    · obtain rfl : k = xss.length := by omega
      rw [List.take_length] at HO
      have hltz : ¬ (xss.length : Int) < (xss.length : Int) := by omega
      go_wp2_with fail
      refine (lib_sort HO.out (by rw [List.length_map]; omega)).mono ?_
      rintro e w2 ⟨rfl, hso, hgr⟩
      have HO2 := hid hso
      have f0 : w2.cell? ⟨w.heap.size + 1, 0, none⟩ = some (.int .i64 (m : Int)) := hgr.cell c0 fun e => by have := own_row_ge HO.out _ e.symm; simp only at this; omega
      have f1 : w2.cell? ⟨w.heap.size + 1, 1, none⟩ = some s := hgr.cell c1 fun e => by have := own_row_ge HO.out _ e.symm; simp only at this; omega
      have HE2 : Hid (Ext w.heap.size w w2) := hid (Ext.grown HE.out hgr (fun b hb => by have := own_row_ge HO.out b hb; omega))
      have HF2 : Hid (boxOK w.heap.size w2) := hid (HFz.out.grown hgr (own_row_ge HO.out) hsz)
      have hs2 : w.heap.size + 2 ≤ w2.heap.size := Nat.le_trans hsz hgr.size
      clear hso hgr c0 c1
      go_wp2_with fail
      refine (lib_compact HO2.out).mono ?_
      rintro e w3 ⟨v3, rfl, hso3, hgr3, _⟩
      rw [sort_compact (F := facN m) HRK.out] at hso3
      obtain ⟨a3, k3, hsh3, _, _⟩ := hso3.rd
      subst hsh3
      have HO3 := hid hso3
      have g0 : w3.cell? ⟨w.heap.size + 1, 0, none⟩ = some (.int .i64 (m : Int)) := hgr3.cell f0 fun e => by have := own_row_ge HO2.out _ e.symm; simp only at this; omega
      have g1 : w3.cell? ⟨w.heap.size + 1, 1, none⟩ = some s := hgr3.cell f1 fun e => by have := own_row_ge HO2.out _ e.symm; simp only at this; omega
      have HE4 : Hid (Ext w.heap.size w w3) := hid (Ext.grown HE2.out hgr3 (fun b hb => by have := own_row_ge HO2.out b hb; omega))
      have hF3 : boxOK w.heap.size w3 := HF2.out.grown hgr3 (own_row_ge HO2.out) hs2
      obtain ⟨q1, _⟩ := hF3 (w.heap.size + 1) 1 (.inr rfl) (by omega)
      obtain ⟨q2, q3⟩ := hF3 w.heap.size 0 (.inl rfl) (by omega)
      obtain ⟨q4, q5⟩ := hF3 w.heap.size 1 (.inl rfl) (by omega)
      obtain ⟨y0, hy0⟩ := Option.isSome_iff_exists.1 q3
      obtain ⟨y1, hy1⟩ := Option.isSome_iff_exists.1 q5
      clear hso3 hgr3 f0 f1 q3 q5 hF3
      go_wp2_with fail
      exact bodyPost_ret (v := .agg #[.int .i64 (m : Int), .slice a3 (listedU (xss.map rankF) (facN m)).length k3]) (by simp [results, go_sem, hy0, hy1]) rfl ⟨_, rfl, ownR.mono (((HO3.out.setCell _ _ _ _ (by omega)).setCell _ _ _ _ (by omega)).setCell _ _ _ _ (by omega)) (by omega), Ext.bel (((HE4.out.setCell _ _ _ _ (by omega)).setCell _ _ _ _ (by omega)).setCell _ _ _ _ (by omega))⟩
end Go.Proofs.Ytbkbcbanfnhjpaa

/- A call that hands back a group with new numbers. -/
namespace Go.Proofs.Ytbkbcbanfnhjpaa
open Go Go.RowKit

theorem viaG {P : Program} {f : FuncId} {args : Array Value} {w : World} {xs : List Int} {n : Int} {R : Ending → World → Prop}
    (h : Calls P f args w fun e w' => ∃ v, e = .returned (.agg #[.int .i64 n, v]) ∧ ownR w.heap.size w' v xs ∧ Below w.heap.size w w')
    (hR : ∀ v u, w.heap.size ≤ (aft w u).heap.size → ownR w.heap.size (aft w u) v xs → R (.returned (.agg #[.int .i64 n, v])) (aft w u)) : Calls P f args w R :=
  h.mono fun e w' ⟨v, he, ho, hb⟩ => by subst he; obtain ⟨u, rfl⟩ := aft_ex hb; exact hR v u (size_aft w u) ho
end Go.Proofs.Ytbkbcbanfnhjpaa

/- The group of the permutations for which a condition holds: the program's text. -/
namespace Go.Proofs.Ytbkbcbanfnhjpaa
open Go Go.RowKit

/-- What is asked of a condition: in every world in which all that lay in w lies, at each of these lists, it tells p, and all that lay lies. -/
def keepR (g : Nat) (pre lb : Array Value) (p : List Int → Bool) (xss : List (List Int)) (w : World) : Prop :=
  ∀ (W : World) (v : Value) (xs : List Int), Below w.heap.size w W → xs ∈ xss → ownR 0 W v xs → Calls Try.prog g (pre ++ #[v] ++ lb) W fun e w' => e = .returned (.bool (p xs)) ∧ Below W.heap.size W w'
/-- The numbers of the permutations for which a condition holds. -/
def filtF (m : Nat) (rs : List Int) (p : List Int → Bool) : List Int := rs.filter fun x => p (withF m x)
theorem filt_ranks {m : Nat} {rs : List Int} {p : List Int → Bool} (hm : m ≤ 6) (hr : ∀ x ∈ rs, 0 ≤ x ∧ x < (facN m : Int)) : (((memF m rs).filter fun x => !!p x).map rankF) = filtF m rs p := by
  unfold memF filtF
  rw [List.filter_map, List.map_map]
  have : ∀ l : List Int, (∀ x ∈ l, 0 ≤ x ∧ x < (facN m : Int)) → l.map (rankF ∘ withF m) = l := by
    intro l hl
    conv => rhs; rw [← List.map_id l]
    refine List.map_congr_left fun x hx => ?_
    exact (with_ok hm (hl x hx).1 (hl x hx).2).rank
  rw [this _ (fun x hx => hr x (List.mem_filter.1 hx).1)]
  refine List.filter_congr fun x _ => ?_
  simp
theorem filt_listed {m : Nat} {rs : List Int} {p : List Int → Bool} (hr : ∀ x ∈ rs, 0 ≤ x ∧ x < (facN m : Int)) (hp : rs.Pairwise (· < ·)) : listedU (filtF m rs p) (facN m) = filtF m rs p :=
  listedU_self (hp.sublist List.filter_sublist) (fun x hx => hr x (List.mem_filter.1 hx).1) (fun _ => Iff.rfl)
def resOK (n0 : Nat) (wr : World) : Prop := ∀ k, k < 2 → wr.frozen? ⟨n0, k, none⟩ = false ∧ (wr.cell? ⟨n0, k, none⟩).isSome = true
theorem resOK.below {n0 : Nat} {w w' : World} (h : resOK n0 w) (hb : Below w.heap.size w w') (hl : n0 < w.heap.size) : resOK n0 w' := fun k hk => by
  rw [hb.cell (p := ⟨n0, k, none⟩) hl, hb.frozen (p := ⟨n0, k, none⟩) hl]; exact h k hk
theorem resOK.grown {n0 : Nat} {w w' : World} {s : Value} (h : resOK n0 w) (hg : w.grownBy w' s.ownBlock) (hs : ∀ k, s.ownBlock = some k → n0 + 1 ≤ k) (hl : n0 < w.heap.size) : resOK n0 w' := fun k hk => by
  have hne : some n0 ≠ s.ownBlock := fun e => by have := hs n0 e.symm; omega
  have hbl := hg.block n0 hl hne
  rw [World.cell?_of_block (a := ⟨n0, k, none⟩) hbl, World.frozen?_of_block (a := ⟨n0, k, none⟩) hbl]; exact h k hk

theorem i_groupOfE (m : Nat) (v : Value) (xss : List (List Int)) (w : World) (zs : List Int) (h : rdRR w v xss) (hm6 : m ≤ 6) (hx : ∀ xs ∈ xss, xs.length = m) (hl : xss.length ≤ 1000) (hz : listedU (xss.map rankF) (facN m) = zs) :
    Calls Try.prog 110 #[.int .i64 (m : Int), v] w fun e w' => ∃ s, e = .returned (.agg #[.int .i64 (m : Int), s]) ∧ ownR w.heap.size w' s zs ∧ Below w.heap.size w w' := by subst hz; exact i_groupOf m v xss w h hm6 hx hl
/-- The closure 'not kept'. -/
theorem pred_filt {gk : Nat} {lb : Array Value} {p : List Int → Bool} {xss : List (List Int)} {w0 w : World} {kb : Nat} {row : Option Nat} (ek : ∀ args w, (callFunc gk args).run Try.prog w = .ok (.enter gk args) w) (hk : keepR gk #[] lb p xss w0)
    (hc : w.cell? ⟨kb, 0, none⟩ = some (.func (.func gk) #[] lb)) (hb : Below w0.heap.size w0 w) (hrow : ∀ k, row = some k → w0.heap.size ≤ k ∧ kb < k) : predG 112 #[.pointer (some ⟨kb, 0, none⟩)] (fun xs => !p xs) xss row w := by
  intro W v xs hg hx hv
  have hc' : W.cell? ⟨kb, 0, none⟩ = some (.func (.func gk) #[] lb) := hg.cell hc fun e => by have := (hrow kb e.symm).2; omega
  have hbW : Below w0.heap.size w0 W := hb.grown hg hb.size fun k hk => (hrow k hk).1
  have hcall := hk W v xs hbW hx hv
  obtain ⟨b, hbb⟩ : ∃ b, p xs = b := ⟨_, rfl⟩
  rw [hbb] at hcall
  rw [show (#[] : Array Value) ++ #[v] = #[v] by rfl] at hcall
  change Calls Try.prog 112 #[v, .pointer (some ⟨kb, 0, none⟩)] W fun e w' => e = .returned (.bool (!p xs)) ∧ Below W.heap.size W w'
  rw [hbb]
  have HCALL := hid hcall
  clear hbb hcall hg
  go_enter Try.func112, Try.ntmps112
  go_wp2_with fail
  refine HCALL.out.mono ?_
  rintro e w' ⟨rfl, h2⟩
  have H2 := hid h2
  clear h2
  go_wp2_with fail
  go_ret
  exact ⟨rfl, H2.out⟩
set_option maxRecDepth 20000 in
set_option maxHeartbeats 8000000 in
theorem i_filtered (m : Nat) (r : Value) (rs : List Int) (gk : Nat) (lb : Array Value) (p : List Int → Bool) (w : World) (ek : ∀ args w, (callFunc gk args).run Try.prog w = .ok (.enter gk args) w) (hk : keepR gk #[] lb p (memF m rs) w) (h : rdI w r rs) (hm6 : m ≤ 6) (hr : ∀ x ∈ rs, 0 ≤ x ∧ x < (facN m : Int)) (hpw : rs.Pairwise (· < ·)) (hl : rs.length ≤ 720) :
    Calls Try.prog 54 #[.agg #[.int .i64 (m : Int), r], .func (.func gk) #[] lb] w fun e w' => ∃ s, e = .returned (.agg #[.int .i64 (m : Int), s]) ∧ ownR w.heap.size w' s (filtF m rs p) ∧ Below w.heap.size w w' := by
  have Hk := hid hk
  have Hr := hid hr
  have Hpw := hid hpw
  have H0 := hid h
  have Ek := hid ek
  clear hk hr hpw h ek
  go_enter Try.func54, Try.ntmps54
  go_wp2_with fail
  obtain ⟨W, hW⟩ : ∃ W, W = (((w.alloc (Obj.cells #[.int .i64 (m : Int), r] 26)).alloc (Obj.cells #[.func (.func gk) #[] lb] 68)).alloc (Obj.cells #[.int .i64 0, .slice none 0 0] 26)) := ⟨_, rfl⟩
  have hWs : W.heap.size = w.heap.size + 3 := by rw [hW]; simp
  have hBw : Below w.heap.size w W := by rw [hW]; exact (((Below.refl _ w).alloc (Nat.le_refl _) _).alloc (by simp) _).alloc (by simp; omega) _
  have c0 : W.cell? ⟨w.heap.size, 0, none⟩ = some (.int .i64 (m : Int)) := by rw [hW]; simp [go_sem]
  have c1 : W.cell? ⟨w.heap.size, 1, none⟩ = some r := by rw [hW]; simp [go_sem]
  have ck : W.cell? ⟨w.heap.size + 1, 0, none⟩ = some (.func (.func gk) #[] lb) := by rw [hW]; simp [go_sem]
  have hres : resOK (w.heap.size + 1 + 1) W := by
    rw [hW]; intro k hk
    obtain rfl | rfl : k = 0 ∨ k = 1 := by omega
    all_goals simp [go_sem]
  have hrW : rdI W r rs := by rw [hW]; exact ((H0.out.alloc _).alloc _).alloc _
  have CK := hid ck
  have HRES := hid hres
  have HRW := hid hrW
  have HBw := hid hBw
  have hEB : Ext (w.heap.size + 2) W W := Ext.base (by omega)
  have hn0 : w.heap.size < w.heap.size + 2 := by omega
  rw [← hW]
  clear hW hres hrW hBw ck
  have hxl : Hid (∀ xs ∈ (memF m rs).filter fun x => !!p x, xs.length = m) := hid (fun xs hx => by
    obtain ⟨x, hx2, rfl⟩ := List.mem_map.1 (List.mem_filter.1 hx).1
    exact with_len hm6 (Hr.out x hx2))
  have hfl : ((memF m rs).filter fun x => !!p x).length ≤ 1000 := Nat.le_trans (List.length_filter_le _ _) (by rw [memF_len]; omega)
  have hlist : Hid (listedU (((memF m rs).filter fun x => !!p x).map rankF) (facN m) = filtF m rs p) := hid (by rw [filt_ranks hm6 Hr.out, filt_listed Hr.out Hpw.out])
  obtain ⟨ZS, hZS⟩ : ∃ ZS, ZS = (memF m rs).filter fun x => !!p x := ⟨_, rfl⟩
  rw [← hZS] at hxl hfl hlist
  have HZS := hid hZS
  have eg : ∀ args w, (callFunc 112 args).run Try.prog w = .ok (.enter 112 args) w := entersT Try.func112 (by kernel_rfl) rfl
  have Eg := hid eg
  clear hZS eg
  go_region_held3 (fun w' => (∀ b o, b < w.heap.size + 2 → w'.cell? ⟨b, o, none⟩ = W.cell? ⟨b, o, none⟩) ∧ Hid (Ext (w.heap.size + 2) W w')) ((refine sB ?_; repeat (with_reducible first | assumption | exact Nat.le_refl _ | apply Ext.aft | apply Ext.alloc | apply Ext.drew | apply Ext.drewN | apply Ext.setCell))) (first | (go_at_call 89; refine viaX (g := id) (i_members m _ rs _ (HRW.out.below (by refine Ext.bel ?_; repeat (with_reducible first | exact Ext.refl _ | apply Ext.alloc | apply Ext.aft | apply Ext.drew | apply Ext.drewN))) hm6 Hr.out (by omega)) ?_; intro v1 u1 z1 own1; (try simp at z1)) | (go_at_call 111; refine (lib_deleteX W.heap.size _ _ (fun xs => !p xs) Eg.out _ (memF m rs) _ (own1.mono (by first | exact Nat.le_refl _ | (simp; omega) | simp)) (pred_filt Ek.out Hk.out ((below_aft _ _).cell (p := ⟨w.heap.size + 1, 0, none⟩) (by simp; omega) |>.trans CK.out) (HBw.out.trans (Below.mono (by refine Ext.bel ?_; repeat (with_reducible first | exact Ext.refl _ | apply Ext.alloc | apply Ext.aft | apply Ext.drew | apply Ext.drewN)) HBw.out.size)) (fun k hk => by have := World.ownsRow.lt own1.choose_spec.2.1 k hk; simp at this; omega))).mono ?_; rintro e w9 ⟨v9, rfl, own9, hgr9⟩; have hE9 : Ext (w.heap.size + 2) W w9 := Ext.grown (by repeat (with_reducible first | exact hEB | apply Ext.aft | apply Ext.alloc | apply Ext.drew | apply Ext.drewN)) hgr9 (fun k hk => by have := World.ownsRow.lt own1.choose_spec.2.1 k hk; simp at this; omega); have hR9 := resOK.grown (by exact HRES.out.below (by refine Ext.bel ?_; repeat (with_reducible first | exact Ext.refl _ | apply Ext.alloc | apply Ext.aft | apply Ext.drew | apply Ext.drewN)) (by omega)) hgr9 (fun k hk => by have := World.ownsRow.lt own1.choose_spec.2.1 k hk; simp at this; omega) (by first | omega | (simp; omega))) | (go_at_call 110; refine viaG (i_groupOfE m _ ZS _ _ (by rw [HZS.out]; exact own9.rd) hm6 hxl.out hfl hlist.out) ?_; intro s9 u9 z9 owns; (try simp at z9); have hR10 := hR9.below (below_aft _ u9) (by have h1 := hgr9.size; omega); obtain ⟨y0, hy0⟩ := Option.isSome_iff_exists.1 (hR10 0 (by omega)).2; obtain ⟨y1, hy1⟩ := Option.isSome_iff_exists.1 (hR10 1 (by omega)).2; have hf0 := (hR10 0 (by omega)).1; have hf1 := (hR10 1 (by omega)).1; obtain ⟨a9, c9, hsh9, _, _⟩ := owns.rd; subst hsh9))
  all_goals
    have hsz9 : w.heap.size + 1 + 1 < w9.heap.size := by have h1 := hgr9.size; omega
    have HF : Hid (ownR w.heap.size (((aft w9 u9).setCell ⟨w.heap.size + 1 + 1, 0, none⟩ (.int .i64 (m : Int))).setCell ⟨w.heap.size + 1 + 1, 1, none⟩ (.slice a9 (filtF m rs p).length c9)) (.slice a9 (filtF m rs p).length c9) (filtF m rs p)) := hid (ownR.mono ((owns.setCell _ _ _ _ hsz9).setCell _ _ _ _ hsz9) (by omega))
    have HB9 : Hid (Ext w.heap.size w w9) := hid ⟨HBw.out.trans (hE9.1.mono (by omega)), by omega⟩
    go_wp2_with fail
    exact bodyPost_ret (v := .agg #[.int .i64 (m : Int), .slice a9 (filtF m rs p).length c9]) (by simp [results, go_sem, hy0, hy1]) rfl ⟨_, rfl, HF.out, Ext.bel (((HB9.out.aft u9).setCell _ _ _ _ (by omega)).setCell _ _ _ _ (by omega))⟩
end Go.Proofs.Ytbkbcbanfnhjpaa
