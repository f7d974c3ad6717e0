/- The inverse of a permutation: both texts; products of three. -/
import Derived.Test.YtbkbcbanfnhjpaaU1
namespace Go.Proofs.Ytbkbcbanfnhjpaa
open Go Go.RowKit

/-- The inverse behind k steps. -/
def invT (xs : List Int) : Nat → List Int
  | 0 => List.replicate xs.length 0
  | k + 1 => (invT xs k).set (xs.getD k 0).toNat (k : Int)
def opF (xs : List Int) : List Int := invT xs xs.length
theorem invT_len (xs : List Int) : ∀ k, (invT xs k).length = xs.length
  | 0 => by simp [invT]
  | k + 1 => by unfold invT; rw [List.length_set]; exact invT_len xs k
theorem invT_rng (xs : List Int) : ∀ k, k ≤ xs.length → ∀ y ∈ invT xs k, 0 ≤ y ∧ y < (xs.length : Int)
  | 0, _, y, hy => by
    unfold invT at hy
    obtain ⟨h, rfl⟩ := List.mem_replicate.1 hy
    omega
  | k + 1, hk, y, hy => by
    unfold invT at hy
    rcases List.mem_or_eq_of_mem_set hy with h | h
    · exact invT_rng xs k (by omega) y h
    · subst h; omega
theorem vI_no (n : Nat) : (madeCells #[Value.int .i64 0] n).toList = vI (List.replicate n 0) := by
  rw [toList_madeCells_one]; simp [vI]
theorem vI_set (s : List Int) (k : Nat) (x : Int) : vI (s.set k x) = (vI s).set k (.int .i64 x) := by unfold vI; rw [List.map_set]
theorem prod_assoc {a b c : List Int} (hc : ∀ y ∈ c, 0 ≤ y ∧ y < (b.length : Int)) : prodF (prodF a b) c = prodF a (prodF b c) := by
  unfold prodF
  rw [List.map_map]
  refine List.map_congr_left fun y hy => ?_
  have h := hc y hy
  have hl : y.toNat < b.length := by omega
  simp [List.getD, List.getElem?_map, List.getElem?_eq_getElem hl]
set_option maxRecDepth 20000 in
set_option maxHeartbeats 4000000 in
theorem i_op (r : Value) (xs : List Int) (w : World) (h : rdI w r xs) (hl : xs.length ≤ 6) (h0 : 0 < xs.length) (hr : ∀ y ∈ xs, 0 ≤ y ∧ y < (xs.length : Int)) :
    Calls Try.prog 107 #[r] w fun e w' => ∃ v, e = .returned v ∧ ownR w.heap.size w' v (opF xs) ∧ Below w.heap.size w w' := by
  obtain ⟨i0, hi, hz0, hz1, hz2⟩ := info_parts infoI
  obtain ⟨a, cap, rfl, hm, hc⟩ := h
  obtain ⟨b, o, rfl, hcell⟩ := hc (by intro e; rw [e] at h0; simp at h0)
  unfold maxLen at hm
  obtain ⟨n, hn⟩ : ∃ n, n = xs.length := ⟨_, rfl⟩
  have HN := hid hn
  have Hc := hid hcell
  have Hr := hid hr
  rw [← hn] at hl h0 hm ⊢
  clear hcell hr hc hn
  go_enter Try.func107, Try.ntmps107
  go_wp2_with (at_make; refine wpList_make_full _ rfl _ _ 24 rfl w.heap.size 2 i0 (.int .i64 0) 1 Try.underlying24 hi hz0 hz1 _ _ _ _ n rfl rfl rfl rfl (by rw [hz2]; omega) (by unfold maxLen; omega) (Nat.le_refl _) ?_)
  intro w1 hown hgr
  have hown : w1.ownsRow w.heap.size 2 1 (.slice (some ⟨w.heap.size, 0, none⟩) n n) n (vI (invT xs 0)) := by
    have e : invT xs 0 = List.replicate n 0 := by unfold invT; rw [← HN.out]
    rw [e, ← vI_no]; exact hown
  have HB : Hid (Below w.heap.size w w1) := hid (Below.grown (Below.refl _ _) hgr (Nat.le_refl _) (fun k hk => by cases hk))
  have HO := hid hown
  clear hown hgr
  go_wp2_with fail
  go_loopw [11] (fun i wr => ∃ k : Nat, k ≤ n ∧ i = .int .i64 k ∧ Hid (wr.ownsRow w.heap.size 2 1 (.slice (some ⟨w.heap.size, 0, none⟩) n n) n (vI (invT xs k))) ∧ Hid (Below w.heap.size w wr)) (fun i _ => n - (intOf i).toNat)
  case atStart => exact ⟨0, by omega, rfl, HO, HB⟩
  case round =>
    obtain ⟨k, hk, rfl, HO2, HB2⟩ := hrel
    by_cases hlt : k < n
    · have hltz : (k : Int) < (n : Int) := by omega
      have hkx : k < xs.length := by rw [← HN.out]; exact hlt
      have hx1 := Hc.out k hkx
      have hxr := Hr.out _ (List.getElem_mem hkx)
      rw [← HN.out] at hxr
      have hgd : xs.getD k 0 = xs[k] := by simp [List.getD, List.getElem?_eq_getElem hkx]
      obtain ⟨q, hq⟩ : ∃ q : Nat, xs[k] = (q : Int) := ⟨(xs[k]).toNat, by omega⟩
      have hsn : invT xs (k + 1) = (invT xs k).set q (k : Int) := by rw [invT, hgd, hq, Int.toNat_natCast]
      rw [hq] at hx1 hxr
      have hx2 := (HB2.out.cell (p := ⟨b, o + k, none⟩) (World.block_lt_of_cell? w _ hx1)).trans hx1
      have hqn : q < n := by omega
      have hqz : (q : Int) < (n : Int) := by omega
      have hfr := HO2.out.frozenAt q
      have hcl := HO2.out.cellAt q (by omega)
      obtain ⟨y, hy⟩ : ∃ y, (vI (invT xs k))[q]? = some y := ⟨_, List.getElem?_eq_getElem (by rw [vI_len, invT_len, ← HN.out]; exact hqn)⟩
      rw [hy] at hcl
      have hst := HO2.out.stored q (.int .i64 (k : Int))
      rw [← vI_set, ← hsn] at hst
      have HST := hid hst
      clear hst hsn hgd hq hx1 hkx hy
      go_wp2_with fail
      go_roundw
      case rel => exact ⟨k + 1, by omega, by go_num, hid HST.out.1, hid (Below.grown HB2.out HST.out.2 HB2.out.size (fun k hk => by injection hk with hk; omega))⟩
      case measure => simp only [intOf]; omega
    · obtain rfl : k = n := by omega
      have hltz : ¬ (k : Int) < (k : Int) := by omega
      have HF : Hid (ownR w.heap.size wr (.slice (some ⟨w.heap.size, 0, none⟩) k k) (opF xs)) := hid (by
        unfold ownR opF
        rw [invT_len, ← HN.out]
        exact HO2.out)
      go_wp2_with fail
      go_ret
      exact ⟨_, rfl, HF.out, HB2.out⟩
set_option maxRecDepth 20000 in
set_option maxHeartbeats 4000000 in
theorem s_inv (r : Value) (xs : List Int) (w : World) (h : rdI w r xs) (hl : xs.length ≤ 6) (h0 : 0 < xs.length) (hr : ∀ y ∈ xs, 0 ≤ y ∧ y < (xs.length : Int)) :
    Calls Try.prog 87 #[r] w fun e w' => ∃ v, e = .returned v ∧ ownR w.heap.size w' v (opF xs) ∧ Below w.heap.size w w' := by
  obtain ⟨i0, hi, hz0, hz1, hz2⟩ := info_parts infoI
  obtain ⟨a, cap, rfl, hm, hc⟩ := h
  obtain ⟨b, o, rfl, hcell⟩ := hc (by intro e; rw [e] at h0; simp at h0)
  unfold maxLen at hm
  obtain ⟨n, hn⟩ : ∃ n, n = xs.length := ⟨_, rfl⟩
  have HN := hid hn
  have Hc := hid hcell
  have Hr := hid hr
  rw [← hn] at hl h0 hm ⊢
  clear hcell hr hc hn
  go_enter Try.func87, Try.ntmps87
  go_wp2_with (at_make; refine wpList_make_full _ rfl _ _ 24 rfl w.heap.size 2 i0 (.int .i64 0) 1 Try.underlying24 hi hz0 hz1 _ _ _ _ n rfl rfl rfl rfl (by rw [hz2]; omega) (by unfold maxLen; omega) (Nat.le_refl _) ?_)
  intro w1 hown hgr
  have hown : w1.ownsRow w.heap.size 2 1 (.slice (some ⟨w.heap.size, 0, none⟩) n n) n (vI (invT xs 0)) := by
    have e : invT xs 0 = List.replicate n 0 := by unfold invT; rw [← HN.out]
    rw [e, ← vI_no]; exact hown
  have HB : Hid (Below w.heap.size w w1) := hid (Below.grown (Below.refl _ _) hgr (Nat.le_refl _) (fun k hk => by cases hk))
  have HO := hid hown
  clear hown hgr
  go_wp2_with fail
  go_loopw [4] (fun i wr => ∃ k : Nat, k ≤ n ∧ i = .int .i64 k ∧ Hid (wr.ownsRow w.heap.size 2 1 (.slice (some ⟨w.heap.size, 0, none⟩) n n) n (vI (invT xs k))) ∧ Hid (Below w.heap.size w wr)) (fun i _ => n - (intOf i).toNat)
  case atStart => exact ⟨0, by omega, rfl, HO, HB⟩
  case round =>
    obtain ⟨k, hk, rfl, HO2, HB2⟩ := hrel
    by_cases hlt : k < n
    · have hltz : (k : Int) < (n : Int) := by omega
      have hkx : k < xs.length := by rw [← HN.out]; exact hlt
      have hx1 := Hc.out k hkx
      have hxr := Hr.out _ (List.getElem_mem hkx)
      rw [← HN.out] at hxr
      have hgd : xs.getD k 0 = xs[k] := by simp [List.getD, List.getElem?_eq_getElem hkx]
      obtain ⟨q, hq⟩ : ∃ q : Nat, xs[k] = (q : Int) := ⟨(xs[k]).toNat, by omega⟩
      have hsn : invT xs (k + 1) = (invT xs k).set q (k : Int) := by rw [invT, hgd, hq, Int.toNat_natCast]
      rw [hq] at hx1 hxr
      have hx2 := (HB2.out.cell (p := ⟨b, o + k, none⟩) (World.block_lt_of_cell? w _ hx1)).trans hx1
      have hqn : q < n := by omega
      have hqz : (q : Int) < (n : Int) := by omega
      have hfr := HO2.out.frozenAt q
      have hcl := HO2.out.cellAt q (by omega)
      obtain ⟨y, hy⟩ : ∃ y, (vI (invT xs k))[q]? = some y := ⟨_, List.getElem?_eq_getElem (by rw [vI_len, invT_len, ← HN.out]; exact hqn)⟩
      rw [hy] at hcl
      have hst := HO2.out.stored q (.int .i64 (k : Int))
      rw [← vI_set, ← hsn] at hst
      have HST := hid hst
      clear hst hsn hgd hq hx1 hkx hy
      go_wp2_with fail
      go_roundw
      case rel => exact ⟨k + 1, by omega, by go_num, hid HST.out.1, hid (Below.grown HB2.out HST.out.2 HB2.out.size (fun k hk => by injection hk with hk; omega))⟩
      case measure => simp only [intOf]; omega
    · obtain rfl : k = n := by omega
      have hltz : ¬ (k : Int) < (k : Int) := by omega
      have HF : Hid (ownR w.heap.size wr (.slice (some ⟨w.heap.size, 0, none⟩) k k) (opF xs)) := hid (by
        unfold ownR opF
        rw [invT_len, ← HN.out]
        exact HO2.out)
      go_wp2_with fail
      go_ret
      exact ⟨_, rfl, HF.out, HB2.out⟩
end Go.Proofs.Ytbkbcbanfnhjpaa
