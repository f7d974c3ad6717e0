/- A copy of a slice: laws.toInt64S. -/
import Derived.Test.YtbkbcbanfnhjpaaMA
namespace Go.Proofs.Ytbkbcbanfnhjpaa
open Go Go.RowKit

/-- The first j numbers, then noughts. -/
def part (xs : List Int) (j : Nat) : List Int := xs.take j ++ List.replicate (xs.length - j) 0
theorem part_len {xs : List Int} {j : Nat} (h : j ≤ xs.length) : (part xs j).length = xs.length := by simp [part]; omega
theorem part_all (xs : List Int) : part xs xs.length = xs := by simp [part]
theorem part_zero (xs : List Int) : part xs 0 = List.replicate xs.length 0 := by simp [part]
theorem part_step {xs : List Int} {j : Nat} (h : j < xs.length) : (vI (part xs j)).set j (.int .i64 xs[j]) = vI (part xs (j + 1)) := by
  have e : (part xs j).set j xs[j] = part xs (j + 1) := by
    unfold part
    have hl : (xs.take j).length = j := by rw [List.length_take]; omega
    obtain ⟨d, hd⟩ : ∃ d, xs.length - j = d + 1 := ⟨xs.length - j - 1, by omega⟩
    rw [List.set_append_right _ _ (by omega), hl, Nat.sub_self, hd, List.replicate_succ, List.set_cons_zero, take_snocI _ _ h, List.append_assoc, show xs.length - (j + 1) = d by omega]
    rfl
  rw [← e]
  simp [vI, List.map_set]
theorem vI_zeros (n : Nat) : (madeCells #[Value.int .i64 0] n).toList = vI (List.replicate n 0) := by
  rw [toList_madeCells_one]; simp [vI]

set_option maxHeartbeats 2000000 in
theorem l_toI (r : Value) (xs : List Int) (w : World) (h : rdI w r xs) (hl : xs.length ≤ 1048576) :
    Calls Try.prog 72 #[r] w fun e w' => ∃ v, e = .returned v ∧ ownR w.heap.size w' v xs ∧ Below w.heap.size w w' := by
  obtain ⟨i0, hi, hz0, hz1, hz2⟩ := info_parts infoI
  obtain ⟨a, cap, rfl, hm, hc⟩ := h
  have Hc := hid hc
  clear hc hm
  go_enter Try.func72, Try.ntmps72
  go_wp2_with (at_make; refine wpList_make_full _ rfl _ _ 24 rfl w.heap.size 2 i0 (.int .i64 0) 1 Try.underlying24 hi hz0 hz1 _ _ _ _ xs.length rfl rfl rfl rfl (by rw [hz2]; omega) (by unfold maxLen; omega) (Nat.le_refl _) ?_)
  intro w1 hown hgr
  have hown : w1.ownsRow w.heap.size 2 1 (.slice (some ⟨w.heap.size, 0, none⟩) xs.length xs.length) xs.length (vI (part xs 0)) := by rw [part_zero, ← vI_zeros]; exact hown
  have HB : Hid (Below w.heap.size w w1) := hid (Below.grown (Below.refl _ _) hgr (Nat.le_refl _) (fun k hk => by cases hk))
  have HO := hid hown
  clear hown hgr
  go_wp2_with fail
  go_loopw [4] (fun i wr => ∃ j : Nat, j ≤ xs.length ∧ i = .int .i64 j ∧ Hid (wr.ownsRow w.heap.size 2 1 (.slice (some ⟨w.heap.size, 0, none⟩) xs.length xs.length) xs.length (vI (part xs j))) ∧ Hid (Below w.heap.size w wr)) (fun i _ => xs.length - (intOf i).toNat)
  case atStart => exact ⟨0, by omega, rfl, HO, HB⟩
  case round =>
    obtain ⟨j, hj, rfl, HO, HB⟩ := hrel
    by_cases hlt : j < xs.length
    · obtain ⟨b, o, rfl, hcell⟩ := Hc.out (by intro e; subst e; simp at hlt)
      have h0 := hcell j hlt
      have hx0 := HB.out.cell (p := ⟨b, o + j, none⟩) (World.block_lt_of_cell? w _ h0)
      rw [h0] at hx0
      have h1 := HO.out.cellAt j (by omega)
      have hlen : (vI (part xs j)).length = xs.length := by rw [vI_len, part_len (by omega)]
      obtain ⟨y, hy⟩ : ∃ y, (vI (part xs j))[j]? = some y := ⟨_, List.getElem?_eq_getElem (by omega)⟩
      rw [hy] at h1
      have h2 := HO.out.frozenAt j
      have hst := HO.out.stored j (.int .i64 xs[j])
      rw [part_step hlt] at hst
      obtain ⟨x, hx⟩ : ∃ x, x = xs[j] := ⟨_, rfl⟩
      rw [← hx] at hx0 hst
      have HS := hid hst
      have hjz : (j : Int) < (xs.length : Int) := by omega
      clear hst hy hlen hx hcell h0
      go_wp2
      go_roundw
      case rel => exact ⟨j + 1, by omega, by go_num, hid HS.out.1, hid (Below.grown HB.out HS.out.2 HB.out.size (fun k hk => by injection hk with hk; omega))⟩
      case measure => simp only [intOf]; omega
    · obtain rfl : j = xs.length := by omega
      go_wp2
      go_ret
      refine ⟨_, rfl, ?_, HB.out⟩
      have := HO.out
      rw [part_all] at this
      exact this
end Go.Proofs.Ytbkbcbanfnhjpaa
