/- The library's search, contains and equal at numbers: the shelf's contracts, laid at this program; a group's test for a permutation; lists that rise; flags: both texts. -/
import Derived.Test.YteolkmgdnbdccaaK3
import Derived.Shelf.SlicesG.SearchI
import Derived.Shelf.SlicesG.Turned
import Derived.Shelf.SlicesG.Equal
namespace Go.Proofs.Yteolkmgdnbdccaa
open Go Go.RowKit
open Go.Shelf
def lay119_ren : Go.Shelf.Ren := ⟨fun | 49 => 63 | 59 => 76 | 60 => 77 | 68 => 90 | n => n, fun | 22 => 22 | 23 => 2 | 3 => 3 | 4 => 4 | 51 => 78 | 0 => 0 | n => n, fun | n => n⟩
theorem lay119 : Go.Proofs.SlLaysN.n49 Try.prog lay119_ren := {
  mixed := by kernel_rfl
  f49 := ⟨Try.f63.name, by decide, Try.func63.trans (congrArg some (by kernel_rfl))⟩
  f59 := ⟨Try.f76.name, by decide, Try.func76.trans (congrArg some (by kernel_rfl))⟩
  f60 := ⟨Try.f77.name, by decide, Try.func77.trans (congrArg some (by kernel_rfl))⟩
  f68 := ⟨Try.f90.name, by decide, Try.func90.trans (congrArg some (by kernel_rfl))⟩
  t0 := Try.underlying0
  a0 := Try.isAgg0
  z0 := Try.sizeOf0
  v0 := Try.zeroValue0
  t3 := Try.underlying3
  a3 := Try.isAgg3
  z3 := Try.sizeOf3
  v3 := Try.zeroValue3
  t4 := Try.underlying4
  a4 := Try.isAgg4
  z4 := Try.sizeOf4
  v4 := Try.zeroValue4
  t22 := Try.underlying22
  a22 := Try.isAgg22
  z22 := Try.sizeOf22
  v22 := Try.zeroValue22
  t23 := Try.underlying2
  a23 := Try.isAgg2
  z23 := Try.sizeOf2
  v23 := Try.zeroValue2
  t51 := Try.underlying78
  a51 := Try.isAgg78
  z51 := Try.sizeOf78
  v51 := Try.zeroValue78 }
theorem rd_cells {w : World} {b o n cap : Nat} {xs : List Int} (h : rdI w (.slice (some ⟨b, o, none⟩) n cap) xs) : ∀ j, j < xs.length → w.cell? ⟨b, o + j, none⟩ = some (.int .i64 (xs.getD j 0)) := by
  intro j hj
  obtain ⟨a, cap', he, hm, hc⟩ := h
  cases he
  obtain ⟨b', o', e, hcell⟩ := hc (by intro e; subst e; simp at hj)
  cases e
  rw [hcell j hj]
  simp [List.getD, List.getElem?_eq_getElem hj]
theorem rd_shape {w : World} {v : Value} {xs : List Int} (h : rdI w v xs) : xs.length ≤ maxLen ∧ ((xs = [] ∧ ∃ a c, v = .slice a 0 c) ∨ (xs ≠ [] ∧ ∃ b o c, v = .slice (some ⟨b, o, none⟩) xs.length c)) := by
  obtain ⟨a, c, he, hm, hc⟩ := id h
  refine ⟨hm, ?_⟩
  by_cases hx : xs = []
  · subst hx; exact .inl ⟨rfl, a, c, he⟩
  · obtain ⟨b, o, rfl, _⟩ := hc hx
    exact .inr ⟨hx, b, o, c, he⟩
theorem lib_search {w : World} {v : Value} {xs : List Int} (h : rdI w v xs) (hne : xs ≠ []) (hm6 : xs.length ≤ 1048576) (hs : xs.Pairwise (· < ·)) (x : Int) :
    Calls Try.prog 63 #[v, .int .i64 x] w fun e w' => e = .returned (.tuple #[.int .i64 (xs.countP (· < x) : Nat), .bool (xs.contains x)]) ∧ Below w.heap.size w w' := by
  obtain ⟨hm, ⟨e, _⟩ | ⟨_, b, o, c, rfl⟩⟩ := rd_shape h
  · exact absurd e hne
  unfold maxLen at hm
  have hcall := AnyG.slices_BinarySearch_int lay119 b o xs.length c xs x w (Nat.le_refl _) (by omega) (rd_cells h) (by rw [List.take_length]; exact hs.imp fun h => by omega)
  change Calls Try.prog 63 _ _ _ at hcall
  rw [List.take_length] at hcall
  refine hcall.mono ?_
  rintro e w' ⟨rfl, q, rfl⟩
  exact ⟨rfl, below_drewN (Below.refl _ _) _⟩
theorem lib_searchB {w : World} {v : Value} {xs : List Int} (h : rdI w v xs) (hne : xs ≠ []) (hm6 : xs.length ≤ 1048576) (hs : xs.Pairwise (· < ·)) (x : Int) {c : Bool} (hc : c = xs.contains x) :
    Calls Try.prog 63 #[v, .int .i64 x] w fun e w' => e = .returned (.tuple #[.int .i64 (xs.countP (· < x) : Nat), .bool c]) ∧ Below w.heap.size w w' := by
  subst hc; exact lib_search h hne hm6 hs x
set_option maxRecDepth 20000 in
set_option maxHeartbeats 4000000 in
theorem i_has (n : Int) (r v : Value) (rs xs : List Int) (w : World) (h : rdI w r rs) (hne : rs ≠ []) (hm6 : rs.length ≤ 1048576) (hs : rs.Pairwise (· < ·)) (h2 : ownR 0 w v xs) (hl : xs.length ≤ 6) :
    Calls Try.prog 43 #[(.agg #[.int .i64 n, r]), v] w fun e w' => e = .returned (.bool (rs.contains (rankF xs))) ∧ Below w.heap.size w w' := by
  have hr := h.alloc (Obj.cells #[.int .i64 n, r] 28)
  have ho := h2.alloc (Obj.cells #[.int .i64 n, r] 28)
  obtain ⟨B, hB⟩ : ∃ B, B = rs.contains (rankF xs) := ⟨_, rfl⟩
  rw [← hB]
  have HB := hid hB
  clear hB
  go_enter Try.func43, Try.ntmps43
  go_wp2_with fail
  refine wp_region_calm (by kernel_rfl) (by kernel_rfl) ?_
  go_big_quiet_step (fail)
  repeat (go_big_quiet_step (first | (go_at_call 64; exact calmp (i_rank 0 _ xs _ (ho.aft _) hl)) | (go_at_call 63; exact calm (lib_searchB (hr.aft _) hne hm6 hs _ HB.out))))
  refine wpQuiet_nil ?_; intro uq zq; try simp at zq
  go_wp2_with fail
  go_ret
  exact ⟨rfl, (by refine Ext.bel ?_; repeat (with_reducible first | exact Ext.refl _ | apply Ext.alloc | apply Ext.aft | apply Ext.drew | apply Ext.drewN | apply Ext.setCell | exact Nat.le_add_right _ _ | exact Nat.le_refl _ | (simp; done) | omega))⟩
end Go.Proofs.Yteolkmgdnbdccaa
