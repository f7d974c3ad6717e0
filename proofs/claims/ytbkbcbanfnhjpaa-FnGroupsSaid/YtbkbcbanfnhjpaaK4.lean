/- The library's search, contains and equal at numbers: the shelf's contracts, laid at this program; a group's test for a permutation; lists that rise; flags: both texts. -/
import Derived.Test.YtbkbcbanfnhjpaaK3
import Derived.Shelf.SlicesG.SearchI
import Derived.Shelf.SlicesG.Turned
import Derived.Shelf.SlicesG.Equal
namespace Go.Proofs.Ytbkbcbanfnhjpaa
open Go Go.RowKit
open Go.Shelf
def lay119_ren : Go.Shelf.Ren := ⟨fun | 49 => 122 | 59 => 134 | 60 => 135 | 68 => 149 | n => n, fun | 22 => 24 | 23 => 2 | 3 => 3 | 4 => 4 | 51 => 105 | 0 => 0 | n => n, fun | n => n⟩
theorem lay119 : Go.Proofs.SlLaysN.n49 Try.prog lay119_ren := {
  mixed := by kernel_rfl
  f49 := ⟨Try.f122.name, by decide, Try.func122.trans (congrArg some (by kernel_rfl))⟩
  f59 := ⟨Try.f134.name, by decide, Try.func134.trans (congrArg some (by kernel_rfl))⟩
  f60 := ⟨Try.f135.name, by decide, Try.func135.trans (congrArg some (by kernel_rfl))⟩
  f68 := ⟨Try.f149.name, by decide, Try.func149.trans (congrArg some (by kernel_rfl))⟩
  t0 := Try.underlying0
  a0 := Try.isAgg0
  z0 := Try.sizeOf0
  v0 := Try.zeroValue0
  t3 := Try.underlying3
  a3 := Try.isAgg3
  z3 := Try.sizeOf3
  v3 := Try.zeroValue3
  t4 := Try.underlying4
  a4 := Try.isAgg4
  z4 := Try.sizeOf4
  v4 := Try.zeroValue4
  t22 := Try.underlying24
  a22 := Try.isAgg24
  z22 := Try.sizeOf24
  v22 := Try.zeroValue24
  t23 := Try.underlying2
  a23 := Try.isAgg2
  z23 := Try.sizeOf2
  v23 := Try.zeroValue2
  t51 := Try.underlying105
  a51 := Try.isAgg105
  z51 := Try.sizeOf105
  v51 := Try.zeroValue105 }
def lay122_ren : Go.Shelf.Ren := ⟨fun | 31 => 125 | 29 => 137 | n => n, fun | 22 => 24 | 23 => 2 | 4 => 4 | 3 => 3 | 0 => 0 | n => n, fun | n => n⟩
theorem lay122 : Go.Proofs.SlLaysN.n31 Try.prog lay122_ren := {
  mixed := by kernel_rfl
  f29 := ⟨Try.f137.name, by decide, Try.func137.trans (congrArg some (by kernel_rfl))⟩
  f31 := ⟨Try.f125.name, by decide, Try.func125.trans (congrArg some (by kernel_rfl))⟩
  t0 := Try.underlying0
  a0 := Try.isAgg0
  z0 := Try.sizeOf0
  v0 := Try.zeroValue0
  t3 := Try.underlying3
  a3 := Try.isAgg3
  z3 := Try.sizeOf3
  v3 := Try.zeroValue3
  t4 := Try.underlying4
  a4 := Try.isAgg4
  z4 := Try.sizeOf4
  v4 := Try.zeroValue4
  t22 := Try.underlying24
  a22 := Try.isAgg24
  z22 := Try.sizeOf24
  v22 := Try.zeroValue24
  t23 := Try.underlying2
  a23 := Try.isAgg2
  z23 := Try.sizeOf2
  v23 := Try.zeroValue2 }
def lay134_ren : Go.Shelf.Ren := ⟨fun | 33 => 120 | n => n, fun | 22 => 24 | 23 => 2 | 4 => 4 | 3 => 3 | 0 => 0 | n => n, fun | n => n⟩
theorem lay134 : Go.Proofs.SlLaysN.n33 Try.prog lay134_ren := {
  mixed := by kernel_rfl
  f33 := ⟨Try.f120.name, by decide, Try.func120.trans (congrArg some (by kernel_rfl))⟩
  t0 := Try.underlying0
  a0 := Try.isAgg0
  z0 := Try.sizeOf0
  v0 := Try.zeroValue0
  t3 := Try.underlying3
  a3 := Try.isAgg3
  z3 := Try.sizeOf3
  v3 := Try.zeroValue3
  t4 := Try.underlying4
  a4 := Try.isAgg4
  z4 := Try.sizeOf4
  v4 := Try.zeroValue4
  t22 := Try.underlying24
  a22 := Try.isAgg24
  z22 := Try.sizeOf24
  v22 := Try.zeroValue24
  t23 := Try.underlying2
  a23 := Try.isAgg2
  z23 := Try.sizeOf2
  v23 := Try.zeroValue2 }

theorem rd_cells {w : World} {b o n cap : Nat} {xs : List Int} (h : rdI w (.slice (some ⟨b, o, none⟩) n cap) xs) : ∀ j, j < xs.length → w.cell? ⟨b, o + j, none⟩ = some (.int .i64 (xs.getD j 0)) := by
  intro j hj
  obtain ⟨a, cap', he, hm, hc⟩ := h
  cases he
  obtain ⟨b', o', e, hcell⟩ := hc (by intro e; subst e; simp at hj)
  cases e
  rw [hcell j hj]
  simp [List.getD, List.getElem?_eq_getElem hj]
theorem rd_shape {w : World} {v : Value} {xs : List Int} (h : rdI w v xs) : xs.length ≤ maxLen ∧ ((xs = [] ∧ ∃ a c, v = .slice a 0 c) ∨ (xs ≠ [] ∧ ∃ b o c, v = .slice (some ⟨b, o, none⟩) xs.length c)) := by
  obtain ⟨a, c, he, hm, hc⟩ := id h
  refine ⟨hm, ?_⟩
  by_cases hx : xs = []
  · subst hx; exact .inl ⟨rfl, a, c, he⟩
  · obtain ⟨b, o, rfl, _⟩ := hc hx
    exact .inr ⟨hx, b, o, c, he⟩
theorem lib_search {w : World} {v : Value} {xs : List Int} (h : rdI w v xs) (hne : xs ≠ []) (hm6 : xs.length ≤ 1048576) (hs : xs.Pairwise (· < ·)) (x : Int) :
    Calls Try.prog 122 #[v, .int .i64 x] w fun e w' => e = .returned (.tuple #[.int .i64 (xs.countP (· < x) : Nat), .bool (xs.contains x)]) ∧ Below w.heap.size w w' := by
  obtain ⟨hm, ⟨e, _⟩ | ⟨_, b, o, c, rfl⟩⟩ := rd_shape h
  · exact absurd e hne
  unfold maxLen at hm
  have hcall := AnyG.slices_BinarySearch_int lay119 b o xs.length c xs x w (Nat.le_refl _) (by omega) (rd_cells h) (by rw [List.take_length]; exact hs.imp fun h => by omega)
  change Calls Try.prog 122 _ _ _ at hcall
  rw [List.take_length] at hcall
  refine hcall.mono ?_
  rintro e w' ⟨rfl, q, rfl⟩
  exact ⟨rfl, below_drewN (Below.refl _ _) _⟩
theorem lib_searchB {w : World} {v : Value} {xs : List Int} (h : rdI w v xs) (hne : xs ≠ []) (hm6 : xs.length ≤ 1048576) (hs : xs.Pairwise (· < ·)) (x : Int) {c : Bool} (hc : c = xs.contains x) :
    Calls Try.prog 122 #[v, .int .i64 x] w fun e w' => e = .returned (.tuple #[.int .i64 (xs.countP (· < x) : Nat), .bool c]) ∧ Below w.heap.size w w' := by
  subst hc; exact lib_search h hne hm6 hs x
theorem lib_has {w : World} {v : Value} {xs : List Int} (h : rdI w v xs) (x : Int) :
    Calls Try.prog 125 #[v, .int .i64 x] w fun e w' => e = .returned (.bool (xs.contains x)) ∧ w = w' := by
  obtain ⟨hm, ⟨rfl, a, c, rfl⟩ | ⟨_, b, o, c, rfl⟩⟩ := rd_shape h
  · have hcall := AnyG.slices_Contains_int_empty lay122 a c x w
    change Calls Try.prog 125 _ _ _ at hcall
    refine hcall.mono ?_
    rintro e w' ⟨rfl, rfl⟩
    exact ⟨rfl, rfl⟩
  · unfold maxLen at hm
    have hcall := AnyG.slices_Contains_int lay122 b o xs.length c xs x w (Nat.le_refl _) (by omega) (rd_cells h)
    change Calls Try.prog 125 _ _ _ at hcall
    rw [List.take_length] at hcall
    refine hcall.mono ?_
    rintro e w' ⟨rfl, rfl⟩
    exact ⟨rfl, rfl⟩

set_option maxRecDepth 20000 in
set_option maxHeartbeats 4000000 in
theorem i_has (n : Int) (r v : Value) (rs xs : List Int) (w : World) (h : rdI w r rs) (hne : rs ≠ []) (hm6 : rs.length ≤ 1048576) (hs : rs.Pairwise (· < ·)) (h2 : ownR 0 w v xs) (hl : xs.length ≤ 6) :
    Calls Try.prog 63 #[(.agg #[.int .i64 n, r]), v] w fun e w' => e = .returned (.bool (rs.contains (rankF xs))) ∧ Below w.heap.size w w' := by
  have hr := h.alloc (Obj.cells #[.int .i64 n, r] 26)
  have ho := h2.alloc (Obj.cells #[.int .i64 n, r] 26)
  obtain ⟨B, hB⟩ : ∃ B, B = rs.contains (rankF xs) := ⟨_, rfl⟩
  rw [← hB]
  have HB := hid hB
  clear hB
  go_enter Try.func63, Try.ntmps63
  go_wp2_with fail
  refine wp_region_calm (by kernel_rfl) (by kernel_rfl) ?_
  go_big_quiet_step (fail)
  repeat (go_big_quiet_step (first | (go_at_call 91; exact calmp (i_rank 0 _ xs _ (ho.aft _) hl)) | (go_at_call 122; exact calm (lib_searchB (hr.aft _) hne hm6 hs _ HB.out))))
  refine wpQuiet_nil ?_; intro uq zq; try simp at zq
  go_wp2_with fail
  go_ret
  exact ⟨rfl, (by refine Ext.bel ?_; repeat (with_reducible first | exact Ext.refl _ | apply Ext.alloc | apply Ext.aft | apply Ext.drew | apply Ext.drewN | apply Ext.setCell | exact Nat.le_add_right _ _ | exact Nat.le_refl _ | (simp; done) | omega))⟩
set_option maxHeartbeats 2000000 in
theorem s_has (r : Value) (xs : List Int) (x : Int) (w : World) (h : rdI w r xs) :
    Calls Try.prog 102 #[r, .int .i64 x] w fun e w' => e = .returned (.bool (xs.contains x)) ∧ w = w' := by
  obtain ⟨a, cap, rfl, hm, hc⟩ := h
  have Hc := hid hc
  unfold maxLen at hm
  obtain ⟨P, hP⟩ : ∃ P, P = xs.contains x := ⟨_, rfl⟩
  rw [← hP]
  have HP := hid hP
  clear hc hP
  go_enter Try.func102, Try.ntmps102
  go_wp2_with fail
  go_loop [5] (fun i => ∃ k : Nat, k ≤ xs.length ∧ i = .int .i64 k ∧ Hid ((xs.take k).contains x = false)) (fun i => xs.length - (intOf i).toNat)
  case atStart => exact ⟨0, by omega, rfl, hid (by simp)⟩
  case round =>
    obtain ⟨k, hk, rfl, HA⟩ := hrel
    by_cases hlt : k < xs.length
    · obtain ⟨b, o, rfl, hcell⟩ := Hc.out (by intro e; subst e; simp at hlt)
      have h1 := hcell k hlt
      obtain ⟨y, hy⟩ : ∃ y, y = xs[k] := ⟨_, rfl⟩
      rw [← hy] at h1
      have HY := hid hy
      clear hy hcell
      by_cases hq : y = x
      · have e : Hid (P = true) := hid (by rw [HP.out]; simp only [List.contains_eq_mem, decide_eq_true_eq]; rw [← hq, HY.out]; exact List.getElem_mem hlt)
        have hqb : (y == x) = true := by simpa using hq
        have HQ := hid hq
        clear hq
        go_wp2_with fail
        go_ret
        exact ⟨ret_b (by rw [e.out]), rfl⟩
      · have hqb : (y == x) = false := by simpa using hq
        have HQ := hid hq
        clear hq
        go_wp2_with fail
        go_round
        case rel => exact ⟨k + 1, by omega, by go_num, hid (by
          have h2 := HA.out
          rw [take_snocI _ _ hlt]
          simp only [List.contains_eq_mem, decide_eq_false_iff_not, List.mem_append, List.mem_singleton] at h2 ⊢
          rintro (h3 | h3)
          · exact h2 h3
          · exact HQ.out (by rw [HY.out, h3]))⟩
        case measure => simp only [intOf]; omega
    · obtain rfl : k = xs.length := by omega
      have e : Hid (P = false) := hid (by have := HA.out; rw [List.take_length] at this; rw [HP.out]; exact this)
      go_wp2_with fail
      go_ret
      exact ⟨ret_b (by rw [e.out]), rfl⟩
end Go.Proofs.Ytbkbcbanfnhjpaa
