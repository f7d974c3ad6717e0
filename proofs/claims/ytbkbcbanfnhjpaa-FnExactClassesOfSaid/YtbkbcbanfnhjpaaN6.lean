/- Products, the list 0, 1, ..: both texts. -/
import Derived.Test.YtbkbcbanfnhjpaaN5
namespace Go.Proofs.Ytbkbcbanfnhjpaa
open Go Go.RowKit

theorem prodF_snoc {a b : List Int} {k : Nat} (h : k < b.length) : prodF a (b.take (k + 1)) = prodF a (b.take k) ++ [a.getD (b[k]).toNat 0] := by
  rw [take_snocI _ _ h]; unfold prodF; rw [List.map_append]; rfl
theorem getD_cell {w : World} {b o : Nat} {xs : List Int} (hc : ∀ i, (h : i < xs.length) → w.cell? ⟨b, o + i, none⟩ = some (.int .i64 xs[i])) {i : Int} (h0 : 0 ≤ i) (h1 : i < xs.length) : w.cell? ⟨b, o + i.toNat, none⟩ = some (.int .i64 (xs.getD i.toNat 0)) := by
  rw [hc i.toNat (by omega)]
  simp [List.getD, List.getElem?_eq_getElem (show i.toNat < xs.length by omega)]
set_option maxRecDepth 20000 in
set_option maxHeartbeats 4000000 in
theorem i_prod (r1 r2 : Value) (xs ys : List Int) (w : World) (h1 : rdI w r1 xs) (h2 : rdI w r2 ys) (hr : ∀ y ∈ ys, 0 ≤ y ∧ y < xs.length) (hl : ys.length ≤ 6) :
    Calls Try.prog 104 #[r1, r2] w fun e w' => ∃ v, e = .returned v ∧ ownR w.heap.size w' v (prodF xs ys) ∧ Below w.heap.size w w' := by
  obtain ⟨i0, hi, hz0, hz1, hz2⟩ := info_parts infoI
  obtain ⟨a1, c1, rfl, hm1, hc1⟩ := h1
  obtain ⟨a2, c2, rfl, hm2, hc2⟩ := h2
  have Hc1 := hid hc1
  have Hc2 := hid hc2
  have Hr := hid hr
  clear hc1 hc2 hm1 hm2 hr
  go_enter Try.func104, Try.ntmps104
  go_wp2_with fail
  go_loopw [5, 10] (fun r i wr => ∃ (k : Nat) (uu : World), wr = aft w uu ∧ k ≤ ys.length ∧ i = .int .i64 k ∧ Hid (ownR w.heap.size wr r (prodF xs (ys.take k)))) (fun _ i _ => ys.length - (intOf i).toNat)
  case atStart => first | exact ⟨0, w, (aft_of (Below.refl _ _)).symm, by omega, rfl, hid (ownR.nil _ _)⟩ | exact ⟨0, _, (aft_of ((Below.refl _ w).alloc (Nat.le_refl _) _)).symm, by omega, rfl, hid (own_made w)⟩
  case round =>
    obtain ⟨k, uu, rfl, hk, rfl, HO⟩ := hrel
    have zs := size_aft w uu
    by_cases hlt : k < ys.length
    · obtain ⟨b2, o2, rfl, hcell2⟩ := Hc2.out (by intro e; subst e; simp at hlt)
      have hy := hcell2 k hlt
      have hyb := World.block_lt_of_cell? w _ hy
      have hrg := Hr.out _ (List.getElem_mem hlt)
      have hpos : 0 < xs.length := by omega
      obtain ⟨b1, o1, rfl, hcell1⟩ := Hc1.out (by intro e; subst e; simp at hpos)
      have hx := getD_cell hcell1 hrg.1 hrg.2
      have hxb := World.block_lt_of_cell? w _ hx
      have hsn := prodF_snoc (a := xs) hlt
      have hown := HO.out
      have hpl : (prodF xs (ys.take k)).length = k := by rw [prodF_len, List.length_take]; omega
      obtain ⟨y, hye⟩ : ∃ y, y = ys[k] := ⟨_, rfl⟩
      rw [← hye] at hy hrg hx hsn
      obtain ⟨x, hxe⟩ : ∃ x, x = xs.getD y.toNat 0 := ⟨_, rfl⟩
      rw [← hxe] at hx hsn
      have HS := hid hsn
      have hltz : (k : Int) < (ys.length : Int) := by omega
      clear hye hxe hcell1 hcell2 hsn HO
      go_wp2_with (at_builtin; refine wpList_append_own _ rfl _ _ 24 rfl (w.heap.size) 2 i0 (.int .i64 0) 1 8 Try.underlying24 hi hz0 hz1 hz2 rfl (by decide) _ _ _ rfl (hown.alloc _) ⟨_, 0, none⟩ 1 1 [.int .i64 (x)] rfl rfl ?c1 ?c2 ?c3 ?c4 ?c5 ?_)
      try case c1 => exact cell_one_new _ _ _
      case c2 => first | rfl | (intro u hu; simp at hu; subst hu; rfl)
      case c3 => first | (unfold maxLen; omega) | (rw [hpl]; unfold maxLen; omega)
      case c4 => first | omega | (rw [hpl]; omega)
      case c5 => first | omega | (simp; omega)
      intro v' w1 hown' hgrow _
      obtain ⟨u', rfl⟩ := grown_aft (W := w) (by repeat (with_reducible first | exact Ext.refl _ | apply Ext.alloc | apply Ext.aft | apply Ext.drew | apply Ext.drewN | apply Ext.setCell | exact Nat.le_add_right _ _ | exact Nat.le_refl _ | (simp; done) | omega)) hgrow (own_row_ge hown)
      have HO := hid hown'
      clear hown' hgrow hown
      go_wp2_with fail
      go_roundw
      case rel => exact ⟨k + 1, u', rfl, by omega, by go_num, hid (by rw [HS.out]; refine ownR.snoc ?_; first | exact HO.out | (rw [hpl]; exact HO.out))⟩
      case measure => simp only [intOf]; omega
    · obtain rfl : k = ys.length := by omega
      rw [List.take_length] at HO
      have hltz : ¬ (ys.length : Int) < (ys.length : Int) := by omega
      go_wp2_with fail
      go_ret
      exact ⟨_, rfl, HO.out, (by refine Ext.bel ?_; repeat (with_reducible first | exact Ext.refl _ | apply Ext.alloc | apply Ext.aft | apply Ext.drew | apply Ext.drewN | apply Ext.setCell | exact Nat.le_add_right _ _ | exact Nat.le_refl _ | (simp; done) | omega))⟩
set_option maxRecDepth 20000 in
set_option maxHeartbeats 4000000 in
theorem s_prod (r1 r2 : Value) (xs ys : List Int) (w : World) (h1 : rdI w r1 xs) (h2 : rdI w r2 ys) (hr : ∀ y ∈ ys, 0 ≤ y ∧ y < xs.length) (hl : ys.length ≤ 6) :
    Calls Try.prog 86 #[r1, r2] w fun e w' => ∃ v, e = .returned v ∧ ownR w.heap.size w' v (prodF xs ys) ∧ Below w.heap.size w w' := by
  obtain ⟨i0, hi, hz0, hz1, hz2⟩ := info_parts infoI
  obtain ⟨a1, c1, rfl, hm1, hc1⟩ := h1
  obtain ⟨a2, c2, rfl, hm2, hc2⟩ := h2
  have Hc1 := hid hc1
  have Hc2 := hid hc2
  have Hr := hid hr
  clear hc1 hc2 hm1 hm2 hr
  go_enter Try.func86, Try.ntmps86
  go_wp2_with fail
  go_loopw [5, 6] (fun r i wr => ∃ (k : Nat) (uu : World), wr = aft w uu ∧ k ≤ ys.length ∧ i = .int .i64 k ∧ Hid (ownR w.heap.size wr r (prodF xs (ys.take k)))) (fun _ i _ => ys.length - (intOf i).toNat)
  case atStart => first | exact ⟨0, w, (aft_of (Below.refl _ _)).symm, by omega, rfl, hid (ownR.nil _ _)⟩ | exact ⟨0, _, (aft_of ((Below.refl _ w).alloc (Nat.le_refl _) _)).symm, by omega, rfl, hid (own_made w)⟩
  case round =>
    obtain ⟨k, uu, rfl, hk, rfl, HO⟩ := hrel
    have zs := size_aft w uu
    by_cases hlt : k < ys.length
    · obtain ⟨b2, o2, rfl, hcell2⟩ := Hc2.out (by intro e; subst e; simp at hlt)
      have hy := hcell2 k hlt
      have hyb := World.block_lt_of_cell? w _ hy
      have hrg := Hr.out _ (List.getElem_mem hlt)
      have hpos : 0 < xs.length := by omega
      obtain ⟨b1, o1, rfl, hcell1⟩ := Hc1.out (by intro e; subst e; simp at hpos)
      have hx := getD_cell hcell1 hrg.1 hrg.2
      have hxb := World.block_lt_of_cell? w _ hx
      have hsn := prodF_snoc (a := xs) hlt
      have hown := HO.out
      have hpl : (prodF xs (ys.take k)).length = k := by rw [prodF_len, List.length_take]; omega
      obtain ⟨y, hye⟩ : ∃ y, y = ys[k] := ⟨_, rfl⟩
      rw [← hye] at hy hrg hx hsn
      obtain ⟨x, hxe⟩ : ∃ x, x = xs.getD y.toNat 0 := ⟨_, rfl⟩
      rw [← hxe] at hx hsn
      have HS := hid hsn
      have hltz : (k : Int) < (ys.length : Int) := by omega
      clear hye hxe hcell1 hcell2 hsn HO
      go_wp2_with (at_builtin; refine wpList_append_own _ rfl _ _ 24 rfl (w.heap.size) 2 i0 (.int .i64 0) 1 8 Try.underlying24 hi hz0 hz1 hz2 rfl (by decide) _ _ _ rfl (hown.alloc _) ⟨_, 0, none⟩ 1 1 [.int .i64 (x)] rfl rfl ?c1 ?c2 ?c3 ?c4 ?c5 ?_)
      try case c1 => exact cell_one_new _ _ _
      case c2 => first | rfl | (intro u hu; simp at hu; subst hu; rfl)
      case c3 => first | (unfold maxLen; omega) | (rw [hpl]; unfold maxLen; omega)
      case c4 => first | omega | (rw [hpl]; omega)
      case c5 => first | omega | (simp; omega)
      intro v' w1 hown' hgrow _
      obtain ⟨u', rfl⟩ := grown_aft (W := w) (by repeat (with_reducible first | exact Ext.refl _ | apply Ext.alloc | apply Ext.aft | apply Ext.drew | apply Ext.drewN | apply Ext.setCell | exact Nat.le_add_right _ _ | exact Nat.le_refl _ | (simp; done) | omega)) hgrow (own_row_ge hown)
      have HO := hid hown'
      clear hown' hgrow hown
      go_wp2_with fail
      go_roundw
      case rel => exact ⟨k + 1, u', rfl, by omega, by go_num, hid (by rw [HS.out]; refine ownR.snoc ?_; first | exact HO.out | (rw [hpl]; exact HO.out))⟩
      case measure => simp only [intOf]; omega
    · obtain rfl : k = ys.length := by omega
      rw [List.take_length] at HO
      have hltz : ¬ (ys.length : Int) < (ys.length : Int) := by omega
      go_wp2_with fail
      go_ret
      exact ⟨_, rfl, HO.out, (by refine Ext.bel ?_; repeat (with_reducible first | exact Ext.refl _ | apply Ext.alloc | apply Ext.aft | apply Ext.drew | apply Ext.drewN | apply Ext.setCell | exact Nat.le_add_right _ _ | exact Nat.le_refl _ | (simp; done) | omega))⟩
set_option maxRecDepth 20000 in
set_option maxHeartbeats 4000000 in
theorem i_id (n : Nat) (w : World) (hn : n ≤ 6) :
    Calls Try.prog 127 #[.int .i64 n] w fun e w' => ∃ v, e = .returned v ∧ ownR w.heap.size w' v (idP n) ∧ Below w.heap.size w w' := by
  obtain ⟨i0, hi, hz0, hz1, hz2⟩ := info_parts infoI
  go_enter Try.func127, Try.ntmps127
  go_wp2_with fail
  go_loopw [3, 6] (fun r i wr => ∃ (k : Nat) (uu : World), wr = aft w uu ∧ k ≤ n ∧ i = .int .i64 k ∧ Hid (ownR w.heap.size wr r (idP k))) (fun _ i _ => n - (intOf i).toNat)
  case atStart => first | exact ⟨0, w, (aft_of (Below.refl _ _)).symm, by omega, rfl, hid (ownR.nil _ _)⟩ | exact ⟨0, _, (aft_of ((Below.refl _ w).alloc (Nat.le_refl _) _)).symm, by omega, rfl, hid (own_made w)⟩
  case round =>
    obtain ⟨k, uu, rfl, hk, rfl, HO⟩ := hrel
    have zs := size_aft w uu
    by_cases hlt : k < n
    · have hown := HO.out
      have hpl := idP_len k
      have hltz : (k : Int) < (n : Int) := by omega
      clear HO
      go_wp2_with (at_builtin; refine wpList_append_own _ rfl _ _ 24 rfl (w.heap.size) 2 i0 (.int .i64 0) 1 8 Try.underlying24 hi hz0 hz1 hz2 rfl (by decide) _ _ _ rfl (hown.alloc _) ⟨_, 0, none⟩ 1 1 [.int .i64 ((k : Int))] rfl rfl ?c1 ?c2 ?c3 ?c4 ?c5 ?_)
      try case c1 => exact cell_one_new _ _ _
      case c2 => first | rfl | (intro u hu; simp at hu; subst hu; rfl)
      case c3 => first | (unfold maxLen; omega) | (rw [hpl]; unfold maxLen; omega)
      case c4 => first | omega | (rw [hpl]; omega)
      case c5 => first | omega | (simp; omega)
      intro v' w1 hown' hgrow _
      obtain ⟨u', rfl⟩ := grown_aft (W := w) (by repeat (with_reducible first | exact Ext.refl _ | apply Ext.alloc | apply Ext.aft | apply Ext.drew | apply Ext.drewN | apply Ext.setCell | exact Nat.le_add_right _ _ | exact Nat.le_refl _ | (simp; done) | omega)) hgrow (own_row_ge hown)
      have HO := hid hown'
      clear hown' hgrow hown
      go_wp2_with fail
      go_roundw
      case rel => exact ⟨k + 1, u', rfl, by omega, by go_num, hid (by rw [idP_succ]; refine ownR.snoc ?_; first | exact HO.out | (rw [hpl]; exact HO.out))⟩
      case measure => simp only [intOf]; omega
    · obtain rfl : k = n := by omega
      have hltz : ¬ (k : Int) < (k : Int) := by omega
      go_wp2_with fail
      go_ret
      exact ⟨_, rfl, HO.out, (by refine Ext.bel ?_; repeat (with_reducible first | exact Ext.refl _ | apply Ext.alloc | apply Ext.aft | apply Ext.drew | apply Ext.drewN | apply Ext.setCell | exact Nat.le_add_right _ _ | exact Nat.le_refl _ | (simp; done) | omega))⟩
set_option maxRecDepth 20000 in
set_option maxHeartbeats 4000000 in
theorem s_id (n : Nat) (w : World) (hn : n ≤ 6) :
    Calls Try.prog 98 #[.int .i64 n] w fun e w' => ∃ v, e = .returned v ∧ ownR w.heap.size w' v (idP n) ∧ Below w.heap.size w w' := by
  obtain ⟨i0, hi, hz0, hz1, hz2⟩ := info_parts infoI
  go_enter Try.func98, Try.ntmps98
  go_wp2_with fail
  go_loopw [3, 4] (fun r i wr => ∃ (k : Nat) (uu : World), wr = aft w uu ∧ k ≤ n ∧ i = .int .i64 k ∧ Hid (ownR w.heap.size wr r (idP k))) (fun _ i _ => n - (intOf i).toNat)
  case atStart => first | exact ⟨0, w, (aft_of (Below.refl _ _)).symm, by omega, rfl, hid (ownR.nil _ _)⟩ | exact ⟨0, _, (aft_of ((Below.refl _ w).alloc (Nat.le_refl _) _)).symm, by omega, rfl, hid (own_made w)⟩
  case round =>
    obtain ⟨k, uu, rfl, hk, rfl, HO⟩ := hrel
    have zs := size_aft w uu
    by_cases hlt : k < n
    · have hown := HO.out
      have hpl := idP_len k
      have hltz : (k : Int) < (n : Int) := by omega
      clear HO
      go_wp2_with (at_builtin; refine wpList_append_own _ rfl _ _ 24 rfl (w.heap.size) 2 i0 (.int .i64 0) 1 8 Try.underlying24 hi hz0 hz1 hz2 rfl (by decide) _ _ _ rfl (hown.alloc _) ⟨_, 0, none⟩ 1 1 [.int .i64 ((k : Int))] rfl rfl ?c1 ?c2 ?c3 ?c4 ?c5 ?_)
      try case c1 => exact cell_one_new _ _ _
      case c2 => first | rfl | (intro u hu; simp at hu; subst hu; rfl)
      case c3 => first | (unfold maxLen; omega) | (rw [hpl]; unfold maxLen; omega)
      case c4 => first | omega | (rw [hpl]; omega)
      case c5 => first | omega | (simp; omega)
      intro v' w1 hown' hgrow _
      obtain ⟨u', rfl⟩ := grown_aft (W := w) (by repeat (with_reducible first | exact Ext.refl _ | apply Ext.alloc | apply Ext.aft | apply Ext.drew | apply Ext.drewN | apply Ext.setCell | exact Nat.le_add_right _ _ | exact Nat.le_refl _ | (simp; done) | omega)) hgrow (own_row_ge hown)
      have HO := hid hown'
      clear hown' hgrow hown
      go_wp2_with fail
      go_roundw
      case rel => exact ⟨k + 1, u', rfl, by omega, by go_num, hid (by rw [idP_succ]; refine ownR.snoc ?_; first | exact HO.out | (rw [hpl]; exact HO.out))⟩
      case measure => simp only [intOf]; omega
    · obtain rfl : k = n := by omega
      have hltz : ¬ (k : Int) < (k : Int) := by omega
      go_wp2_with fail
      go_ret
      exact ⟨_, rfl, HO.out, (by refine Ext.bel ?_; repeat (with_reducible first | exact Ext.refl _ | apply Ext.alloc | apply Ext.aft | apply Ext.drew | apply Ext.drewN | apply Ext.setCell | exact Nat.le_add_right _ _ | exact Nat.le_refl _ | (simp; done) | omega))⟩
end Go.Proofs.Ytbkbcbanfnhjpaa
