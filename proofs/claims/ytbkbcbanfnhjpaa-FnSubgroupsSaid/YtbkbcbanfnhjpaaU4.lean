/- The center: the statement's text. -/
import Derived.Test.YtbkbcbanfnhjpaaU3
namespace Go.Proofs.Ytbkbcbanfnhjpaa
open Go Go.RowKit

theorem take_ext {α : Type} {xs ys : List α} (hl : xs.length = ys.length) {k : Nat} (h1 : k < xs.length) (h : xs.take k = ys.take k) (h2 : xs[k] = ys[k]'(by omega)) : xs.take (k + 1) = ys.take (k + 1) := by
  rw [List.take_succ_eq_append_getElem h1, List.take_succ_eq_append_getElem (by omega : k < ys.length), h, h2]
theorem beq_no {xs ys : List Int} (hl : xs.length = ys.length) {k : Nat} (h1 : k < xs.length) (h2 : xs[k] ≠ ys[k]'(by omega)) : (xs == ys) = false := by
  rw [beq_eq_false_iff_ne]; rintro rfl; exact h2 rfl
set_option maxRecDepth 20000 in
set_option maxHeartbeats 4000000 in
theorem s_same (r1 r2 : Value) (xs ys : List Int) (w : World) (h1 : rdI w r1 xs) (h2 : rdI w r2 ys) (hl : xs.length = ys.length) (B : Bool) (hB : (xs == ys) = B) :
    Calls Try.prog 121 #[r1, r2] w fun e w' => e = .returned (.bool B) ∧ Below w.heap.size w w' := by
  obtain ⟨a, cap, rfl, hm, hc⟩ := h1
  obtain ⟨a', cap', rfl, hm', hc'⟩ := h2
  rw [← hl]
  have Hc := hid hc
  have Hc' := hid hc'
  have HB := hid hB
  have HL := hid hl
  unfold maxLen at hm
  clear hc hc' hm' hB hl
  go_enter Try.func121, Try.ntmps121
  go_wp2_with fail
  go_loopw [5] (fun i wr => ∃ (k : Nat) (uu : World), wr = aft w uu ∧ k ≤ xs.length ∧ i = .int .i64 k ∧ Hid (xs.take k = ys.take k)) (fun i _ => xs.length - (intOf i).toNat)
  case atStart => exact ⟨0, w, (aft_of (Below.refl _ _)).symm, by omega, rfl, hid (by simp)⟩
  case round =>
    obtain ⟨k, uu, rfl, hk, rfl, HT⟩ := hrel
    by_cases hlt : k < xs.length
    · obtain ⟨b, o, rfl, hcell⟩ := Hc.out (by intro e; subst e; simp at hlt)
      obtain ⟨b', o', rfl, hcell'⟩ := Hc'.out (by intro e; have := HL.out; rw [e, List.length_nil] at this; omega)
      have h1 := hcell k hlt
      have h2 := hcell' k (by have := HL.out; omega)
      have h3 := World.block_lt_of_cell? w _ h1
      have h4 := World.block_lt_of_cell? w _ h2
      have hno := hid (fun h => beq_no HL.out hlt h)
      have hyes := hid (fun h => take_ext HL.out hlt HT.out h)
      obtain ⟨x, hx⟩ : ∃ x, x = xs[k] := ⟨_, rfl⟩
      obtain ⟨y, hy⟩ : ∃ y, y = ys[k]'(by have := HL.out; omega) := ⟨_, rfl⟩
      rw [← hx] at h1 hno hyes
      rw [← hy] at h2 hno hyes
      have hz : ((k : Int) : Int) < (xs.length : Int) := by omega
      have hz0 : (0 : Int) ≤ (k : Int) := by omega
      have zs := size_aft w uu
      clear hx hy hcell hcell'
      by_cases hxy : x = y
      · subst hxy
        have HY := hid (hyes.out rfl)
        clear hno hyes
        go_wp2_with fail
        refine wp_region_calm (by kernel_rfl) (by kernel_rfl) ?_
        repeat (go_big_quiet_step (fail))
        refine wpQuiet_nil ?_; intro uq zq; try simp at zq
        go_wp2_with fail
        go_roundw
        case rel => exact ⟨k + 1, _, (aft_of ((below_aft w uu).trans ((below_aft _ _).mono (size_aft w uu)))).symm, by omega, by go_num, HY⟩
        case measure => simp [intOf]; omega
      · have hqb : (x == y) = false := by simpa using hxy
        have HN := hid (hno.out hxy)
        have e : Hid (B = false) := hid (by rw [← HB.out]; exact HN.out)
        clear hno hyes hxy
        go_wp2_with fail
        refine wp_region_calm (by kernel_rfl) (by kernel_rfl) ?_
        repeat (go_big_quiet_step (fail))
        refine wpQuiet_nil ?_; intro uq zq; try simp at zq
        go_wp2_with fail
        go_ret
        exact ⟨ret_b (by rw [e.out]), (by refine Ext.bel ?_; repeat (with_reducible first | exact Ext.refl _ | apply Ext.alloc | apply Ext.aft | apply Ext.drew | apply Ext.drewN | apply Ext.setCell | exact Nat.le_add_right _ _ | exact Nat.le_refl _ | (simp; done) | omega))⟩
    · obtain rfl : k = xs.length := by omega
      have e : Hid (B = true) := hid (by rw [← HB.out, beq_iff_eq]; have := HT.out; rw [List.take_length, HL.out, List.take_length] at this; exact this)
      have hz : ¬ (xs.length : Int) < (xs.length : Int) := by omega
      go_wp2_with fail
      go_ret
      exact ⟨ret_b (by rw [e.out]), (by refine Ext.bel ?_; repeat (with_reducible first | exact Ext.refl _ | apply Ext.alloc | apply Ext.aft | apply Ext.drew | apply Ext.drewN | apply Ext.setCell | exact Nat.le_add_right _ _ | exact Nat.le_refl _ | (simp; done) | omega))⟩
theorem cent_all {m : Nat} {rs : List Int} {X : List Int} : centB m rs X = rs.all fun y => comB X (withF m y) := by
  unfold centB memF; rw [List.all_map]; rfl
theorem take_all_f {α : Type} {xs : List α} {p : α → Bool} {k : Nat} (h : (xs.take k).all p = false) : xs.all p = false := by
  rw [Bool.eq_false_iff]; intro h2
  rw [Bool.eq_false_iff] at h; apply h
  rw [List.all_eq_true] at h2 ⊢
  exact fun x hx => h2 x (List.mem_of_mem_take hx)
theorem all_snoc {α : Type} {xs : List α} {p : α → Bool} {k : Nat} (h : k < xs.length) (h1 : (xs.take k).all p = true) {B : Bool} (h2 : p xs[k] = B) : (xs.take (k + 1)).all p = B := by
  rw [List.take_succ_eq_append_getElem h, List.all_append, h1, ← h2]; simp
set_option maxRecDepth 20000 in
set_option maxHeartbeats 8000000 in
theorem s_center (m : Nat) (r : Value) (rs : List Int) (w : World) (zs : List Int) (h : rdI w r rs) (hm1 : 1 ≤ m) (hm6 : m ≤ 6) (hr : ∀ x ∈ rs, 0 ≤ x ∧ x < (facN m : Int)) (hl : rs.length ≤ 720) (hz : filtF m rs (centB m rs) = zs) :
    Calls Try.prog 60 #[(.agg #[.int .i64 (m : Int), r])] w fun e w' => ∃ v, e = .returned v ∧ ownR w.heap.size w' v zs ∧ Below w.heap.size w w' := by
  obtain ⟨i0, hi, hz0, hz1, hz2⟩ := info_parts infoI
  have hR := h.alloc (Obj.cells #[.int .i64 (m : Int), r] 26)
  have Hr := hid hr
  have HOS := hid hz
  obtain ⟨a0, cap0, hsh0, _, _⟩ := id h
  subst hsh0
  clear hr hz h
  go_enter Try.func60, Try.ntmps60
  go_wp2_with fail
  refine viaX (g := id) (s_elements m _ rs _ hR hm6 Hr.out (by omega)) ?_
  intro v2 u2 z2 own2
  try simp at z2
  obtain ⟨W, hW⟩ : ∃ W, W = aft (w.alloc (Obj.cells #[.int .i64 (m : Int), .slice a0 rs.length cap0] 26)) u2 := ⟨_, rfl⟩
  have HE : Hid (Ext w.heap.size w W) := hid (by rw [hW]; exact (by repeat (with_reducible first | exact Ext.refl _ | apply Ext.alloc | apply Ext.aft | apply Ext.drew | apply Ext.drewN | apply Ext.setCell | exact Nat.le_add_right _ _ | exact Nat.le_refl _ | (simp; done) | omega)))
  have c0 : W.cell? ⟨w.heap.size, 0, none⟩ = some (.int .i64 (m : Int)) := by rw [hW]; simp [go_sem]
  have c1 : W.cell? ⟨w.heap.size, 1, none⟩ = some (.slice a0 rs.length cap0) := by rw [hW]; simp [go_sem]
  have hb0 := World.block_lt_of_cell? W _ c0
  have HRW := hid (show rdI W (.slice a0 rs.length cap0) rs by rw [hW]; exact hR.aft _)
  have own2' := own2.rd
  rw [← hW] at own2' z2 ⊢
  obtain ⟨am, cm, hv2, hmm, hcm⟩ := own2'
  rw [memF_len] at hv2 hmm
  subst hv2
  have Hcm := hid hcm
  simp only at hb0
  clear hW own2 hcm hmm hR
  go_wp2_with fail
  go_loopw [4, 5] (fun o i wr => ∃ k : Nat, k ≤ rs.length ∧ i = .int .i64 k ∧ Hid (ownR W.heap.size wr o (filtF m (rs.take k) (centB m rs))) ∧ Ext W.heap.size W wr) (fun _ i _ => rs.length - (intOf i).toNat)
  case atStart => exact ⟨0, by omega, rfl, hid (own_made W), (Ext.refl _).alloc _⟩
  case round =>
    obtain ⟨i, hile, rfl, HO, hE1⟩ := hrel
    have HE1 := hid hE1
    obtain ⟨wo, rfl⟩ : ∃ wo : World, wo = wr := ⟨_, rfl⟩
    have d0 := hE1.1.cell (p := ⟨w.heap.size, 0, none⟩) hb0
    have d1 := hE1.1.cell (p := ⟨w.heap.size, 1, none⟩) hb0
    rw [c0] at d0
    rw [c1] at d1
    have hbw := hE1.2
    by_cases hlt : i < rs.length
    · have hltz : (i : Int) < (rs.length : Int) := by omega
      have hne : memF m rs ≠ [] := by intro e; have := memF_len m rs; rw [e] at this; simp at this; omega
      obtain ⟨bm, om, rfl, hcel⟩ := Hcm.out hne
      obtain ⟨e1, hc1, ho1⟩ := hcel i (by rw [memF_len]; exact hlt)
      have em1 : (memF m rs)[i]'(by rw [memF_len]; exact hlt) = withF m rs[i] := by simp [memF]
      rw [em1] at ho1
      have hw1 := with_ok hm6 (Hr.out _ (List.getElem_mem hlt)).1 (Hr.out _ (List.getElem_mem hlt)).2
      have hsn := filt_snoc (m := m) (p := centB m rs) hlt
      have hal := hw1.len
      have hrg := hw1.rng
      obtain ⟨A, hA⟩ : ∃ A, A = withF m rs[i] := ⟨_, rfl⟩
      rw [← hA] at ho1 hal hrg hsn
      have hkc1 := hE1.1.cell (p := ⟨bm, om + i, none⟩) (World.block_lt_of_cell? W _ hc1)
      rw [hc1] at hkc1
      have HO1 := hid (ho1.rd.below hE1.1)
      have HAL := hid hal
      have HRG := hid hrg
      have HSN := hid hsn
      have Hcel := hid hcel
      clear hsn em1 hw1 hal hrg ho1 hc1 hcel hE1 hne
      go_wp2_with fail
      go_loopw [6, 7] (fun a s wr => ∃ (k : Nat) (T : Bool), k ≤ rs.length ∧ s = .int .i64 k ∧ a = .bool T ∧ Ext wo.heap.size wo wr ∧ Hid ((rs.take k).all (fun y => comB A (withF m y)) = T)) (fun _ s _ => rs.length - (intOf s).toNat)
      case atStart => exact ⟨0, true, by omega, rfl, rfl, Ext.refl _, hid (by simp)⟩
      case round =>
        obtain ⟨k, T, hk, rfl, rfl, hE2, HA2⟩ := hrel
        have HE2 := hid hE2
        have d0' := hE2.1.cell (p := ⟨w.heap.size, 0, none⟩) (by simp only; omega)
        have d1' := hE2.1.cell (p := ⟨w.heap.size, 1, none⟩) (by simp only; omega)
        rw [d0] at d0'
        rw [d1] at d1'
        cases T
        · have HN := hid (show centB m rs A = false by rw [cent_all]; exact take_all_f HA2.out)
          have HS := hid (show filtF m (rs.take (i + 1)) (centB m rs) = filtF m (rs.take i) (centB m rs) by rw [HSN.out, HN.out]; simp)
          have HE3 : Hid (Ext W.heap.size W wr) := hid (HE1.out.below hE2.1)
          have HO3 := hid (HO.out.below hE2.1)
          by_cases hlt2 : k < rs.length
          · have hltz2 : (k : Int) < (rs.length : Int) := by omega
            clear hE2
            go_wp2_with fail
            go_roundw
            case rel => exact ⟨i + 1, by omega, by go_num, hid (by rw [HS.out]; exact HO3.out), HE3.out⟩
            case measure => simp only [intOf]; omega
          · have hltz2 : ¬ (k : Int) < (rs.length : Int) := by omega
            clear hE2
            go_wp2_with fail
            go_roundw
            case rel => exact ⟨i + 1, by omega, by go_num, hid (by rw [HS.out]; exact HO3.out), HE3.out⟩
            case measure => simp only [intOf]; omega
        · by_cases hlt2 : k < rs.length
          · have hltz2 : (k : Int) < (rs.length : Int) := by omega
            obtain ⟨e2, hc2, ho2⟩ := Hcel.out k (by rw [memF_len]; exact hlt2)
            have em2 : (memF m rs)[k]'(by rw [memF_len]; exact hlt2) = withF m rs[k] := by simp [memF]
            rw [em2] at ho2
            have hw2 := with_ok hm6 (Hr.out _ (List.getElem_mem hlt2)).1 (Hr.out _ (List.getElem_mem hlt2)).2
            have hbl := hw2.len
            have hbr := hw2.rng
            have hkc2 := (HE1.out.1.cell (p := ⟨bm, om + k, none⟩) (World.block_lt_of_cell? W _ hc2)).trans hc2
            obtain ⟨Q, hQ⟩ : ∃ Q, comB A (withF m rs[k]) = Q := ⟨_, rfl⟩
            have HSt := hid (all_snoc (p := fun y => comB A (withF m y)) hlt2 HA2.out hQ)
            obtain ⟨Y, hY⟩ : ∃ Y, Y = withF m rs[k] := ⟨_, rfl⟩
            rw [← hY] at ho2 hbl hbr hQ
            have HO2 := hid (ho2.rd.below HE1.out.1)
            obtain ⟨Z1, hZ1⟩ : ∃ Z, prodF A Y = Z := ⟨_, rfl⟩
            obtain ⟨Z2, hZ2⟩ : ∃ Z, prodF Y A = Z := ⟨_, rfl⟩
            have HQ : Hid ((Z1 == Z2) = Q) := hid (by rw [← hQ, ← hZ1, ← hZ2]; rfl)
            have HZL : Hid (Z1.length = Z2.length) := hid (by rw [← hZ1, ← hZ2, prodF_len, prodF_len, hbl, HAL.out])
            have HZ1 := hid hZ1
            have HZ2 := hid hZ2
            have HRA : Hid (∀ y ∈ A, 0 ≤ y ∧ y < (Y.length : Int)) := hid (by rw [hbl]; exact HRG.out)
            have HRX : Hid (∀ y ∈ Y, 0 ≤ y ∧ y < (A.length : Int)) := hid (by rw [HAL.out]; exact hbr)
            have HYL := hid (show Y.length ≤ 6 by omega)
            have HXL := hid (show A.length ≤ 6 by have := HAL.out; omega)
            have hb1 := World.block_lt_of_cell? wo _ hkc1
            have hb2 := World.block_lt_of_cell? wo _ hkc2
            clear em2 hw2 hbl hbr hQ hY ho2 hZ1 hZ2 hc2
            go_wp2_with fail
            go_region_held3 (fun w' => (∀ b o, b < wo.heap.size → w'.cell? ⟨b, o, none⟩ = wo.cell? ⟨b, o, none⟩) ∧ Hid (Ext wo.heap.size wo w')) ((refine sB ?_; repeat (with_reducible first | assumption | apply Ext.aft | apply Ext.alloc | apply Ext.drew | apply Ext.drewN))) (first | (go_at_call 86; with_reducible refine viaI (g := id) (s_prodE e1 e2 A Y Z1 _ (HO1.out.below (Ext.bel (by repeat (with_reducible first | exact hE2 | apply Ext.aft | apply Ext.alloc | apply Ext.drew | apply Ext.drewN)))) (HO2.out.below (Ext.bel (by repeat (with_reducible first | exact hE2 | apply Ext.aft | apply Ext.alloc | apply Ext.drew | apply Ext.drewN)))) HRX.out HYL.out HZ1.out) ?_; intro t1 u3 z1 own3; (try simp at z1); have rd3 := own3.rd) | (go_at_call 86; with_reducible refine viaI (g := id) (s_prodE e2 e1 Y A Z2 _ (HO2.out.below (Ext.bel (by repeat (with_reducible first | exact hE2 | apply Ext.aft | apply Ext.alloc | apply Ext.drew | apply Ext.drewN)))) (HO1.out.below (Ext.bel (by repeat (with_reducible first | exact hE2 | apply Ext.aft | apply Ext.alloc | apply Ext.drew | apply Ext.drewN)))) HRA.out HXL.out HZ2.out) ?_; intro t2 u4 z2 own4; (try simp at z2); have rd4 := own4.rd) | (go_at_call 121; refine via (s_same _ _ Z1 Z2 _ (by repeat (with_reducible first | assumption | apply rdI.aft | apply rdI.alloc | apply rdI.drew | apply rdI.drewN)) (by repeat (with_reducible first | assumption | apply rdI.aft | apply rdI.alloc | apply rdI.drew | apply rdI.drewN)) HZL.out Q HQ.out) ?_; intro u5 z5; (try simp at z5)))
            all_goals
              go_wp2_with fail
              go_roundw
              case rel => exact ⟨k + 1, Q, by omega, by go_num, rfl, (by repeat (with_reducible first | exact hE2 | apply Ext.aft | apply Ext.alloc | apply Ext.drew | apply Ext.drewN)), HSt⟩
              case measure => simp only [intOf]; omega
          · obtain rfl : k = rs.length := by omega
            rw [List.take_length] at HA2
            have hltz2 : ¬ (rs.length : Int) < (rs.length : Int) := by omega
            have HT := hid (show centB m rs A = true by rw [cent_all]; exact HA2.out)
            have HE3 : Hid (Ext W.heap.size W wr) := hid (HE1.out.below hE2.1)
            have hown := HO.out.below hE2.1
            obtain ⟨b0, o0, ha0⟩ : ∃ b o, a0 = some ⟨b, o, none⟩ := by
              obtain ⟨a', c', he, _, hc⟩ := HRW.out
              injection he with he1
              obtain ⟨b, o, e, _⟩ := hc (by intro e; subst e; simp at hlt)
              exact ⟨b, o, by rw [he1, e]⟩
            subst ha0
            have hrk := rd_cells HRW.out i hlt
            have hbk := World.block_lt_of_cell? W _ hrk
            have hrk2 := HE3.out.1.cell (p := ⟨b0, o0 + i, none⟩) hbk
            rw [hrk] at hrk2
            obtain ⟨y, hy⟩ : ∃ y, y = rs.getD i 0 := ⟨_, rfl⟩
            have hyk : rs[i] = y := by rw [hy, List.getD, List.getElem?_eq_getElem hlt]; rfl
            rw [← hy] at hrk2
            have hle := filt_le m (rs.take i) (centB m rs)
            have hle2 : (filtF m (rs.take i) (centB m rs)).length ≤ 720 := by rw [List.length_take] at hle; omega
            have HS := hid (show filtF m (rs.take (i + 1)) (centB m rs) = filtF m (rs.take i) (centB m rs) ++ [y] by rw [HSN.out, HT.out, ← hyk]; simp)
            clear hE2 hy hyk hrk hle
            go_wp2_with (at_builtin; refine wpList_append_own _ rfl _ _ 24 rfl (W.heap.size) 2 i0 (.int .i64 0) 1 8 Try.underlying24 hi hz0 hz1 hz2 rfl (by decide) _ _ _ rfl (hown.alloc _) ⟨_, 0, none⟩ 1 1 [.int .i64 (y)] rfl rfl ?c1 ?c2 ?c3 ?c4 ?c5 ?_)
            try case c1 => exact cell_one_new _ _ _
            case c2 => first | rfl | (intro u hu; simp at hu; subst hu; rfl)
            case c3 => unfold maxLen; omega
            case c4 => omega
            case c5 => first | (have := HE3.out.2; simp; omega) | omega
            intro v' w1 hown' hgrow _
            have HN : Hid (ownR W.heap.size w1 v' (filtF m (rs.take (i + 1)) (centB m rs))) := hid (by rw [HS.out]; exact ownR.snoc hown')
            have HE4 : Hid (Ext W.heap.size W w1) := hid (ext_grown (HE3.out.alloc _) hgrow (own_row_ge hown))
            clear hown' hgrow hown
            go_wp2_with fail
            go_roundw
            case rel => exact ⟨i + 1, by omega, by go_num, HN, HE4.out⟩
            case measure => simp only [intOf]; omega
    · obtain rfl : i = rs.length := by omega
      rw [List.take_length, HOS.out] at HO
      have hltz : ¬ (rs.length : Int) < (rs.length : Int) := by omega
      clear hE1
      go_wp2_with fail
      go_ret
      exact ⟨_, rfl, HO.out.mono HE.out.2, HE.out.bel.trans (HE1.out.1.mono HE.out.2)⟩
end Go.Proofs.Ytbkbcbanfnhjpaa
