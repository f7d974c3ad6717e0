/- EvenPart: both texts. -/
import Derived.Test.YtbkbcbanfnhjpaaX4
namespace Go.Proofs.Ytbkbcbanfnhjpaa
open Go Go.RowKit

def evenF (n : Int) (rs : List Int) : List Int × Int × Int := if groupB n rs = true then (filtF n.toNat rs evB, n, 0) else ([], 0, 1)
theorem evenF_len (n : Int) (rs : List Int) : (evenF n rs).1.length ≤ 1000 := by
  unfold evenF
  split
  · rename_i h
    obtain ⟨m, rfl, _, hm6, _, _, hr, hpw, _⟩ := group_facts h
    exact Nat.le_trans (filt_le _ _ _) (Nat.le_trans (asc_len hpw hr) (by have := facN_le hm6; omega))
  · simp
set_option maxRecDepth 20000 in
set_option maxHeartbeats 8000000 in
theorem i_EvenPart (n : Int) (r : Value) (rs : List Int) (w : World) (h : rdI w r rs) (hl : rs.length ≤ 1048576) :
    Calls Try.prog 10 #[(.agg #[.int .i64 n, r])] w fun e w' => ∃ v, e = .returned (.tuple #[.agg #[.int .i64 (evenF n rs).2.1, v], .int .i64 (evenF n rs).2.2]) ∧ ownR w.heap.size w' v (evenF n rs).1 ∧ Below w.heap.size w w' := by
  have hR := (h.alloc (Obj.cells #[.int .i64 n, r] 26)).alloc (Obj.cells #[.int .i64 0, .slice none 0 0] 26)
  cases hg : groupB n rs
  · have e : evenF n rs = ([], 0, 1) := by simp [evenF, hg]
    rw [e]; clear e
    have HG := hid hg
    clear hg
    go_enter Try.func10, Try.ntmps10
    go_wp2_with (first | (go_at_call 43; refine via (i_IsGroupE n _ rs _ false hR hl HG.out) ?_; intro uu zz; try simp at zz))
    exact bodyPost_ret (v := .tuple #[.agg #[.int .i64 0, .slice none 0 0], .int .i64 1]) (by first | (simp [results, go_sem]; done) | simp [results, go_sem, ↓IntWalk.iteOmega]) rfl ⟨_, rfl, ownR.nil _ _, (by refine Ext.bel ?_; repeat (with_reducible first | exact Ext.refl _ | apply Ext.alloc | apply Ext.aft | apply Ext.drew | apply Ext.drewN | apply Ext.setCell | exact Nat.le_add_right _ _ | exact Nat.le_refl _ | (simp; done) | omega))⟩
  obtain ⟨m, rfl, hm1, hm6, hne, hhd, hr, hpw, _⟩ := group_facts hg
  have hl7 : rs.length ≤ 720 := Nat.le_trans (asc_len hpw hr) (facN_le hm6)
  have Hr := hid hr
  have Hpw := hid hpw
  obtain ⟨os, hos⟩ : ∃ os, filtF m rs evB = os := ⟨_, rfl⟩
  have e : evenF m rs = (os, (m : Int), 0) := by unfold evenF; rw [if_pos hg]; simp only [Int.toNat_natCast]; rw [hos]
  rw [e]; clear e
  have HG := hid hg
  have HOS := hid hos
  have ek : ∀ args w, (callFunc 55 args).run Try.prog w = .ok (.enter 55 args) w := entersT Try.func55 (by kernel_rfl) rfl
  have Ek := hid ek
  clear hg hr hpw hne hhd hos ek
  go_enter Try.func10, Try.ntmps10
  go_wp2_with (first | (go_at_call 43; refine via (i_IsGroupE (m : Int) _ rs _ true hR hl HG.out) ?_; intro uu zz; try simp at zz))
  refine viaG (i_filteredE m _ rs _ _ evB _ os Ek.out (keep_even (by omega) hm6 Hr.out) (hR.aft _) hm6 Hr.out Hpw.out hl7 HOS.out) ?_
  intro v2 u2 z2 own2
  try simp at z2
  obtain ⟨a2, c2, hsh, _, _⟩ := own2.rd
  subst hsh
  go_wp2_with fail
  exact bodyPost_ret (v := .tuple #[.agg #[.int .i64 (m : Int), .slice a2 os.length c2], .int .i64 0]) (by first | (simp [results, go_sem]; done) | simp [results, go_sem, ↓IntWalk.iteOmega]) rfl ⟨_, rfl, ((own2.setCell _ _ _ _ (by omega)).setCell _ _ _ _ (by omega)).mono (by omega), (by refine Ext.bel ?_; repeat (with_reducible first | exact Ext.refl _ | apply Ext.alloc | apply Ext.aft | apply Ext.drew | apply Ext.drewN | apply Ext.setCell | exact Nat.le_add_right _ _ | exact Nat.le_refl _ | (simp; done) | omega))⟩
set_option maxRecDepth 20000 in
set_option maxHeartbeats 8000000 in
theorem s_even (m : Nat) (r : Value) (rs : List Int) (w : World) (zs : List Int) (h : rdI w r rs) (hm1 : 1 ≤ m) (hm6 : m ≤ 6) (hr : ∀ x ∈ rs, 0 ≤ x ∧ x < (facN m : Int)) (hl : rs.length ≤ 720) (hz : filtF m rs evB = zs) :
    Calls Try.prog 58 #[(.agg #[.int .i64 (m : Int), r])] w fun e w' => ∃ v, e = .returned v ∧ ownR w.heap.size w' v zs ∧ Below w.heap.size w w' := by
  obtain ⟨i0, hi, hz0, hz1, hz2⟩ := info_parts infoI
  have hR := h.alloc (Obj.cells #[.int .i64 (m : Int), r] 26)
  have Hr := hid hr
  have HOS := hid hz
  obtain ⟨a0, cap0, hsh0, _, _⟩ := id h
  subst hsh0
  clear hr hz h
  go_enter Try.func58, Try.ntmps58
  go_wp2_with fail
  refine viaX (g := id) (s_elements m _ rs _ hR hm6 Hr.out (by omega)) ?_
  intro v2 u2 z2 own2
  try simp at z2
  obtain ⟨W, hW⟩ : ∃ W, W = aft (w.alloc (Obj.cells #[.int .i64 (m : Int), .slice a0 rs.length cap0] 26)) u2 := ⟨_, rfl⟩
  have HE : Hid (Ext w.heap.size w W) := hid (by rw [hW]; exact (by repeat (with_reducible first | exact Ext.refl _ | apply Ext.alloc | apply Ext.aft | apply Ext.drew | apply Ext.drewN | apply Ext.setCell | exact Nat.le_add_right _ _ | exact Nat.le_refl _ | (simp; done) | omega)))
  have c0 : W.cell? ⟨w.heap.size, 0, none⟩ = some (.int .i64 (m : Int)) := by rw [hW]; simp [go_sem]
  have c1 : W.cell? ⟨w.heap.size, 1, none⟩ = some (.slice a0 rs.length cap0) := by rw [hW]; simp [go_sem]
  have hb0 := World.block_lt_of_cell? W _ c0
  have HRW := hid (show rdI W (.slice a0 rs.length cap0) rs by rw [hW]; exact hR.aft _)
  have own2' := own2.rd
  rw [← hW] at own2' z2 ⊢
  obtain ⟨am, cm, hv2, hmm, hcm⟩ := own2'
  rw [memF_len] at hv2 hmm
  subst hv2
  have Hcm := hid hcm
  simp only at hb0
  clear hW own2 hcm hmm hR
  go_wp2_with fail
  go_loopw [4, 5] (fun o i wr => ∃ k : Nat, k ≤ rs.length ∧ i = .int .i64 k ∧ Hid (ownR W.heap.size wr o (filtF m (rs.take k) evB)) ∧ Ext W.heap.size W wr) (fun _ i _ => rs.length - (intOf i).toNat)
  case atStart => exact ⟨0, by omega, rfl, hid (own_made W), (Ext.refl _).alloc _⟩
  case round =>
    obtain ⟨i, hile, rfl, HO, hE1⟩ := hrel
    have HE1 := hid hE1
    obtain ⟨wo, rfl⟩ : ∃ wo : World, wo = wr := ⟨_, rfl⟩
    have d0 := hE1.1.cell (p := ⟨w.heap.size, 0, none⟩) hb0
    have d1 := hE1.1.cell (p := ⟨w.heap.size, 1, none⟩) hb0
    rw [c0] at d0
    rw [c1] at d1
    have hbw := hE1.2
    by_cases hlt : i < rs.length
    · have hltz : (i : Int) < (rs.length : Int) := by omega
      have hne : memF m rs ≠ [] := by intro e; have := memF_len m rs; rw [e] at this; simp at this; omega
      obtain ⟨bm, om, rfl, hcel⟩ := Hcm.out hne
      obtain ⟨e1, hc1, ho1⟩ := hcel i (by rw [memF_len]; exact hlt)
      have em1 : (memF m rs)[i]'(by rw [memF_len]; exact hlt) = withF m rs[i] := by simp [memF]
      rw [em1] at ho1
      have hw1 := with_ok hm6 (Hr.out _ (List.getElem_mem hlt)).1 (Hr.out _ (List.getElem_mem hlt)).2
      have hsn := filt_snoc (m := m) (p := evB) hlt
      have hal := hw1.len
      have hrg := hw1.rng
      obtain ⟨A, hA⟩ : ∃ A, A = withF m rs[i] := ⟨_, rfl⟩
      rw [← hA] at ho1 hal hrg hsn
      have hkc1 := hE1.1.cell (p := ⟨bm, om + i, none⟩) (World.block_lt_of_cell? W _ hc1)
      rw [hc1] at hkc1
      have hsg := fun (z : Int) (hz : (if evB A = true then (1 : Int) else -1) = z) (W' : World) (hb : Below W.heap.size W W') => s_sign e1 A W' z (ho1.rd.below hb) (by omega) (by omega) (by rw [hal]; exact hrg) hz
      have HSG := hid hsg
      have HSN := hid hsn
      obtain ⟨T, hT⟩ : ∃ T, evB A = T := ⟨_, rfl⟩
      have HT := hid hT
      cases T
      · have HS := hid (show filtF m (rs.take (i + 1)) evB = filtF m (rs.take i) evB by rw [HSN.out, HT.out]; simp)
        clear hsn em1 hw1 hal hrg ho1 hc1 hcel hE1 hne hsg hT
        go_wp2_with fail
        refine via (HSG.out (-1) (by rw [HT.out]; simp) _ HE1.out.1) ?_
        intro u5 z5
        try simp at z5
        have HO5 := hid (HO.out.below (below_aft wo u5))
        have HE5 : Hid (Ext W.heap.size W (aft wo u5)) := hid (HE1.out.aft u5)
        go_wp2_with fail
        go_roundw
        case rel => exact ⟨i + 1, by omega, by go_num, hid (by rw [HS.out]; exact HO5.out), HE5.out⟩
        case measure => simp only [intOf]; omega
      · obtain ⟨b0, o0, ha0⟩ : ∃ b o, a0 = some ⟨b, o, none⟩ := by
          obtain ⟨a', c', he, _, hc⟩ := HRW.out
          injection he with he1
          obtain ⟨b, o, e, _⟩ := hc (by intro e; subst e; simp at hlt)
          exact ⟨b, o, by rw [he1, e]⟩
        subst ha0
        have hrk := rd_cells HRW.out i hlt
        have hbk := World.block_lt_of_cell? W _ hrk
        have hrk2 := HE1.out.1.cell (p := ⟨b0, o0 + i, none⟩) hbk
        rw [hrk] at hrk2
        have hbk2 := World.block_lt_of_cell? wo _ hrk2
        obtain ⟨y, hy⟩ : ∃ y, y = rs.getD i 0 := ⟨_, rfl⟩
        have hyk : rs[i] = y := by rw [hy, List.getD, List.getElem?_eq_getElem hlt]; rfl
        rw [← hy] at hrk2
        have hle := filt_le m (rs.take i) evB
        have hle2 : (filtF m (rs.take i) evB).length ≤ 720 := by rw [List.length_take] at hle; omega
        have HS := hid (show filtF m (rs.take (i + 1)) evB = filtF m (rs.take i) evB ++ [y] by rw [HSN.out, HT.out, ← hyk]; simp)
        clear hsn em1 hw1 hal hrg ho1 hc1 hcel hE1 hne hsg hT hy hyk hrk hle
        go_wp2_with fail
        refine via (HSG.out 1 (by rw [HT.out]; simp) _ HE1.out.1) ?_
        intro u5 z5
        try simp at z5
        have hown := HO.out.below (below_aft wo u5)
        have HE5 : Hid (Ext W.heap.size W (aft wo u5)) := hid (HE1.out.aft u5)
        go_wp2_with (at_builtin; refine wpList_append_own _ rfl _ _ 24 rfl (W.heap.size) 2 i0 (.int .i64 0) 1 8 Try.underlying24 hi hz0 hz1 hz2 rfl (by decide) _ _ _ rfl (hown.alloc _) ⟨_, 0, none⟩ 1 1 [.int .i64 (y)] rfl rfl ?c1 ?c2 ?c3 ?c4 ?c5 ?_)
        try case c1 => exact cell_one_new _ _ _
        case c2 => first | rfl | (intro u hu; simp at hu; subst hu; rfl)
        case c3 => unfold maxLen; omega
        case c4 => omega
        case c5 => first | (have := HE5.out.2; simp; omega) | omega
        intro v' w1 hown' hgrow _
        have HN : Hid (ownR W.heap.size w1 v' (filtF m (rs.take (i + 1)) evB)) := hid (by rw [HS.out]; exact ownR.snoc hown')
        have HE4 : Hid (Ext W.heap.size W w1) := hid (ext_grown (HE5.out.alloc _) hgrow (own_row_ge hown))
        clear hown' hgrow hown
        go_wp2_with fail
        go_roundw
        case rel => exact ⟨i + 1, by omega, by go_num, HN, HE4.out⟩
        case measure => simp only [intOf]; omega
    · obtain rfl : i = rs.length := by omega
      rw [List.take_length, HOS.out] at HO
      have hltz : ¬ (rs.length : Int) < (rs.length : Int) := by omega
      clear hE1
      go_wp2_with fail
      go_ret
      exact ⟨_, rfl, HO.out.mono HE.out.2, HE.out.bel.trans (HE1.out.1.mono HE.out.2)⟩
set_option maxRecDepth 20000 in
set_option maxHeartbeats 8000000 in
theorem s_EvenPart (n : Int) (r : Value) (rs : List Int) (w : World) (h : rdI w r rs) (hl : rs.length ≤ 1048576) :
    Calls Try.prog 11 #[(.agg #[.int .i64 n, r])] w fun e w' => ∃ v, e = .returned (.tuple #[.agg #[.int .i64 (evenF n rs).2.1, v], .int .i64 (evenF n rs).2.2]) ∧ ownR w.heap.size w' v (evenF n rs).1 ∧ Below w.heap.size w w' := by
  have hR := (h.alloc (Obj.cells #[.int .i64 n, r] 26)).alloc (Obj.cells #[.int .i64 0, .slice none 0 0] 26)
  cases hg : groupB n rs
  · have e : evenF n rs = ([], 0, 1) := by simp [evenF, hg]
    rw [e]; clear e
    have HG := hid hg
    clear hg
    go_enter Try.func11, Try.ntmps11
    go_wp2_with (first | (go_at_call 57; refine via (s_IsGroupE n _ rs _ false hR hl HG.out) ?_; intro uu zz; try simp at zz))
    exact bodyPost_ret (v := .tuple #[.agg #[.int .i64 0, .slice none 0 0], .int .i64 1]) (by first | (simp [results, go_sem]; done) | simp [results, go_sem, ↓IntWalk.iteOmega]) rfl ⟨_, rfl, ownR.nil _ _, (by refine Ext.bel ?_; repeat (with_reducible first | exact Ext.refl _ | apply Ext.alloc | apply Ext.aft | apply Ext.drew | apply Ext.drewN | apply Ext.setCell | exact Nat.le_add_right _ _ | exact Nat.le_refl _ | (simp; done) | omega))⟩
  obtain ⟨m, rfl, hm1, hm6, hne, hhd, hr, hpw, _⟩ := group_facts hg
  have hl7 : rs.length ≤ 720 := Nat.le_trans (asc_len hpw hr) (facN_le hm6)
  have Hr := hid hr
  obtain ⟨os, hos⟩ : ∃ os, filtF m rs evB = os := ⟨_, rfl⟩
  have e : evenF m rs = (os, (m : Int), 0) := by unfold evenF; rw [if_pos hg]; simp only [Int.toNat_natCast]; rw [hos]
  rw [e]; clear e
  have HG := hid hg
  have HOS := hid hos
  obtain ⟨a0, cap0, hsh0, _, _⟩ := id h
  subst hsh0
  clear hg hr hpw hne hhd hos
  go_enter Try.func11, Try.ntmps11
  go_wp2_with (first | (go_at_call 57; refine via (s_IsGroupE (m : Int) _ rs _ true hR hl HG.out) ?_; intro uu zz; try simp at zz))
  obtain ⟨W, hW⟩ : ∃ W, W = aft ((w.alloc (Obj.cells #[.int .i64 (m : Int), .slice a0 rs.length cap0] 26)).alloc (Obj.cells #[.int .i64 0, .slice none 0 0] 26)) uu := ⟨_, rfl⟩
  have HE : Hid (Ext w.heap.size w W) := hid (by rw [hW]; exact (by repeat (with_reducible first | exact Ext.refl _ | apply Ext.alloc | apply Ext.aft | apply Ext.drew | apply Ext.drewN | apply Ext.setCell | exact Nat.le_add_right _ _ | exact Nat.le_refl _ | (simp; done) | omega)))
  have hRW := hid (show rdI W (.slice a0 rs.length cap0) rs by rw [hW]; exact hR.aft _)
  have c0 : W.cell? ⟨w.heap.size, 0, none⟩ = some (.int .i64 (m : Int)) := by rw [hW]; simp [go_sem]
  have c1 : W.cell? ⟨w.heap.size, 1, none⟩ = some (.slice a0 rs.length cap0) := by rw [hW]; simp [go_sem]
  have hb0 := World.block_lt_of_cell? W _ c0
  simp only at hb0
  have hs1 : w.heap.size + 1 < W.heap.size := by rw [hW]; omega
  have hres : resOK (w.heap.size + 1) W := by
    intro k hk
    obtain rfl | rfl : k = 0 ∨ k = 1 := by omega
    all_goals (rw [hW]; simp [go_sem])
  rw [← hW]
  have HRES := hid hres
  have hEB : Ext (w.heap.size + 1) W W := Ext.base (by omega)
  have hn0 : w.heap.size < w.heap.size + 1 := by omega
  clear hW hR zz hres
  go_region_held3 (fun w' => (∀ b o, b < w.heap.size + 1 → w'.cell? ⟨b, o, none⟩ = W.cell? ⟨b, o, none⟩) ∧ Hid (Ext (w.heap.size + 1) W w')) ((refine sB ?_; repeat (with_reducible first | assumption | exact Nat.le_refl _ | apply Ext.aft | apply Ext.alloc | apply Ext.drew | apply Ext.drewN | apply Ext.setCell))) (first | (go_at_call 58; refine viaI (g := id) (s_even m _ rs _ os (hRW.out.below (by refine Ext.bel ?_; repeat (with_reducible first | exact Ext.refl _ | apply Ext.alloc | apply Ext.aft | apply Ext.drew | apply Ext.drewN))) (by omega) hm6 Hr.out hl7 HOS.out) ?_; intro v9 u9 z9 own9; (try simp at z9); have hR10 : resOK (w.heap.size + 1) (aft W.drew u9) := HRES.out.below (by refine Ext.bel ?_; repeat (with_reducible first | exact Ext.refl _ | apply Ext.alloc | apply Ext.aft | apply Ext.drew | apply Ext.drewN)) hs1; obtain ⟨y0, hy0⟩ := Option.isSome_iff_exists.1 (hR10 0 (by omega)).2; obtain ⟨y1, hy1⟩ := Option.isSome_iff_exists.1 (hR10 1 (by omega)).2; have hf0 := (hR10 0 (by omega)).1; have hf1 := (hR10 1 (by omega)).1; obtain ⟨a9, c9, hsh9, _, _⟩ := own9.rd; subst hsh9))
  all_goals
    have hE9 : Ext (w.heap.size + 1) W (aft W.drew u9) := (by repeat (with_reducible first | exact hEB | apply Ext.aft | apply Ext.alloc | apply Ext.drew | apply Ext.drewN))
    have hsz9 : w.heap.size + 1 < (aft W.drew u9).heap.size := by have := hE9.2; have := z9; omega
    have HF : Hid (ownR w.heap.size (((aft W.drew u9).setCell ⟨w.heap.size + 1, 0, none⟩ (.int .i64 (m : Int))).setCell ⟨w.heap.size + 1, 1, none⟩ (.slice a9 os.length c9)) (.slice a9 os.length c9) os) := hid (ownR.mono ((own9.setCell _ _ _ _ (by simp; omega)).setCell _ _ _ _ (by simp; omega)) (by simp; omega))
    have HB9 : Hid (Ext w.heap.size w (aft W.drew u9)) := hid ⟨HE.out.1.trans (hE9.1.mono (by omega)), by omega⟩
    go_wp2_with fail
    exact bodyPost_ret (v := .tuple #[.agg #[.int .i64 (m : Int), .slice a9 os.length c9], .int .i64 0]) (by simp [results, go_sem, hy0, hy1]) rfl ⟨_, rfl, HF.out, Ext.bel ((HB9.out.setCell _ _ _ _ (by omega)).setCell _ _ _ _ (by omega))⟩
end Go.Proofs.Ytbkbcbanfnhjpaa
