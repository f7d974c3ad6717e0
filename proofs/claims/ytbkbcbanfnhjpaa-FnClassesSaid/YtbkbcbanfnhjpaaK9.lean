/- IsGroup: the program's text. -/
import Derived.Test.YtbkbcbanfnhjpaaK8
namespace Go.Proofs.Ytbkbcbanfnhjpaa
open Go Go.RowKit

theorem members_any {m : Nat} {rs : List Int} {x : Int} : (memF m rs).any (fun X => !rs.contains (rankF (prodF (withF m x) X))) = !(rs.all fun y => inG m rs x y) := by
  unfold memF
  rw [List.any_map]
  have : ∀ l : List Int, l.any ((fun X => !rs.contains (rankF (prodF (withF m x) X))) ∘ withF m) = !(l.all fun y => inG m rs x y) := by
    intro l
    induction l with
    | nil => rfl
    | cons y r ih => rw [List.any_cons, List.all_cons, ih]; simp only [Function.comp, inG, Bool.not_and]
  exact this rs
set_option maxRecDepth 20000 in
set_option maxHeartbeats 8000000 in
theorem i_IsGroup (n : Int) (r : Value) (rs : List Int) (w : World) (h : rdI w r rs) (hl : rs.length ≤ 1048576) :
    Calls Try.prog 43 #[(.agg #[.int .i64 n, r])] w fun e w' => e = .returned (.bool (groupB n rs)) ∧ Below w.heap.size w w' := by
  cases hin : inB n 1 6
  · rw [group_out hin]
    go_enter Try.func43, Try.ntmps43
    go_wp2_with (first | (go_at_call 73; refine pur (i_within _ _ _ _) ?_))
    go_ret
    exact ⟨rfl, (by refine Ext.bel ?_; repeat (with_reducible first | exact Ext.refl _ | apply Ext.alloc | apply Ext.aft | apply Ext.drew | apply Ext.drewN | apply Ext.setCell | exact Nat.le_add_right _ _ | exact Nat.le_refl _ | (simp; done) | omega))⟩
  have hn16 := inB_iff.1 hin
  obtain ⟨m, rfl⟩ : ∃ m : Nat, n = m := ⟨n.toNat, by omega⟩
  have hm6 : m ≤ 6 := by omega
  have hf := facN_pos m
  have hf7 := facN_le hm6
  obtain ⟨a, cap, rfl, hmx, hc⟩ := id h
  rcases rs with _ | ⟨x0, rt⟩
  · rw [group_nil]
    simp only [List.length_nil] at *
    go_enter Try.func43, Try.ntmps43
    go_wp2_with (first | (go_at_call 73; refine pur (i_within _ _ _ _) ?_))
    go_ret
    exact ⟨rfl, (by refine Ext.bel ?_; repeat (with_reducible first | exact Ext.refl _ | apply Ext.alloc | apply Ext.aft | apply Ext.drew | apply Ext.drewN | apply Ext.setCell | exact Nat.le_add_right _ _ | exact Nat.le_refl _ | (simp; done) | omega))⟩
  obtain ⟨b, o, rfl, hcell⟩ := hc (by simp)
  have hx0 := hcell 0 (by simp)
  have hxb := World.block_lt_of_cell? w _ hx0
  simp only [List.getElem_cons_zero, Nat.add_zero] at hx0 hxb
  have hgc := fun (h2 : risesB (facN m : Int) (-1) (x0 :: rt) = true) (h3 : x0 = 0) => group_closed (n := m) (by omega) h2 h3
  have hgr := fun (h2 : risesB (facN m : Int) (-1) (x0 :: rt) = false) => group_rises h2
  have hgh := fun h3 : x0 ≠ 0 => group_head (n := (m : Int)) (r := rt) h3
  obtain ⟨rs, hrs⟩ : ∃ rs, rs = x0 :: rt := ⟨_, rfl⟩
  have hpos : 0 < rs.length := by rw [hrs]; simp
  have hne : rs ≠ [] := by rw [hrs]; simp
  rw [← hrs] at h hl hmx hcell hgc hgh hgr ⊢
  have hle : ((rs.length : Int) == 0) = false := by rw [beq_eq_false_iff_ne]; omega
  have hposz : (0 : Int) < (rs.length : Int) := by omega
  clear hrs hc
  by_cases hz : x0 = 0
  case neg =>
    rw [hgh hz]
    have hzb : (x0 == 0) = false := by simpa using hz
    have HZ := hid hz
    clear hgc hgh hz hcell hgr hne
    go_enter Try.func43, Try.ntmps43
    go_wp2_with (first | (go_at_call 73; refine pur (i_within _ _ _ _) ?_))
    go_ret
    exact ⟨rfl, (by refine Ext.bel ?_; repeat (with_reducible first | exact Ext.refl _ | apply Ext.alloc | apply Ext.aft | apply Ext.drew | apply Ext.drewN | apply Ext.setCell | exact Nat.le_add_right _ _ | exact Nat.le_refl _ | (simp; done) | omega))⟩
  subst hz
  obtain ⟨C, hC⟩ : ∃ C, C = groupB m rs := ⟨_, rfl⟩
  rw [← hC] at hgc hgr ⊢
  have HCT := hid (fun h2 => hgc h2 rfl)
  have HCF := hid hgr
  have HNE := hid hne
  have HC0 := hid hcell
  obtain ⟨P, hP⟩ : ∃ P, P = risesB (facN m : Int) (-1) rs := ⟨_, rfl⟩
  have HP := hid hP
  have HR := hid h
  clear hgc hgh hcell hgr hne hC hP h
  go_enter Try.func43, Try.ntmps43
  go_wp2_with (first | (go_at_call 73; refine pur (i_within _ _ _ _) ?_))
  go_loopw [28] (fun i wr => ∃ (k : Nat) (uu : World), wr = aft (w.alloc (Obj.cells #[.int .i64 (m : Int), .slice (some ⟨b, o, none⟩) rs.length cap] 26)) uu ∧ k ≤ rs.length ∧ i = .int .i64 k ∧ -1 ≤ prevI rs k ∧ Hid (risesB (facN m : Int) (prevI rs k) (rs.drop k) = P)) (fun i _ => rs.length - (intOf i).toNat)
  case atStart => exact ⟨0, w.alloc (Obj.cells #[.int .i64 (m : Int), .slice (some ⟨b, o, none⟩) rs.length cap] 26), (aft_of (Below.refl _ _)).symm, by omega, rfl, by simp [prevI], hid (by rw [HP.out, prev_zero]; rfl)⟩
  case round =>
    obtain ⟨k, uu, rfl, hk, rfl, hp1, HA⟩ := hrel
    have zs := size_aft (w.alloc (Obj.cells #[.int .i64 (m : Int), .slice (some ⟨b, o, none⟩) rs.length cap] 26)) uu
    simp at zs
    by_cases hlt : k < rs.length
    · have h1 := HC0.out k hlt
      have hb := World.block_lt_of_cell? w _ h1
      have hd := rises_drop (F := (facN m : Int)) hlt
      rw [HA.out] at hd
      have HPS := hid (prev_succ hlt)
      have hpv : 0 < k → w.cell? ⟨b, o + (k - 1), none⟩ = some (.int .i64 (prevI rs k)) := fun h0 => by
        rw [HC0.out (k - 1) (by omega)]
        unfold prevI; rw [if_neg (by omega)]
        simp [List.getD, show k - 1 < rs.length by omega]
      obtain ⟨x, hx⟩ : ∃ x, x = rs[k] := ⟨_, rfl⟩
      rw [← hx] at h1 hd HPS
      obtain ⟨p, hpe⟩ : ∃ p, p = prevI rs k := ⟨_, rfl⟩
      rw [← hpe] at hp1 hd hpv
      have HD := hid hd
      have HPE := hid hpe
      have hltz : (k : Int) < (rs.length : Int) := by omega
      clear hx hd hpe HA
      cases hin2 : inB x 0 ((facN m : Int) - 1)
      · have hnot : ¬ (0 ≤ x ∧ x ≤ (facN m : Int) - 1) := fun h => by rw [inB_t h.1 h.2] at hin2; cases hin2
        have e : Hid (C = false) := hid (HCF.out (HP.out.symm.trans (HD.out.trans (rises_f hp1 (.inl hnot)))))
        have HV := hid hpv
        clear hpv hnot
        go_wp2_with (first | (go_at_call 73; refine pur (i_within _ _ _ _) ?_) | (go_at_call 90; refine pur (i_fact m _ hm6) ?_))
        go_ret
        exact ⟨ret_b (by rw [e.out]), (by refine Ext.bel ?_; repeat (with_reducible first | exact Ext.refl _ | apply Ext.alloc | apply Ext.aft | apply Ext.drew | apply Ext.drewN | apply Ext.setCell | exact Nat.le_add_right _ _ | exact Nat.le_refl _ | (simp; done) | omega))⟩
      · have hrg := inB_iff.1 hin2
        rcases Nat.eq_zero_or_pos k with h0 | hpos
        · have HR2 := hid (HD.out.trans (rises_t (show p < x by have := HPE.out; rw [h0] at this; simp [prevI] at this; omega) hrg.2))
          have H0 := hid h0
          have hkz : decide ((0 : Int) < (k : Int)) = false := by simp; omega
          have hkn : decide (0 < k) = false := by simp; omega
          clear hpv h0
          go_wp2_with (first | (go_at_call 73; refine pur (i_within _ _ _ _) ?_) | (go_at_call 90; refine pur (i_fact m _ hm6) ?_))
          go_roundw
          case rel => exact ⟨k + 1, uu, rfl, by omega, by go_num, by rw [HPS.out]; omega, hid HR2.out.symm⟩
          case measure => simp only [intOf]; omega
        · obtain ⟨j, rfl⟩ : ∃ j, k = j + 1 := ⟨k - 1, by omega⟩
          have hv := hpv (by omega)
          rw [Nat.add_sub_cancel] at hv
          have hbv := World.block_lt_of_cell? w _ hv
          clear hpv
          by_cases hle : x ≤ p
          · have e : Hid (C = false) := hid (HCF.out (HP.out.symm.trans (HD.out.trans (rises_f hp1 (.inr hle)))))
            go_wp2_with (first | (go_at_call 73; refine pur (i_within _ _ _ _) ?_) | (go_at_call 90; refine pur (i_fact m _ hm6) ?_))
            go_ret
            exact ⟨ret_b (by rw [e.out]), (by refine Ext.bel ?_; repeat (with_reducible first | exact Ext.refl _ | apply Ext.alloc | apply Ext.aft | apply Ext.drew | apply Ext.drewN | apply Ext.setCell | exact Nat.le_add_right _ _ | exact Nat.le_refl _ | (simp; done) | omega))⟩
          · have HR2 := hid (HD.out.trans (rises_t (show p < x by omega) hrg.2))
            go_wp2_with (first | (go_at_call 73; refine pur (i_within _ _ _ _) ?_) | (go_at_call 90; refine pur (i_fact m _ hm6) ?_))
            go_roundw
            case rel => exact ⟨j + 2, uu, rfl, by omega, by go_num, by rw [HPS.out]; omega, hid HR2.out.symm⟩
            case measure => simp only [intOf]; omega
    · obtain rfl : k = rs.length := by omega
      have hP1 : P = true := by rw [← HA.out, List.drop_length]; rfl
      rw [hP1] at HP
      have hri : risesB (facN m : Int) (-1) rs = true := HP.out.symm
      have Hr : Hid (∀ x ∈ rs, 0 ≤ x ∧ x < (facN m : Int)) := hid (fun x hx => by have := rises_mem rs _ hri x hx; omega)
      have Hpw : Hid (rs.Pairwise (· < ·)) := hid (rises_pair rs _ hri)
      have HC := hid (HCT.out hri)
      have hltz : ¬ (rs.length : Int) < (rs.length : Int) := by omega
      clear hri hP1
      go_wp2_with fail
      refine viaX (g := id) (i_members m _ rs _ ((HR.out.alloc _).aft _) hm6 Hr.out hl) ?_
      intro v2 u2 zz2 own2
      try simp at zz2
      obtain ⟨W, hW⟩ : ∃ W, W = aft (aft (w.alloc (Obj.cells #[.int .i64 (m : Int), .slice (some ⟨b, o, none⟩) rs.length cap] 26)) uu) u2 := ⟨_, rfl⟩
      have HE : Hid (Ext w.heap.size w W) := hid (by rw [hW]; exact (by repeat (with_reducible first | exact Ext.refl _ | apply Ext.alloc | apply Ext.aft | apply Ext.drew | apply Ext.drewN | apply Ext.setCell | exact Nat.le_add_right _ _ | exact Nat.le_refl _ | (simp; done) | omega)))
      have own2' := own2.rd
      have cg0 : W.cell? ⟨w.heap.size, 0, none⟩ = some (.int .i64 (m : Int)) := by rw [hW]; simp [go_sem, ↓IntWalk.iteOmega]
      have cg1 : W.cell? ⟨w.heap.size, 1, none⟩ = some (.slice (some ⟨b, o, none⟩) rs.length cap) := by rw [hW]; simp [go_sem, ↓IntWalk.iteOmega]
      have hRW : rdI W (.slice (some ⟨b, o, none⟩) rs.length cap) rs := by rw [hW]; exact ((HR.out.alloc _).aft _).aft _
      rw [← hW] at own2' ⊢
      have HRW := hid hRW
      have HMM := hid own2'
      obtain ⟨am, cm, hv2, hmm, hcm⟩ := own2'
      rw [memF_len] at hv2 hmm
      subst hv2
      have Hcm := hid hcm
      have hgb := World.block_lt_of_cell? W _ cg0
      have CG0 := hid cg0
      have CG1 := hid cg1
      clear hW own2 zz2 hcm hx0 hxb hmm hRW cg0 cg1 zs
      go_wp2_with fail
      go_loopw [59, 7] (fun s _ wr => ∃ i : Nat, i ≤ rs.length ∧ s = .int .i64 i ∧ Ext W.heap.size W wr ∧ Hid ((rs.take i).all (fun x => rs.all fun y => inG m rs x y) = true)) (fun s _ _ => rs.length - (intOf s).toNat)
      case atStart => exact ⟨0, by omega, rfl, Ext.refl _, hid (by simp)⟩
      case round =>
        obtain ⟨i, hi, rfl, hE1, HA⟩ := hrel
        have HE1 := hid hE1
        by_cases hlt : i < rs.length
        · have hltz : (i : Int) < (rs.length : Int) := by omega
          have hnem : memF m rs ≠ [] := by intro e; have := memF_len m rs; rw [e] at this; simp at this; omega
          obtain ⟨bm, om, rfl, hcel⟩ := Hcm.out hnem
          obtain ⟨e1, hc1, ho1⟩ := hcel i (by rw [memF_len]; exact hlt)
          have hc2 := hE1.1.cell (p := ⟨bm, om + i, none⟩) (World.block_lt_of_cell? W _ hc1)
          rw [hc1] at hc2
          have em1 : (memF m rs)[i]'(by rw [memF_len]; exact hlt) = withF m rs[i] := by simp [memF]
          rw [em1] at ho1
          obtain ⟨a1, c1, hsh, _, _⟩ := ho1.rd
          subst hsh
          have hal := with_len hm6 (Hr.out _ (List.getElem_mem hlt))
          obtain ⟨wo, hwo⟩ : ∃ wo, wo = wr.alloc (.cells #[.slice a1 (withF m rs[i]).length c1] 24) := ⟨_, rfl⟩
          have hEo : Ext W.heap.size W wo := by rw [hwo]; exact hE1.alloc _
          have cA : wo.cell? ⟨wr.heap.size, 0, none⟩ = some (.slice a1 (withF m rs[i]).length c1) := by rw [hwo, alloc_cell, if_pos rfl]; rfl
          have hpr : predR 103 #[.pointer (some ⟨w.heap.size, 0, none⟩), .pointer (some ⟨wr.heap.size, 0, none⟩)] (fun X => !rs.contains (rankF (prodF (withF m rs[i]) X))) (memF m rs) wo := by
            intro W' v X hb hX hv
            have hX2 : ∃ y ∈ rs, withF m y = X := by simpa [memF] using hX
            obtain ⟨y, hy, rfl⟩ := hX2
            have hwy := with_ok hm6 (Hr.out _ hy).1 (Hr.out _ hy).2
            have hbW : Below W.heap.size W W' := hEo.1.trans (hb.mono hEo.2)
            refine (i_IsGroup1 (m : Int) (.slice (some ⟨b, o, none⟩) rs.length cap) (.slice a1 (withF m rs[i]).length c1) v rs (withF m rs[i]) (withF m y) w.heap.size wr.heap.size W' ?_ ?_ ?_ (HRW.out.below hbW) HNE.out hl Hpw.out (ho1.rd.below hbW) hv ?_ (by rw [hwy.len]; exact hm6)).mono ?_
            · rw [hbW.cell (p := ⟨w.heap.size, 0, none⟩) hgb]; exact CG0.out
            · rw [hbW.cell (p := ⟨w.heap.size, 1, none⟩) hgb]; exact CG1.out
            · rw [hb.cell (p := ⟨wr.heap.size, 0, none⟩) (World.block_lt_of_cell? wo _ cA)]; exact cA
            · rw [hal]; exact hwy.rng
            · rintro e w' ⟨rfl, h2⟩
              exact ⟨rfl, hb.trans (h2.mono hb.size)⟩
          have HPR := hid hpr
          obtain ⟨tv, htv⟩ : ∃ tv, tv = rs.all (fun y => inG m rs rs[i] y) := ⟨_, rfl⟩
          have hany : Hid ((memF m rs).any (fun X => !rs.contains (rankF (prodF (withF m rs[i]) X))) = !tv) := hid (by rw [htv]; exact members_any)
          have HMo := hid (HMM.out.below hEo.1)
          have HWO := hid hwo
          have HEo := hid hEo
          have HT := hid htv
          have eg : ∀ args w, (callFunc 103 args).run Try.prog w = .ok (.enter 103 args) w := entersT Try.func103 (by kernel_rfl) rfl
          clear hcel em1 hnem ho1 hc1 hpr hwo hEo cA htv hE1 hal
          go_wp2_with fail
          rw [← HWO.out]
          refine via (lib_containsR _ _ _ eg _ _ _ HMo.out HPR.out (!tv) hany.out) ?_
          intro u5 z5
          have HE5 : Hid (Ext W.heap.size W (aft wo u5)) := hid (HEo.out.aft u5)
          cases tv
          · have e : Hid (C = false) := hid (by rw [HC.out]; exact all_no hlt HT.out.symm)
            go_wp2_with fail
            go_ret
            exact ⟨ret_b (by rw [e.out]), HE.out.bel.trans (HE5.out.1.mono HE.out.2)⟩
          · go_wp2_with fail
            go_roundw
            case rel => exact ⟨i + 1, by omega, by go_num, HE5.out, hid (all_take hlt HA.out HT.out.symm)⟩
            case measure => simp only [intOf]; omega
        · obtain rfl : i = rs.length := by omega
          have e : Hid (C = true) := hid (by rw [HC.out]; have := HA.out; rw [List.take_length] at this; exact this)
          have hltz : ¬ (rs.length : Int) < (rs.length : Int) := by omega
          clear hE1
          go_wp2_with fail
          go_ret
          exact ⟨ret_b (by rw [e.out]), HE.out.bel.trans (HE1.out.1.mono HE.out.2)⟩
end Go.Proofs.Ytbkbcbanfnhjpaa
