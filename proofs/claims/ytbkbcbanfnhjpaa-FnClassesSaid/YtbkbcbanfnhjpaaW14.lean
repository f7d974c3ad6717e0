/- ClassesOf: the statement's text. -/
import Derived.Test.YtbkbcbanfnhjpaaW13
import Derived.Test.YtbkbcbanfnhjpaaY3
namespace Go.Proofs.Ytbkbcbanfnhjpaa
open Go Go.RowKit

set_option maxRecDepth 20000 in
set_option maxHeartbeats 16000000 in
theorem s_ClassesOf (n : Int) (r : Value) (rs : List Int) (w : World) (h : rdI w r rs) (hl : rs.length ≤ 1048576) :
    Calls Try.prog 32 #[.agg #[.int .i64 n, r]] w fun e w' => ∃ v, e = .returned (.tuple #[v, .int .i64 (clF n rs).2]) ∧ (∃ es, ownE w.heap.size w' v es (clF n rs).1 ∧ distR es) ∧ Below w.heap.size w w' := by
  have hR := h.alloc (Obj.cells #[.int .i64 n, r] 26)
  cases hg : groupB n rs
  · have e : clF n rs = ([], 1) := by simp [clF, hg]
    rw [e]; clear e
    have HG := hid hg
    clear hg
    go_enter Try.func32, Try.ntmps32
    go_wp2_with (first | (go_at_call 57; refine via (s_IsGroupE n _ rs _ false hR hl HG.out) ?_; intro uu zz; try simp at zz))
    exact bodyPost_ret (v := .tuple #[.slice none 0 0, .int .i64 1]) (by first | (simp [results, go_sem]; done) | simp [results, go_sem, ↓IntWalk.iteOmega]) rfl ⟨_, rfl, ⟨[], ownE.nil _ _, fun i j e f k _ he => by simp at he⟩, (by refine Ext.bel ?_; repeat (with_reducible first | exact Ext.refl _ | apply Ext.alloc | apply Ext.aft | apply Ext.drew | apply Ext.drewN | apply Ext.setCell | exact Nat.le_add_right _ _ | exact Nat.le_refl _ | (simp; done) | omega))⟩
  obtain ⟨m, rfl, hm1, hm6, hne, hhd, hr, hpw, _⟩ := group_facts hg
  have hl7 : rs.length ≤ 720 := Nat.le_trans (asc_len hpw hr) (facN_le hm6)
  have hgrp := group_grp hg
  obtain ⟨Z, hZ⟩ : ∃ Z, clsG m rs [] rs = Z := ⟨_, rfl⟩
  have e : clF m rs = (Z, 0) := by unfold clF; rw [if_pos hg]; simp only [Int.toNat_natCast]; rw [hZ]
  rw [e]; clear e
  have HG := hid hg
  have Hr := hid hr
  have HGR := hid hgrp
  have HZ := hid hZ
  obtain ⟨ib, hib, hib0, hib1, hib2⟩ := info_parts infoB
  obtain ⟨i1, hj, hy0, hy1, hy2⟩ := info_parts infoS
  have hf := facN_pos m
  have hf7 := facN_le hm6
  obtain ⟨F, hF⟩ : ∃ F, F = facN m := ⟨_, rfl⟩
  have HF := hid hF
  rw [← hF] at hf hf7
  obtain ⟨ar, cr, hrs, _, hcr⟩ := id h
  subst hrs
  obtain ⟨br, orr, rfl, hrc⟩ := hcr hne
  have HRC := hid hrc
  clear hg hr hpw hhd hgrp hZ hF hcr hrc
  go_enter Try.func32, Try.ntmps32
  go_wp2_with (first | (go_at_call 57; refine via (s_IsGroupE (m : Int) _ rs _ true hR hl HG.out) ?_; intro uu zz; try simp at zz))
  refine viaX (g := id) (s_elements m _ rs _ (hR.aft _) hm6 Hr.out (by omega)) ?_
  intro v2 u2 z2 own2
  try simp at z2
  obtain ⟨W, hW⟩ : ∃ W, W = aft (aft (w.alloc (Obj.cells #[.int .i64 (m : Int), .slice (some ⟨br, orr, none⟩) rs.length cr] 26)) uu) u2 := ⟨_, rfl⟩
  have HE : Hid (Ext w.heap.size w W) := hid (by rw [hW]; exact (by repeat (with_reducible first | exact Ext.refl _ | apply Ext.alloc | apply Ext.aft | apply Ext.drew | apply Ext.drewN | apply Ext.setCell | exact Nat.le_add_right _ _ | exact Nat.le_refl _ | (simp; done) | omega)))
  have c0 : W.cell? ⟨w.heap.size, 0, none⟩ = some (.int .i64 (m : Int)) := by rw [hW]; simp [go_sem, ↓IntWalk.iteOmega]
  have c1 : W.cell? ⟨w.heap.size, 1, none⟩ = some (.slice (some ⟨br, orr, none⟩) rs.length cr) := by rw [hW]; simp [go_sem, ↓IntWalk.iteOmega]
  have hrc : ∀ i, (hi : i < rs.length) → W.cell? ⟨br, orr + i, none⟩ = some (.int .i64 rs[i]) ∧ br < W.heap.size := fun i hi => by
    have h1 := HRC.out i hi
    have hlt := World.block_lt_of_cell? w _ h1
    simp only at hlt
    exact ⟨by rw [HE.out.1.cell (p := ⟨br, orr + i, none⟩) hlt]; exact h1, by have := HE.out.2; omega⟩
  have HRW := hid hrc
  have own2' := own2.rd
  rw [← hW] at own2' ⊢
  obtain ⟨am, cm, hv2, hmm, hcm⟩ := own2'
  rw [memF_len] at hv2 hmm
  subst hv2
  have Hcm := hid hcm
  have hb0 := World.block_lt_of_cell? W _ c0
  simp only at hb0
  have HC1 := hid c1
  clear hW own2 hR hcm hmm z2 zz hrc c1
  go_wp2_with (first | (go_at_call 84; refine pur (s_fact m _ hm6) ?_; rw [← HF.out]) | (at_make; refine wpList_make_full _ rfl _ _ 80 rfl W.heap.size 4 ib (.bool false) 1 Try.underlying80 hib hib0 hib1 _ _ _ _ F rfl rfl rfl rfl (by rw [hib2]; omega) (by unfold maxLen; omega) (Nat.le_refl _) ?_))
  intro w1 hown hgr
  obtain ⟨S, hS⟩ : ∃ S, S = W.heap.size := ⟨_, rfl⟩
  have hown : w1.ownsRow W.heap.size 4 1 (.slice (some ⟨S, 0, none⟩) F F) F (vB (flagsOf F [])) := by rw [flagsOf_nil, ← vB_no, hS]; exact hown
  rw [← hS]
  have HE0 : Hid (Ext W.heap.size W w1) := hid ⟨Below.grown (Below.refl _ _) hgr (Nat.le_refl _) (fun k hk => by cases hk), hgr.size⟩
  have HO := hid hown
  have HSW : Hid (S = W.heap.size) := hid hS
  have hl1 := HE0.out.2
  clear hown hgr hS
  go_wp2_with fail
  go_loopw [6, 7] (fun v i wr => ∃ (k : Nat) (es : List Value) (CL : List (List Int)) (D : List Int), k ≤ rs.length ∧ i = .int .i64 k ∧ CL.length ≤ k ∧ Hid (ownE W.heap.size wr v es CL) ∧ Hid (distR es) ∧ Hid (wr.ownsRow W.heap.size 4 1 (.slice (some ⟨S, 0, none⟩) F F) F (vB (flagsOf F D))) ∧ Hid (CL ++ clsG m rs D (rs.drop k) = Z) ∧ Hid (Ext W.heap.size W wr)) (fun _ i _ => rs.length - (intOf i).toNat)
  case atStart => exact ⟨0, [], [], [], by omega, rfl, by simp, hid (by have := (own_made2 w1).mono hl1; exact this), hid (fun i j e f k _ he => by simp at he), hid (HO.out.alloc _), hid (by rw [List.drop_zero, List.nil_append]; exact HZ.out), hid (HE0.out.alloc _)⟩
  case round =>
    obtain ⟨k, es, CL, D, hk, rfl, hcl, HO, HDI, HFL, HZE, HE1⟩ := hrel
    have d1 := (HE1.out.1.cell (p := ⟨w.heap.size, 1, none⟩) hb0).trans HC1.out
    by_cases hlt : k < rs.length
    · have hltz : (k : Int) < (rs.length : Int) := by omega
      have hnem : memF m rs ≠ [] := by intro e; have := memF_len m rs; rw [e] at this; simp at this; omega
      obtain ⟨bm, om, rfl, hcel⟩ := Hcm.out hnem
      have hmem : ∀ i, (hi : i < rs.length) → ∃ e1, W.cell? ⟨bm, om + i, none⟩ = some e1 ∧ ownR 0 W e1 (withF m rs[i]) ∧ bm < W.heap.size := fun i hi => by
        obtain ⟨e1, q1, q2⟩ := hcel i (by rw [memF_len]; exact hi)
        have em1 : (memF m rs)[i]'(by rw [memF_len]; exact hi) = withF m rs[i] := by simp [memF]
        rw [em1] at q2
        have := World.block_lt_of_cell? W _ q1
        exact ⟨e1, q1, q2, this⟩
      have HMEM := hid hmem
      obtain ⟨eb, hcb, hob, hbm⟩ := hmem k hlt
      have HCB := hid hcb
      obtain ⟨hrk1, hrk2⟩ := HRW.out k hlt
      have hrkc := (HE1.out.1.cell (p := ⟨br, orr + k, none⟩) hrk2).trans hrk1
      have hxm := List.getElem_mem hlt
      have hdr : rs.drop k = rs[k] :: rs.drop (k + 1) := List.drop_eq_getElem_cons hlt
      have hxr := Hr.out _ hxm
      have hPX := HGR.out.perm hxm
      obtain ⟨x, hx⟩ : ∃ x, x = rs[k] := ⟨_, rfl⟩
      rw [← hx] at hob hxm hdr hxr hPX hrkc
      obtain ⟨X, hX⟩ : ∃ X, X = withF m x := ⟨_, rfl⟩
      have HXE := hid hX
      rw [← hX] at hob hPX
      obtain ⟨d, hd⟩ : ∃ d : Nat, x = (d : Int) := ⟨x.toNat, by omega⟩
      rw [hd] at hrkc
      have hdF : d < F := by rw [HF.out]; omega
      have hdz : (d : Int) < (F : Int) := by omega
      have HXD := hid hd
      have HXM := hid hxm
      have HDR := hid hdr
      have HPX := hid hPX
      have HOB := hid hob
      have hclF := HFL.out.cellAt d (by omega)
      have hv1 : ∀ T : Bool, D.contains (d : Int) = T → (vB (flagsOf F D))[d]? = some (.bool T) := fun T e => by rw [← e]; simp [vB, flagsOf_get hdF]
      have HV1 := hid hv1
      clear hcel hmem hnem hcb hob hxm hdr hxr hPX hX hx hd hv1 hrk1
      cases hT : D.contains (d : Int)
      case true =>
        rw [HV1.out _ hT] at hclF
        have HZ2 : Hid (CL ++ clsG m rs D (rs.drop (k + 1)) = Z) := hid (by have := HZE.out; rwa [HDR.out, clsG_has (by rw [HXD.out]; exact hT)] at this)
        clear hT
        go_wp2_with fail
        go_roundw
        case rel => exact ⟨k + 1, es, CL, D, by omega, by go_num, by omega, HO, HDI, HFL, HZ2, HE1⟩
        case measure => simp only [intOf]; omega
      rw [HV1.out _ hT] at hclF
      have HZ2 : Hid (CL ++ listedU (clsR m rs x) F :: clsG m rs (D ++ clsR m rs x) (rs.drop (k + 1)) = Z) := hid (by have := HZE.out; rwa [HDR.out, clsG_new (by rw [HXD.out]; exact hT), ← HF.out] at this)
      obtain ⟨wo, rfl⟩ : ∃ wo : World, wo = wr := ⟨_, rfl⟩
      have hSl := flags_lt HFL.out
      clear hT
      go_wp2_with (at_make; refine wpList_make_full _ rfl _ _ 80 rfl wo.heap.size 4 ib (.bool false) 1 Try.underlying80 hib hib0 hib1 _ _ _ _ F rfl rfl rfl rfl (by rw [hib2]; omega) (by unfold maxLen; omega) (Nat.le_refl _) ?_)
      intro w4 hownT hgrT
      obtain ⟨T, hTe⟩ : ∃ T, T = wo.heap.size := ⟨_, rfl⟩
      have hownT : w4.ownsRow wo.heap.size 4 1 (.slice (some ⟨T, 0, none⟩) F F) F (vB (flagsOf F [])) := by rw [flagsOf_nil, ← vB_no, hTe]; exact hownT
      rw [← hTe]
      have HFT := hid hownT
      have HTW := hid hTe
      have HF4 : Hid (w4.ownsRow W.heap.size 4 1 (.slice (some ⟨S, 0, none⟩) F F) F (vB (flagsOf F D))) := hid (HFL.out.kept hgrT (.inr (fun e => by cases e)))
      have HGB4 : Hid (wo.grownBy w4 (some S)) := hid ⟨hgrT.os, hgrT.tape, hgrT.output, hgrT.size, fun b hb _ => hgrT.block b hb (fun e => by cases e)⟩
      clear hownT hgrT hTe
      go_wp2_with fail
      go_loopw [9] (fun j wr2 => ∃ (q : Nat), q ≤ rs.length ∧ j = .int .i64 q ∧ Hid (wr2.ownsRow wo.heap.size 4 1 (.slice (some ⟨T, 0, none⟩) F F) F (vB (flagsOf F ((clsR m rs x).take q)))) ∧ Hid (wr2.ownsRow W.heap.size 4 1 (.slice (some ⟨S, 0, none⟩) F F) F (vB (flagsOf F (D ++ (clsR m rs x).take q)))) ∧ Hid (wo.grownBy wr2 (some S))) (fun j _ => rs.length - (intOf j).toNat)
      case atStart => exact ⟨0, by omega, rfl, hid (by simpa using HFT.out), hid (by simpa using HF4.out), HGB4⟩
      case round =>
        obtain ⟨q, hq, rfl, HFT, HFL2, HGB⟩ := hrel
        have HE2 : Hid (Ext W.heap.size W wr) := hid (Ext.grown (o := (.slice (some ⟨S, 0, none⟩) F F)) HE1.out HGB.out (fun k hk => by have := HSW.out; simp [Value.ownBlock] at hk; omega))
        have hSr : S < wr.heap.size := flags_lt HFL2.out
        have hTr : T < wr.heap.size := flags_lt HFT.out
        by_cases hqlt : q < rs.length
        · have hqz : (q : Int) < (rs.length : Int) := by omega
          obtain ⟨ea, hca, hoa, _⟩ := HMEM.out q hqlt
          have hkca := (HE2.out.1.cell (p := ⟨bm, om + q, none⟩) hbm).trans hca
          have hkcb := (HE2.out.1.cell (p := ⟨bm, om + k, none⟩) hbm).trans HCB.out
          have hbmr : bm < wr.heap.size := Nat.lt_of_lt_of_le hbm HE2.out.2
          have hym := List.getElem_mem hqlt
          have hPY := HGR.out.perm hym
          have hcg := clsR_get (m := m) (x := x) hqlt
          obtain ⟨Y, hY⟩ : ∃ Y, Y = withF m rs[q] := ⟨_, rfl⟩
          rw [← hY] at hoa hPY
          rw [← hY, ← HXE.out] at hcg
          have hck : rankF (conjF Y X) ∈ clsR m rs x := by
            have : rankF (conjF Y X) ∈ (clsR m rs x).take (q + 1) := by rw [hcg]; simp
            exact List.mem_of_mem_take this
          have hYl : Y.length = m := hPY.1.1
          have hXm : X.length = m := HPX.out.1.1
          have hckr := Hr.out _ (cls_mem HGR.out HXM.out _ hck)
          obtain ⟨Q1, hQ1⟩ : ∃ Q, prodF X (opF Y) = Q := ⟨_, rfl⟩
          obtain ⟨Q2, hQ2⟩ : ∃ Q, prodF Y Q1 = Q := ⟨_, rfl⟩
          have hcj : conjF Y X = Q2 := by
            unfold conjF
            rw [prod_assocL (n := m) hXm ⟨by rw [opF_len, hYl], by have := opF_rng Y; rwa [hYl] at this⟩, hQ1, hQ2]
          have hQ2l : Q2.length = m := by rw [← hcj, conjF_len, hYl]
          have hQ1p : PermL m Q1 := by rw [← hQ1]; exact HPX.out.1.prod ⟨by rw [opF_len, hYl], by have := opF_rng Y; rwa [hYl] at this⟩
          rw [hcj] at hcg hckr
          obtain ⟨d2, hd2⟩ : ∃ d2 : Nat, rankF Q2 = (d2 : Int) := ⟨(rankF Q2).toNat, by omega⟩
          rw [hd2] at hcg
          have hd2F : d2 < F := by rw [HF.out]; omega
          have hd2z : (d2 : Int) < (F : Int) := by omega
          have HQ1 := hid hQ1
          have HQ2 := hid hQ2
          have HD2 := hid hd2
          have HCG := hid hcg
          have HYR : Hid (∀ y ∈ Y, 0 ≤ y ∧ y < (Y.length : Int)) := hid (by rw [hYl]; exact hPY.1.2)
          have HOR : Hid (∀ y ∈ opF Y, 0 ≤ y ∧ y < (X.length : Int)) := hid (by have := opF_rng Y; rw [hXm]; rwa [hYl] at this)
          have HQR : Hid (∀ y ∈ Q1, 0 ≤ y ∧ y < (Y.length : Int)) := hid (by rw [hYl]; exact hQ1p.2)
          have hol : (opF Y).length ≤ 6 := by rw [opF_len]; omega
          have hQ1l : Q1.length ≤ 6 := by rw [hQ1p.1]; exact hm6
          have hQ2l6 : Q2.length ≤ 6 := by omega
          have rYw : rdI wr ea Y := hoa.rd.below HE2.out.1
          have rXw : rdI wr eb X := HOB.out.rd.below HE2.out.1
          have hY6 : Y.length ≤ 6 := by omega
          have hY0 : 0 < Y.length := by omega
          clear hca hoa hym hPY hY hcg hck hckr hQ1 hQ2 hcj hQ1p hd2
          go_wp2_with fail
          (refine wp_region_held_drew (S := (fun w' => (∀ b o, b < wr.heap.size → w'.cell? ⟨b, o, none⟩ = wr.cell? ⟨b, o, none⟩) ∧ wr.heap.size ≤ w'.heap.size)) (by kernel_rfl) ?_ (fun hHeld => ?_); focus ((try dsimp only); ((repeat (with_reducible first | exact held_refl | apply held_drew | apply held_aft | apply held_alloc | apply held_set | exact Nat.le_refl _ | apply le_aft | apply le_alloc | apply le_set | apply le_drew)))))
          (refine wpAnyH_take (i := 0) (oi := ?ho1) (v := ?hv1) ?hi1 (by kernel_rfl) (by kernel_rfl) (by kernel_rfl) ?hq1 ?hy1 (by assumption) ?hr1; (case hi1 => (simp only [List.getElem?_toArray, List.getElem?_cons_succ, List.getElem?_cons_zero]; first | done | rfl)); (case hq1 => exact fun _ _ _ h => h); (case hy1 => (refine Or.inl ⟨by rfl, ?_⟩; intro w hSw; (try dsimp only at hSw); go_simp; first | done | with_reducible rfl)); (try simp only [Act.put, List.setIfInBounds_toArray, List.set_cons_zero, List.set_cons_succ]))
          (refine wpAnyH_take (i := 1) (oi := ?ho2) (v := ?hv2) ?hi2 (by kernel_rfl) (by kernel_rfl) (by kernel_rfl) ?hq2 ?hy2 (by assumption) ?hr2; (case hi2 => (simp only [List.getElem?_toArray, List.getElem?_cons_succ, List.getElem?_cons_zero]; first | done | rfl)); (case hq2 => exact fun _ _ _ h => h); (case hy2 => (refine Or.inl ⟨by rfl, ?_⟩; intro w hSw; (try dsimp only at hSw); go_simp; first | done | with_reducible rfl)); (try simp only [Act.put, List.setIfInBounds_toArray, List.set_cons_zero, List.set_cons_succ]))
          (refine wpAnyH_take (i := 2) (oi := ?ho3) (v := ?hv3) ?hi3 (by kernel_rfl) (by kernel_rfl) (by kernel_rfl) ?hq3 ?hy3 (by assumption) ?hr3; (case hi3 => (simp only [List.getElem?_toArray, List.getElem?_cons_succ, List.getElem?_cons_zero]; first | done | rfl)); (case hq3 => exact fun _ _ _ h => h); (case hy3 => (refine Or.inl ⟨by rfl, ?_⟩; intro w hSw; (try dsimp only at hSw); go_simp; first | done | with_reducible rfl)); (try simp only [Act.put, List.setIfInBounds_toArray, List.set_cons_zero, List.set_cons_succ]))
          (refine wpAnyH_take (i := 3) (oi := ?ho4) (v := ?hv4) ?hi4 (by kernel_rfl) (by kernel_rfl) (by kernel_rfl) ?hq4 ?hy4 (by assumption) ?hr4; (case hi4 => (simp only [List.getElem?_toArray, List.getElem?_cons_succ, List.getElem?_cons_zero]; first | done | rfl)); (case hq4 => exact fun _ _ _ h => h); (case hy4 => (refine Or.inl ⟨by rfl, ?_⟩; intro w hSw; (try dsimp only at hSw); go_simp; first | done | with_reducible rfl)); (try simp only [Act.put, List.setIfInBounds_toArray, List.set_cons_zero, List.set_cons_succ]))
          (refine wpAnyH_take (i := 4) (oi := ?ho5) (v := ?hv5) ?hi5 (by kernel_rfl) (by kernel_rfl) (by kernel_rfl) ?hq5 ?hy5 (by assumption) ?hr5; (case hi5 => (simp only [List.getElem?_toArray, List.getElem?_cons_succ, List.getElem?_cons_zero]; first | done | rfl)); (case hq5 => exact fun _ _ _ h => h); (case hy5 => (refine Or.inl ⟨by rfl, ?_⟩; intro w hSw; (try dsimp only at hSw); go_simp; first | done | with_reducible rfl)); (try simp only [Act.put, List.setIfInBounds_toArray, List.set_cons_zero, List.set_cons_succ]))
          (refine wpAnyH_take (i := 5) (oi := ?ho6) (v := ?hv6) ?hi6 (by kernel_rfl) (by kernel_rfl) (by kernel_rfl) ?hq6 ?hy6 (by assumption) ?hr6; (case hi6 => (simp only [List.getElem?_toArray, List.getElem?_cons_succ, List.getElem?_cons_zero]; first | done | rfl)); (case hq6 => exact fun _ _ _ h => h); (case hy6 => (refine Or.inl ⟨by rfl, ?_⟩; intro w hSw; (try dsimp only at hSw); go_simp; first | done | with_reducible rfl)); (try simp only [Act.put, List.setIfInBounds_toArray, List.set_cons_zero, List.set_cons_succ]))
          (refine wpAnyH_take (i := 6) (oi := ?ho7) (v := ?hv7) ?hi7 (by kernel_rfl) (by kernel_rfl) (by kernel_rfl) ?hq7 ?hy7 (by assumption) ?hr7; (case hi7 => (simp only [List.getElem?_toArray, List.getElem?_cons_succ, List.getElem?_cons_zero]; first | done | rfl)); (case hq7 => exact fun _ _ _ h => h); (case hy7 => (refine Or.inl ⟨by rfl, ?_⟩; intro w hSw; (try dsimp only at hSw); go_simp; first | done | with_reducible rfl)); (try simp only [Act.put, List.setIfInBounds_toArray, List.set_cons_zero, List.set_cons_succ]))
          (refine wpAnyH_take (i := 7) (oi := ?ho8) (v := ?hv8) ?hi8 (by kernel_rfl) (by kernel_rfl) (by kernel_rfl) ?hq8 ?hy8 (by assumption) ?hr8; (case hi8 => (simp only [List.getElem?_toArray, List.getElem?_cons_succ, List.getElem?_cons_zero]; first | done | rfl)); (case hq8 => exact fun _ _ _ h => h); (case hy8 => (refine Or.inl ⟨by rfl, ?_⟩; intro w hSw; (try dsimp only at hSw); go_simp; first | done | with_reducible rfl)); (try simp only [Act.put, List.setIfInBounds_toArray, List.set_cons_zero, List.set_cons_succ]))
          (refine wpAnyH_take (i := 8) (oi := ?ho9) (v := ?hv9) ?hi9 (by kernel_rfl) (by kernel_rfl) (by kernel_rfl) ?hq9 ?hy9 (by assumption) ?hr9; (case hi9 => (simp only [List.getElem?_toArray, List.getElem?_cons_succ, List.getElem?_cons_zero]; first | done | rfl)); (case hq9 => exact fun _ _ _ h => h); (case hy9 => (refine Or.inl ⟨by rfl, ?_⟩; intro w hSw; (try dsimp only at hSw); go_simp; first | done | with_reducible rfl)); (try simp only [Act.put, List.setIfInBounds_toArray, List.set_cons_zero, List.set_cons_succ]))
          (refine wpAnyH_take (i := 9) (oi := ?ho10) (v := ?hv10) ?hi10 (by kernel_rfl) (by kernel_rfl) (by kernel_rfl) ?hq10 ?hy10 (by assumption) ?hr10; (case hi10 => (simp only [List.getElem?_toArray, List.getElem?_cons_succ, List.getElem?_cons_zero]; first | done | rfl)); (case hq10 => exact fun _ _ _ h => h); (case hy10 => (refine Or.inl ⟨by rfl, ?_⟩; intro w hSw; (try dsimp only at hSw); go_simp; first | done | with_reducible rfl)); (try simp only [Act.put, List.setIfInBounds_toArray, List.set_cons_zero, List.set_cons_succ]))
          (refine wpAnyH_take (i := 10) (oi := ?ho11) (v := ?hv11) ?hi11 (by kernel_rfl) (by kernel_rfl) (by kernel_rfl) ?hq11 ?hy11 (by assumption) ?hr11; (case hi11 => (simp only [List.getElem?_toArray, List.getElem?_cons_succ, List.getElem?_cons_zero]; first | done | rfl)); (case hq11 => exact fun _ _ _ h => h); (case hy11 => (refine Or.inl ⟨by rfl, ?_⟩; intro w hSw; (try dsimp only at hSw); go_simp; first | done | with_reducible rfl)); (try simp only [Act.put, List.setIfInBounds_toArray, List.set_cons_zero, List.set_cons_succ]))
          (refine wpAnyH_take (i := 11) (oi := ?ho12) (v := ?hv12) ?hi12 (by kernel_rfl) (by kernel_rfl) (by kernel_rfl) ?hq12 ?hy12 (by assumption) ?hr12; (case hi12 => (simp only [List.getElem?_toArray, List.getElem?_cons_succ, List.getElem?_cons_zero]; first | done | rfl)); (case hq12 => exact fun _ _ _ h => h); (case hy12 => (refine Or.inl ⟨by rfl, ?_⟩; intro w hSw; (try dsimp only at hSw); go_simp; first | done | with_reducible rfl)); (try simp only [Act.put, List.setIfInBounds_toArray, List.set_cons_zero, List.set_cons_succ]))
          (refine wpAnyH_ready (rs := [12]) (by decide +kernel) (by simp) ?_; refine AllReadyH.cons (o := ?ho14) ?hi14 (fun K hK => ?hr14) AllReadyH.nil; (case hi14 => (simp only [List.getElem?_toArray, List.getElem?_cons_succ, List.getElem?_cons_zero]; first | done | rfl)))
          (go_simp; go_at_call 87; refine viaI (g := id) (s_inv ea Y _ (by (repeat (with_reducible first | assumption | apply rdI.aft | apply rdI.alloc | apply rdI.drew | apply rdI.drewN)); done) hY6 hY0 HYR.out) ?_; intro t3 u3 z3 own3; (try simp at z3); have rd3 := own3.rd; go_wp2_with fail)
          (refine hK.out _ _ ?_ (fun hHeld => ?_); focus ((try dsimp only); ((repeat (with_reducible first | exact held_refl | apply held_drew | apply held_aft | apply held_alloc | apply held_set | exact Nat.le_refl _ | apply le_aft | apply le_alloc | apply le_set | apply le_drew)))))
          (clear hK K; (try simp only [Act.put, List.setIfInBounds_toArray, List.set_cons_zero, List.set_cons_succ]))
          (refine wpAnyH_ready (rs := [13]) (by decide +kernel) (by simp) ?_; refine AllReadyH.cons (o := ?ho15) ?hi15 (fun K hK => ?hr15) AllReadyH.nil; (case hi15 => (simp only [List.getElem?_toArray, List.getElem?_cons_succ, List.getElem?_cons_zero]; first | done | rfl)))
          (go_simp; go_at_call 86; refine viaI (g := id) (s_prodE _ _ X (opF Y) Q1 _ (by (repeat (with_reducible first | assumption | apply rdI.aft | apply rdI.alloc | apply rdI.drew | apply rdI.drewN)); done) (by (repeat (with_reducible first | assumption | apply rdI.aft | apply rdI.alloc | apply rdI.drew | apply rdI.drewN)); done) HOR.out hol HQ1.out) ?_; intro t4 u4 z4 own4; (try simp at z4); have rd4 := own4.rd; go_wp2_with fail)
          (refine hK.out _ _ ?_ (fun hHeld => ?_); focus ((try dsimp only); ((repeat (with_reducible first | exact held_refl | apply held_drew | apply held_aft | apply held_alloc | apply held_set | exact Nat.le_refl _ | apply le_aft | apply le_alloc | apply le_set | apply le_drew)))))
          (clear hK K; (try simp only [Act.put, List.setIfInBounds_toArray, List.set_cons_zero, List.set_cons_succ]))
          (refine wpAnyH_ready (rs := [14]) (by decide +kernel) (by simp) ?_; refine AllReadyH.cons (o := ?ho16) ?hi16 (fun K hK => ?hr16) AllReadyH.nil; (case hi16 => (simp only [List.getElem?_toArray, List.getElem?_cons_succ, List.getElem?_cons_zero]; first | done | rfl)))
          (go_simp; go_at_call 86; refine viaI (g := id) (s_prodE _ _ Y Q1 Q2 _ (by (repeat (with_reducible first | assumption | apply rdI.aft | apply rdI.alloc | apply rdI.drew | apply rdI.drewN)); done) (by (repeat (with_reducible first | assumption | apply rdI.aft | apply rdI.alloc | apply rdI.drew | apply rdI.drewN)); done) HQR.out hQ1l HQ2.out) ?_; intro t5 u5 z5 own5; (try simp at z5); have rd5 := own5.rd; go_wp2_with fail)
          (refine hK.out _ _ ?_ (fun hHeld => ?_); focus ((try dsimp only); ((repeat (with_reducible first | exact held_refl | apply held_drew | apply held_aft | apply held_alloc | apply held_set | exact Nat.le_refl _ | apply le_aft | apply le_alloc | apply le_set | apply le_drew)))))
          (clear hK K; (try simp only [Act.put, List.setIfInBounds_toArray, List.set_cons_zero, List.set_cons_succ]))
          (refine wpAnyH_ready (rs := [15]) (by decide +kernel) (by simp) ?_; refine AllReadyH.cons (o := ?ho17) ?hi17 (fun K hK => ?hr17) AllReadyH.nil; (case hi17 => (simp only [List.getElem?_toArray, List.getElem?_cons_succ, List.getElem?_cons_zero]; first | done | rfl)))
          (go_simp; go_at_call 85; refine via (s_rankE _ Q2 _ _ (by (repeat (with_reducible first | assumption | apply rdI.aft | apply rdI.alloc | apply rdI.drew | apply rdI.drewN)); done) hQ2l6 HD2.out) ?_; intro u6 z6; (try simp at z6); go_wp2_with fail)
          (refine hK.out _ _ ?_ (fun hHeld => ?_); focus ((try dsimp only); ((repeat (with_reducible first | exact held_refl | apply held_drew | apply held_aft | apply held_alloc | apply held_set | exact Nat.le_refl _ | apply le_aft | apply le_alloc | apply le_set | apply le_drew)))))
          (clear hK K; (try simp only [Act.put, List.setIfInBounds_toArray, List.set_cons_zero, List.set_cons_succ]))
          (refine wpAnyH_take (i := 16) (oi := ?ho13) (v := ?hv13) ?hi13 (by kernel_rfl) (by kernel_rfl) (by kernel_rfl) ?hq13 ?hy13 (by assumption) ?hr13; (case hi13 => (simp only [List.getElem?_toArray, List.getElem?_cons_succ, List.getElem?_cons_zero]; first | done | rfl)); (case hq13 => exact fun _ _ _ h => h); (case hy13 => (refine Or.inl ⟨by rfl, ?_⟩; intro w hSw; (try dsimp only at hSw); go_simp; first | done | with_reducible rfl)); (try simp only [Act.put, List.setIfInBounds_toArray, List.set_cons_zero, List.set_cons_succ]))
          (refine wpAnyH_done (by kernel_rfl) ?_ _)
          obtain ⟨V, hV⟩ : ∃ V, V = aft (aft (aft (aft wr.drew u3) u4) u5) u6 := ⟨_, rfl⟩
          have HBV : Hid (Ext wr.heap.size wr V) := hid (by rw [hV]; exact (((((Ext.refl wr).drew).aft _).aft _).aft _).aft _)
          rw [← hV]
          have HFTV := hid (owns_kept HFT.out (w' := V) fun k hk _ => HBV.out.1.block k hk)
          have HFLV := hid (owns_kept HFL2.out (w' := V) fun k hk _ => HBV.out.1.block k hk)
          have HGV : Hid (wo.grownBy V (some S)) := hid (grownBy_trans HGB.out ⟨HBV.out.1.os, HBV.out.1.tape, HBV.out.1.output, HBV.out.1.size, fun k hk _ => HBV.out.1.block k hk⟩)
          have hclT := HFTV.out.cellAt d2 (by omega)
          have hfrT := HFTV.out.frozenAt d2
          have hclS := HFLV.out.cellAt d2 (by omega)
          have hfrS := HFLV.out.frozenAt d2
          have hvT : (vB (flagsOf F ((clsR m rs x).take q)))[d2]? = some (.bool (((clsR m rs x).take q).contains (d2 : Int))) := by simp [vB, flagsOf_get hd2F]
          have hvS : (vB (flagsOf F (D ++ (clsR m rs x).take q)))[d2]? = some (.bool ((D ++ (clsR m rs x).take q).contains (d2 : Int))) := by simp [vB, flagsOf_get hd2F]
          rw [hvT] at hclT
          rw [hvS] at hclS
          obtain ⟨bT, hbT⟩ : ∃ b, b = ((clsR m rs x).take q).contains (d2 : Int) := ⟨_, rfl⟩
          obtain ⟨bS, hbS⟩ : ∃ b, b = (D ++ (clsR m rs x).take q).contains (d2 : Int) := ⟨_, rfl⟩
          rw [← hbT] at hclT
          rw [← hbS] at hclS
          have hTS : ¬ T = S := by have := HTW.out; omega
          have hST : ¬ S = T := by omega
          have hst := HFTV.out.stored d2 (.bool true)
          rw [flags_step hd2F, ← HCG.out] at hst
          have hS1 := HFLV.out.kept hst.2 (.inr (fun e => hST (by injection e)))
          have hst2 := hS1.stored d2 (.bool true)
          rw [flags_step hd2F, List.append_assoc, ← HCG.out] at hst2
          have hT2 := hst.1.kept hst2.2 (.inr (fun e => hTS (by injection e)))
          have HT2 := hid hT2
          have HS2 := hid hst2.1
          have HG2 : Hid (wo.grownBy ((V.setCell ⟨T, d2, none⟩ (.bool true)).setCell ⟨S, d2, none⟩ (.bool true)) (some S)) := hid (grownBy_trans (grown_newC HGV.out hst.2 (fun k hk => by injection hk with hk; have := HTW.out; omega)) hst2.2)
          clear hV hst hst2 hT2 hS1 hbT hbS hvT hvS own3 own4 own5 rd3 rd4 rd5 z3 z4 z5 z6 rYw rXw
          go_wp2_with fail
          go_roundw
          case rel => exact ⟨q + 1, by omega, by go_num, HT2, HS2, HG2⟩
          case measure => simp only [intOf]; omega
        · obtain rfl : q = rs.length := by omega
          have hqz : ¬ (rs.length : Int) < (rs.length : Int) := by omega
          have htk : (clsR m rs x).take rs.length = clsR m rs x := by rw [List.take_of_length_le (by rw [clsR_len]; exact Nat.le_refl _)]
          rw [htk] at HFT HFL2
          have HOw := hid (ownE.seen HO.out HFL.out HGB.out)
          have HFF : Hid (ownF wo.heap.size wr (.slice (some ⟨T, 0, none⟩) F F) (flagsOf F (clsR m rs x))) := hid (by unfold ownF; rw [flagsOf_len]; exact HFT.out)
          have HHR : Hid (∀ e ∈ es, ∀ b, e.ownBlock = some b → b < wo.heap.size) := hid fun e he b hb => (HO.out.ge e he b hb).2
          have hWw := HE1.out.2
          have hwor := HGB.out.size
          obtain ⟨LU, hLU⟩ : ∃ LU, listedU (clsR m rs x) F = LU := ⟨_, rfl⟩
          rw [hLU] at HZ2
          have HLU := hid hLU
          clear htk hLU
          go_wp2_with fail
          refine viaI (g := id) (s_listedE wo.heap.size _ F (clsR m rs x) _ LU HFF.out ⟨by omega, by omega⟩ HLU.out) ?_
          intro v9 u9 z9 own9
          try simp at z9
          obtain ⟨a9, c9, hsh9, _, _⟩ := own9.rd
          subst hsh9
          obtain ⟨V, hV⟩ : ∃ V, V = aft wr u9 := ⟨_, rfl⟩
          have HBV : Hid (Below wr.heap.size wr V) := hid (by rw [hV]; exact below_aft wr u9)
          rw [← hV] at own9 z9 ⊢
          have HO9 := hid own9
          have HO2 := hid (HOw.out.below HBV.out)
          have HFL3 := hid (owns_kept HFL2.out (w' := V) fun k hk _ => HBV.out.block k hk)
          have HE3 : Hid (Ext W.heap.size W V) := hid ⟨HE2.out.1.trans (HBV.out.mono HE2.out.2), Nat.le_trans HE2.out.2 HBV.out.size⟩
          have hcl2 := hcl
          clear hV own9
          go_wp2_with (at_builtin; refine wpList_append_own _ rfl _ _ 37 rfl W.heap.size 24 i1 (.slice none 0 0) 1 24 Try.underlying37 hj hy0 hy1 hy2 rfl (by decide) _ _ _ rfl (HO2.out.below ((Below.refl _ _).alloc (Nat.le_refl _) _)).2.1 ⟨_, 0, none⟩ 1 1 [.slice a9 LU.length c9] rfl rfl ?c1 ?c2 ?c3 ?c4 ?c5 ?_)
          case c1 => exact one_new
          case c2 => first | exact own_one HO9.out | (intro u hu; simp at hu; subst hu; exact own_one HO9.out)
          case c3 => unfold maxLen; omega
          case c4 => omega
          case c5 => first | omega | (simp; omega)
          intro v' w3 hown' hgrow _
          have HN : Hid (ownE W.heap.size w3 v' (es ++ [.slice a9 LU.length c9]) (CL ++ [LU])) := hid (ownE.snoc (HO2.out.below ((Below.refl _ _).alloc (Nat.le_refl _) _)) ((HO9.out.mono (by omega)).alloc _) hown' hgrow)
          have HEN : Hid (Ext W.heap.size W w3) := hid (Ext.grown (HE3.out.alloc _) hgrow (ownE.row HO2.out))
          have HFN : Hid (w3.ownsRow W.heap.size 4 1 (.slice (some ⟨S, 0, none⟩) F F) F (vB (flagsOf F (D ++ clsR m rs x)))) := hid (by
            have h9 := HFL3.out.alloc (.cells #[Value.slice a9 LU.length c9] 24)
            exact h9.kept hgrow (.inr fun e => rows_apart (by decide) h9 (HO2.out.below ((Below.refl _ _).alloc (Nat.le_refl _) _)).2.1 S rfl e.symm))
          have HDN : Hid (distR (es ++ [.slice a9 LU.length c9])) := hid (distR_snoc HDI.out fun e he b hb hb2 => by
            have := HHR.out e he b hb
            have := own_row_ge HO9.out b hb2
            omega)
          have HZ3 : Hid ((CL ++ [LU]) ++ clsG m rs (D ++ clsR m rs x) (rs.drop (k + 1)) = Z) := hid (by rw [List.append_assoc]; exact HZ2.out)
          clear hown' hgrow
          go_wp2_with fail
          go_roundw
          case rel => exact ⟨k + 1, _, CL ++ [LU], D ++ clsR m rs x, by omega, by go_num, by simp; omega, HN, HDN, HFN, HZ3, HEN⟩
          case measure => simp only [intOf]; omega
    · obtain rfl : k = rs.length := by omega
      have hltz : ¬ (rs.length : Int) < (rs.length : Int) := by omega
      have hz := HZE.out
      rw [List.drop_length, show clsG m rs D [] = [] from rfl, List.append_nil] at hz
      subst hz
      obtain ⟨av, cv, hshv⟩ := rowShC HO.out.2.1
      subst hshv
      have hs9 := HE1.out.2
      go_wp2_with fail
      exact bodyPost_ret (v := .tuple #[.slice av CL.length cv, .int .i64 0]) (by first | (simp [results, go_sem]; done) | simp [results, go_sem, ↓IntWalk.iteOmega]) rfl ⟨_, rfl, ⟨es, HO.out.mono (by omega), HDI.out⟩, Ext.bel (HE.out.below (HE1.out.1))⟩
end Go.Proofs.Ytbkbcbanfnhjpaa
