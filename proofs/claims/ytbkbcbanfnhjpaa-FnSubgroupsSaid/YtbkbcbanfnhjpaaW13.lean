/- ClassesOf: the program's text. -/
import Derived.Test.YtbkbcbanfnhjpaaW10
import Derived.Test.YtbkbcbanfnhjpaaW12
namespace Go.Proofs.Ytbkbcbanfnhjpaa
open Go Go.RowKit

def clF (n : Int) (rs : List Int) : List (List Int) × Int := if groupB n rs = true then (clsG n.toNat rs [] rs, 0) else ([], 1)
theorem group_grp {m : Nat} {rs : List Int} (h : groupB m rs = true) : GrpR m rs := by
  obtain ⟨m', e, hm1, hm6, hne, hhd, hr, hpw, hcl⟩ := group_facts h
  have : m' = m := by omega
  subst this
  refine ⟨hm6, hr, hpw, ?_, fun x hx y hy => ?_⟩
  · rcases rs with _ | ⟨z, t⟩
    · exact absurd rfl hne
    · simp at hhd; subst hhd; simp
  · unfold groupB at h
    simp only [Bool.and_eq_true] at h
    have h4 := h.2
    unfold closedB at h4
    rw [List.all_eq_true] at h4
    have := h4 x hx
    rw [List.all_eq_true] at this
    have := this y hy
    rw [List.contains_eq_mem, decide_eq_true_eq, Int.toNat_natCast] at this
    exact this
theorem sort_nodup {nl cs : List Int} {F : Nat} (hn : nl.Nodup) (hr : ∀ x ∈ nl, 0 ≤ x ∧ x < (F : Int)) (he : ∀ x, x ∈ nl ↔ x ∈ cs) : (nl.mergeSort fun x y => decide (x ≤ y)) = listedU cs F := by
  have hs : (nl.mergeSort fun x y => decide (x ≤ y)).Pairwise (· ≤ ·) := by
    have := List.pairwise_mergeSort (le := fun (x y : Int) => decide (x ≤ y)) (by intro a b c h1 h2; simp at *; omega) (by intro a b; simp; omega) nl
    exact this.imp fun h => by simpa using h
  have hp := List.mergeSort_perm nl fun x y => decide (x ≤ y)
  have hn2 : (nl.mergeSort fun x y => decide (x ≤ y)).Nodup := hp.nodup_iff.2 hn
  have ha : (nl.mergeSort fun x y => decide (x ≤ y)).Pairwise (· < ·) := (List.Pairwise.and hs hn2).imp fun h => by have := h.1; have := h.2; omega
  exact (listedU_self ha (fun x hx => hr x (hp.mem_iff.1 hx)) (fun x => by rw [hp.mem_iff]; exact he x)).symm
/-- What is done is a union of classes. -/
def doneOk (m : Nat) (rs D : List Int) : Prop := ∀ d ∈ D, ∃ y ∈ rs, d ∈ clsR m rs y ∧ ∀ z ∈ clsR m rs y, z ∈ D
theorem doneOk.nil (m : Nat) (rs : List Int) : doneOk m rs [] := fun d hd => by simp at hd
theorem doneOk.add {m : Nat} {rs D : List Int} {x : Int} (h : doneOk m rs D) (hx : x ∈ rs) : doneOk m rs (D ++ clsR m rs x) := fun d hd => by
  rcases List.mem_append.1 hd with hd | hd
  · obtain ⟨y, hy, h1, h2⟩ := h d hd
    exact ⟨y, hy, h1, fun z hz => List.mem_append_left _ (h2 z hz)⟩
  · exact ⟨x, hx, hd, fun z hz => List.mem_append_right _ hz⟩
theorem doneOk.apart {m : Nat} {rs D : List Int} {x : Int} (h : doneOk m rs D) (hg : GrpR m rs) (hx : x ∈ rs) (hn : ¬ x ∈ D) : ∀ k ∈ clsR m rs x, ¬ k ∈ D := fun k hk hd => by
  obtain ⟨y, hy, h1, h2⟩ := h k hd
  exact hn (h2 x (cls_meet hg hx hy hk h1))
theorem clsR_len (m : Nat) (rs : List Int) (x : Int) : (clsR m rs x).length = rs.length := by simp [clsR]
theorem clsR_get {m : Nat} {rs : List Int} {x : Int} {q : Nat} (h : q < rs.length) : (clsR m rs x).take (q + 1) = (clsR m rs x).take q ++ [rankF (conjF (withF m rs[q]) (withF m x))] := by
  rw [take_snocI _ _ (by rw [clsR_len]; exact h)]
  simp [clsR]
theorem distR_snoc {es : List Value} {v : Value} (h : distR es) (hv : ∀ e ∈ es, ∀ k, e.ownBlock = some k → v.ownBlock ≠ some k) : distR (es ++ [v]) := by
  intro i j e f k hij he hf hk
  have hjl := (List.getElem?_eq_some_iff.1 hf).1
  simp at hjl
  have hil : i < es.length := by omega
  rw [List.getElem?_append_left hil] at he
  by_cases hj : j < es.length
  · rw [List.getElem?_append_left hj] at hf
    exact h i j e f k hij he hf hk
  · have : j = es.length := by omega
    subst this
    rw [List.getElem?_append_right (Nat.le_refl _), Nat.sub_self] at hf
    simp at hf
    subst hf
    exact hv e (List.mem_of_getElem? he) k hk

theorem rowShC {B T n : Nat} {w : World} {v : Value} {cs : List Value} (h : w.ownsRow B T 1 v n cs) : ∃ a c, v = .slice a n c := by
  rcases h.2 with ⟨e, hn⟩ | ⟨g, cap, cur, e, _⟩
  · subst hn; exact ⟨_, _, e⟩
  · exact ⟨_, _, e⟩
theorem grown_newC {wo w w' : World} {row own : Option Nat} (h : wo.grownBy w row) (h2 : w.grownBy w' own) (ho : ∀ k, own = some k → wo.heap.size ≤ k) : wo.grownBy w' row :=
  ⟨h2.os.trans h.os, h2.tape.trans h.tape, h2.output.trans h.output, Nat.le_trans h.size h2.size, fun k hk hne => (h2.block k (Nat.lt_of_lt_of_le hk h.size) (fun e => absurd (ho k e.symm) (by omega))).trans (h.block k hk hne)⟩
set_option maxRecDepth 20000 in
set_option maxHeartbeats 16000000 in
theorem i_ClassesOf (n : Int) (r : Value) (rs : List Int) (w : World) (h : rdI w r rs) (hl : rs.length ≤ 1048576) :
    Calls Try.prog 34 #[.agg #[.int .i64 n, r]] w fun e w' => ∃ v, e = .returned (.tuple #[v, .int .i64 (clF n rs).2]) ∧ (∃ es, ownE w.heap.size w' v es (clF n rs).1 ∧ distR es) ∧ Below w.heap.size w w' := by
  have hR := h.alloc (Obj.cells #[.int .i64 n, r] 26)
  cases hg : groupB n rs
  · have e : clF n rs = ([], 1) := by simp [clF, hg]
    rw [e]; clear e
    have HG := hid hg
    clear hg
    go_enter Try.func34, Try.ntmps34
    go_wp2_with (first | (go_at_call 43; refine via (i_IsGroupE n _ rs _ false hR hl HG.out) ?_; intro uu zz; try simp at zz))
    exact bodyPost_ret (v := .tuple #[.slice none 0 0, .int .i64 1]) (by first | (simp [results, go_sem]; done) | simp [results, go_sem, ↓IntWalk.iteOmega]) rfl ⟨_, rfl, ⟨[], ownE.nil _ _, fun i j e f k _ he => by simp at he⟩, (by refine Ext.bel ?_; repeat (with_reducible first | exact Ext.refl _ | apply Ext.alloc | apply Ext.aft | apply Ext.drew | apply Ext.drewN | apply Ext.setCell | exact Nat.le_add_right _ _ | exact Nat.le_refl _ | (simp; done) | omega))⟩
  obtain ⟨m, rfl, hm1, hm6, hne, hhd, hr, hpw, _⟩ := group_facts hg
  have hl7 : rs.length ≤ 720 := Nat.le_trans (asc_len hpw hr) (facN_le hm6)
  have hgrp := group_grp hg
  obtain ⟨Z, hZ⟩ : ∃ Z, clsG m rs [] rs = Z := ⟨_, rfl⟩
  have e : clF m rs = (Z, 0) := by unfold clF; rw [if_pos hg]; simp only [Int.toNat_natCast]; rw [hZ]
  rw [e]; clear e
  have HG := hid hg
  have Hr := hid hr
  have HGR := hid hgrp
  have HZ := hid hZ
  obtain ⟨ib, hib, hib0, hib1, hib2⟩ := info_parts infoB
  obtain ⟨i1, hj, hy0, hy1, hy2⟩ := info_parts infoS
  obtain ⟨i0, hi, hz0, hz1, hz2⟩ := info_parts infoI
  have hf := facN_pos m
  have hf7 := facN_le hm6
  obtain ⟨F, hF⟩ : ∃ F, F = facN m := ⟨_, rfl⟩
  have HF := hid hF
  rw [← hF] at hf hf7
  clear hg hr hpw hhd hgrp hZ hF
  go_enter Try.func34, Try.ntmps34
  go_wp2_with (first | (go_at_call 43; refine via (i_IsGroupE (m : Int) _ rs _ true hR hl HG.out) ?_; intro uu zz; try simp at zz))
  refine viaX (g := id) (i_members m _ rs _ (hR.aft _) hm6 Hr.out (by omega)) ?_
  intro v2 u2 z2 own2
  try simp at z2
  obtain ⟨W, hW⟩ : ∃ W, W = aft (aft (w.alloc (Obj.cells #[.int .i64 (m : Int), r] 26)) uu) u2 := ⟨_, rfl⟩
  have HE : Hid (Ext w.heap.size w W) := hid (by rw [hW]; exact (by repeat (with_reducible first | exact Ext.refl _ | apply Ext.alloc | apply Ext.aft | apply Ext.drew | apply Ext.drewN | apply Ext.setCell | exact Nat.le_add_right _ _ | exact Nat.le_refl _ | (simp; done) | omega)))
  have c0 : W.cell? ⟨w.heap.size, 0, none⟩ = some (.int .i64 (m : Int)) := by rw [hW]; simp [go_sem, ↓IntWalk.iteOmega]
  have own2' := own2.rd
  rw [← hW] at own2' ⊢
  obtain ⟨am, cm, hv2, hmm, hcm⟩ := own2'
  rw [memF_len] at hv2 hmm
  subst hv2
  have Hcm := hid hcm
  have hb0 := World.block_lt_of_cell? W _ c0
  simp only at hb0
  clear hW own2 hR hcm hmm z2 zz
  go_wp2_with (first | (go_at_call 90; refine pur (i_fact m _ hm6) ?_; rw [← HF.out]) | (at_make; refine wpList_make_full _ rfl _ _ 80 rfl W.heap.size 4 ib (.bool false) 1 Try.underlying80 hib hib0 hib1 _ _ _ _ F rfl rfl rfl rfl (by rw [hib2]; omega) (by unfold maxLen; omega) (Nat.le_refl _) ?_))
  intro w1 hown hgr
  obtain ⟨S, hS⟩ : ∃ S, S = W.heap.size := ⟨_, rfl⟩
  have hown : w1.ownsRow W.heap.size 4 1 (.slice (some ⟨S, 0, none⟩) F F) F (vB (flagsOf F [])) := by rw [flagsOf_nil, ← vB_no, hS]; exact hown
  rw [← hS]
  have HE0 : Hid (Ext W.heap.size W w1) := hid ⟨Below.grown (Below.refl _ _) hgr (Nat.le_refl _) (fun k hk => by cases hk), hgr.size⟩
  have HO := hid hown
  have HSW : Hid (S = W.heap.size) := hid hS
  clear hown hgr hS
  go_wp2_with fail
  go_loopw [6, 24] (fun v i wr => ∃ (k : Nat) (es : List Value) (CL : List (List Int)) (D : List Int), k ≤ rs.length ∧ i = .int .i64 k ∧ CL.length ≤ k ∧ Hid (ownE W.heap.size wr v es CL) ∧ Hid (distR es) ∧ Hid (wr.ownsRow W.heap.size 4 1 (.slice (some ⟨S, 0, none⟩) F F) F (vB (flagsOf F D))) ∧ Hid (doneOk m rs D) ∧ Hid (CL ++ clsG m rs D (rs.drop k) = Z) ∧ Hid (Ext W.heap.size W wr)) (fun _ i _ => rs.length - (intOf i).toNat)
  case atStart => exact ⟨0, [], [], [], by omega, rfl, by simp, hid (ownE.nil _ _), hid (fun i j e f k _ he => by simp at he), HO, hid (doneOk.nil m rs), hid (by rw [List.drop_zero, List.nil_append]; exact HZ.out), HE0⟩
  case round =>
    obtain ⟨k, es, CL, D, hk, rfl, hcl, HO, HDI, HFL, HDO, HZE, HE1⟩ := hrel
    by_cases hlt : k < rs.length
    · have hltz : (k : Int) < (rs.length : Int) := by omega
      have hnem : memF m rs ≠ [] := by intro e; have := memF_len m rs; rw [e] at this; simp at this; omega
      obtain ⟨bm, om, rfl, hcel⟩ := Hcm.out hnem
      have hmem : ∀ i, (hi : i < rs.length) → ∃ e1, W.cell? ⟨bm, om + i, none⟩ = some e1 ∧ ownR 0 W e1 (withF m rs[i]) ∧ bm < W.heap.size := fun i hi => by
        obtain ⟨e1, q1, q2⟩ := hcel i (by rw [memF_len]; exact hi)
        have em1 : (memF m rs)[i]'(by rw [memF_len]; exact hi) = withF m rs[i] := by simp [memF]
        rw [em1] at q2
        have := World.block_lt_of_cell? W _ q1
        exact ⟨e1, q1, q2, this⟩
      have HMEM := hid hmem
      obtain ⟨eb, hcb, hob, hbm⟩ := hmem k hlt
      have hkc := (HE1.out.1.cell (p := ⟨bm, om + k, none⟩) hbm).trans hcb
      have hxm := List.getElem_mem hlt
      have hdr : rs.drop k = rs[k] :: rs.drop (k + 1) := List.drop_eq_getElem_cons hlt
      have hxr := Hr.out _ hxm
      have hPX := HGR.out.perm hxm
      have hrkx := HGR.out.rank hxm
      obtain ⟨x, hx⟩ : ∃ x, x = rs[k] := ⟨_, rfl⟩
      rw [← hx] at hob hxm hdr hxr hPX hrkx
      obtain ⟨X, hX⟩ : ∃ X, X = withF m x := ⟨_, rfl⟩
      have HXE := hid hX
      rw [← hX] at hob hPX hrkx
      obtain ⟨d, hd⟩ : ∃ d : Nat, x = (d : Int) := ⟨x.toNat, by omega⟩
      have hdF : d < F := by rw [HF.out]; omega
      have hdz : (d : Int) < (F : Int) := by omega
      have HRK : Hid (rankF X = (d : Int)) := hid (by rw [hrkx]; exact hd)
      have HXD := hid hd
      have HXM := hid hxm
      have HDR := hid hdr
      have HPX := hid hPX
      have HOB := hid hob
      have hXl : X.length ≤ 6 := by rw [hPX.1.1]; exact hm6
      have hclF := HFL.out.cellAt d (by omega)
      have hv1 : ∀ T : Bool, D.contains (d : Int) = T → (vB (flagsOf F D))[d]? = some (.bool T) := fun T e => by rw [← e]; simp [vB, flagsOf_get hdF]
      have HV1 := hid hv1
      have HOBW := hid (hob.below HE1.out.1)
      clear hcel hmem hnem hcb hob hxm hdr hxr hPX hrkx hX hx hd hv1
      cases hT : D.contains (d : Int)
      case true =>
        rw [HV1.out _ hT] at hclF
        have HZ2 : Hid (CL ++ clsG m rs D (rs.drop (k + 1)) = Z) := hid (by have := HZE.out; rwa [HDR.out, clsG_has (by rw [HXD.out]; exact hT)] at this)
        clear hT
        go_wp2_with (go_at_call 91; refine pur (i_rankE 0 _ X _ _ HOBW.out hXl HRK.out) ?_)
        go_roundw
        case rel => exact ⟨k + 1, es, CL, D, by omega, by go_num, by omega, HO, HDI, HFL, HDO, HZ2, HE1⟩
        case measure => simp only [intOf]; omega
      rw [HV1.out _ hT] at hclF
      have HZ2 : Hid (CL ++ listedU (clsR m rs x) F :: clsG m rs (D ++ clsR m rs x) (rs.drop (k + 1)) = Z) := hid (by have := HZE.out; rwa [HDR.out, clsG_new (by rw [HXD.out]; exact hT), ← HF.out] at this)
      have hxn : ¬ x ∈ D := by rw [HXD.out]; rw [List.contains_eq_mem] at hT; simpa using hT
      have HAP := hid (HDO.out.apart HGR.out HXM.out hxn)
      have HDO2 := hid (HDO.out.add HXM.out)
      obtain ⟨wo, rfl⟩ : ∃ wo : World, wo = wr := ⟨_, rfl⟩
      have hSl := flags_lt HFL.out
      clear hT hxn
      go_wp2_with (go_at_call 91; refine pur (i_rankE 0 _ X _ _ HOBW.out hXl HRK.out) ?_)
      go_loopw [9, 35] (fun v j wr2 => ∃ (q : Nat) (nl : List Int), q ≤ rs.length ∧ j = .int .i64 q ∧ nl.length ≤ q ∧ Hid (ownR wo.heap.size wr2 v nl) ∧ Hid nl.Nodup ∧ Hid (∀ z, z ∈ nl ↔ z ∈ (clsR m rs x).take q) ∧ Hid (wr2.ownsRow W.heap.size 4 1 (.slice (some ⟨S, 0, none⟩) F F) F (vB (flagsOf F (D ++ (clsR m rs x).take q)))) ∧ Hid (wo.grownBy wr2 (some S))) (fun _ j _ => rs.length - (intOf j).toNat)
      case atStart => exact ⟨0, [], by omega, rfl, by simp, hid (ownR.nil _ _), hid List.nodup_nil, hid (fun z => by simp), hid (by simpa using HFL.out), hid (grownBy_refl _ _)⟩
      case round =>
        obtain ⟨q, nl, hq, rfl, hnl, HNL, HND, HIN, HFL2, HGB⟩ := hrel
        have HE2 : Hid (Ext W.heap.size W wr) := hid (Ext.grown (o := (.slice (some ⟨S, 0, none⟩) F F)) HE1.out HGB.out (fun k hk => by have := HSW.out; simp [Value.ownBlock] at hk; omega))
        have hSr : S < wr.heap.size := flags_lt HFL2.out
        by_cases hqlt : q < rs.length
        · have hqz : (q : Int) < (rs.length : Int) := by omega
          obtain ⟨ea, hca, hoa, _⟩ := HMEM.out q hqlt
          have hkca := (HE2.out.1.cell (p := ⟨bm, om + q, none⟩) hbm).trans hca
          have hym := List.getElem_mem hqlt
          have hPY := HGR.out.perm hym
          have hcg := clsR_get (m := m) (x := x) hqlt
          obtain ⟨Y, hY⟩ : ∃ Y, Y = withF m rs[q] := ⟨_, rfl⟩
          rw [← hY] at hoa hPY
          rw [← hY, ← HXE.out] at hcg
          have hck : rankF (conjF Y X) ∈ clsR m rs x := by
            have : rankF (conjF Y X) ∈ (clsR m rs x).take (q + 1) := by rw [hcg]; simp
            exact List.mem_of_mem_take this
          obtain ⟨C9, hC9⟩ : ∃ C9, conjF Y X = C9 := ⟨_, rfl⟩
          rw [hC9] at hcg hck
          have hckr := Hr.out _ (cls_mem HGR.out HXM.out _ hck)
          have hapk := HAP.out _ hck
          obtain ⟨d2, hd2⟩ : ∃ d2 : Nat, rankF C9 = (d2 : Int) := ⟨(rankF C9).toNat, by omega⟩
          rw [hd2] at hcg hck hapk
          have hd2F : d2 < F := by rw [HF.out]; omega
          have hd2z : (d2 : Int) < (F : Int) := by omega
          have HC9 := hid hC9
          have HD2 := hid hd2
          have HCG := hid hcg
          have HAPK := hid hapk
          have hYl : Y.length = m := hPY.1.1
          have hXm : X.length = m := HPX.out.1.1
          have hC9l : C9.length ≤ 6 := by rw [← hC9, conjF_len, hYl]; exact hm6
          have HYR : Hid (∀ y ∈ Y, 0 ≤ y ∧ y < (Y.length : Int)) := hid (by rw [hYl]; exact hPY.1.2)
          have HXR : Hid (∀ y ∈ X, 0 ≤ y ∧ y < (Y.length : Int)) := hid (by rw [hYl]; exact HPX.out.1.2)
          have HRA := hid (hoa.rd.below HE2.out.1)
          have HRB := hid (HOB.out.rd.below HE2.out.1)
          have hY6 : Y.length ≤ 6 := by omega
          have hY0 : 0 < Y.length := by omega
          have hXY : X.length = Y.length := by omega
          have hxin : (nl.contains (d2 : Int) = (D ++ (clsR m rs x).take q).contains (d2 : Int)) := by
            rw [Bool.eq_iff_iff, List.contains_eq_mem, List.contains_eq_mem, decide_eq_true_eq, decide_eq_true_eq, HIN.out, List.mem_append]
            exact ⟨.inr, fun h => h.elim (fun h => absurd h hapk) id⟩
          have HXIN := hid hxin
          have hv2 : ∀ T : Bool, (D ++ (clsR m rs x).take q).contains (d2 : Int) = T → (vB (flagsOf F (D ++ (clsR m rs x).take q)))[d2]? = some (.bool T) := fun T e => by rw [← e]; simp [vB, flagsOf_get hd2F]
          have HV2 := hid hv2
          clear hca hoa hym hPY hY hC9 hd2 hcg hck hckr hapk hxin hv2
          go_wp2_with fail
          refine viaI (g := id) (i_conj _ _ Y X _ C9 HRA.out HRB.out hY6 hY0 hXY HYR.out HXR.out HC9.out) ?_
          intro t1 u1 z1 own1
          try simp at z1
          obtain ⟨a1, c1, hsh1, _, _⟩ := own1.rd
          subst hsh1
          obtain ⟨V, hV⟩ : ∃ V, V = aft wr u1 := ⟨_, rfl⟩
          have HBV : Hid (Below wr.heap.size wr V) := hid (by rw [hV]; exact below_aft wr u1)
          rw [← hV] at own1 z1 ⊢
          have HOW1 := hid own1
          have HFV := hid (owns_kept HFL2.out (w' := V) fun k hk _ => HBV.out.block k hk)
          have HNV := hid (HNL.out.below HBV.out)
          have HGV : Hid (wo.grownBy V (some S)) := hid (grownBy_trans HGB.out ⟨HBV.out.os, HBV.out.tape, HBV.out.output, HBV.out.size, fun k hk _ => HBV.out.block k hk⟩)
          have hclv := HFV.out.cellAt d2 (by omega)
          have hfrv := HFV.out.frozenAt d2
          obtain ⟨av, cv, hshv⟩ := rowShC HNV.out
          subst hshv
          clear hV own1
          cases hT : (D ++ (clsR m rs x).take q).contains (d2 : Int)
          · rw [HV2.out _ hT] at hclv
            have hst := HFV.out.stored d2 (.bool true)
            rw [flags_step hd2F, List.append_assoc, ← HCG.out] at hst
            have HST := hid hst
            have hnn : ¬ (d2 : Int) ∈ nl := by
              have := HXIN.out
              rw [hT, List.contains_eq_mem] at this
              simpa using this
            have HND2 : Hid ((nl ++ [(d2 : Int)]).Nodup) := hid (by
              rw [List.nodup_append]
              exact ⟨HND.out, by simp, fun a ha b hb e => by simp at hb; subst hb; subst e; exact hnn ha⟩)
            have HIN2 : Hid (∀ z, z ∈ nl ++ [(d2 : Int)] ↔ z ∈ (clsR m rs x).take (q + 1)) := hid (fun z => by rw [HCG.out, List.mem_append, List.mem_append, HIN.out])
            have hown := HNV.out.kept (w' := V.setCell ⟨S, d2, none⟩ (.bool true)) fun k hk hb => hst.2.block k hk fun e => rows_apart (by decide) HNV.out HFV.out k hb e.symm
            have HOWN := hid hown
            have hge := hid (own_row_ge HNV.out)
            have hwoS := HGV.out.size
            clear hst hnn hT hown
            have hown := HOWN.out
            go_wp2_with (first | (go_at_call 91; refine pur (i_rankE 0 _ C9 _ _ (HOW1.out.mono (Nat.zero_le _)) hC9l HD2.out) ?_) | (at_builtin; refine wpList_append_own _ rfl _ _ 24 rfl (wo.heap.size) 2 i0 (.int .i64 0) 1 8 Try.underlying24 hi hz0 hz1 hz2 rfl (by decide) _ _ _ rfl (hown.alloc _) ⟨_, 0, none⟩ 1 1 [.int .i64 ((d2 : Int))] rfl rfl ?c1 ?c2 ?c3 ?c4 ?c5 ?_))
            case c1 =>
              have e : V.heap.size = (V.setCell ⟨S, d2, none⟩ (.bool true)).heap.size := by simp [World.setCell]
              rw [e]
              exact cell_one_new _ _ _
            case c2 => first | rfl | (intro u hu; simp at hu; subst hu; rfl)
            case c3 => unfold maxLen; omega
            case c4 => omega
            case c5 => first | omega | (simp; omega)
            intro v' w2 hown' hgrow _
            have HG1 : Hid (wo.grownBy w2 (some S)) := hid (grown_newC (grownBy_trans (grownBy_trans HGV.out HST.out.2) (World.grownBy_alloc _ _ _)) hgrow hge.out)
            have HFN : Hid (w2.ownsRow W.heap.size 4 1 (.slice (some ⟨S, 0, none⟩) F F) F (vB (flagsOf F (D ++ (clsR m rs x).take (q + 1))))) := hid (by
              have h9 := HST.out.1.alloc (.cells #[Value.int .i64 (d2 : Int)] 2)
              exact h9.kept hgrow (.inr fun e => by have := hge.out S e.symm; omega))
            have HNN : Hid (ownR wo.heap.size w2 v' (nl ++ [(d2 : Int)])) := hid (ownR.snoc hown')
            clear hown' hgrow hown
            go_wp2_with fail
            go_roundw
            case rel => exact ⟨q + 1, nl ++ [(d2 : Int)], by omega, by go_num, by simp; omega, HNN, HND2, HIN2, HFN, HG1⟩
            case measure => simp only [intOf]; omega
          · rw [HV2.out _ hT] at hclv
            have hin : (d2 : Int) ∈ nl := by
              have := HXIN.out
              rw [hT, List.contains_eq_mem] at this
              simpa using this
            have hfs : flagsOf F (D ++ (clsR m rs x).take (q + 1)) = flagsOf F (D ++ (clsR m rs x).take q) := flagsOf_congr fun z => by
              rw [HCG.out, List.mem_append, List.mem_append, List.mem_append]
              exact ⟨fun h => h.elim .inl fun h => h.elim .inr fun h => by simp at h; subst h; exact .inr ((HIN.out _).1 hin), fun h => h.elim .inl fun h => .inr (.inl h)⟩
            have HFN : Hid (V.ownsRow W.heap.size 4 1 (.slice (some ⟨S, 0, none⟩) F F) F (vB (flagsOf F (D ++ (clsR m rs x).take (q + 1))))) := hid (by rw [hfs]; exact HFV.out)
            have HIN2 : Hid (∀ z, z ∈ nl ↔ z ∈ (clsR m rs x).take (q + 1)) := hid (fun z => by
              rw [HCG.out, List.mem_append, ← HIN.out]
              exact ⟨.inl, fun h => h.elim id fun h => by simp at h; subst h; exact hin⟩)
            clear hT hin hfs
            go_wp2_with (go_at_call 91; refine pur (i_rankE 0 _ C9 _ _ (HOW1.out.mono (Nat.zero_le _)) hC9l HD2.out) ?_)
            go_roundw
            case rel => exact ⟨q + 1, nl, by omega, by go_num, by omega, HNV, HND, HIN2, HFN, HGV⟩
            case measure => simp only [intOf]; omega
        · obtain rfl : q = rs.length := by omega
          have hqz : ¬ (rs.length : Int) < (rs.length : Int) := by omega
          have htk : (clsR m rs x).take rs.length = clsR m rs x := by rw [List.take_of_length_le (by rw [clsR_len]; exact Nat.le_refl _)]
          rw [htk] at HIN HFL2
          have hnlr : ∀ z ∈ nl, 0 ≤ z ∧ z < (F : Int) := fun z hz => by rw [HF.out]; exact Hr.out _ (cls_mem HGR.out HXM.out _ ((HIN.out z).1 hz))
          have hsn := sort_nodup HND.out hnlr HIN.out
          have HSN := hid hsn
          obtain ⟨av, cv, hshv⟩ := rowShC HNL.out
          subst hshv
          have HOw := hid (ownE.seen HO.out HFL.out HGB.out)
          have hge := hid (own_row_ge HNL.out)
          clear htk hnlr hsn
          go_wp2_with fail
          refine (lib_sort HNL.out (by omega)).mono ?_
          rintro e w2 ⟨rfl, hso, hgr⟩
          rw [HSN.out] at hso
          have HSO := hid hso
          have hHr : ∀ e ∈ es, ∀ b, e.ownBlock = some b → b < wo.heap.size := fun e he b hb => (HO.out.ge e he b hb).2
          have HHR := hid hHr
          have hgeE := hid HO.out.row
          have HO2 : Hid (ownE W.heap.size w2 _ es CL) := hid ⟨HOw.out.1, owns_kept HOw.out.2.1 fun b hb hbe => hgr.block b hb fun e => by have := hge.out b e.symm; have := (World.ownsRow.lt HO.out.2.1 b hbe).2; omega, fun i hi => by
            obtain ⟨e, h1, h2⟩ := HOw.out.2.2 i hi
            exact ⟨e, h1, h2.kept fun b hb hbe => hgr.block b hb fun q => by have := hge.out b q.symm; have := HHR.out e (List.mem_of_getElem? h1) b hbe; omega⟩⟩
          have HFL3 : Hid (w2.ownsRow W.heap.size 4 1 (.slice (some ⟨S, 0, none⟩) F F) F (vB (flagsOf F (D ++ clsR m rs x)))) := hid (HFL2.out.kept hgr (.inr fun e => by have := hge.out S e.symm; omega))
          have HE3 : Hid (Ext W.heap.size W w2) := hid (Ext.grown HE2.out hgr (fun b hb => by have := hge.out b hb; have := HE1.out.2; omega))
          have hwo2 : wo.heap.size ≤ w2.heap.size := Nat.le_trans HGB.out.size hgr.size
          have hWw := HE1.out.2
          obtain ⟨aw9, cw9, hss, _, _⟩ := hso.rd
          injection hss with q1 q2 q3
          subst q1 q3
          rw [q2] at HSO
          rw [q2]
          obtain ⟨LU, hLU⟩ : ∃ LU, LU = listedU (clsR m rs x) F := ⟨_, rfl⟩
          rw [← hLU] at HSO HZ2 ⊢
          have hcl2 := hcl
          clear hso hgr hHr hLU q2
          go_wp2_with (at_builtin; refine wpList_append_own _ rfl _ _ 37 rfl W.heap.size 24 i1 (.slice none 0 0) 1 24 Try.underlying37 hj hy0 hy1 hy2 rfl (by decide) _ _ _ rfl (HO2.out.below ((Below.refl _ _).alloc (Nat.le_refl _) _)).2.1 ⟨_, 0, none⟩ 1 1 [.slice av LU.length cv] rfl rfl ?c1 ?c2 ?c3 ?c4 ?c5 ?_)
          case c1 => exact one_new
          case c2 => first | exact own_one HSO.out | (intro u hu; simp at hu; subst hu; exact own_one HSO.out)
          case c3 => unfold maxLen; omega
          case c4 => omega
          case c5 => first | omega | (simp; omega)
          intro v' w3 hown' hgrow _
          have HN : Hid (ownE W.heap.size w3 v' (es ++ [.slice av LU.length cv]) (CL ++ [LU])) := hid (ownE.snoc (HO2.out.below ((Below.refl _ _).alloc (Nat.le_refl _) _)) ((HSO.out.mono hWw).alloc _) hown' hgrow)
          have HEN : Hid (Ext W.heap.size W w3) := hid (Ext.grown (HE3.out.alloc _) hgrow (ownE.row HO2.out))
          have HFN : Hid (w3.ownsRow W.heap.size 4 1 (.slice (some ⟨S, 0, none⟩) F F) F (vB (flagsOf F (D ++ clsR m rs x)))) := hid (by
            have h9 := HFL3.out.alloc (.cells #[Value.slice av LU.length cv] 24)
            exact h9.kept hgrow (.inr fun e => rows_apart (by decide) h9 (HO2.out.below ((Below.refl _ _).alloc (Nat.le_refl _) _)).2.1 S rfl e.symm))
          have HDN : Hid (distR (es ++ [.slice av LU.length cv])) := hid (distR_snoc HDI.out fun e he b hb hb2 => by
            have := HHR.out e he b hb
            have := own_row_ge HSO.out b hb2
            omega)
          have HZ3 : Hid ((CL ++ [LU]) ++ clsG m rs (D ++ clsR m rs x) (rs.drop (k + 1)) = Z) := hid (by rw [List.append_assoc]; exact HZ2.out)
          clear hown' hgrow
          go_wp2_with fail
          go_roundw
          case rel => exact ⟨k + 1, _, CL ++ [LU], D ++ clsR m rs x, by omega, by go_num, by simp; omega, HN, HDN, HFN, HDO2, HZ3, HEN⟩
          case measure => simp only [intOf]; omega
    · obtain rfl : k = rs.length := by omega
      have hltz : ¬ (rs.length : Int) < (rs.length : Int) := by omega
      have hz := HZE.out
      rw [List.drop_length, show clsG m rs D [] = [] from rfl, List.append_nil] at hz
      subst hz
      obtain ⟨av, cv, hshv⟩ := rowShC HO.out.2.1
      subst hshv
      have hs9 := HE1.out.2
      go_wp2_with fail
      exact bodyPost_ret (v := .tuple #[.slice av CL.length cv, .int .i64 0]) (by first | (simp [results, go_sem]; done) | simp [results, go_sem, ↓IntWalk.iteOmega]) rfl ⟨_, rfl, ⟨es, HO.out.mono (by omega), HDI.out⟩, Ext.bel (HE.out.below (HE1.out.1))⟩
end Go.Proofs.Ytbkbcbanfnhjpaa
