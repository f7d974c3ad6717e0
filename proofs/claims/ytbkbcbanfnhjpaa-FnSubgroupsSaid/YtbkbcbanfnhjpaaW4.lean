/- The group that some generate: the statement's text. -/
import Derived.Test.YtbkbcbanfnhjpaaW3
import Derived.Test.YtbkbcbanfnhjpaaY3
import Derived.Deep.LoopGhost
namespace Go.Proofs.Ytbkbcbanfnhjpaa
open Go Go.RowKit

theorem ownEQ_made (w : World) (u : Value) (x : List Int) (B : Nat) (hB : B ≤ w.heap.size) (h : ownR B w u x) : ownEQ B (w.alloc (.cells #[u] 24)) (.slice (some ⟨w.heap.size, 0, none⟩) 1 1) [u] [x] := by
  obtain ⟨g, off, cap, e, _, r⟩ := ownQ_made w u
  injection e with e1 e2 e3
  injection e1 with e1
  injection e1 with e1 e4
  subst e1 e4
  exact ⟨rfl, ⟨w.heap.size, 0, cap, by rw [← e3]; rfl, hB, r⟩, fun i hi => by
    simp at hi; subst hi
    exact ⟨u, rfl, h.alloc _⟩⟩
set_option maxRecDepth 20000 in
set_option maxHeartbeats 16000000 in
theorem s_generate (n : Nat) (r : Value) (gs : List (List Int)) (w : World) (zs : List Int) (h : rdRR w r gs) (h6 : n ≤ 6) (hg : ∀ a ∈ gs, PermL n a) (hgl : gs.length ≤ 100) (hz : genR n gs = zs) :
    Calls Try.prog 71 #[.int .i64 (n : Int), r] w fun e w' => ∃ s, e = .returned (.agg #[.int .i64 (n : Int), s]) ∧ ownR w.heap.size w' s zs ∧ Below w.heap.size w w' := by
  obtain ⟨i1, hj, hy0, hy1, hy2⟩ := info_parts infoS
  obtain ⟨ib, hib, hib0, hib1, hib2⟩ := info_parts infoB
  obtain ⟨ag, cg, rfl, hmg, hcg⟩ := h
  have Hcg := hid hcg
  have HG := hid hg
  have HZ := hid hz
  have hf := facN_pos n
  have hf7 := facN_le h6
  obtain ⟨F, hF⟩ : ∃ F, F = facN n := ⟨_, rfl⟩
  have HF := hid hF
  rw [← hF] at hf hf7
  obtain ⟨M, hM⟩ : ∃ M, M = genM n gs := ⟨_, rfl⟩
  have HM := hid hM
  clear hcg hg hz hF hM
  go_enter Try.func71, Try.ntmps71
  go_wp2_with (first | (go_at_call 84; refine pur (s_fact n _ h6) ?_; rw [← HF.out]) | (at_make; refine wpList_make_full _ rfl _ _ 80 rfl ((w.alloc (Obj.cells #[.int .i64 0, .slice none 0 0] 26)).heap.size) 4 ib (.bool false) 1 Try.underlying80 hib hib0 hib1 _ _ _ _ F rfl rfl rfl rfl (by rw [hib2]; omega) (by unfold maxLen; omega) (by first | omega | (simp; omega)) ?_))
  intro w1 hown hgr
  obtain ⟨W0, hW0⟩ : ∃ W0, W0 = w.alloc (Obj.cells #[.int .i64 0, .slice none 0 0] 26) := ⟨_, rfl⟩
  have hsz0 : W0.heap.size = w.heap.size + 1 := by rw [hW0]; simp
  have hres : resOK w.heap.size W0 := by
    intro k hk
    obtain rfl | rfl : k = 0 ∨ k = 1 := by omega
    all_goals (rw [hW0]; simp [go_sem])
  have hgs0 : ∀ i, (h : i < gs.length) → ∀ b o, ag = some ⟨b, o, none⟩ → ∃ e, W0.cell? ⟨b, o + i, none⟩ = some e ∧ ownR 0 W0 e gs[i] ∧ b < W0.heap.size := fun i hi b o e0 => by
    obtain ⟨b', o', e1, hc⟩ := Hcg.out (by intro e; rw [e] at hi; simp at hi)
    rw [e0] at e1
    injection e1 with e1
    injection e1 with e1 e2
    subst e1 e2
    obtain ⟨e, h2, h3⟩ := hc i hi
    have hlt := World.block_lt_of_cell? w _ h2
    simp only at hlt
    exact ⟨e, by rw [hW0, alloc_cell, if_neg (by omega)]; exact h2, by rw [hW0]; exact h3.alloc _, by omega⟩
  have HGS := hid hgs0
  have hgsh : 0 < gs.length → ∃ b o, ag = some ⟨b, o, none⟩ := fun hi => by
    obtain ⟨b', o', e1, _⟩ := Hcg.out (by intro e; rw [e] at hi; simp at hi)
    exact ⟨b', o', e1⟩
  have HSH := hid hgsh
  have hBw : Below w.heap.size w W0 := by rw [hW0]; exact (Below.refl _ w).alloc (Nat.le_refl _) _
  have HBW := hid hBw
  rw [← hW0] at hgr
  (try simp only [← hW0])
  rw [← hsz0] at hown
  obtain ⟨S, hS⟩ : ∃ S, S = W0.heap.size := ⟨_, rfl⟩
  have hown : w1.ownsRow W0.heap.size 4 1 (.slice (some ⟨S, 0, none⟩) F F) F (vB (flagsOf F [])) := by rw [flagsOf_nil, ← vB_no, hS]; exact hown
  rw [← hsz0, ← hS]
  have hB2 : Below W0.heap.size W0 w1 := Below.grown (Below.refl _ _) hgr (Nat.le_refl _) (fun k hk => by cases hk)
  have hE3 : Ext W0.heap.size W0 w1 := ⟨hB2, hB2.size⟩
  have hfr := hown.frozenAt 0
  have hcl := hown.cellAt 0 (by omega)
  have hv0 : (vB (flagsOf F []))[0]? = some (.bool false) := by simp [vB, flagsOf_get (show 0 < F by omega)]
  rw [hv0] at hcl
  have hst := hown.stored 0 (.bool true)
  rw [flags_step (by omega)] at hst
  have HST := hid hst
  have hF0 : (0 : Int) < (F : Int) := by omega
  have HE4 : Hid (Ext W0.heap.size W0 (w1.setCell ⟨S, 0, none⟩ (.bool true))) := hid (Ext.grown (o := (.slice (some ⟨S, 0, none⟩) F F)) hE3 hst.2 (fun k hk => (World.ownsRow.lt hown k hk).1))
  have HR0 := hid hres
  have HSZ := hid hsz0
  clear hW0 hS hE3 hB2 hst hgr hgs0 hgsh hBw hres hv0 hown hsz0
  go_wp2_with fail
  obtain ⟨V0, hV0⟩ : ∃ V0, V0 = w1.setCell ⟨S, 0, none⟩ (.bool true) := ⟨_, rfl⟩
  rw [← hV0] at HST HE4 ⊢
  clear hfr hcl hV0
  refine viaI (g := id) (s_id n _ h6) ?_
  intro t0 u0 z0 own0
  try simp at z0
  obtain ⟨a0, c0, hsh0, _, _⟩ := own0.rd
  rw [idP_len] at hsh0
  subst hsh0
  obtain ⟨V1, hV1⟩ : ∃ V1, V1 = aft V0 u0 := ⟨_, rfl⟩
  have hE5 : Ext W0.heap.size W0 V1 := by rw [hV1]; exact HE4.out.aft u0
  have HF5 : Hid (V1.ownsRow W0.heap.size 4 1 (.slice (some ⟨S, 0, none⟩) F F) F (vB (flagsOf F ([] ++ [((0 : Nat) : Int)])))) := hid (by rw [hV1]; exact owns_kept HST.out.1 fun k hk _ => (below_aft V0 u0).block k hk)
  have hl0 := HE4.out.2
  rw [← hV1] at own0 z0 ⊢
  have HQ0 : Hid (ownEQ W0.heap.size (V1.alloc (.cells #[Value.slice a0 n c0] 24)) (.slice (some ⟨V1.heap.size, 0, none⟩) 1 1) [.slice a0 n c0] [idP n]) := hid (ownEQ_made V1 _ (idP n) W0.heap.size hE5.2 (own0.mono hl0))
  have HE6 : Hid (Ext W0.heap.size W0 (V1.alloc (.cells #[Value.slice a0 n c0] 24))) := hid (hE5.alloc _)
  have HF6 : Hid ((V1.alloc (.cells #[Value.slice a0 n c0] 24)).ownsRow W0.heap.size 4 1 (.slice (some ⟨S, 0, none⟩) F F) F (vB (flagsOf F ([] ++ [((0 : Nat) : Int)])))) := hid (HF5.out.alloc _)
  clear hV1 hE5 own0 z0 hl0
  go_wp2_with fail
  go_loopg [6] (F + 1) (fun f v wr => ∃ (k : Nat) (es : List Value) (ms : List (List Int)), k ≤ ms.length ∧ f + k = F + 1 ∧ Hid (ownEQ W0.heap.size wr v es (ms.drop k)) ∧ Hid (GoodM n ms) ∧ Hid (bfsG gs f k ms = M) ∧ Hid (wr.ownsRow W0.heap.size 4 1 (.slice (some ⟨S, 0, none⟩) F F) F (vB (flagsOf F (ms.map rankF)))) ∧ Hid (Ext W0.heap.size W0 wr))
  case atStart => exact ⟨0, [.slice a0 n c0], [idP n], by simp, by omega, HQ0, hid (GoodM.one n), hid (by rw [HM.out, HF.out]; rfl), hid (by rw [show [idP n].map rankF = [] ++ [((0 : Nat) : Int)] by simp [rank_id h6]]; exact HF6.out), HE6⟩
  case round =>
    obtain ⟨k, es, ms, hk, hfk, HO, HGM, HBF, HFL, HE⟩ := hrel
    have hmF := HGM.out.len
    rw [← HF.out] at hmF
    by_cases hlt : k < ms.length
    · obtain ⟨x, hx⟩ : ∃ x, ms[k]? = some x := ⟨_, List.getElem?_eq_getElem hlt⟩
      have HPX := hid (HGM.out.perm x (List.mem_of_getElem? hx))
      obtain ⟨f', rfl⟩ : ∃ f', gk = f' + 1 := ⟨gk - 1, by omega⟩
      have HBF2 : Hid (bfsG gs f' (k + 1) (expG (gs.drop 0) x ms) = M) := hid (by rw [List.drop_zero, ← bfsG_step hx]; exact HBF.out)
      have ho := HO.out
      rw [drop_head hx] at ho
      obtain ⟨ex, es', v', rfl, hox, hsl, hoq, g, off, cap, rfl, hcx⟩ := ho.tail
      have HOQ := hid hoq
      have HOX := hid hox
      have hqz : (0 : Int) < (((ms.drop (k + 1)).length + 1 : Nat) : Int) := by omega
      obtain ⟨L1, hL1⟩ : ∃ L1, L1 = (ms.drop (k + 1)).length + 1 := ⟨_, rfl⟩
      rw [← hL1] at hqz hsl ⊢
      obtain ⟨wo, rfl⟩ : ∃ wo : World, wo = wr := ⟨_, rfl⟩
      have hle1 : k + 1 ≤ ms.length := hlt
      have hqd : decide ((0 : Int) < (L1 : Int)) = true := by simpa using hqz
      have hqd2 : decide (0 < L1) = true := by simp; omega
      clear hx HBF ho hoq hox HO hL1
      go_wp2_with fail
      go_loopw [6, 8] (fun v i wr2 => ∃ (q : Nat) (es2 : List Value) (ms2 : List (List Int)), i = .int .i64 q ∧ q ≤ gs.length ∧ k + 1 ≤ ms2.length ∧ Hid (ownEQ W0.heap.size wr2 v es2 (ms2.drop (k + 1))) ∧ Hid (ownR W0.heap.size wr2 ex x) ∧ Hid (GoodM n ms2) ∧ Hid (bfsG gs f' (k + 1) (expG (gs.drop q) x ms2) = M) ∧ Hid (wr2.ownsRow W0.heap.size 4 1 (.slice (some ⟨S, 0, none⟩) F F) F (vB (flagsOf F (ms2.map rankF)))) ∧ Hid (Ext W0.heap.size W0 wr2)) (fun _ i _ => gs.length - (intOf i).toNat)
      case atStart => exact ⟨0, es', ms, rfl, by omega, hle1, HOQ, HOX, HGM, HBF2, HFL, HE⟩
      case round =>
        obtain ⟨q, es2, ms2, rfl, hq, hk2, HO2, HX2, HGM2, HBF3, HFL2, HE2⟩ := hrel
        have hm2F := HGM2.out.len
        rw [← HF.out] at hm2F
        have hdl : (ms2.drop (k + 1)).length ≤ 720 := by rw [List.length_drop]; omega
        have HEL := hid HO2.out.1
        by_cases hqlt : q < gs.length
        · have hqz : (q : Int) < (gs.length : Int) := by omega
          obtain ⟨b, o, rfl⟩ := HSH.out (by omega)
          obtain ⟨e1, he1, ho1, hbl⟩ := HGS.out q hqlt b o rfl
          have hc1 := (HE2.out.1.cell (p := ⟨b, o + q, none⟩) hbl).trans he1
          have ho2 := ho1.below HE2.out.1
          have hpa := HG.out gs[q] (List.getElem_mem hqlt)
          have hdr := expG_drop hqlt x ms2
          obtain ⟨A, hA⟩ : ∃ A, A = gs[q] := ⟨_, rfl⟩
          rw [← hA] at ho2 hpa hdr
          obtain ⟨Z, hZ⟩ : ∃ Z, prodF A x = Z := ⟨_, rfl⟩
          have hpz : PermL n Z := by rw [← hZ]; exact hpa.prod HPX.out
          rw [hZ] at hdr
          have HDR := hid hdr
          have hrz := hpz.rk
          rw [← HF.out] at hrz
          obtain ⟨d, hd⟩ : ∃ d : Nat, rankF Z = (d : Int) := ⟨(rankF Z).toNat, by omega⟩
          have hdF : d < F := by omega
          have hdz : (d : Int) < (F : Int) := by omega
          have HD := hid hd
          have HZ1 := hid hZ
          have HPA := hid hpa
          have HPZ := hid hpz
          have HO2x := hid ho2.rd
          have hxl : x.length ≤ 6 := by rw [HPX.out.1]; exact h6
          have hzl : Z.length ≤ 6 := by rw [hpz.1]; exact h6
          have hxa : Hid (∀ y ∈ x, 0 ≤ y ∧ y < (A.length : Int)) := hid (by rw [hpa.1]; exact HPX.out.2)
          have HC : ∀ T : Bool, (ms2.map rankF).contains (d : Int) = T → (vB (flagsOf F (ms2.map rankF)))[d]? = some (.bool T) := fun T e => by simp [vB, flagsOf_get hdF]; rw [← e, List.contains_eq_mem]; simp
          have HC := hid HC
          clear hd hZ hpa hpz hA hdr ho1 ho2 he1 hrz
          go_wp2_with fail
          refine viaI (g := id) (s_prodE _ _ A x Z _ HO2x.out HX2.out.rd hxa.out hxl HZ1.out) ?_
          intro t1 u1 z1 own1
          try simp at z1
          obtain ⟨a1, c1, hsh1, _, _⟩ := own1.rd
          subst hsh1
          have rd1 := own1.rd
          go_wp2_with fail
          refine via (s_rankE _ Z _ _ rd1 hzl HD.out) ?_
          intro u2 z2
          try simp at z2
          obtain ⟨V, hV⟩ : ∃ V, V = aft (aft wr u1) u2 := ⟨_, rfl⟩
          have HBV : Hid (Below wr.heap.size wr V) := hid (by rw [hV]; exact Ext.bel (((Ext.refl wr).aft u1).aft u2))
          have own2 : ownR wr.heap.size V (.slice a1 Z.length c1) Z := by rw [hV]; exact own1.aft u2
          rw [← hV] at z2 ⊢
          have HOV := hid (HO2.out.below HBV.out)
          have HFV := hid (owns_kept HFL2.out (w' := V) fun k hk _ => HBV.out.block k hk)
          have HXV := hid (HX2.out.below HBV.out)
          have HEV : Hid (Ext W0.heap.size W0 V) := hid ⟨HE2.out.1.trans (HBV.out.mono HE2.out.2), Nat.le_trans HE2.out.2 HBV.out.size⟩
          have hclv := HFV.out.cellAt d (by omega)
          have hfrv := HFV.out.frozenAt d
          clear hV own1 rd1 z1
          cases hT : (ms2.map rankF).contains (d : Int)
          · rw [HC.out _ hT] at hclv
            have hst := HFV.out.stored d (.bool true)
            rw [flags_step hdF] at hst
            have HST2 := hid hst
            have hns : addG ms2 Z = ms2 ++ [Z] := addG_new (by rw [HD.out]; exact hT)
            have HNG : Hid (GoodM n (ms2 ++ [Z])) := hid (HGM2.out.snoc HPZ.out (by rw [HD.out]; exact hT))
            have HBF4 : Hid (bfsG gs f' (k + 1) (expG (gs.drop (q + 1)) x (ms2 ++ [Z])) = M) := hid (by rw [← hns, ← HDR.out]; exact HBF3.out)
            have HOS := hid (ownEQ.seen HOV.out HFV.out hst.2)
            have HES : Hid (Ext W0.heap.size W0 (V.setCell ⟨S, d, none⟩ (.bool true))) := hid (Ext.grown (o := (.slice (some ⟨S, 0, none⟩) F F)) HEV.out hst.2 (fun k hk => (World.ownsRow.lt HFV.out k hk).1))
            have HO1S : Hid (ownR W0.heap.size (V.setCell ⟨S, d, none⟩ (.bool true)) (.slice a1 Z.length c1) Z) := hid (ownR.mono (own2.kept fun k hk hb => hst.2.block k hk fun e => rows_apart (by decide) own2 HFV.out k hb e.symm) HE2.out.2)
            have HXS : Hid (ownR W0.heap.size (V.setCell ⟨S, d, none⟩ (.bool true)) ex x) := hid (HXV.out.kept fun k hk hb => hst.2.block k hk fun e => rows_apart (by decide) HXV.out HFV.out k hb e.symm)
            clear hst hns hT own2
            go_wp2_with (at_builtin; refine wpList_append_q rfl _ _ rfl rfl (HOS.out.below ((Below.refl _ _).alloc (Nat.le_refl _) _)).2.1 (.slice a1 Z.length c1) ?c2 ⟨_, 0, none⟩ 1 rfl ?c1 ?c3 ?c5 ?_)
            case c1 =>
              have e : V.heap.size = (V.setCell ⟨S, d, none⟩ (.bool true)).heap.size := by simp [World.setCell]
              rw [e]
              exact one_new
            case c2 => exact own_one HO1S.out
            case c3 => rw [HEL.out]; omega
            case c5 => have := HES.out.2; first | omega | (simp at this ⊢; omega)
            intro v3 w2 hown' hgrow
            have HN : Hid (ownEQ W0.heap.size w2 v3 (es2 ++ [.slice a1 Z.length c1]) ((ms2 ++ [Z]).drop (k + 1))) := hid (by
              rw [List.drop_append_of_le_length hk2]
              exact ownEQ.snoc (HOS.out.below ((Below.refl _ _).alloc (Nat.le_refl _) _)) (HO1S.out.alloc _) hown' hgrow)
            have HQR := hid (HOS.out.below ((Below.refl _ _).alloc (Nat.le_refl _) (.cells #[Value.slice a1 Z.length c1] 24))).2.1
            have HXN : Hid (ownR W0.heap.size w2 ex x) := hid ((HXS.out.alloc (.cells #[Value.slice a1 Z.length c1] 24)).kept fun k hk hb => hgrow.block k hk fun e => queue_apart (by decide) HQR.out (HXS.out.alloc _) k e.symm hb)
            have HEN : Hid (Ext W0.heap.size W0 w2) := hid (Ext.grown (HES.out.alloc _) hgrow (ownQ.row HQR.out))
            have HFN : Hid (w2.ownsRow W0.heap.size 4 1 (.slice (some ⟨S, 0, none⟩) F F) F (vB (flagsOf F ((ms2 ++ [Z]).map rankF)))) := hid (by
              rw [List.map_append, show [Z].map rankF = [(d : Int)] by simp [HD.out]]
              have h9 := HST2.out.1.alloc (.cells #[Value.slice a1 Z.length c1] 24)
              exact h9.kept hgrow (.inr fun e => queue_apart (by decide) HQR.out h9 S e.symm rfl))
            have hk3 : k + 1 ≤ (ms2 ++ [Z]).length := by rw [List.length_append]; omega
            clear hown' hgrow
            go_wp2_with fail
            go_roundw
            case rel => exact ⟨q + 1, _, ms2 ++ [Z], by go_num, by omega, hk3, HN, HXN, HNG, HBF4, HFN, HEN⟩
            case measure => simp only [intOf]; omega
          · rw [HC.out _ hT] at hclv
            have hns : addG ms2 Z = ms2 := addG_has (by rw [HD.out]; exact hT)
            have HBF4 : Hid (bfsG gs f' (k + 1) (expG (gs.drop (q + 1)) x ms2) = M) := hid (by rw [HDR.out, hns] at HBF3; exact HBF3.out)
            clear hns hT own2
            go_wp2_with fail
            go_roundw
            case rel => exact ⟨q + 1, es2, ms2, by go_num, by omega, hk2, HOV, HXV, HGM2, HBF4, HFV, HEV⟩
            case measure => simp only [intOf]; omega
        · obtain rfl : q = gs.length := by omega
          have hqz : ¬ (gs.length : Int) < (gs.length : Int) := by omega
          have HBF4 : Hid (bfsG gs f' (k + 1) ms2 = M) := hid (by have := HBF3.out; rwa [List.drop_length, expG_nil] at this)
          go_wp2_with fail
          go_roundg f'
          case rel => exact ⟨k + 1, es2, ms2, hk2, by omega, HO2, HGM2, HBF4, HFL2, HE2⟩
          case measure => omega
    · obtain rfl : k = ms.length := by omega
      have ho := HO.out
      rw [List.drop_length] at ho
      obtain ⟨gv, ofv, cpv, hshv, _⟩ := ho.2.1.shape
      rw [ho.1, List.length_nil] at hshv
      subst hshv
      have hMe : ms = M := by rw [← HBF.out, bfsG_end]
      have hZe : listedU (ms.map rankF) F = zs := by rw [hMe, HM.out, HF.out]; exact HZ.out
      have HZE := hid hZe
      have HFF : Hid (ownF W0.heap.size wr (.slice (some ⟨S, 0, none⟩) F F) (flagsOf F (ms.map rankF))) := hid (by unfold ownF; rw [flagsOf_len]; exact HFL.out)
      have HRW := hid (HR0.out.below HE.out.1 (by have := HSZ.out; omega))
      have hs9 := HE.out.2
      have hsz0 := HSZ.out
      have hEB : Ext (w.heap.size + 1) wr wr := Ext.base (by omega)
      have hn0 : w.heap.size < w.heap.size + 1 := by omega
      have hb0 : w.heap.size < wr.heap.size := by omega
      clear hMe hZe ho hsz0
      go_wp2_with fail
      refine viaI (g := id) (s_listedE W0.heap.size _ F (ms.map rankF) _ zs HFF.out ⟨by omega, by omega⟩ HZE.out) ?_
      intro v9 u9 z9 own9
      try simp at z9
      have hR10 := HRW.out.below (below_aft wr u9) hb0
      obtain ⟨y0, hy0'⟩ := Option.isSome_iff_exists.1 (hR10 0 (by omega)).2
      obtain ⟨y1, hy1'⟩ := Option.isSome_iff_exists.1 (hR10 1 (by omega)).2
      have hf0 := (hR10 0 (by omega)).1
      have hf1 := (hR10 1 (by omega)).1
      obtain ⟨a9, c9, hsh9, _, _⟩ := own9.rd
      subst hsh9
      have HE9 : Hid (Ext W0.heap.size W0 (aft wr u9)) := hid (HE.out.aft u9)
      have HBB : Hid (Ext w.heap.size w (aft wr u9)) := hid ⟨HBW.out.trans (HE9.out.1.mono (by have := HSZ.out; omega)), by have := HSZ.out; have := HE9.out.2; omega⟩
      clear hR10
      go_wp2_with fail
      exact bodyPost_ret (v := .agg #[.int .i64 (n : Int), .slice a9 zs.length c9]) (by simp [results, go_sem, hy0', hy1']) rfl ⟨_, rfl, ((own9.setCell _ _ _ _ (by omega)).setCell _ _ _ _ (by omega)).mono (by omega), Ext.bel ((HBB.out.setCell _ _ _ _ (by omega)).setCell _ _ _ _ (by omega))⟩
end Go.Proofs.Ytbkbcbanfnhjpaa
