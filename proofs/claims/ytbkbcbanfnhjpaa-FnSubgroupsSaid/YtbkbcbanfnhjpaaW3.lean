/- The group that some generate: the program's text. -/
import Derived.Test.YtbkbcbanfnhjpaaMA
import Derived.Test.YtbkbcbanfnhjpaaMB
import Derived.Test.YtbkbcbanfnhjpaaW6
namespace Go.Proofs.Ytbkbcbanfnhjpaa
open Go Go.RowKit

theorem ownE_made (w : World) (u : Value) (x : List Int) (B : Nat) (hB : B ≤ w.heap.size) (h : ownR B w u x) : ownE B (w.alloc (.cells #[u] 24)) (.slice (some ⟨w.heap.size, 0, none⟩) 1 1) [u] [x] :=
  ⟨rfl, ⟨rfl, .inr ⟨w.heap.size, 1, #[u], rfl, hB, heap_alloc_new w _, Nat.le_refl _, by simp [maxLen], rfl, rfl⟩⟩, fun i hi => by
    simp at hi; subst hi
    exact ⟨u, rfl, h.alloc _⟩⟩
theorem ownE.len {B : Nat} {w : World} {v : Value} {es : List Value} {xss : List (List Int)} (h : ownE B w v es xss) (h0 : 0 < xss.length) : ∃ g cap, v = .slice (some ⟨g, 0, none⟩) xss.length cap ∧ B ≤ g ∧ g < w.heap.size ∧ xss.length ≤ cap := by
  rcases h.2.1.2 with ⟨rfl, hn⟩ | ⟨g, cap, cur, rfl, hg, hh, hc, _⟩
  · omega
  · exact ⟨g, cap, rfl, hg, (Array.getElem?_eq_some_iff.1 hh).1, hc⟩
theorem ownE.cellE {B g n cap : Nat} {w : World} {es : List Value} {xss : List (List Int)} (h : ownE B w (.slice (some ⟨g, 0, none⟩) n cap) es xss) {i : Nat} {x : List Int} (hi : xss[i]? = some x) :
    ∃ e, w.cell? ⟨g, i, none⟩ = some e ∧ ownR B w e x := by
  obtain ⟨hlt, hx⟩ := List.getElem?_eq_some_iff.1 hi
  obtain ⟨e, he, ho⟩ := h.2.2 i hlt
  have hc := World.ownsRow.cells h.2.1 (g := g) rfl i e he
  refine ⟨e, ?_, by rw [← hx]; exact ho⟩
  by_cases h0 : i = 0
  · subst h0; simpa [Addr.add] using hc
  · simpa [Addr.add, h0] using hc
theorem rank_id {n : Nat} (h : n ≤ 6) : rankF (idP n) = 0 := by
  have : ∀ n : Fin 7, rankF (idP n) = 0 := by decide
  exact this ⟨n, by omega⟩
theorem rdRR.cellE {w : World} {b o : Nat} {xss : List (List Int)} (h : ∀ i, (h : i < xss.length) → ∃ e, w.cell? ⟨b, o + i, none⟩ = some e ∧ ownR 0 w e xss[i]) {i : Nat} (hi : i < xss.length) : ∃ e, w.cell? ⟨b, o + i, none⟩ = some e ∧ ownR 0 w e xss[i] := h i hi
/-- A row of flags lies in its block. -/
theorem flags_lt {B S F n : Nat} {w : World} {fs : List Value} (h : w.ownsRow B 4 1 (.slice (some ⟨S, 0, none⟩) F F) n fs) : S < w.heap.size := (World.ownsRow.lt h S rfl).2

set_option maxRecDepth 20000 in
set_option maxHeartbeats 16000000 in
theorem i_generate (n : Nat) (r : Value) (gs : List (List Int)) (w : World) (zs : List Int) (h : rdRR w r gs) (h6 : n ≤ 6) (hg : ∀ a ∈ gs, PermL n a) (hgl : gs.length ≤ 100) (hz : genR n gs = zs) :
    Calls Try.prog 79 #[.int .i64 (n : Int), r] w fun e w' => ∃ s, e = .returned (.agg #[.int .i64 (n : Int), s]) ∧ ownR w.heap.size w' s zs ∧ Below w.heap.size w w' := by
  obtain ⟨i1, hj, hy0, hy1, hy2⟩ := info_parts infoS
  obtain ⟨ib, hib, hib0, hib1, hib2⟩ := info_parts infoB
  obtain ⟨ag, cg, rfl, hmg, hcg⟩ := h
  have Hcg := hid hcg
  have HG := hid hg
  have HZ := hid hz
  have hf := facN_pos n
  have hf7 := facN_le h6
  obtain ⟨F, hF⟩ : ∃ F, F = facN n := ⟨_, rfl⟩
  have HF := hid hF
  rw [← hF] at hf hf7
  obtain ⟨M, hM⟩ : ∃ M, M = genM n gs := ⟨_, rfl⟩
  have HM := hid hM
  clear hcg hg hz hF hM
  go_enter Try.func79, Try.ntmps79
  go_wp2_with fail
  refine viaI (g := id) (i_id n _ h6) ?_
  intro t0 u0 z0 own0
  try simp at z0
  obtain ⟨a0, c0, hsh0, _, _⟩ := own0.rd
  rw [idP_len] at hsh0
  subst hsh0
  go_wp2_with (first | (go_at_call 90; refine pur (i_fact n _ h6) ?_; rw [← HF.out]) | (at_make; refine wpList_make_full _ rfl _ _ 80 rfl ((w.alloc (Obj.cells #[.int .i64 0, .slice none 0 0] 26)).heap.size) 4 ib (.bool false) 1 Try.underlying80 hib hib0 hib1 _ _ _ _ F rfl rfl rfl rfl (by rw [hib2]; omega) (by unfold maxLen; omega) (by first | omega | (simp; omega)) ?_))
  intro w1 hown hgr
  obtain ⟨W0, hW0⟩ : ∃ W0, W0 = w.alloc (Obj.cells #[.int .i64 0, .slice none 0 0] 26) := ⟨_, rfl⟩
  have hsz0 : W0.heap.size = w.heap.size + 1 := by rw [hW0]; simp
  have hres : resOK w.heap.size W0 := by
    intro k hk
    obtain rfl | rfl : k = 0 ∨ k = 1 := by omega
    all_goals (rw [hW0]; simp [go_sem])
  have hgs0 : ∀ i, (h : i < gs.length) → ∀ b o, ag = some ⟨b, o, none⟩ → ∃ e, W0.cell? ⟨b, o + i, none⟩ = some e ∧ ownR 0 W0 e gs[i] ∧ b < W0.heap.size := fun i hi b o e0 => by
    obtain ⟨b', o', e1, hc⟩ := Hcg.out (by intro e; rw [e] at hi; simp at hi)
    rw [e0] at e1
    injection e1 with e1
    injection e1 with e1 e2
    subst e1 e2
    obtain ⟨e, h2, h3⟩ := hc i hi
    have hlt := World.block_lt_of_cell? w _ h2
    simp only at hlt
    exact ⟨e, by rw [hW0, alloc_cell, if_neg (by omega)]; exact h2, by rw [hW0]; exact h3.alloc _, by omega⟩
  have HGS := hid hgs0
  have hgsh : 0 < gs.length → ∃ b o, ag = some ⟨b, o, none⟩ := fun hi => by
    obtain ⟨b', o', e1, _⟩ := Hcg.out (by intro e; rw [e] at hi; simp at hi)
    exact ⟨b', o', e1⟩
  have HSH := hid hgsh
  have hBw : Below w.heap.size w W0 := by rw [hW0]; exact (Below.refl _ w).alloc (Nat.le_refl _) _
  have HBW := hid hBw
  rw [← hW0] at own0 hown hgr z0
  rw [← hsz0] at hown
  obtain ⟨V1, hV1⟩ : ∃ V1, V1 = aft W0 u0 := ⟨_, rfl⟩
  have hE1 : Ext W0.heap.size W0 V1 := by rw [hV1]; exact (Ext.refl W0).aft u0
  rw [← hV1] at own0 hown hgr z0
  (try simp only [← hW0]); (try simp only [← hV1])
  have hm0 := ownE_made V1 _ (idP n) W0.heap.size hE1.2 own0
  obtain ⟨S, hS⟩ : ∃ S, S = V1.heap.size + 1 := ⟨_, rfl⟩
  rw [← hS] at hown
  (try rw [← hS])
  obtain ⟨V2, hV2⟩ : ∃ V2, V2 = V1.alloc (.cells #[Value.slice a0 n c0] 24) := ⟨_, rfl⟩
  rw [← hV2] at hm0 hgr
  have hE2 : Ext W0.heap.size W0 V2 := by rw [hV2]; exact hE1.alloc _
  have hB2 : Below V2.heap.size V2 w1 := Below.grown (Below.refl _ _) hgr (Nat.le_refl _) (fun k hk => by cases hk)
  have hm1 := ownE.below hm0 hB2
  have hE3 : Ext W0.heap.size W0 w1 := ⟨hE2.1.trans (hB2.mono hE2.2), Nat.le_trans hE2.2 hB2.size⟩
  obtain ⟨g0, hg0⟩ : ∃ g0, g0 = V1.heap.size := ⟨_, rfl⟩
  rw [← hg0] at hm1
  (try rw [← hg0])
  have hown : w1.ownsRow W0.heap.size 4 1 (.slice (some ⟨S, 0, none⟩) F F) F (vB (flagsOf F [])) := by rw [flagsOf_nil, ← vB_no]; exact hown
  have hfr := hown.frozenAt 0
  have hcl := hown.cellAt 0 (by omega)
  have hv0 : (vB (flagsOf F []))[0]? = some (.bool false) := by simp [vB, flagsOf_get (show 0 < F by omega)]
  rw [hv0] at hcl
  have hst := hown.stored 0 (.bool true)
  rw [flags_step (by omega)] at hst
  have HST := hid hst
  have hF0 : (0 : Int) < (F : Int) := by omega
  have hm2 := ownE.seen hm1 hown hst.2
  have HM2 : Hid (ownE W0.heap.size (w1.setCell ⟨S, 0, none⟩ (.bool true)) (.slice (some ⟨g0, 0, none⟩) 1 1) [.slice a0 n c0] [idP n]) := hid hm2
  have HE4 : Hid (Ext W0.heap.size W0 (w1.setCell ⟨S, 0, none⟩ (.bool true))) := hid (Ext.grown (o := (.slice (some ⟨S, 0, none⟩) F F)) hE3 hst.2 (fun k hk => (World.ownsRow.lt hown k hk).1))
  have HR0 := hid hres
  have HSZ := hid hsz0
  clear hW0 hV1 hS hV2 hg0 hm0 hm1 hm2 hE1 hE2 hE3 hB2 hst hgr own0 hgs0 hgsh hBw hres hv0 z0 hown hsz0
  go_wp2_with fail
  go_loopw [5, 7] (fun v i wr => ∃ (k f : Nat) (es : List Value) (ms : List (List Int)), i = .int .i64 k ∧ k ≤ ms.length ∧ f + k = F + 1 ∧ Hid (ownE W0.heap.size wr v es ms) ∧ Hid (GoodM n ms) ∧ Hid (bfsG gs f k ms = M) ∧ Hid (wr.ownsRow W0.heap.size 4 1 (.slice (some ⟨S, 0, none⟩) F F) F (vB (flagsOf F (ms.map rankF)))) ∧ Hid (Ext W0.heap.size W0 wr)) (fun _ i _ => F + 1 - (intOf i).toNat)
  case atStart => exact ⟨0, F + 1, [.slice a0 n c0], [idP n], rfl, by simp, by omega, HM2, hid (GoodM.one n), hid (by rw [HM.out, HF.out]; rfl), hid (by rw [show [idP n].map rankF = [] ++ [((0 : Nat) : Int)] by simp [rank_id h6]]; exact HST.out.1), HE4⟩
  case round =>
    obtain ⟨k, f, es, ms, rfl, hk, hfk, HO, HGM, HBF, HFL, HE⟩ := hrel
    have hmF := HGM.out.len
    rw [← HF.out] at hmF
    by_cases hlt : k < ms.length
    · obtain ⟨g, cap, hsh, hgB, hgl, hcap⟩ := HO.out.len (by omega)
      subst hsh
      have hltz : (k : Int) < (ms.length : Int) := by omega
      obtain ⟨x, hx⟩ : ∃ x, ms[k]? = some x := ⟨_, List.getElem?_eq_getElem hlt⟩
      have HX := hid hx
      have hpx := HGM.out.perm x (List.mem_of_getElem? hx)
      obtain ⟨f', rfl⟩ : ∃ f', f = f' + 1 := ⟨f - 1, by omega⟩
      have HBF2 : Hid (bfsG gs f' (k + 1) (expG (gs.drop 0) x ms) = M) := hid (by rw [List.drop_zero, ← bfsG_step hx]; exact HBF.out)
      have HPX := hid hpx
      obtain ⟨wo, rfl⟩ : ∃ wo : World, wo = wr := ⟨_, rfl⟩
      clear hx hpx HBF
      go_wp2_with fail
      go_loopw [5, 27] (fun v j wr2 => ∃ (q : Nat) (es2 : List Value) (ms2 : List (List Int)), j = .int .i64 q ∧ q ≤ gs.length ∧ Hid (ownE W0.heap.size wr2 v es2 ms2) ∧ Hid (GoodM n ms2) ∧ Hid (ms2[k]? = some x) ∧ Hid (bfsG gs f' (k + 1) (expG (gs.drop q) x ms2) = M) ∧ Hid (wr2.ownsRow W0.heap.size 4 1 (.slice (some ⟨S, 0, none⟩) F F) F (vB (flagsOf F (ms2.map rankF)))) ∧ Hid (Ext W0.heap.size W0 wr2)) (fun _ j _ => gs.length - (intOf j).toNat)
      case atStart => exact ⟨0, es, ms, rfl, by omega, HO, HGM, HX, HBF2, HFL, HE⟩
      case round =>
        obtain ⟨q, es2, ms2, rfl, hq, HO2, HGM2, HX2, HBF3, HFL2, HE2⟩ := hrel
        have hm2F := HGM2.out.len
        rw [← HF.out] at hm2F
        have hk2 := (List.getElem?_eq_some_iff.1 HX2.out).1
        obtain ⟨g2, cap2, hsh2, hgB2, hgl2, hcap2⟩ := HO2.out.len (by omega)
        subst hsh2
        by_cases hqlt : q < gs.length
        · have hqz : (q : Int) < (gs.length : Int) := by omega
          obtain ⟨b, o, rfl⟩ := HSH.out (by omega)
          obtain ⟨e1, he1, ho1, hbl⟩ := HGS.out q hqlt b o rfl
          have hc1 := (HE2.out.1.cell (p := ⟨b, o + q, none⟩) hbl).trans he1
          have ho2 := ho1.below HE2.out.1
          have hpa := HG.out gs[q] (List.getElem_mem hqlt)
          have hdr := expG_drop hqlt x ms2
          obtain ⟨A, hA⟩ : ∃ A, A = gs[q] := ⟨_, rfl⟩
          rw [← hA] at ho2 hpa hdr
          obtain ⟨e2, hc2, hom⟩ := ownE.cellE HO2.out HX2.out
          obtain ⟨Z, hZ⟩ : ∃ Z, prodF A x = Z := ⟨_, rfl⟩
          have hpz : PermL n Z := by rw [← hZ]; exact hpa.prod HPX.out
          rw [hZ] at hdr
          have HDR := hid hdr
          have hrz := hpz.rk
          rw [← HF.out] at hrz
          obtain ⟨d, hd⟩ : ∃ d : Nat, rankF Z = (d : Int) := ⟨(rankF Z).toNat, by omega⟩
          have hdF : d < F := by omega
          have hdz : (d : Int) < (F : Int) := by omega
          have HD := hid hd
          have HZ1 := hid hZ
          have HPA := hid hpa
          have HPZ := hid hpz
          have HO2x := hid ho2.rd
          have HOMx := hid hom.rd
          have hkz : (k : Int) < (ms2.length : Int) := by omega
          have hxl : x.length ≤ 6 := by rw [HPX.out.1]; exact h6
          have hzl : Z.length ≤ 6 := by rw [hpz.1]; exact h6
          have hxa : Hid (∀ y ∈ x, 0 ≤ y ∧ y < (A.length : Int)) := hid (by rw [hpa.1]; exact HPX.out.2)
          have HC : ∀ T : Bool, (ms2.map rankF).contains (d : Int) = T → (vB (flagsOf F (ms2.map rankF)))[d]? = some (.bool T) := fun T e => by simp [vB, flagsOf_get hdF]; rw [← e, List.contains_eq_mem]; simp
          have HC := hid HC
          clear hd hZ hpa hpz hA hdr ho1 ho2 hom he1 hrz
          go_wp2_with fail
          refine viaI (g := id) (i_prodE _ _ A x Z _ HO2x.out HOMx.out hxa.out hxl HZ1.out) ?_
          intro t1 u1 z1 own1
          try simp at z1
          obtain ⟨a1, c1, hsh1, _, _⟩ := own1.rd
          subst hsh1
          obtain ⟨V, hV⟩ : ∃ V, V = aft wr u1 := ⟨_, rfl⟩
          have HBV : Hid (Below wr.heap.size wr V) := hid (by rw [hV]; exact below_aft wr u1)
          rw [← hV] at own1 z1 ⊢
          have HOV := HO2.out.below HBV.out
          have HFV := owns_kept HFL2.out (w' := V) fun k hk _ => HBV.out.block k hk
          have HEV : Hid (Ext W0.heap.size W0 V) := hid ⟨HE2.out.1.trans (HBV.out.mono HE2.out.2), Nat.le_trans HE2.out.2 HBV.out.size⟩
          have hclv := HFV.cellAt d (by omega)
          have hfrv := HFV.frozenAt d
          have HOW1 := hid own1
          have HOV := hid HOV
          have HFV := hid HFV
          clear hV
          cases hT : (ms2.map rankF).contains (d : Int)
          · rw [HC.out _ hT] at hclv
            have hst := HFV.out.stored d (.bool true)
            rw [flags_step hdF] at hst
            have HST2 := hid hst
            have hns : addG ms2 Z = ms2 ++ [Z] := addG_new (by rw [HD.out]; exact hT)
            have HNG : Hid (GoodM n (ms2 ++ [Z])) := hid (HGM2.out.snoc HPZ.out (by rw [HD.out]; exact hT))
            have HBF4 : Hid (bfsG gs f' (k + 1) (expG (gs.drop (q + 1)) x (ms2 ++ [Z])) = M) := hid (by rw [← hns, ← HDR.out]; exact HBF3.out)
            have HOS := hid (ownE.seen HOV.out HFV.out hst.2)
            have HES : Hid (Ext W0.heap.size W0 (V.setCell ⟨S, d, none⟩ (.bool true))) := hid (Ext.grown (o := (.slice (some ⟨S, 0, none⟩) F F)) HEV.out hst.2 (fun k hk => (World.ownsRow.lt HFV.out k hk).1))
            have HO1S : Hid (ownR W0.heap.size (V.setCell ⟨S, d, none⟩ (.bool true)) (.slice a1 Z.length c1) Z) := hid (ownR.mono (own1.kept fun k hk hb => hst.2.block k hk fun e => rows_apart (by decide) own1 HFV.out k hb e.symm) HE2.out.2)
            clear hst hns hT own1
            go_wp2_with (first | (go_at_call 91; refine pur (i_rankE 0 _ Z _ _ (by first | exact HOW1.out.mono (Nat.zero_le _) | exact HO1S.out.mono (Nat.zero_le _)) hzl HD.out) ?_) | (at_builtin; refine wpList_append_own _ rfl _ _ 37 rfl W0.heap.size 24 i1 (.slice none 0 0) 1 24 Try.underlying37 hj hy0 hy1 hy2 rfl (by decide) _ _ _ rfl (HOS.out.below ((Below.refl _ _).alloc (Nat.le_refl _) _)).2.1 ⟨_, 0, none⟩ 1 1 [.slice a1 Z.length c1] rfl rfl ?c1 ?c2 ?c3 ?c4 ?c5 ?_))
            case c1 =>
              have e : V.heap.size = (V.setCell ⟨S, d, none⟩ (.bool true)).heap.size := by simp [World.setCell]
              rw [e]
              exact one_new
            case c2 => first | exact own_one HO1S.out | (intro u hu; simp at hu; subst hu; exact own_one HO1S.out)
            case c3 => unfold maxLen; omega
            case c4 => omega
            case c5 => have := HES.out.2; first | omega | (simp at this ⊢; omega)
            intro v' w2 hown' hgrow _
            have HN : Hid (ownE W0.heap.size w2 v' (es2 ++ [.slice a1 Z.length c1]) (ms2 ++ [Z])) := hid (ownE.snoc (HOS.out.below ((Below.refl _ _).alloc (Nat.le_refl _) _)) (HO1S.out.alloc _) hown' hgrow)
            have HEN : Hid (Ext W0.heap.size W0 w2) := hid (Ext.grown (HES.out.alloc _) hgrow (ownE.row HOS.out))
            have HFN : Hid (w2.ownsRow W0.heap.size 4 1 (.slice (some ⟨S, 0, none⟩) F F) F (vB (flagsOf F ((ms2 ++ [Z]).map rankF)))) := hid (by
              rw [List.map_append, show [Z].map rankF = [(d : Int)] by simp [HD.out]]
              have h9 := HST2.out.1.alloc (.cells #[Value.slice a1 Z.length c1] 24)
              exact h9.kept hgrow (.inr fun e => rows_apart (by decide) h9 (HOS.out.below ((Below.refl _ _).alloc (Nat.le_refl _) _)).2.1 S rfl e.symm))
            have HXN : Hid ((ms2 ++ [Z])[k]? = some x) := hid (by rw [List.getElem?_append_left hk2]; exact HX2.out)
            clear hown' hgrow
            go_wp2_with fail
            go_roundw
            case rel => exact ⟨q + 1, _, ms2 ++ [Z], by go_num, by omega, HN, HNG, HXN, HBF4, HFN, HEN⟩
            case measure => simp only [intOf]; omega
          · rw [HC.out _ hT] at hclv
            have hns : addG ms2 Z = ms2 := addG_has (by rw [HD.out]; exact hT)
            have HBF4 : Hid (bfsG gs f' (k + 1) (expG (gs.drop (q + 1)) x ms2) = M) := hid (by rw [HDR.out, hns] at HBF3; exact HBF3.out)
            clear hns hT own1
            go_wp2_with (go_at_call 91; refine pur (i_rankE 0 _ Z _ _ (HOW1.out.mono (Nat.zero_le _)) hzl HD.out) ?_)
            go_roundw
            case rel => exact ⟨q + 1, es2, ms2, by go_num, by omega, HOV, HGM2, HX2, HBF4, HFV, HEV⟩
            case measure => simp only [intOf]; omega
        · obtain rfl : q = gs.length := by omega
          have hqz : ¬ (gs.length : Int) < (gs.length : Int) := by omega
          have HBF4 : Hid (bfsG gs f' (k + 1) ms2 = M) := hid (by have := HBF3.out; rwa [List.drop_length, expG_nil] at this)
          go_wp2_with fail
          go_roundw
          case rel => exact ⟨k + 1, f', es2, ms2, by go_num, by omega, by omega, HO2, HGM2, HBF4, HFL2, HE2⟩
          case measure => simp only [intOf]; omega
    · obtain rfl : k = ms.length := by omega
      have hltz : ¬ (ms.length : Int) < (ms.length : Int) := by omega
      have hMe : ms = M := by rw [← HBF.out, bfsG_end]
      have hZe : listedU (ms.map rankF) (facN n) = zs := by rw [hMe, HM.out]; exact HZ.out
      have hrr : rdRR wr _ ms := ownRR.rd ⟨es, HO.out⟩
      have hgd : ∀ xs ∈ ms, xs.length = n := fun xs h => (HGM.out.perm xs h).1
      have HGD := hid hgd
      have HRR := hid hrr
      have HZE := hid hZe
      obtain ⟨g, cap, hsh, hgB, hgl, hcap⟩ := HO.out.len (by
        rcases Nat.eq_zero_or_pos ms.length with h0 | h0
        · exfalso
          have h9 := genM_id n gs
          rw [← HM.out, ← hMe, List.eq_nil_of_length_eq_zero h0] at h9
          simp at h9
        · exact h0)
      subst hsh
      clear hMe hZe hgd hrr
      go_wp2_with fail
      refine viaG (i_groupOfE n _ ms _ zs HRR.out h6 HGD.out (by omega) HZE.out) ?_
      intro v3 u3 z3 own3
      try simp at z3
      have HE9 : Hid (Ext W0.heap.size W0 (aft wr u3)) := hid (HE.out.aft u3)
      have hR10 := HR0.out.below HE9.out.1 (by have := HSZ.out; omega)
      obtain ⟨y0, hy0'⟩ := Option.isSome_iff_exists.1 (hR10 0 (by omega)).2
      obtain ⟨y1, hy1'⟩ := Option.isSome_iff_exists.1 (hR10 1 (by omega)).2
      have hf0 := (hR10 0 (by omega)).1
      have hf1 := (hR10 1 (by omega)).1
      obtain ⟨a9, c9, hsh9, _, _⟩ := own3.rd
      subst hsh9
      have hEs := HE.out.2
      have hEs9 := HE9.out.2
      have HBB : Hid (Ext w.heap.size w (aft wr u3)) := hid ⟨HBW.out.trans (HE9.out.1.mono (by have := HSZ.out; omega)), by have := HSZ.out; have := HE9.out.2; omega⟩
      have hsz0 := HSZ.out
      clear hR10
      go_wp2_with fail
      exact bodyPost_ret (v := .agg #[.int .i64 (n : Int), .slice a9 zs.length c9]) (by simp [results, go_sem, hy0', hy1']) rfl ⟨_, rfl, ((own3.setCell _ _ _ _ (by omega)).setCell _ _ _ _ (by omega)).mono (by omega), Ext.bel ((HBB.out.setCell _ _ _ _ (by omega)).setCell _ _ _ _ (by omega))⟩
end Go.Proofs.Ytbkbcbanfnhjpaa
