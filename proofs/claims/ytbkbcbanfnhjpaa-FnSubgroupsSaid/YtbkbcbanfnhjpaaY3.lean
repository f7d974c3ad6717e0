/- The conjugate of a group: the statement's text. -/
import Derived.Test.YtbkbcbanfnhjpaaY2
namespace Go.Proofs.Ytbkbcbanfnhjpaa
open Go Go.RowKit

theorem s_listedE (B : Nat) (v : Value) (F : Nat) (xs : List Int) (w : World) (zs : List Int) (h : ownF B w v (flagsOf F xs)) (hF : 0 < F ∧ F ≤ 720) (hz : listedU xs F = zs) :
    Calls Try.prog 88 #[v] w fun e w' => ∃ r, e = .returned r ∧ ownR w.heap.size w' r zs ∧ Below w.heap.size w w' := by subst hz; exact s_listed B v F xs w h hF
def conjR (m : Nat) (rs A : List Int) : List Int := (memF m rs).map fun b => rankF (conjF A b)
set_option maxRecDepth 20000 in
set_option maxHeartbeats 8000000 in
theorem s_conjGroup (m : Nat) (r va : Value) (rs A : List Int) (w : World) (zs : List Int) (h : rdI w r rs) (hA : rdI w va A) (hm1 : 1 ≤ m) (hm6 : m ≤ 6) (hr : ∀ x ∈ rs, 0 ≤ x ∧ x < (facN m : Int)) (hl : rs.length ≤ 720) (hAl : A.length = m) (hAr : ∀ y ∈ A, 0 ≤ y ∧ y < (m : Int)) (hz : listedU (conjR m rs A) (facN m) = zs) :
    Calls Try.prog 106 #[.agg #[.int .i64 (m : Int), r], va] w fun e w' => ∃ s, e = .returned (.agg #[.int .i64 (m : Int), s]) ∧ ownR w.heap.size w' s zs ∧ Below w.heap.size w w' := by
  obtain ⟨ib, hib, hib0, hib1, hib2⟩ := info_parts infoB
  have hR := (h.alloc (Obj.cells #[.int .i64 (m : Int), r] 26)).alloc (Obj.cells #[.int .i64 0, .slice none 0 0] 26)
  have hA2 := (hA.alloc (Obj.cells #[.int .i64 (m : Int), r] 26)).alloc (Obj.cells #[.int .i64 0, .slice none 0 0] 26)
  have Hr := hid hr
  have HAr := hid hAr
  have HZ := hid hz
  have hf := facN_pos m
  have hf7 := facN_le hm6
  obtain ⟨F, hF⟩ : ∃ F, F = facN m := ⟨_, rfl⟩
  have HF := hid hF
  rw [← hF] at hf hf7
  clear hr hz h hA hAr hF
  go_enter Try.func106, Try.ntmps106
  go_wp2_with fail
  refine viaI (g := id) (s_inv va A _ hA2 (by omega) (by omega) (by rw [hAl]; exact HAr.out)) ?_
  intro vc u1 z1 ownc
  try simp at z1
  have rdc := ownc.rd
  go_wp2_with fail
  refine viaX (g := id) (s_elements m _ rs _ (hR.aft _) hm6 Hr.out (by omega)) ?_
  intro v2 u2 z2 own2
  try simp at z2
  obtain ⟨W, hW⟩ : ∃ W, W = aft (aft ((w.alloc (Obj.cells #[.int .i64 (m : Int), r] 26)).alloc (Obj.cells #[.int .i64 0, .slice none 0 0] 26)) u1) u2 := ⟨_, rfl⟩
  have HE : Hid (Ext w.heap.size w W) := hid (by rw [hW]; exact (by repeat (with_reducible first | exact Ext.refl _ | apply Ext.alloc | apply Ext.aft | apply Ext.drew | apply Ext.drewN | apply Ext.setCell | exact Nat.le_add_right _ _ | exact Nat.le_refl _ | (simp; done) | omega)))
  have c0 : W.cell? ⟨w.heap.size, 0, none⟩ = some (.int .i64 (m : Int)) := by rw [hW]; simp [go_sem, ↓IntWalk.iteOmega]
  have hres : resOK (w.heap.size + 1) W := by
    intro k hk
    obtain rfl | rfl : k = 0 ∨ k = 1 := by omega
    all_goals (rw [hW]; simp [go_sem, ↓IntWalk.iteOmega])
  have HAW := hid (show rdI W va A by rw [hW]; exact (hA2.aft _).aft _)
  have HCW := hid (show rdI W vc (opF A) by rw [hW]; exact rdc.aft _)
  have own2' := own2.rd
  rw [← hW] at own2' ⊢
  obtain ⟨am, cm, hv2, hmm, hcm⟩ := own2'
  rw [memF_len] at hv2 hmm
  subst hv2
  have Hcm := hid hcm
  have hb0 := World.block_lt_of_cell? W _ c0
  have hs1 : w.heap.size + 1 < W.heap.size := by rw [hW]; omega
  simp only at hb0
  have HRES := hid hres
  clear hW own2 hR hA2 hres hcm hmm z2 z1 rdc ownc
  go_wp2_with (first | (go_at_call 84; refine pur (s_fact m _ hm6) ?_; rw [← HF.out]) | (at_make; refine wpList_make_full _ rfl _ _ 80 rfl W.heap.size 4 ib (.bool false) 1 Try.underlying80 hib hib0 hib1 _ _ _ _ F rfl rfl rfl rfl (by rw [hib2]; omega) (by unfold maxLen; omega) (Nat.le_refl _) ?_))
  intro w1 hown hgr
  have hown : w1.ownsRow W.heap.size 4 1 (.slice (some ⟨W.heap.size, 0, none⟩) F F) F (vB (flagsOf F (conjR m (rs.take 0) A))) := by
    rw [show conjR m (rs.take 0) A = [] by rfl, flagsOf_nil, ← vB_no]; exact hown
  have HE0 : Ext W.heap.size W w1 := ⟨Below.grown (Below.refl _ _) hgr (Nat.le_refl _) (fun k hk => by cases hk), hgr.size⟩
  have HO := hid hown
  clear hown hgr
  go_wp2_with fail
  go_loopw [8] (fun i wr => ∃ k : Nat, k ≤ rs.length ∧ i = .int .i64 k ∧ Hid (wr.ownsRow W.heap.size 4 1 (.slice (some ⟨W.heap.size, 0, none⟩) F F) F (vB (flagsOf F (conjR m (rs.take k) A)))) ∧ Ext W.heap.size W wr) (fun i _ => rs.length - (intOf i).toNat)
  case atStart => exact ⟨0, by omega, rfl, HO, HE0⟩
  case round =>
    obtain ⟨k, hk, rfl, HO, hE⟩ := hrel
    have HE1 := hid hE
    have hEs := hE.2
    by_cases hlt : k < rs.length
    · have hltz : (k : Int) < (rs.length : Int) := by omega
      have hne : memF m rs ≠ [] := by intro e; have := memF_len m rs; rw [e] at this; simp at this; omega
      obtain ⟨bm, om, rfl, hcel⟩ := Hcm.out hne
      obtain ⟨e1, hc1, ho1⟩ := hcel k (by rw [memF_len]; exact hlt)
      have em1 : (memF m rs)[k]'(by rw [memF_len]; exact hlt) = withF m rs[k] := by simp [memF]
      rw [em1] at ho1
      have hw1 := with_ok hm6 (Hr.out _ (List.getElem_mem hlt)).1 (Hr.out _ (List.getElem_mem hlt)).2
      have hsn : conjR m (rs.take (k + 1)) A = conjR m (rs.take k) A ++ [rankF (conjF A (withF m rs[k]))] := by unfold conjR; rw [memF_snoc (n := m) hlt, List.map_append]; rfl
      have hal := hw1.len
      have hrg := hw1.rng
      obtain ⟨B, hB⟩ : ∃ B, B = withF m rs[k] := ⟨_, rfl⟩
      rw [← hB] at ho1 hal hrg hsn
      have hkc1 := hE.1.cell (p := ⟨bm, om + k, none⟩) (World.block_lt_of_cell? W _ hc1)
      rw [hc1] at hkc1
      have HO1 := hid (ho1.rd.below hE.1)
      have HRG := hid hrg
      obtain ⟨Z1, hZ1⟩ : ∃ Z, prodF B (opF A) = Z := ⟨_, rfl⟩
      obtain ⟨Z2, hZ2⟩ : ∃ Z, prodF A Z1 = Z := ⟨_, rfl⟩
      have hcj : conjF A B = Z2 := by unfold conjF; rw [prod_assoc (by rw [hal, ← hAl]; exact opF_rng A), hZ1, hZ2]
      rw [hcj] at hsn
      have hZ2l : Z2.length = m := by rw [← hcj, conjF_len, hAl]
      have hZ1l : Z1.length = m := by rw [← hZ1, prodF_len, opF_len, hAl]
      have hZ1r : ∀ y ∈ Z1, 0 ≤ y ∧ y < (m : Int) := by
        rw [← hZ1]
        intro y hy
        unfold prodF at hy
        obtain ⟨i, hi, rfl⟩ := List.mem_map.1 hy
        have hi2 := opF_rng A i hi
        have hi3 : i.toNat < B.length := by omega
        simp only [List.getD, List.getElem?_eq_getElem hi3, Option.getD_some]
        exact hrg _ (List.getElem_mem hi3)
      have hrk := rankF_bd Z2
      rw [hZ2l, ← HF.out] at hrk
      obtain ⟨q, hq⟩ : ∃ q : Nat, rankF Z2 = q := ⟨(rankF Z2).toNat, by omega⟩
      rw [hq] at hrk hsn
      have hqF : q < F := by omega
      have hqz : (q : Int) < (F : Int) := by omega
      have HQ := hid hq
      have HZ1 := hid hZ1
      have HZ2 := hid hZ2
      have HZ1R := hid hZ1r
      have HSN := hid hsn
      have HA5 := hid (HAW.out.below hE.1)
      have HC5 := hid (HCW.out.below hE.1)
      have HOR := hid (opF_rng A)
      clear hsn em1 hw1 hrg ho1 hc1 hcel hne hB hZ1 hZ2 hE hcj hZ1r hq
      go_wp2_with fail
      refine viaI (g := id) (s_prodE _ _ B (opF A) Z1 _ HO1.out HC5.out (by rw [hal, ← hAl]; exact HOR.out) (by rw [opF_len]; omega) HZ1.out) ?_
      intro t1 u3 z3 own3
      try simp at z3
      have rd3 := own3.rd
      go_wp2_with fail
      refine viaI (g := id) (s_prodE _ _ A Z1 Z2 _ (HA5.out.aft _) rd3 (by rw [hAl]; exact HZ1R.out) (by omega) HZ2.out) ?_
      intro t2 u4 z4 own4
      try simp at z4
      have rd4 := own4.rd
      go_wp2_with fail
      refine via (s_rankE _ Z2 _ q rd4 (by omega) HQ.out) ?_
      intro u5 z5
      try simp at z5
      obtain ⟨V, hV⟩ : ∃ V, V = aft (aft (aft wr u3) u4) u5 := ⟨_, rfl⟩
      have HEV : Hid (Ext wr.heap.size wr V) := hid (by rw [hV]; exact (by repeat (with_reducible first | exact Ext.refl _ | apply Ext.alloc | apply Ext.aft | apply Ext.drew | apply Ext.drewN | apply Ext.setCell | exact Nat.le_add_right _ _ | exact Nat.le_refl _ | (simp; done) | omega)))
      rw [← hV]
      have HOV := owns_kept HO.out (w' := V) fun k hk _ => HEV.out.1.block k hk
      have hcl := HOV.cellAt q (by omega)
      have hlen : (vB (flagsOf F (conjR m (rs.take k) A))).length = F := by rw [vB_len, flagsOf_len]
      obtain ⟨y, hy⟩ : ∃ y, (vB (flagsOf F (conjR m (rs.take k) A)))[q]? = some y := ⟨_, List.getElem?_eq_getElem (by omega)⟩
      rw [hy] at hcl
      have hfr := HOV.frozenAt q
      have hst := HOV.stored q (.bool true)
      rw [flags_step hqF, ← HSN.out] at hst
      have HST := hid hst
      have HEW : Hid (Ext W.heap.size W V) := hid (HE1.out.1.trans (HEV.out.1.mono HE1.out.2) |> fun h => ⟨h, Nat.le_trans HE1.out.2 HEV.out.2⟩)
      clear hV hst hlen own3 own4 rd3 rd4 z3 z4 z5 hy HOV
      go_wp2_with fail
      go_roundw
      case rel => exact ⟨k + 1, by omega, by go_num, hid HST.out.1, Ext.grown (o := .slice (some ⟨W.heap.size, 0, none⟩) F F) HEW.out HST.out.2 (fun k hk => Nat.le_of_eq (Option.some.inj hk))⟩
      case measure => simp only [intOf]; omega
    · obtain rfl : k = rs.length := by omega
      rw [List.take_length] at HO
      have hltz : ¬ (rs.length : Int) < (rs.length : Int) := by omega
      have d0 := hE.1.cell (p := ⟨w.heap.size, 0, none⟩) hb0
      rw [c0] at d0
      have HOF : Hid (ownF W.heap.size wr (.slice (some ⟨W.heap.size, 0, none⟩) F F) (flagsOf F (conjR m rs A))) := hid (by unfold ownF; rw [flagsOf_len]; exact HO.out)
      have HRW := hid (HRES.out.below hE.1 hs1)
      have HZF : Hid (listedU (conjR m rs A) F = zs) := hid (by rw [HF.out]; exact HZ.out)
      have hEB : Ext (w.heap.size + 1) wr wr := Ext.base (by omega)
      have hn0 : w.heap.size < w.heap.size + 1 := by omega
      clear hE
      go_wp2_with fail
      go_region_held3 (fun w' => (∀ b o, b < w.heap.size + 1 → w'.cell? ⟨b, o, none⟩ = wr.cell? ⟨b, o, none⟩) ∧ Hid (Ext (w.heap.size + 1) wr w')) ((refine sB ?_; repeat (with_reducible first | assumption | exact Nat.le_refl _ | apply Ext.aft | apply Ext.alloc | apply Ext.drew | apply Ext.drewN | apply Ext.setCell))) (first | (go_at_call 88; refine viaI (g := id) (s_listedE W.heap.size _ F (conjR m rs A) _ zs (HOF.out.below (by refine Ext.bel ?_; repeat (with_reducible first | exact Ext.refl _ | apply Ext.alloc | apply Ext.aft | apply Ext.drew | apply Ext.drewN))) (by omega) HZF.out) ?_; intro v9 u9 z9 own9; (try simp at z9); have hR10 : resOK (w.heap.size + 1) (aft wr.drew u9) := HRW.out.below (by refine Ext.bel ?_; repeat (with_reducible first | exact Ext.refl _ | apply Ext.alloc | apply Ext.aft | apply Ext.drew | apply Ext.drewN)) (by omega); obtain ⟨y0, hy0⟩ := Option.isSome_iff_exists.1 (hR10 0 (by omega)).2; obtain ⟨y1, hy1⟩ := Option.isSome_iff_exists.1 (hR10 1 (by omega)).2; have hf0 := (hR10 0 (by omega)).1; have hf1 := (hR10 1 (by omega)).1; obtain ⟨a9, c9, hsh9, _, _⟩ := own9.rd; subst hsh9))
      all_goals
        have hE9 : Ext (w.heap.size + 1) wr (aft wr.drew u9) := (by repeat (with_reducible first | exact hEB | apply Ext.aft | apply Ext.alloc | apply Ext.drew | apply Ext.drewN))
        have hsz9 : w.heap.size + 1 < (aft wr.drew u9).heap.size := by have := hE9.2; have := z9; omega
        have HFF : Hid (ownR w.heap.size (((aft wr.drew u9).setCell ⟨w.heap.size + 1, 0, none⟩ (.int .i64 (m : Int))).setCell ⟨w.heap.size + 1, 1, none⟩ (.slice a9 zs.length c9)) (.slice a9 zs.length c9) zs) := hid (ownR.mono ((own9.setCell _ _ _ _ (by first | omega | (simp; omega))).setCell _ _ _ _ (by first | omega | (simp; omega))) (by first | omega | (simp; omega)))
        have HB9 : Hid (Ext w.heap.size w (aft wr.drew u9)) := hid ⟨HE.out.1.trans ((HE1.out.1.mono (by omega)).trans (hE9.1.mono (by omega))), by omega⟩
        go_wp2_with fail
        exact bodyPost_ret (v := .agg #[.int .i64 (m : Int), .slice a9 zs.length c9]) (by simp [results, go_sem, hy0, hy1]) rfl ⟨_, rfl, HFF.out, Ext.bel ((HB9.out.setCell _ _ _ _ (by omega)).setCell _ _ _ _ (by omega))⟩
end Go.Proofs.Ytbkbcbanfnhjpaa
