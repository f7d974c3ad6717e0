/- The conjugate of a group: the program's text. -/
import Derived.Test.YtbkbcbanfnhjpaaY1
namespace Go.Proofs.Ytbkbcbanfnhjpaa
open Go Go.RowKit

def conjF (a b : List Int) : List Int := prodF (prodF a b) (opF a)
theorem opF_len (a : List Int) : (opF a).length = a.length := invT_len _ _
theorem opF_rng (a : List Int) : ∀ y ∈ opF a, 0 ≤ y ∧ y < (a.length : Int) := invT_rng a _ (Nat.le_refl _)
theorem conjF_len (a b : List Int) : (conjF a b).length = a.length := by unfold conjF; rw [prodF_len, opF_len]
set_option maxRecDepth 20000 in
set_option maxHeartbeats 4000000 in
theorem i_conj (r1 r2 : Value) (a b : List Int) (w : World) (zs : List Int) (h1 : rdI w r1 a) (h2 : rdI w r2 b) (hl : a.length ≤ 6) (h0 : 0 < a.length) (hb : b.length = a.length) (ha : ∀ y ∈ a, 0 ≤ y ∧ y < (a.length : Int)) (hbr : ∀ y ∈ b, 0 ≤ y ∧ y < (a.length : Int)) (hz : conjF a b = zs) :
    Calls Try.prog 92 #[r1, r2] w fun e w' => ∃ v, e = .returned v ∧ ownR w.heap.size w' v zs ∧ Below w.heap.size w w' := by
  have Ha := hid ha
  have Hb := hid hbr
  have HZ := hid hz
  obtain ⟨Z, hZ⟩ : ∃ Z, prodF a b = Z := ⟨_, rfl⟩
  have HZ1 := hid hZ
  have HZL : Hid (Z.length = a.length) := hid (by rw [← hZ, prodF_len, hb])
  have HZ3 : Hid (prodF Z (opF a) = zs) := hid (by rw [← hZ]; exact hz)
  clear ha hbr hz hZ
  go_enter Try.func92, Try.ntmps92
  go_wp2_with fail
  refine viaI (g := id) (i_prodE _ _ a b Z _ h1 h2 Hb.out (by omega) HZ1.out) ?_
  intro t1 u1 z1 own1
  try simp at z1
  have rd1 := own1.rd
  go_wp2_with fail
  refine viaI (g := id) (i_op _ a _ (h1.aft _) hl h0 Ha.out) ?_
  intro t2 u2 z2 own2
  try simp at z2
  have rd2 := own2.rd
  go_wp2_with fail
  refine viaI (g := id) (i_prodE _ _ Z (opF a) zs _ (rd1.aft _) rd2 (by rw [HZL.out]; exact opF_rng a) (by rw [opF_len]; exact hl) HZ3.out) ?_
  intro t3 u3 z3 own3
  try simp at z3
  go_wp2_with fail
  go_ret
  exact ⟨_, rfl, own3.mono (by omega), (by refine Ext.bel ?_; repeat (with_reducible first | exact Ext.refl _ | apply Ext.alloc | apply Ext.aft | apply Ext.drew | apply Ext.drewN | apply Ext.setCell | exact Nat.le_add_right _ _ | exact Nat.le_refl _ | (simp; done) | omega))⟩
set_option maxRecDepth 20000 in
set_option maxHeartbeats 8000000 in
theorem i_conjGroup (m : Nat) (r va : Value) (rs A : List Int) (w : World) (zs : List Int) (h : rdI w r rs) (hA : rdI w va A) (hm1 : 1 ≤ m) (hm6 : m ≤ 6) (hr : ∀ x ∈ rs, 0 ≤ x ∧ x < (facN m : Int)) (hl : rs.length ≤ 720) (hAl : A.length = m) (hAr : ∀ y ∈ A, 0 ≤ y ∧ y < (m : Int)) (hz : listedU ((memF m rs).map fun b => rankF (conjF A b)) (facN m) = zs) :
    Calls Try.prog 105 #[.agg #[.int .i64 (m : Int), r], va] w fun e w' => ∃ s, e = .returned (.agg #[.int .i64 (m : Int), s]) ∧ ownR w.heap.size w' s zs ∧ Below w.heap.size w w' := by
  obtain ⟨i1, hj, hy0, hy1, hy2⟩ := info_parts infoS
  have hR := (h.alloc (Obj.cells #[.int .i64 (m : Int), r] 26)).alloc (Obj.cells #[.int .i64 0, .slice none 0 0] 26)
  have hA2 := (hA.alloc (Obj.cells #[.int .i64 (m : Int), r] 26)).alloc (Obj.cells #[.int .i64 0, .slice none 0 0] 26)
  have Hr := hid hr
  have HAr := hid hAr
  have HZ : Hid (listedU (((memF m rs).map (conjF A)).map rankF) (facN m) = zs) := hid (by rw [List.map_map]; exact hz)
  clear hr hz h hA hAr
  go_enter Try.func105, Try.ntmps105
  go_wp2_with fail
  refine viaX (g := id) (i_members m _ rs _ hR hm6 Hr.out (by omega)) ?_
  intro v2 u2 z2 own2
  try simp at z2
  obtain ⟨W, hW⟩ : ∃ W, W = aft ((w.alloc (Obj.cells #[.int .i64 (m : Int), r] 26)).alloc (Obj.cells #[.int .i64 0, .slice none 0 0] 26)) u2 := ⟨_, rfl⟩
  have HE : Hid (Ext w.heap.size w W) := hid (by rw [hW]; exact (by repeat (with_reducible first | exact Ext.refl _ | apply Ext.alloc | apply Ext.aft | apply Ext.drew | apply Ext.drewN | apply Ext.setCell | exact Nat.le_add_right _ _ | exact Nat.le_refl _ | (simp; done) | omega)))
  have c0 : W.cell? ⟨w.heap.size, 0, none⟩ = some (.int .i64 (m : Int)) := by rw [hW]; simp [go_sem]
  have hres : resOK (w.heap.size + 1) W := by
    intro k hk
    obtain rfl | rfl : k = 0 ∨ k = 1 := by omega
    all_goals (rw [hW]; simp [go_sem])
  have HAW := hid (show rdI W va A by rw [hW]; exact hA2.aft _)
  have own2' := own2.rd
  rw [← hW] at own2' ⊢
  obtain ⟨am, cm, hv2, hmm, hcm⟩ := own2'
  rw [memF_len] at hv2 hmm
  subst hv2
  have Hcm := hid hcm
  have hb0 := World.block_lt_of_cell? W _ c0
  have hs1 : w.heap.size + 1 < W.heap.size := by rw [hW]; omega
  simp only at hb0
  have HRES := hid hres
  clear hW own2 hR hA2 hres hcm hmm z2
  go_wp2_with fail
  go_loopw [5, 11] (fun v i wr => ∃ (k : Nat) (es : List Value), k ≤ rs.length ∧ i = .int .i64 k ∧ Hid (ownE W.heap.size wr v es ((memF m (rs.take k)).map (conjF A))) ∧ Ext W.heap.size W wr) (fun _ i _ => rs.length - (intOf i).toNat)
  case atStart => exact ⟨0, [], by omega, rfl, hid (ownE.nil _ _), Ext.refl _⟩
  case round =>
    obtain ⟨k, es, hk, rfl, HO, hE⟩ := hrel
    have HE1 := hid hE
    by_cases hlt : k < rs.length
    · have hltz : (k : Int) < (rs.length : Int) := by omega
      have hne : memF m rs ≠ [] := by intro e; have := memF_len m rs; rw [e] at this; simp at this; omega
      obtain ⟨bm, om, rfl, hcel⟩ := Hcm.out hne
      obtain ⟨e1, hc1, ho1⟩ := hcel k (by rw [memF_len]; exact hlt)
      have em1 : (memF m rs)[k]'(by rw [memF_len]; exact hlt) = withF m rs[k] := by simp [memF]
      rw [em1] at ho1
      have hw1 := with_ok hm6 (Hr.out _ (List.getElem_mem hlt)).1 (Hr.out _ (List.getElem_mem hlt)).2
      have hsn := memF_snoc (n := m) hlt
      have hal := hw1.len
      have hrg := hw1.rng
      obtain ⟨B, hB⟩ : ∃ B, B = withF m rs[k] := ⟨_, rfl⟩
      rw [← hB] at ho1 hal hrg hsn
      have hkc1 := hE.1.cell (p := ⟨bm, om + k, none⟩) (World.block_lt_of_cell? W _ hc1)
      rw [hc1] at hkc1
      have HO1 := hid (ho1.rd.below hE.1)
      have HRG := hid hrg
      obtain ⟨Z, hZ⟩ : ∃ Z, conjF A B = Z := ⟨_, rfl⟩
      have HS : Hid ((memF m (rs.take (k + 1))).map (conjF A) = (memF m (rs.take k)).map (conjF A) ++ [Z]) := hid (by rw [hsn, List.map_append, ← hZ]; rfl)
      have HZ2 := hid hZ
      have hpl : ((memF m (rs.take k)).map (conjF A)).length = k := by rw [List.length_map, memF_len, List.length_take]; omega
      have HA5 := hid (HAW.out.below hE.1)
      clear hsn em1 hw1 hrg ho1 hc1 hcel hne hB hZ hE
      go_wp2_with fail
      refine viaI (g := id) (i_conj _ _ A B _ Z HA5.out HO1.out (by omega) (by omega) (by omega) (by rw [hAl]; exact HAr.out) (by rw [hAl]; exact HRG.out) HZ2.out) ?_
      intro t1 u1 z1 own1
      try simp at z1
      have HOw := HO.out.below (below_aft wr u1)
      obtain ⟨a1, c1, hsh, _, _⟩ := own1.rd
      subst hsh
      have hpl2 := hpl
      have hEs := HE1.out.2
      go_wp2_with (at_builtin; refine wpList_append_own _ rfl _ _ 37 rfl W.heap.size 24 i1 (.slice none 0 0) 1 24 Try.underlying37 hj hy0 hy1 hy2 rfl (by decide) _ _ _ rfl (HOw.below ((Below.refl _ _).alloc (Nat.le_refl _) _)).2.1 ⟨_, 0, none⟩ 1 1 [_] rfl rfl one_new ?c2 ?c3 ?c4 ?c5 ?_)
      case c2 => first | exact own_one own1 | (intro u hu; simp at hu; subst hu; exact own_one own1)
      case c3 => first | (unfold maxLen; omega) | (rw [hpl2]; unfold maxLen; omega)
      case c4 => first | omega | (rw [hpl2]; omega)
      case c5 => first | omega | (simp; omega)
      intro v' w1 hown' hgrow _
      have HN : Hid (ownE W.heap.size w1 v' (es ++ [.slice a1 Z.length c1]) ((memF m (rs.take (k + 1))).map (conjF A))) := hid (by
        rw [HS.out]
        exact ownE.snoc (HOw.below ((Below.refl _ _).alloc (Nat.le_refl _) _)) ((own1.mono (by omega)).alloc _) (by first | exact hown' | (rw [hpl2]; exact hown')) hgrow)
      have HE2 : Hid (Ext W.heap.size W w1) := hid (Ext.grown ((HE1.out.aft u1).alloc _) hgrow (ownE.row HO.out))
      clear hown' hgrow own1 HOw
      go_wp2_with fail
      go_roundw
      case rel => exact ⟨k + 1, es ++ [.slice a1 Z.length c1], by omega, by go_num, HN, HE2.out⟩
      case measure => simp only [intOf]; omega
    · obtain rfl : k = rs.length := by omega
      rw [List.take_length] at HO
      have hltz : ¬ (rs.length : Int) < (rs.length : Int) := by omega
      have d0 := hE.1.cell (p := ⟨w.heap.size, 0, none⟩) hb0
      rw [c0] at d0
      have hRR : rdRR wr _ ((memF m rs).map (conjF A)) := ownRR.rd ⟨es, HO.out⟩
      have HRR := hid hRR
      clear hE hRR
      go_wp2_with fail
      refine viaG (i_groupOfE m _ _ _ zs HRR.out hm6 (fun ys hy => by
        obtain ⟨b, _, rfl⟩ := List.mem_map.1 hy
        rw [conjF_len]; exact hAl) (by rw [List.length_map, memF_len]; omega) HZ.out) ?_
      intro v3 u3 z3 own3
      try simp at z3
      have HE9 : Hid (Ext W.heap.size W (aft wr u3)) := hid (HE1.out.aft u3)
      have hR10 := HRES.out.below HE9.out.1 hs1
      obtain ⟨y0, hy0'⟩ := Option.isSome_iff_exists.1 (hR10 0 (by omega)).2
      obtain ⟨y1, hy1'⟩ := Option.isSome_iff_exists.1 (hR10 1 (by omega)).2
      have hf0 := (hR10 0 (by omega)).1
      have hf1 := (hR10 1 (by omega)).1
      obtain ⟨a9, c9, hsh9, _, _⟩ := own3.rd
      subst hsh9
      have hEs := HE1.out.2
      have hEs9 := HE9.out.2
      clear hR10
      go_wp2_with fail
      exact bodyPost_ret (v := .agg #[.int .i64 (m : Int), .slice a9 zs.length c9]) (by simp [results, go_sem, hy0', hy1']) rfl ⟨_, rfl, ((own3.setCell _ _ _ _ (by omega)).setCell _ _ _ _ (by omega)).mono (by omega), Ext.bel (((HE.out.below HE9.out.1).setCell _ _ _ _ (by omega)).setCell _ _ _ _ (by omega))⟩
end Go.Proofs.Ytbkbcbanfnhjpaa
