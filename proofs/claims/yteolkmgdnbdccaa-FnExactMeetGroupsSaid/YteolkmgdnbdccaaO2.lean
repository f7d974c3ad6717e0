/- Orbits: both texts. -/
import Derived.Test.YteolkmgdnbdccaaO1
namespace Go.Proofs.Yteolkmgdnbdccaa
open Go Go.RowKit

set_option maxRecDepth 20000 in
set_option maxHeartbeats 8000000 in
theorem i_orbit (m p : Nat) (r : Value) (rs : List Int) (w : World) (h : rdI w r rs) (hm6 : m ≤ 6) (hp : p < m) (hr : ∀ x ∈ rs, 0 ≤ x ∧ x < (facN m : Int)) (hl : rs.length ≤ 720) :
    Calls Try.prog 31 #[.agg #[.int .i64 (m : Int), r], .int .i64 (p : Int)] w fun e w' => ∃ v, e = .returned v ∧ ownR w.heap.size w' v (orbF m rs p) ∧ Below w.heap.size w w' := by
  obtain ⟨i0, hi, hz0, hz1, hz2⟩ := info_parts infoI
  obtain ⟨a, cap, hsh, hm, _⟩ := id h
  unfold maxLen at hm
  have hR := h.alloc (Obj.cells #[.int .i64 (m : Int), r] 28)
  subst hsh
  have Hr := hid hr
  have Hib := hid (imgs_bd hm6 hr hp)
  clear hr h
  go_enter Try.func31, Try.ntmps31
  go_wp2_with fail
  refine viaX (g := id) (i_members m _ rs _ hR hm6 Hr.out (by omega)) ?_
  intro v2 u2 zz2 own2
  try simp at zz2
  obtain ⟨W, hW⟩ : ∃ W, W = aft (w.alloc (Obj.cells #[.int .i64 (m : Int), .slice a rs.length cap] 28)) u2 := ⟨_, rfl⟩
  have HE : Hid (Ext w.heap.size w W) := hid (by rw [hW]; exact (by repeat (with_reducible first | exact Ext.refl _ | apply Ext.alloc | apply Ext.aft | apply Ext.drew | apply Ext.drewN | apply Ext.setCell | exact Nat.le_add_right _ _ | exact Nat.le_refl _ | (simp; done) | omega)))
  have own2' := own2.rd
  rw [← hW] at own2' zz2 ⊢
  obtain ⟨am, cm, hv2, hmm, hcm⟩ := own2'
  rw [memF_len] at hv2 hmm
  subst hv2
  have Hcm := hid hcm
  clear hW own2 hcm hmm hR
  go_wp2_with fail
  go_loopw [5, 11] (fun q i wr => ∃ k : Nat, k ≤ rs.length ∧ i = .int .i64 k ∧ Hid (ownR W.heap.size wr q (imgs m (rs.take k) p)) ∧ Ext W.heap.size W wr) (fun _ i _ => rs.length - (intOf i).toNat)
  case atStart => exact ⟨0, by omega, rfl, hid (ownR.nil _ _), Ext.refl _⟩
  case round =>
    obtain ⟨k, hk, rfl, HO, hE1⟩ := hrel
    have HE1 := hid hE1
    by_cases hlt : k < rs.length
    · have hltz : (k : Int) < (rs.length : Int) := by omega
      have hnem : memF m rs ≠ [] := by intro e; have := memF_len m rs; rw [e] at this; simp at this; omega
      obtain ⟨bm, om, rfl, hcel⟩ := Hcm.out hnem
      obtain ⟨e1, hc1, ho1⟩ := hcel k (by rw [memF_len]; exact hlt)
      have hb1 := World.block_lt_of_cell? W _ hc1
      have hc2 := hE1.1.cell (p := ⟨bm, om + k, none⟩) hb1
      rw [hc1] at hc2
      have em1 : (memF m rs)[k]'(by rw [memF_len]; exact hlt) = withF m rs[k] := by simp [memF]
      rw [em1] at ho1
      have hal := (with_ok hm6 (Hr.out _ (List.getElem_mem hlt)).1 (Hr.out _ (List.getElem_mem hlt)).2).len
      obtain ⟨g1, c1, hsh, hg1, _, _⟩ := own_some ho1 (by intro e; rw [e] at hal; simp at hal; omega)
      rw [hal] at hsh
      subst hsh
      have hcp := own_cell ho1 (q := p) (by rw [hal]; exact hp)
      have hcp2 := hE1.1.cell (p := ⟨g1, p, none⟩) hg1
      rw [hcp] at hcp2
      have hsn := imgs_snoc (m := m) (p := p) hlt
      obtain ⟨x, hx⟩ : ∃ x, x = (withF m rs[k]).getD p 0 := ⟨_, rfl⟩
      rw [← hx] at hcp2 hsn
      have HS := hid hsn
      have hpz : (p : Int) < (m : Int) := by omega
      have hpl : (imgs m (rs.take k) p).length = k := by rw [imgs_len, List.length_take]; omega
      have hown := HO.out
      clear hx hsn hcel em1 hnem ho1 hc1 hcp hal hE1
      go_wp2_with (at_builtin; refine wpList_append_own _ rfl _ _ 22 rfl (W.heap.size) 2 i0 (.int .i64 0) 1 8 Try.underlying22 hi hz0 hz1 hz2 rfl (by decide) _ _ _ rfl (hown.alloc _) ⟨_, 0, none⟩ 1 1 [.int .i64 (x)] rfl rfl ?c1 ?c2 ?c3 ?c4 ?c5 ?_)
      try case c1 => exact cell_one_new _ _ _
      case c2 => first | rfl | (intro u hu; simp at hu; subst hu; rfl)
      case c3 => first | (unfold maxLen; omega) | (rw [hpl]; unfold maxLen; omega)
      case c4 => first | omega | (rw [hpl]; omega)
      case c5 => first | (have := HE1.out.2; simp; omega) | omega
      intro v' w1 hown' hgrow _
      have HN : Hid (ownR W.heap.size w1 v' (imgs m (rs.take (k + 1)) p)) := hid (by rw [HS.out]; refine ownR.snoc ?_; first | exact hown' | (rw [hpl]; exact hown'))
      have HE3 : Hid (Ext W.heap.size W w1) := hid (ext_grown (HE1.out.alloc _) hgrow (own_row_ge hown))
      clear hown' hgrow hown
      go_wp2_with fail
      go_roundw
      case rel => exact ⟨k + 1, by omega, by go_num, HN, HE3.out⟩
      case measure => simp only [intOf]; omega
    · obtain rfl : k = rs.length := by omega
      rw [List.take_length] at HO
      have hltz : ¬ (rs.length : Int) < (rs.length : Int) := by omega
      clear hE1
      go_wp2_with fail
      refine (lib_sort HO.out (by rw [imgs_len]; omega)).mono ?_
      rintro e w2 ⟨rfl, hso, hgr⟩
      have HO2 := hid hso
      have HE2 : Hid (Ext W.heap.size W w2) := hid (ext_grown HE1.out hgr (own_row_ge HO.out))
      clear hso hgr
      go_wp2_with fail
      refine (lib_compact HO2.out).mono ?_
      rintro e w3 ⟨v3, rfl, hso3, hgr3, _⟩
      have HE3 : Hid (Ext W.heap.size W w3) := hid (ext_grown HE2.out hgr3 (own_row_ge HO2.out))
      rw [sort_compact Hib.out] at hso3
      have HO3 := hid hso3
      clear hso3 hgr3
      go_wp2_with fail
      go_ret
      exact ⟨_, rfl, HO3.out.mono (Nat.le_trans (by omega) zz2), HE.out.bel.trans (HE3.out.1.mono HE.out.2)⟩
theorem asc_len {rs : List Int} {F : Nat} (ha : rs.Pairwise (· < ·)) (hr : ∀ x ∈ rs, 0 ≤ x ∧ x < (F : Int)) : rs.length ≤ F := by
  rw [← listedU_self ha hr (fun _ => Iff.rfl)]; exact listedU_len _ _
set_option maxRecDepth 20000 in
set_option maxHeartbeats 8000000 in
theorem s_orbit (m p : Nat) (r : Value) (rs : List Int) (w : World) (h : rdI w r rs) (hm6 : m ≤ 6) (hp : p < m) (hr : ∀ x ∈ rs, 0 ≤ x ∧ x < (facN m : Int)) (hl : rs.length ≤ 720) :
    Calls Try.prog 28 #[.agg #[.int .i64 (m : Int), r], .int .i64 (p : Int)] w fun e w' => ∃ v, e = .returned v ∧ ownR w.heap.size w' v (orbF m rs p) ∧ Below w.heap.size w w' := by
  obtain ⟨i0, hi, hz0, hz1, hz2⟩ := info_parts infoB
  obtain ⟨a, cap, hsh, hm, _⟩ := id h
  unfold maxLen at hm
  have hR := h.alloc (Obj.cells #[.int .i64 (m : Int), r] 28)
  subst hsh
  have Hr := hid hr
  have Hib := hid (imgs_bd hm6 hr hp)
  clear hr h
  go_enter Try.func28, Try.ntmps28
  go_wp2_with fail
  refine viaX (g := id) (s_elements m _ rs _ hR hm6 Hr.out (by omega)) ?_
  intro v2 u2 zz2 own2
  try simp at zz2
  obtain ⟨W, hW⟩ : ∃ W, W = aft (w.alloc (Obj.cells #[.int .i64 (m : Int), .slice a rs.length cap] 28)) u2 := ⟨_, rfl⟩
  have HE : Hid (Ext w.heap.size w W) := hid (by rw [hW]; exact (by repeat (with_reducible first | exact Ext.refl _ | apply Ext.alloc | apply Ext.aft | apply Ext.drew | apply Ext.drewN | apply Ext.setCell | exact Nat.le_add_right _ _ | exact Nat.le_refl _ | (simp; done) | omega)))
  have cg0 : W.cell? ⟨w.heap.size, 0, none⟩ = some (.int .i64 (m : Int)) := by rw [hW]; simp [go_sem]
  have own2' := own2.rd
  rw [← hW] at own2' zz2 ⊢
  obtain ⟨am, cm, hv2, hmm, hcm⟩ := own2'
  rw [memF_len] at hv2 hmm
  subst hv2
  have Hcm := hid hcm
  clear hW own2 hcm hmm hR
  go_wp2_with (at_make; refine wpList_make_full _ rfl _ _ 59 rfl W.heap.size 4 i0 (.bool false) 1 Try.underlying59 hi hz0 hz1 _ _ _ _ m rfl rfl rfl rfl (by rw [hz2]; omega) (by unfold maxLen; omega) (Nat.le_refl _) ?_)
  intro w1 hown hgr
  have hown : w1.ownsRow W.heap.size 4 1 (.slice (some ⟨W.heap.size, 0, none⟩) m m) m (vB (flagsOf m [])) := by rw [flagsOf_nil, ← vB_no]; exact hown
  have HB : Hid (Below W.heap.size W w1) := hid (Below.grown (Below.refl _ _) hgr (Nat.le_refl _) (fun k hk => by cases hk))
  have HO := hid hown
  clear hown hgr
  go_wp2_with fail
  go_loopw [7] (fun i wr => ∃ k : Nat, k ≤ rs.length ∧ i = .int .i64 k ∧ Hid (wr.ownsRow W.heap.size 4 1 (.slice (some ⟨W.heap.size, 0, none⟩) m m) m (vB (flagsOf m (imgs m (rs.take k) p)))) ∧ Hid (Below W.heap.size W wr)) (fun i _ => rs.length - (intOf i).toNat)
  case atStart => exact ⟨0, by omega, rfl, HO, HB⟩
  case round =>
    obtain ⟨k, hk, rfl, HO, HB⟩ := hrel
    by_cases hlt : k < rs.length
    · have hltz : (k : Int) < (rs.length : Int) := by omega
      have hnem : memF m rs ≠ [] := by intro e; have := memF_len m rs; rw [e] at this; simp at this; omega
      obtain ⟨bm, om, rfl, hcel⟩ := Hcm.out hnem
      obtain ⟨e1, hc1, ho1⟩ := hcel k (by rw [memF_len]; exact hlt)
      have hb1 := World.block_lt_of_cell? W _ hc1
      have hc2 := HB.out.cell (p := ⟨bm, om + k, none⟩) hb1
      rw [hc1] at hc2
      have em1 : (memF m rs)[k]'(by rw [memF_len]; exact hlt) = withF m rs[k] := by simp [memF]
      rw [em1] at ho1
      have hal := (with_ok hm6 (Hr.out _ (List.getElem_mem hlt)).1 (Hr.out _ (List.getElem_mem hlt)).2).len
      obtain ⟨g1, c1, hsh, hg1, _, _⟩ := own_some ho1 (by intro e; rw [e] at hal; simp at hal; omega)
      rw [hal] at hsh
      subst hsh
      have hcp := own_cell ho1 (q := p) (by rw [hal]; exact hp)
      have hcp2 := HB.out.cell (p := ⟨g1, p, none⟩) hg1
      rw [hcp] at hcp2
      have hsn := imgs_snoc (m := m) (p := p) hlt
      have hxb : 0 ≤ (withF m rs[k]).getD p 0 ∧ (withF m rs[k]).getD p 0 < (m : Int) := Hib.out _ (by unfold imgs; exact List.mem_map.2 ⟨_, List.getElem_mem hlt, rfl⟩)
      obtain ⟨q, hq⟩ : ∃ q : Nat, (q : Int) = (withF m rs[k]).getD p 0 := ⟨((withF m rs[k]).getD p 0).toNat, by omega⟩
      rw [← hq] at hcp2 hsn hxb
      have hqF : q < m := by omega
      have hcl := HO.out.cellAt q (by omega)
      have hlen : (vB (flagsOf m (imgs m (rs.take k) p))).length = m := by rw [vB_len, flagsOf_len]
      obtain ⟨y, hy⟩ : ∃ y, (vB (flagsOf m (imgs m (rs.take k) p)))[q]? = some y := ⟨_, List.getElem?_eq_getElem (by omega)⟩
      rw [hy] at hcl
      have hfr := HO.out.frozenAt q
      have hst := HO.out.stored q (.bool true)
      rw [flags_step hqF, ← hsn] at hst
      have HS := hid hst
      have hpz : (p : Int) < (m : Int) := by omega
      have hqz : (q : Int) < (m : Int) := by omega
      clear hst hy hlen hq hcel hsn em1 hnem ho1 hc1 hcp hal
      go_wp2_with fail
      go_roundw
      case rel => exact ⟨k + 1, by omega, by go_num, hid HS.out.1, hid (Below.grown HB.out HS.out.2 HB.out.size (fun k hk => by injection hk with hk; omega))⟩
      case measure => simp only [intOf]; omega
    · obtain rfl : k = rs.length := by omega
      rw [List.take_length] at HO
      have hltz : ¬ (rs.length : Int) < (rs.length : Int) := by omega
      go_wp2_with fail
      refine viaX (g := id) (s_listed W.heap.size _ m (imgs m rs p) _ (by unfold ownF; rw [flagsOf_len]; exact HO.out) (by omega)) ?_
      intro v9 u9 z9 own9
      try simp at z9
      have hz9 := HB.out.size
      go_wp2_with fail
      go_ret
      exact ⟨_, rfl, own9.mono (Nat.le_trans (by omega) (Nat.le_trans zz2 hz9)), HE.out.bel.trans ((HB.out.trans ((below_aft _ _).mono HB.out.size)).mono HE.out.2)⟩
end Go.Proofs.Yteolkmgdnbdccaa
