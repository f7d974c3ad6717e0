/- IsGroup: the statement's text. -/
import Derived.Test.YtbkbcbanfnhjpaaK6
namespace Go.Proofs.Ytbkbcbanfnhjpaa
open Go Go.RowKit

theorem group_out {n : Int} {rs : List Int} (h : inB n 1 6 = false) : groupB n rs = false := by
  have : ¬ (1 ≤ n ∧ n ≤ 6) := fun h2 => by rw [inB_t h2.1 h2.2] at h; cases h
  simp [groupB, this]
theorem group_rises {n : Nat} {rs : List Int} (h : risesB (facN n : Int) (-1) rs = false) : groupB n rs = false := by
  simp [groupB, h]
theorem group_nil {n : Int} : groupB n [] = false := by simp [groupB]
theorem group_head {n : Int} {x : Int} {r : List Int} (h : x ≠ 0) : groupB n (x :: r) = false := by simp [groupB, h]
theorem group_closed {n : Nat} {x : Int} {r : List Int} (h1 : 1 ≤ n ∧ n ≤ 6) (h2 : risesB (facN n : Int) (-1) (x :: r) = true) (h3 : x = 0) : groupB n (x :: r) = closedB n (x :: r) := by
  subst h3
  have : (1 : Int) ≤ n ∧ (n : Int) ≤ 6 := by omega
  simp [groupB, h2, this]
def inG (n : Nat) (rs : List Int) (x y : Int) : Bool := rs.contains (rankF (prodF (withF n x) (withF n y)))
theorem all_take {α : Type} {xs : List α} {p : α → Bool} {k : Nat} (h : k < xs.length) (h1 : (xs.take k).all p = true) (h2 : p xs[k] = true) : (xs.take (k + 1)).all p = true := by
  rw [List.take_succ_eq_append_getElem h, List.all_append, h1]; simp [h2]
theorem all_no {α : Type} {xs : List α} {p : α → Bool} {k : Nat} (h : k < xs.length) (h2 : p xs[k] = false) : xs.all p = false := by
  rw [Bool.eq_false_iff]; intro h3
  rw [List.all_eq_true] at h3
  rw [h3 _ (List.getElem_mem h)] at h2; cases h2
theorem s_rankE (r : Value) (xs : List Int) (w : World) (q : Int) (h : rdI w r xs) (hl : xs.length ≤ 6) (hq : rankF xs = q) :
    Calls Try.prog 85 #[r] w fun e w' => e = .returned (.int .i64 q) ∧ Below w.heap.size w w' := by subst hq; exact s_rank r xs w h hl
theorem s_prodE (r1 r2 : Value) (xs ys zs : List Int) (w : World) (h1 : rdI w r1 xs) (h2 : rdI w r2 ys) (hr : ∀ y ∈ ys, 0 ≤ y ∧ y < xs.length) (hl : ys.length ≤ 6) (hz : prodF xs ys = zs) :
    Calls Try.prog 86 #[r1, r2] w fun e w' => ∃ v, e = .returned v ∧ ownR w.heap.size w' v zs ∧ Below w.heap.size w w' := by subst hz; exact s_prod r1 r2 xs ys w h1 h2 hr hl

theorem with_len {m : Nat} {x : Int} (h : m ≤ 6) (hx : 0 ≤ x ∧ x < (facN m : Int)) : (withF m x).length = m := (with_ok h hx.1 hx.2).len
set_option maxRecDepth 20000 in
set_option maxHeartbeats 8000000 in
theorem s_IsGroup (n : Int) (r : Value) (rs : List Int) (w : World) (h : rdI w r rs) (hl : rs.length ≤ 1048576) :
    Calls Try.prog 57 #[(.agg #[.int .i64 n, r])] w fun e w' => e = .returned (.bool (groupB n rs)) ∧ Below w.heap.size w w' := by
  have hR := h.alloc (Obj.cells #[.int .i64 n, r] 26)
  cases hin : inB n 1 6
  · rw [group_out hin]
    go_enter Try.func57, Try.ntmps57
    go_wp2_with fail
    refine wp_region_calm (by kernel_rfl) (by kernel_rfl) ?_
    repeat (go_big_quiet_step (first | (go_at_call 69; exact calmpb (s_in _ _ _ _) hin)))
    refine wpQuiet_nil ?_; intro uq zq; try simp at zq
    go_wp2_with fail
    go_ret
    exact ⟨rfl, (by refine Ext.bel ?_; repeat (with_reducible first | exact Ext.refl _ | apply Ext.alloc | apply Ext.aft | apply Ext.drew | apply Ext.drewN | apply Ext.setCell | exact Nat.le_add_right _ _ | exact Nat.le_refl _ | (simp; done) | omega))⟩
  have hn16 := inB_iff.1 hin
  obtain ⟨m, rfl⟩ : ∃ m : Nat, n = m := ⟨n.toNat, by omega⟩
  have hm6 : m ≤ 6 := by omega
  have hf := facN_pos m
  have hf7 := facN_le hm6
  cases hri : risesB (facN m : Int) (-1) rs
  · rw [group_rises hri]
    go_enter Try.func57, Try.ntmps57
    go_wp2_with fail
    refine wp_region_calm (by kernel_rfl) (by kernel_rfl) ?_
    repeat (go_big_quiet_step (first | (go_at_call 69; exact calmpb (s_in _ _ _ _) hin) | (go_at_call 84; exact calmp (s_fact m _ hm6)) | (go_at_call 115; exact calmb (s_rises _ _ _ _ (hR.aft _) (by omega)) hri)))
    refine wpQuiet_nil ?_; intro uq zq; try simp at zq
    go_wp2_with fail
    go_ret
    exact ⟨rfl, (by refine Ext.bel ?_; repeat (with_reducible first | exact Ext.refl _ | apply Ext.alloc | apply Ext.aft | apply Ext.drew | apply Ext.drewN | apply Ext.setCell | exact Nat.le_add_right _ _ | exact Nat.le_refl _ | (simp; done) | omega))⟩
  obtain ⟨a, cap, rfl, hmx, hc⟩ := id h
  rcases rs with _ | ⟨x0, rt⟩
  · rw [group_nil]
    simp only [List.length_nil] at *
    go_enter Try.func57, Try.ntmps57
    go_wp2_with fail
    refine wp_region_calm (by kernel_rfl) (by kernel_rfl) ?_
    repeat (go_big_quiet_step (first | (go_at_call 69; exact calmpb (s_in _ _ _ _) hin) | (go_at_call 84; exact calmp (s_fact m _ hm6)) | (go_at_call 115; exact calmb (s_rises _ [] _ _ (hR.aft _) (by omega)) hri)))
    refine wpQuiet_nil ?_; intro uq zq; try simp at zq
    go_wp2_with fail
    go_ret
    exact ⟨rfl, (by refine Ext.bel ?_; repeat (with_reducible first | exact Ext.refl _ | apply Ext.alloc | apply Ext.aft | apply Ext.drew | apply Ext.drewN | apply Ext.setCell | exact Nat.le_add_right _ _ | exact Nat.le_refl _ | (simp; done) | omega))⟩
  obtain ⟨b, o, rfl, hcell⟩ := hc (by simp)
  have hx0 := hcell 0 (by simp)
  have hxb := World.block_lt_of_cell? w _ hx0
  simp only [List.getElem_cons_zero, Nat.add_zero] at hx0 hxb
  have hgc := fun h3 : x0 = 0 => group_closed (n := m) (by omega) hri h3
  have hgh := fun h3 : x0 ≠ 0 => group_head (n := (m : Int)) (r := rt) h3
  obtain ⟨rs, hrs⟩ : ∃ rs, rs = x0 :: rt := ⟨_, rfl⟩
  have hpos : 0 < rs.length := by rw [hrs]; simp
  rw [← hrs] at h hl hR hri hmx hcell hgc hgh ⊢
  have hle : ((rs.length : Int) == 0) = false := by rw [beq_eq_false_iff_ne]; omega
  have hposz : (0 : Int) < (rs.length : Int) := by omega
  clear hrs hc
  by_cases hz : x0 = 0
  case neg =>
    rw [hgh hz]
    have hzb : (x0 == 0) = false := by simpa using hz
    have HZ := hid hz
    clear hgc hgh hz hcell
    go_enter Try.func57, Try.ntmps57
    go_wp2_with fail
    refine wp_region_calm (by kernel_rfl) (by kernel_rfl) ?_
    repeat (go_big_quiet_step (first | (go_at_call 69; exact calmpb (s_in _ _ _ _) hin) | (go_at_call 84; exact calmp (s_fact m _ hm6)) | (go_at_call 115; exact calmb (s_rises _ _ _ _ (hR.aft _) (by omega)) hri)))
    refine wpQuiet_nil ?_; intro uq zq; try simp at zq
    go_wp2_with fail
    go_ret
    exact ⟨rfl, (by refine Ext.bel ?_; repeat (with_reducible first | exact Ext.refl _ | apply Ext.alloc | apply Ext.aft | apply Ext.drew | apply Ext.drewN | apply Ext.setCell | exact Nat.le_add_right _ _ | exact Nat.le_refl _ | (simp; done) | omega))⟩
  rw [hgc hz]
  obtain ⟨C, hC⟩ : ∃ C, C = closedB m rs := ⟨_, rfl⟩
  rw [← hC]
  have HC := hid hC
  clear hC
  have hzb : (x0 == 0) = true := by simpa using hz
  have HZ := hid hz
  have Hr : Hid (∀ x ∈ rs, 0 ≤ x ∧ x < (facN m : Int)) := hid (fun x hx => by have := rises_mem rs _ hri x hx; omega)
  clear hgc hgh hz hcell
  go_enter Try.func57, Try.ntmps57
  go_wp2_with fail
  refine wp_region_calm (by kernel_rfl) (by kernel_rfl) ?_
  repeat (go_big_quiet_step (first | (go_at_call 69; exact calmpb (s_in _ _ _ _) hin) | (go_at_call 84; exact calmp (s_fact m _ hm6)) | (go_at_call 115; exact calmb (s_rises _ _ _ _ (hR.aft _) (by omega)) hri)))
  refine wpQuiet_nil ?_; intro uq zq; try simp at zq
  go_wp2_with fail
  refine viaX (g := id) (s_flags m _ rs _ (hR.aft _) hm6 Hr.out) ?_
  intro v1 u1 zz1 own1
  try simp at zz1
  go_wp2_with fail
  refine viaX (g := id) (s_elements m _ rs _ ((hR.aft _).aft _) hm6 Hr.out hl) ?_
  intro v2 u2 zz2 own2
  try simp at zz2
  go_wp2_with fail
  obtain ⟨W, hW⟩ : ∃ W, W = aft (aft (aft (w.alloc (Obj.cells #[.int .i64 (m : Int), .slice (some ⟨b, o, none⟩) rs.length cap] 26)) uq) u1) u2 := ⟨_, rfl⟩
  have HE : Hid (Ext w.heap.size w W) := hid (by rw [hW]; exact (by repeat (with_reducible first | exact Ext.refl _ | apply Ext.alloc | apply Ext.aft | apply Ext.drew | apply Ext.drewN | apply Ext.setCell | exact Nat.le_add_right _ _ | exact Nat.le_refl _ | (simp; done) | omega)))
  have ownf := own1.below (below_aft _ u2)
  have own2' := own2.rd
  rw [← hW] at ownf own2' ⊢
  obtain ⟨g, cf, hg, _, hgl⟩ := ownf.shape (by rw [flagsOf_len]; exact hf)
  rw [flagsOf_len] at hg
  subst hg
  obtain ⟨am, cm, hv2, hmm, hcm⟩ := own2'
  rw [memF_len] at hv2 hmm
  subst hv2
  have Hcm := hid hcm
  have HF := hid ownf
  have hlm : rs.length ≤ 1048576 := hl
  clear hW own1 own2 zz1 zz2 hcm ownf hR h hx0 hxb hmm
  go_loopw [5] (fun s wr => ∃ i : Nat, i ≤ rs.length ∧ s = .int .i64 i ∧ Ext W.heap.size W wr ∧ Hid ((rs.take i).all (fun x => rs.all fun y => inG m rs x y) = true)) (fun s _ => rs.length - (intOf s).toNat)
  case atStart => exact ⟨0, by omega, rfl, Ext.refl _, hid (by simp)⟩
  case round =>
    obtain ⟨i, hi, rfl, hE1, HA⟩ := hrel
    have HE1 := hid hE1
    obtain ⟨wo, rfl⟩ : ∃ wo : World, wo = wr := ⟨_, rfl⟩
    clear hE1
    by_cases hlt : i < rs.length
    · have hltz : (i : Int) < (rs.length : Int) := by omega
      go_wp2_with fail
      go_loopw [6] (fun s wr => ∃ k : Nat, k ≤ rs.length ∧ s = .int .i64 k ∧ Ext W.heap.size W wr ∧ Hid ((rs.take k).all (fun y => inG m rs rs[i] y) = true)) (fun s _ => rs.length - (intOf s).toNat)
      case atStart => exact ⟨0, by omega, rfl, HE1.out, hid (by simp)⟩
      case round =>
        obtain ⟨k, hk, rfl, hE2, HA2⟩ := hrel
        by_cases hlt2 : k < rs.length
        · have hltz2 : (k : Int) < (rs.length : Int) := by omega
          have hne : memF m rs ≠ [] := by intro e; have := memF_len m rs; rw [e] at this; simp at this; omega
          obtain ⟨bm, om, rfl, hcel⟩ := Hcm.out hne
          obtain ⟨e1, hc1, ho1⟩ := hcel i (by rw [memF_len]; exact hlt)
          obtain ⟨e2, hc2, ho2⟩ := hcel k (by rw [memF_len]; exact hlt2)
          have hw1 := with_ok hm6 (Hr.out _ (List.getElem_mem hlt)).1 (Hr.out _ (List.getElem_mem hlt)).2
          have hw2 := with_ok hm6 (Hr.out _ (List.getElem_mem hlt2)).1 (Hr.out _ (List.getElem_mem hlt2)).2
          have em1 : (memF m rs)[i]'(by rw [memF_len]; exact hlt) = withF m rs[i] := by simp [memF]
          have em2 : (memF m rs)[k]'(by rw [memF_len]; exact hlt2) = withF m rs[k] := by simp [memF]
          rw [em1] at ho1
          rw [em2] at ho2
          have hpl : (prodF (withF m rs[i]) (withF m rs[k])).length = m := by rw [prodF_len, hw2.len]
          have hrk := rankF_bd (prodF (withF m rs[i]) (withF m rs[k]))
          rw [hpl] at hrk
          obtain ⟨q, hq⟩ : ∃ q : Nat, rankF (prodF (withF m rs[i]) (withF m rs[k])) = q := ⟨(rankF (prodF (withF m rs[i]) (withF m rs[k]))).toNat, by omega⟩
          rw [hq] at hrk
          have hqF : q < facN m := by omega
          have hcq := HF.out.cell (q := q) (by rw [flagsOf_len]; exact hqF)
          rw [flagsOf_at hqF, ← hq] at hcq
          change _ = some (Value.bool (inG m rs rs[i] rs[k])) at hcq
          obtain ⟨A, hA⟩ : ∃ A, A = withF m rs[i] := ⟨_, rfl⟩
          obtain ⟨Bk, hBk⟩ : ∃ Bk, Bk = withF m rs[k] := ⟨_, rfl⟩
          rw [← hA] at ho1 hq hpl
          rw [← hBk] at ho2 hq hpl
          have hrng : Hid (∀ y ∈ Bk, 0 ≤ y ∧ y < (A.length : Int)) := hid (by rw [hA, with_len hm6 (Hr.out _ (List.getElem_mem hlt)), hBk]; exact hw2.rng)
          have hBl : Bk.length ≤ 6 := by rw [hBk, hw2.len]; exact hm6
          obtain ⟨ZZ, hZZ⟩ : ∃ ZZ, prodF A Bk = ZZ := ⟨_, rfl⟩
          rw [hZZ] at hq hpl
          have HO1 := hid ho1.rd
          have HO2 := hid ho2.rd
          have HQ := hid hq
          have HZ2 := hid hZZ
          have HPL := hid hpl
          have hqz : (q : Int) < (facN m : Int) := by omega
          have hb1 := World.block_lt_of_cell? W _ hc1
          obtain ⟨tv, htv⟩ : ∃ tv, tv = inG m rs rs[i] rs[k] := ⟨_, rfl⟩
          rw [← htv] at hcq
          have HT := hid htv
          clear hcel em1 em2 hw1 hw2 hA hBk ho1 ho2 hq hpl hZZ hne htv hrk
          go_wp2_with fail
          go_region_held3 (fun w' => (∀ b o, b < W.heap.size → w'.cell? ⟨b, o, none⟩ = W.cell? ⟨b, o, none⟩) ∧ Hid (Ext W.heap.size W w')) ((refine sB ?_; repeat (with_reducible first | assumption | apply Ext.aft | apply Ext.alloc | apply Ext.drew | apply Ext.drewN))) (first | (go_at_call 86; refine viaI (g := id) (s_prodE _ _ A Bk ZZ _ (HO1.out.below (Ext.bel (by repeat (with_reducible first | exact hE2 | apply Ext.aft | apply Ext.alloc | apply Ext.drew | apply Ext.drewN)))) (HO2.out.below (Ext.bel (by repeat (with_reducible first | exact hE2 | apply Ext.aft | apply Ext.alloc | apply Ext.drew | apply Ext.drewN)))) hrng.out hBl HZ2.out) ?_; intro t1 u3 z1 own3; (try simp at z1); have rd3 := own3.rd) | (go_at_call 85; refine via (s_rankE _ ZZ _ q (by (repeat (with_reducible first | assumption | apply rdI.aft | apply rdI.alloc | apply rdI.drew | apply rdI.drewN)); done) (by have := HPL.out; omega) HQ.out) ?_; intro u4 z4; (try simp at z4)))
          have HE4 : Hid (Ext W.heap.size W (aft (aft wr.drew u3) u4)) := hid (by repeat (with_reducible first | exact hE2 | apply Ext.aft | apply Ext.alloc | apply Ext.drew | apply Ext.drewN))
          clear own3 rd3
          cases tv
          · have e : Hid (C = false) := hid (by
              rw [HC.out]
              refine all_no hlt ?_
              exact all_no hlt2 HT.out.symm)
            go_wp2_with fail
            go_ret
            exact ⟨ret_b (by rw [e.out]), HE.out.bel.trans (HE4.out.1.mono HE.out.2)⟩
          · go_wp2_with fail
            go_roundw
            case rel => exact ⟨k + 1, by omega, by go_num, HE4.out, hid (all_take hlt2 HA2.out HT.out.symm)⟩
            case measure => simp only [intOf]; omega
        · obtain rfl : k = rs.length := by omega
          rw [List.take_length] at HA2
          have hltz2 : ¬ (rs.length : Int) < (rs.length : Int) := by omega
          have HE2 := hid hE2
          clear hE2
          go_wp2_with fail
          go_roundw
          case rel => exact ⟨i + 1, by omega, by go_num, HE2.out, hid (all_take hlt HA.out HA2.out)⟩
          case measure => simp only [intOf]; omega
    · obtain rfl : i = rs.length := by omega
      have e : Hid (C = true) := hid (by have := HA.out; rw [List.take_length] at this; rw [HC.out]; exact this)
      have hltz : ¬ (rs.length : Int) < (rs.length : Int) := by omega
      go_wp2_with fail
      go_ret
      exact ⟨ret_b (by rw [e.out]), HE.out.bel.trans (HE1.out.1.mono HE.out.2)⟩
end Go.Proofs.Ytbkbcbanfnhjpaa
