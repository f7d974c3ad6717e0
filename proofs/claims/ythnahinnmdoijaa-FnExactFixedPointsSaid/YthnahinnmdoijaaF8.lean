/- FixedPoints: both texts. -/
import Derived.Test.YthnahinnmdoijaaO3m
import Derived.Test.YthnahinnmdoijaaP9v
import Derived.Test.YthnahinnmdoijaaO0
namespace Go.Proofs.Ythnahinnmdoijaa
open Go Go.RowKit

def leftK (a : List Int) (k : Nat) : Nat := (List.range k).countP fun i => decide (a.getD i 0 = (i : Int))
theorem leftK_succ (a : List Int) (k : Nat) : leftK a (k + 1) = leftK a k + (if a.getD k 0 = (k : Int) then 1 else 0) := by
  simp only [leftK, List.range_succ, List.countP_append, List.countP_cons, List.countP_nil, Nat.zero_add, decide_eq_true_eq]
theorem leftK_le (a : List Int) (k : Nat) : leftK a k ≤ k := by
  unfold leftK; exact Nat.le_trans List.countP_le_length (by simp)
def incr (o : List Int) (j : Nat) : List Int := o.set j (o.getD j 0 + 1)
theorem incr_len (o : List Int) (j : Nat) : (incr o j).length = o.length := by simp [incr]
theorem incr_vI {o : List Int} {j : Nat} : (vI o).set j (.int .i64 (o.getD j 0 + 1)) = vI (incr o j) := by
  unfold incr; simp [vI, List.map_set]
def fixU (m : Nat) (rs : List Int) (k : Nat) : List Int := (List.range k).foldl (fun o t => incr o (leftK (withF m (rs.getD t 0)) m)) (List.replicate (m + 1) 0)
theorem fixU_succ (m : Nat) (rs : List Int) (k : Nat) : fixU m rs (k + 1) = incr (fixU m rs k) (leftK (withF m (rs.getD k 0)) m) := by
  simp [fixU, List.range_succ]
theorem fixU_len (m : Nat) (rs : List Int) (k : Nat) : (fixU m rs k).length = m + 1 := by
  induction k with
  | zero => simp [fixU]
  | succ k ih => rw [fixU_succ, incr_len, ih]
theorem fixU_bd (m : Nat) (rs : List Int) (k : Nat) : ∀ x ∈ fixU m rs k, 0 ≤ x ∧ x ≤ k := by
  induction k with
  | zero => intro x hx; simp only [fixU, List.range_zero, List.foldl_nil, List.mem_replicate] at hx; rw [hx.2]; simp
  | succ k ih =>
    intro x hx
    rw [fixU_succ] at hx
    unfold incr at hx
    rcases List.mem_or_eq_of_mem_set hx with h | h
    · have := ih x h; omega
    · rw [h]
      generalize leftK (withF m (rs.getD k 0)) m = j
      rcases Nat.lt_or_ge j (fixU m rs k).length with h1 | h1
      · have := ih _ (List.getElem_mem h1)
        rw [List.getD, List.getElem?_eq_getElem h1]
        simp only [Option.getD_some]; omega
      · rw [List.getD_eq_getElem?_getD, List.getElem?_eq_none h1]; simp; omega
theorem fixU_at {m k : Nat} {rs : List Int} {j : Nat} (hj : j ≤ m) : (vI (fixU m rs k))[j]? = some (.int .i64 ((fixU m rs k).getD j 0)) ∧ 0 ≤ (fixU m rs k).getD j 0 ∧ (fixU m rs k).getD j 0 ≤ k := by
  have hl := fixU_len m rs k
  have h1 : j < (fixU m rs k).length := by omega
  have := fixU_bd m rs k _ (List.getElem_mem h1)
  rw [List.getD, List.getElem?_eq_getElem h1]
  simp only [Option.getD_some]
  exact ⟨by simp [vI, h1], this⟩
def fixF (n : Int) (rs : List Int) : List Int × Int := if groupB n rs = true then (fixU n.toNat rs rs.length, 0) else ([], 1)
theorem fixF_len (n : Int) (rs : List Int) : (fixF n rs).1.length ≤ 1000 := by
  unfold fixF
  split
  · rename_i h
    obtain ⟨m, rfl, _, hm6, _⟩ := group_facts h
    simp only [Int.toNat_natCast]
    rw [fixU_len]; omega
  · simp
theorem asc_len' {rs : List Int} {F : Nat} (ha : rs.Pairwise (· < ·)) (hr : ∀ x ∈ rs, 0 ≤ x ∧ x < (F : Int)) : rs.length ≤ F := by
  rw [← listedU_self ha hr (fun _ => Iff.rfl)]; exact listedU_len _ _
theorem grown_cell {w w' : World} {g b o : Nat} {v : Value} (h : w.cell? ⟨b, o, none⟩ = some v) (hg : w.grownBy w' (some g)) (hne : b ≠ g) : w'.cell? ⟨b, o, none⟩ = some v := hg.cell h (fun e => hne (by injection e))
set_option maxRecDepth 20000 in
set_option maxHeartbeats 8000000 in
theorem s_FixedPoints (n : Int) (r : Value) (rs : List Int) (w : World) (h : rdI w r rs) (hl : rs.length ≤ 1048576) :
    Calls Try.prog 21 #[(.agg #[.int .i64 n, r])] w fun e w' => ∃ v, e = .returned (.tuple #[v, .int .i64 (fixF n rs).2]) ∧ ownR w.heap.size w' v (fixF n rs).1 ∧ Below w.heap.size w w' := by
  obtain ⟨i0, hi, hz0, hz1, hz2⟩ := info_parts infoI
  have hR := h.alloc (Obj.cells #[.int .i64 n, r] 27)
  have hN : ∀ W, rdI W (.slice none 0 0) [] := fun W => ⟨none, 0, rfl, by simp [maxLen], fun h => absurd rfl h⟩
  have HN := hid hN
  clear hN
  cases hg : groupB n rs
  · have e : fixF n rs = ([], 1) := by simp [fixF, hg]
    rw [e]; clear e
    have HM := hid (show movC n rs [] = 1 by simp [movC, hg])
    go_enter Try.func21, Try.ntmps21
    go_wp2_with (first | (go_at_call 9; refine via (s_IsGroupE _ _ rs _ false hR hl hg) ?_; intro uu zz; try simp at zz) | (go_at_call 49; refine via (i_moved _ _ _ rs [] _ 1 hR hl (HN.out _) HM.out) ?_; intro uu zz; try simp at zz))
    exact bodyPost_ret (v := .tuple #[.slice none 0 0, .int .i64 1]) (by first | (simp [results, go_sem]; done) | simp [results, go_sem, ↓IntWalk.iteOmega]) rfl ⟨_, rfl, ownR.nil _ _, (by refine Ext.bel ?_; repeat (with_reducible first | exact Ext.refl _ | apply Ext.alloc | apply Ext.aft | apply Ext.drew | apply Ext.drewN | apply Ext.setCell | exact Nat.le_add_right _ _ | exact Nat.le_refl _ | (simp; done) | omega))⟩
  have HG := hid hg
  obtain ⟨m, rfl, hm1, hm6, hne, hhd, hr, hpw, _⟩ := group_facts hg
  have HM := hid (show movC m rs [] = 0 by simp [movC, hg])
  have hl7 : rs.length ≤ 720 := Nat.le_trans (asc_len' hpw hr) (facN_le hm6)
  have Hr := hid hr
  obtain ⟨FF, hFF⟩ : ∃ FF, FF = fixU m rs rs.length := ⟨_, rfl⟩
  have e : fixF m rs = (FF, 0) := by unfold fixF; rw [if_pos hg]; simp only [Int.toNat_natCast]; rw [hFF]
  rw [e]; clear e
  have HFF := hid hFF
  clear hg hr hpw hne hhd hFF
  go_enter Try.func21, Try.ntmps21
  go_wp2_with fail
  first
    | refine via (s_IsGroupE _ _ rs _ true hR hl HG.out) ?_
    | refine via (i_moved _ _ _ rs [] _ 0 hR hl (HN.out _) HM.out) ?_
  intro u1 z1; try simp at z1
  obtain ⟨W1, hW1⟩ : ∃ W1, W1 = aft (w.alloc (Obj.cells #[.int .i64 (m : Int), r] 27)) u1 := ⟨_, rfl⟩
  have HE1 : Hid (Ext w.heap.size w W1) := hid (by rw [hW1]; exact (by repeat (with_reducible first | exact Ext.refl _ | apply Ext.alloc | apply Ext.aft | apply Ext.drew | apply Ext.drewN | apply Ext.setCell | exact Nat.le_add_right _ _ | exact Nat.le_refl _ | (simp; done) | omega)))
  have c0 : W1.cell? ⟨w.heap.size, 0, none⟩ = some (.int .i64 (m : Int)) := by rw [hW1]; simp [go_sem]
  have c1 : W1.cell? ⟨w.heap.size, 1, none⟩ = some r := by rw [hW1]; simp [go_sem]
  have hb0 := World.block_lt_of_cell? W1 _ c0
  simp only at hb0
  have hr1 : rdI W1 r rs := by rw [hW1]; exact hR.aft _
  rw [← hW1]
  clear hW1 hR h z1
  go_wp2_with (at_make; refine wpList_make_full _ rfl _ _ 22 rfl W1.heap.size 2 i0 (.int .i64 0) 1 Try.underlying22 hi hz0 hz1 _ _ _ _ (m + 1) rfl rfl (by simp) (by simp) (by rw [hz2]; omega) (by unfold maxLen; omega) (Nat.le_refl _) ?_)
  intro W2 hown hgr
  have hown : W2.ownsRow W1.heap.size 2 1 (.slice (some ⟨W1.heap.size, 0, none⟩) (m + 1) (m + 1)) (m + 1) (vI (fixU m rs 0)) := by
    have e : fixU m rs 0 = List.replicate (m + 1) 0 := rfl
    rw [e, ← vI_zeros]; exact hown
  have HB2 : Hid (Ext W1.heap.size W1 W2) := hid ⟨Below.grown (Below.refl _ _) hgr (Nat.le_refl _) (fun k hk => by cases hk), hgr.size⟩
  have HO := hid hown
  have d0 : W2.cell? ⟨w.heap.size, 0, none⟩ = some (.int .i64 (m : Int)) := by rw [HB2.out.1.cell (p := ⟨w.heap.size, 0, none⟩) hb0]; exact c0
  have d1 : W2.cell? ⟨w.heap.size, 1, none⟩ = some r := by rw [HB2.out.1.cell (p := ⟨w.heap.size, 1, none⟩) hb0]; exact c1
  have hl2 : W1.heap.size < W2.heap.size := (World.ownsRow.lt hown _ rfl).2
  clear hown hgr c0 c1
  go_wp2_with fail
  refine viaX (g := id) (s_elements m _ rs _ (hr1.below HB2.out.1) hm6 Hr.out (by omega)) ?_
  intro v2 u2 z2 own2
  try simp at z2
  obtain ⟨WM, hWM⟩ : ∃ WM, WM = aft W2 u2 := ⟨_, rfl⟩
  have HEM : Hid (Ext W1.heap.size W1 WM) := hid (by rw [hWM]; exact HB2.out.aft u2)
  have HOM : Hid (WM.ownsRow W1.heap.size 2 1 (.slice (some ⟨W1.heap.size, 0, none⟩) (m + 1) (m + 1)) (m + 1) (vI (fixU m rs 0))) := hid (by rw [hWM]; exact owns_kept HO.out fun k hk _ => (below_aft W2 u2).block k hk)
  rw [← hWM] at own2 ⊢
  obtain ⟨es, hel, hrow, hee⟩ := own2
  have hrd : rdRR WM v2 (memF m rs) := ownRR.rd ⟨es, hel, hrow, hee⟩
  obtain ⟨am, cm, hv2, hmm, hcm⟩ := hrd
  rw [memF_len] at hv2 hmm
  subst hv2
  have hrowlt := World.ownsRow.lt hrow
  have Hcm : Hid (memF m rs ≠ [] → ∃ b o, am = some ⟨b, o, none⟩ ∧ W2.heap.size ≤ b ∧ ∀ i, (h : i < (memF m rs).length) → ∃ e, WM.cell? ⟨b, o + i, none⟩ = some e ∧ ownR W2.heap.size WM e (memF m rs)[i]) := hid (by
    intro hne
    rcases hrow.2 with ⟨e0, hn⟩ | ⟨g, cap, cur, e0, hg, hh, h1, h2, h3⟩
    · exact absurd (List.eq_nil_of_length_eq_zero hn) hne
    · injection e0 with e1 e2 e3
      subst e1
      refine ⟨g, 0, rfl, hg, fun i hi => ?_⟩
      obtain ⟨e, he1, he2⟩ := hee i hi
      refine ⟨e, ?_, he2⟩
      have hc := World.ownsRow.cells hrow (g := g) rfl i e he1
      by_cases h0 : i = 0
      · subst h0; simpa [Addr.add] using hc
      · simpa [Addr.add, h0] using hc)
  clear hWM hcm hrow hee hrowlt hmm hel z2 hr1 d0 d1
  go_wp2_with fail
  go_loopw [6] (fun i wr => ∃ k : Nat, k ≤ rs.length ∧ i = .int .i64 k ∧ Hid (wr.ownsRow W1.heap.size 2 1 (.slice (some ⟨W1.heap.size, 0, none⟩) (m + 1) (m + 1)) (m + 1) (vI (fixU m rs k))) ∧ Hid (WM.grownBy wr (some W1.heap.size))) (fun i _ => rs.length - (intOf i).toNat)
  case atStart => exact ⟨0, by omega, rfl, HOM, hid (grownBy_refl _ _)⟩
  case round =>
    obtain ⟨k, hk, rfl, HO, HGr⟩ := hrel
    by_cases hlt : k < rs.length
    · have hltz : (k : Int) < (rs.length : Int) := by omega
      have hnem : memF m rs ≠ [] := by intro e; have := memF_len m rs; rw [e] at this; simp at this; omega
      obtain ⟨bm, om, rfl, hbm, hcel⟩ := Hcm.out hnem
      obtain ⟨e1, hc1, ho1⟩ := hcel k (by rw [memF_len]; exact hlt)
      have hc2 := grown_cell hc1 HGr.out (by omega)
      have em1 : (memF m rs)[k]'(by rw [memF_len]; exact hlt) = withF m rs[k] := by simp [memF]
      rw [em1] at ho1
      have hal := (with_ok hm6 (Hr.out _ (List.getElem_mem hlt)).1 (Hr.out _ (List.getElem_mem hlt)).2).len
      obtain ⟨g1, c1, hsh, hg1, _, _⟩ := own_some ho1 (by intro e; rw [e] at hal; simp at hal; omega)
      have hg1b := own_row_ge ho1 g1 (by rw [hsh]; rfl)
      rw [hal] at hsh
      subst hsh
      obtain ⟨A, hA⟩ : ∃ A, A = withF m rs[k] := ⟨_, rfl⟩
      rw [← hA] at ho1 hal
      have Hcell : Hid (∀ j, j < m → wr.cell? ⟨g1, j, none⟩ = some (.int .i64 (A.getD j 0))) := hid (fun j hj => grown_cell (own_cell ho1 (by rw [hal]; exact hj)) HGr.out (by omega))
      have hle := leftK_le A m
      obtain ⟨q, hq⟩ : ∃ q, q = leftK A m := ⟨_, rfl⟩
      rw [← hq] at hle
      obtain ⟨hat, hat0, hat1⟩ := fixU_at (m := m) (k := k) (rs := rs) hle
      have hcl := HO.out.cellAt q (by omega)
      rw [hat] at hcl
      have hfr := HO.out.frozenAt q
      have hst := HO.out.stored q (.int .i64 ((fixU m rs k).getD q 0 + 1))
      have hfs : incr (fixU m rs k) q = fixU m rs (k + 1) := by rw [fixU_succ, hq, hA, List.getD, List.getElem?_eq_getElem hlt]; rfl
      rw [incr_vI, hfs] at hst
      obtain ⟨y, hy⟩ : ∃ y, y = (fixU m rs k).getD q 0 := ⟨_, rfl⟩
      rw [← hy] at hcl hst hat0 hat1
      have HS := hid hst
      have HQ := hid hq
      have HCL := hid hcl
      have HFR := hid hfr
      have hqz : (q : Int) < ((m : Int) + 1) := by omega
      clear hat hst hfs hy hA hq hcl hfr ho1 hcel hnem em1 hal hc1
      go_wp2_with fail
      go_loop [7, 8] (fun c s => ∃ j : Nat, j ≤ m ∧ s = .int .i64 j ∧ c = .int .i64 (leftK A j : Nat)) (fun _ s => m - (intOf s).toNat)
      case atStart => exact ⟨0, by omega, rfl, by simp [leftK]⟩
      case round =>
        obtain ⟨j, hj, rfl, rfl⟩ := hrel
        have hsj := leftK_succ A j
        have hlj := leftK_le A j
        by_cases hlt2 : j < m
        · have hltz2 : (j : Int) < (m : Int) := by omega
          have hcj := Hcell.out j hlt2
          obtain ⟨x, hx⟩ : ∃ x, x = A.getD j 0 := ⟨_, rfl⟩
          rw [← hx] at hcj hsj
          have HSJ := hid hsj
          clear hx hsj
          by_cases hq2 : x = (j : Int)
          · have hqb : (x == (j : Int)) = true := by simpa using hq2
            have H2 := hid (HSJ.out.trans (by rw [if_pos hq2]))
            have HQ2 := hid hq2
            clear hq2
            go_wp2_with fail
            go_round
            case rel => exact ⟨j + 1, by omega, by go_num, by rw [H2.out]; go_num⟩
            case measure => simp only [intOf]; omega
          · have hqb : (x == (j : Int)) = false := by simpa using hq2
            have H2 := hid (HSJ.out.trans (by rw [if_neg hq2]))
            have HQ2 := hid hq2
            clear hq2
            go_wp2_with fail
            go_round
            case rel => exact ⟨j + 1, by omega, by go_num, by rw [H2.out]; go_num⟩
            case measure => simp only [intOf]; omega
        · obtain rfl : j = m := by omega
          have hltz2 : ¬ (j : Int) < (j : Int) := by omega
          rw [← HQ.out]
          have hcl := HCL.out
          have hfr := HFR.out
          clear hsj
          go_wp2_with fail
          go_roundw
          case rel => exact ⟨k + 1, by omega, by go_num, hid HS.out.1, hid (grownBy_trans HGr.out HS.out.2)⟩
          case measure => simp only [intOf]; omega
    · obtain rfl : k = rs.length := by omega
      have hltz : ¬ (rs.length : Int) < (rs.length : Int) := by omega
      go_wp2_with fail
      refine bodyPost_ret (v := .tuple #[.slice (some ⟨W1.heap.size, 0, none⟩) (m + 1) (m + 1), .int .i64 0]) (by first | (simp [results, go_sem]; done) | simp [results, go_sem, ↓IntWalk.iteOmega]) rfl ⟨_, rfl, ?_, ?_⟩
      · have h9 := HO.out
        have hfl := fixU_len m rs rs.length
        refine ownR.mono (B := W1.heap.size) ?_ HE1.out.2
        unfold ownR
        rw [HFF.out, hfl]
        exact h9
      · exact HE1.out.bel.trans ((HEM.out.1.grown HGr.out HEM.out.2 (fun k hk => by injection hk with hk; omega)).mono HE1.out.2)
set_option maxRecDepth 20000 in
set_option maxHeartbeats 8000000 in
theorem i_FixedPoints (n : Int) (r : Value) (rs : List Int) (w : World) (h : rdI w r rs) (hl : rs.length ≤ 1048576) :
    Calls Try.prog 22 #[(.agg #[.int .i64 n, r])] w fun e w' => ∃ v, e = .returned (.tuple #[v, .int .i64 (fixF n rs).2]) ∧ ownR w.heap.size w' v (fixF n rs).1 ∧ Below w.heap.size w w' := by
  obtain ⟨i0, hi, hz0, hz1, hz2⟩ := info_parts infoI
  have hR := h.alloc (Obj.cells #[.int .i64 n, r] 27)
  have hN : ∀ W, rdI W (.slice none 0 0) [] := fun W => ⟨none, 0, rfl, by simp [maxLen], fun h => absurd rfl h⟩
  have HN := hid hN
  clear hN
  cases hg : groupB n rs
  · have e : fixF n rs = ([], 1) := by simp [fixF, hg]
    rw [e]; clear e
    have HM := hid (show movC n rs [] = 1 by simp [movC, hg])
    go_enter Try.func22, Try.ntmps22
    go_wp2_with (first | (go_at_call 9; refine via (s_IsGroupE _ _ rs _ false hR hl hg) ?_; intro uu zz; try simp at zz) | (go_at_call 49; refine via (i_moved _ _ _ rs [] _ 1 hR hl (HN.out _) HM.out) ?_; intro uu zz; try simp at zz))
    exact bodyPost_ret (v := .tuple #[.slice none 0 0, .int .i64 1]) (by first | (simp [results, go_sem]; done) | simp [results, go_sem, ↓IntWalk.iteOmega]) rfl ⟨_, rfl, ownR.nil _ _, (by refine Ext.bel ?_; repeat (with_reducible first | exact Ext.refl _ | apply Ext.alloc | apply Ext.aft | apply Ext.drew | apply Ext.drewN | apply Ext.setCell | exact Nat.le_add_right _ _ | exact Nat.le_refl _ | (simp; done) | omega))⟩
  have HG := hid hg
  obtain ⟨m, rfl, hm1, hm6, hne, hhd, hr, hpw, _⟩ := group_facts hg
  have HM := hid (show movC m rs [] = 0 by simp [movC, hg])
  have hl7 : rs.length ≤ 720 := Nat.le_trans (asc_len' hpw hr) (facN_le hm6)
  have Hr := hid hr
  obtain ⟨FF, hFF⟩ : ∃ FF, FF = fixU m rs rs.length := ⟨_, rfl⟩
  have e : fixF m rs = (FF, 0) := by unfold fixF; rw [if_pos hg]; simp only [Int.toNat_natCast]; rw [hFF]
  rw [e]; clear e
  have HFF := hid hFF
  clear hg hr hpw hne hhd hFF
  go_enter Try.func22, Try.ntmps22
  go_wp2_with fail
  first
    | refine via (s_IsGroupE _ _ rs _ true hR hl HG.out) ?_
    | refine via (i_moved _ _ _ rs [] _ 0 hR hl (HN.out _) HM.out) ?_
  intro u1 z1; try simp at z1
  obtain ⟨W1, hW1⟩ : ∃ W1, W1 = aft (w.alloc (Obj.cells #[.int .i64 (m : Int), r] 27)) u1 := ⟨_, rfl⟩
  have HE1 : Hid (Ext w.heap.size w W1) := hid (by rw [hW1]; exact (by repeat (with_reducible first | exact Ext.refl _ | apply Ext.alloc | apply Ext.aft | apply Ext.drew | apply Ext.drewN | apply Ext.setCell | exact Nat.le_add_right _ _ | exact Nat.le_refl _ | (simp; done) | omega)))
  have c0 : W1.cell? ⟨w.heap.size, 0, none⟩ = some (.int .i64 (m : Int)) := by rw [hW1]; simp [go_sem]
  have c1 : W1.cell? ⟨w.heap.size, 1, none⟩ = some r := by rw [hW1]; simp [go_sem]
  have hb0 := World.block_lt_of_cell? W1 _ c0
  simp only at hb0
  have hr1 : rdI W1 r rs := by rw [hW1]; exact hR.aft _
  rw [← hW1]
  clear hW1 hR h z1
  go_wp2_with (at_make; refine wpList_make_full _ rfl _ _ 22 rfl W1.heap.size 2 i0 (.int .i64 0) 1 Try.underlying22 hi hz0 hz1 _ _ _ _ (m + 1) rfl rfl (by simp) (by simp) (by rw [hz2]; omega) (by unfold maxLen; omega) (Nat.le_refl _) ?_)
  intro W2 hown hgr
  have hown : W2.ownsRow W1.heap.size 2 1 (.slice (some ⟨W1.heap.size, 0, none⟩) (m + 1) (m + 1)) (m + 1) (vI (fixU m rs 0)) := by
    have e : fixU m rs 0 = List.replicate (m + 1) 0 := rfl
    rw [e, ← vI_zeros]; exact hown
  have HB2 : Hid (Ext W1.heap.size W1 W2) := hid ⟨Below.grown (Below.refl _ _) hgr (Nat.le_refl _) (fun k hk => by cases hk), hgr.size⟩
  have HO := hid hown
  have d0 : W2.cell? ⟨w.heap.size, 0, none⟩ = some (.int .i64 (m : Int)) := by rw [HB2.out.1.cell (p := ⟨w.heap.size, 0, none⟩) hb0]; exact c0
  have d1 : W2.cell? ⟨w.heap.size, 1, none⟩ = some r := by rw [HB2.out.1.cell (p := ⟨w.heap.size, 1, none⟩) hb0]; exact c1
  have hl2 : W1.heap.size < W2.heap.size := (World.ownsRow.lt hown _ rfl).2
  clear hown hgr c0 c1
  go_wp2_with fail
  refine viaX (g := id) (i_members m _ rs _ (hr1.below HB2.out.1) hm6 Hr.out (by omega)) ?_
  intro v2 u2 z2 own2
  try simp at z2
  obtain ⟨WM, hWM⟩ : ∃ WM, WM = aft W2 u2 := ⟨_, rfl⟩
  have HEM : Hid (Ext W1.heap.size W1 WM) := hid (by rw [hWM]; exact HB2.out.aft u2)
  have HOM : Hid (WM.ownsRow W1.heap.size 2 1 (.slice (some ⟨W1.heap.size, 0, none⟩) (m + 1) (m + 1)) (m + 1) (vI (fixU m rs 0))) := hid (by rw [hWM]; exact owns_kept HO.out fun k hk _ => (below_aft W2 u2).block k hk)
  rw [← hWM] at own2 ⊢
  obtain ⟨es, hel, hrow, hee⟩ := own2
  have hrd : rdRR WM v2 (memF m rs) := ownRR.rd ⟨es, hel, hrow, hee⟩
  obtain ⟨am, cm, hv2, hmm, hcm⟩ := hrd
  rw [memF_len] at hv2 hmm
  subst hv2
  have hrowlt := World.ownsRow.lt hrow
  have Hcm : Hid (memF m rs ≠ [] → ∃ b o, am = some ⟨b, o, none⟩ ∧ W2.heap.size ≤ b ∧ ∀ i, (h : i < (memF m rs).length) → ∃ e, WM.cell? ⟨b, o + i, none⟩ = some e ∧ ownR W2.heap.size WM e (memF m rs)[i]) := hid (by
    intro hne
    rcases hrow.2 with ⟨e0, hn⟩ | ⟨g, cap, cur, e0, hg, hh, h1, h2, h3⟩
    · exact absurd (List.eq_nil_of_length_eq_zero hn) hne
    · injection e0 with e1 e2 e3
      subst e1
      refine ⟨g, 0, rfl, hg, fun i hi => ?_⟩
      obtain ⟨e, he1, he2⟩ := hee i hi
      refine ⟨e, ?_, he2⟩
      have hc := World.ownsRow.cells hrow (g := g) rfl i e he1
      by_cases h0 : i = 0
      · subst h0; simpa [Addr.add] using hc
      · simpa [Addr.add, h0] using hc)
  clear hWM hcm hrow hee hrowlt hmm hel z2 hr1 d0 d1
  go_wp2_with fail
  go_loopw [23] (fun i wr => ∃ k : Nat, k ≤ rs.length ∧ i = .int .i64 k ∧ Hid (wr.ownsRow W1.heap.size 2 1 (.slice (some ⟨W1.heap.size, 0, none⟩) (m + 1) (m + 1)) (m + 1) (vI (fixU m rs k))) ∧ Hid (WM.grownBy wr (some W1.heap.size))) (fun i _ => rs.length - (intOf i).toNat)
  case atStart => exact ⟨0, by omega, rfl, HOM, hid (grownBy_refl _ _)⟩
  case round =>
    obtain ⟨k, hk, rfl, HO, HGr⟩ := hrel
    by_cases hlt : k < rs.length
    · have hltz : (k : Int) < (rs.length : Int) := by omega
      have hnem : memF m rs ≠ [] := by intro e; have := memF_len m rs; rw [e] at this; simp at this; omega
      obtain ⟨bm, om, rfl, hbm, hcel⟩ := Hcm.out hnem
      obtain ⟨e1, hc1, ho1⟩ := hcel k (by rw [memF_len]; exact hlt)
      have hc2 := grown_cell hc1 HGr.out (by omega)
      have em1 : (memF m rs)[k]'(by rw [memF_len]; exact hlt) = withF m rs[k] := by simp [memF]
      rw [em1] at ho1
      have hal := (with_ok hm6 (Hr.out _ (List.getElem_mem hlt)).1 (Hr.out _ (List.getElem_mem hlt)).2).len
      obtain ⟨g1, c1, hsh, hg1, _, _⟩ := own_some ho1 (by intro e; rw [e] at hal; simp at hal; omega)
      have hg1b := own_row_ge ho1 g1 (by rw [hsh]; rfl)
      rw [hal] at hsh
      subst hsh
      obtain ⟨A, hA⟩ : ∃ A, A = withF m rs[k] := ⟨_, rfl⟩
      rw [← hA] at ho1 hal
      have Hcell : Hid (∀ j, j < m → wr.cell? ⟨g1, j, none⟩ = some (.int .i64 (A.getD j 0))) := hid (fun j hj => grown_cell (own_cell ho1 (by rw [hal]; exact hj)) HGr.out (by omega))
      have hle := leftK_le A m
      obtain ⟨q, hq⟩ : ∃ q, q = leftK A m := ⟨_, rfl⟩
      rw [← hq] at hle
      obtain ⟨hat, hat0, hat1⟩ := fixU_at (m := m) (k := k) (rs := rs) hle
      have hcl := HO.out.cellAt q (by omega)
      rw [hat] at hcl
      have hfr := HO.out.frozenAt q
      have hst := HO.out.stored q (.int .i64 ((fixU m rs k).getD q 0 + 1))
      have hfs : incr (fixU m rs k) q = fixU m rs (k + 1) := by rw [fixU_succ, hq, hA, List.getD, List.getElem?_eq_getElem hlt]; rfl
      rw [incr_vI, hfs] at hst
      obtain ⟨y, hy⟩ : ∃ y, y = (fixU m rs k).getD q 0 := ⟨_, rfl⟩
      rw [← hy] at hcl hst hat0 hat1
      have HS := hid hst
      have HQ := hid hq
      have HCL := hid hcl
      have HFR := hid hfr
      have hqz : (q : Int) < ((m : Int) + 1) := by omega
      clear hat hst hfs hy hA hq hcl hfr ho1 hcel hnem em1 hal hc1
      go_wp2_with fail
      go_loop [8, 29] (fun c s => ∃ j : Nat, j ≤ m ∧ s = .int .i64 j ∧ c = .int .i64 (leftK A j : Nat)) (fun _ s => m - (intOf s).toNat)
      case atStart => exact ⟨0, by omega, rfl, by simp [leftK]⟩
      case round =>
        obtain ⟨j, hj, rfl, rfl⟩ := hrel
        have hsj := leftK_succ A j
        have hlj := leftK_le A j
        by_cases hlt2 : j < m
        · have hltz2 : (j : Int) < (m : Int) := by omega
          have hcj := Hcell.out j hlt2
          obtain ⟨x, hx⟩ : ∃ x, x = A.getD j 0 := ⟨_, rfl⟩
          rw [← hx] at hcj hsj
          have HSJ := hid hsj
          clear hx hsj
          by_cases hq2 : x = (j : Int)
          · have hqb : (x == (j : Int)) = true := by simpa using hq2
            have H2 := hid (HSJ.out.trans (by rw [if_pos hq2]))
            have HQ2 := hid hq2
            clear hq2
            go_wp2_with fail
            go_round
            case rel => exact ⟨j + 1, by omega, by go_num, by rw [H2.out]; go_num⟩
            case measure => simp only [intOf]; omega
          · have hqb : (x == (j : Int)) = false := by simpa using hq2
            have H2 := hid (HSJ.out.trans (by rw [if_neg hq2]))
            have HQ2 := hid hq2
            clear hq2
            go_wp2_with fail
            go_round
            case rel => exact ⟨j + 1, by omega, by go_num, by rw [H2.out]; go_num⟩
            case measure => simp only [intOf]; omega
        · obtain rfl : j = m := by omega
          have hltz2 : ¬ (j : Int) < (j : Int) := by omega
          rw [← HQ.out]
          have hcl := HCL.out
          have hfr := HFR.out
          clear hsj
          go_wp2_with fail
          go_roundw
          case rel => exact ⟨k + 1, by omega, by go_num, hid HS.out.1, hid (grownBy_trans HGr.out HS.out.2)⟩
          case measure => simp only [intOf]; omega
    · obtain rfl : k = rs.length := by omega
      have hltz : ¬ (rs.length : Int) < (rs.length : Int) := by omega
      go_wp2_with fail
      refine bodyPost_ret (v := .tuple #[.slice (some ⟨W1.heap.size, 0, none⟩) (m + 1) (m + 1), .int .i64 0]) (by first | (simp [results, go_sem]; done) | simp [results, go_sem, ↓IntWalk.iteOmega]) rfl ⟨_, rfl, ?_, ?_⟩
      · have h9 := HO.out
        have hfl := fixU_len m rs rs.length
        refine ownR.mono (B := W1.heap.size) ?_ HE1.out.2
        unfold ownR
        rw [HFF.out, hfl]
        exact h9
      · exact HE1.out.bel.trans ((HEM.out.1.grown HGr.out HEM.out.2 (fun k hk => by injection hk with hk; omega)).mono HE1.out.2)
end Go.Proofs.Ythnahinnmdoijaa
