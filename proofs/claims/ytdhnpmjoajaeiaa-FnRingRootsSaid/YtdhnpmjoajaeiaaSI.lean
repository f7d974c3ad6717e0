/- The substitution: the program's text. -/
import Derived.Test.YtdhnpmjoajaeiaaSH
import Derived.Test.YtdhnpmjoajaeiaaSE
import Derived.Test.YtdhnpmjoajaeiaaMA
namespace Go.Proofs.Ytdhnpmjoajaeiaa
open Go Go.RowKit

theorem range_getD (F : Nat → Int) {L j : Nat} (h : j < L) : ((List.range L).map F).getD j 0 = F j := by
  simp only [List.getD_eq_getElem?_getD, List.getElem?_map]
  rw [List.getElem?_range h]; rfl
theorem range_set (F G : Nat → Int) {L i : Nat} {v : Int} (hv : i < L → v = G i) (h : ∀ j, j ≠ i → F j = G j) : ((List.range L).map F).set i v = (List.range L).map G := by
  apply List.ext_getElem?
  intro j
  rw [List.getElem?_set]
  by_cases e : i = j
  · subst e
    rw [if_pos rfl]
    rcases Nat.lt_or_ge i L with hl | hl
    · rw [if_pos (by simpa using hl), List.getElem?_map, List.getElem?_range hl, hv hl]; rfl
    · rw [if_neg (by simp; omega), List.getElem?_eq_none (by simp; omega)]
  · rw [if_neg e, List.getElem?_map, List.getElem?_map]
    rcases Nat.lt_or_ge j L with hl | hl
    · rw [List.getElem?_range hl]
      show some (F j) = some (G j)
      rw [h j (fun q => e q.symm)]
    · rw [List.getElem?_eq_none (by simpa using hl)]; rfl
def subV (m a p : Int) (O : List Int) (i : Nat) : Int := if i = 0 then O.getD 0 0 * a % m else (O.getD i 0 * a % m + O.getD (i - 1) 0 * p) % m
/-- The substitution under way: the places from j on are done. -/
def inS (m a p : Int) (O : List Int) (j : Nat) : List Int := (List.range (O.length + 1)).map fun i => if i < j then O.getD i 0 else subV m a p O i
theorem inS_len (m a p : Int) (O : List Int) (j : Nat) : (inS m a p O j).length = O.length + 1 := by simp [inS]
theorem inS_all (m a p : Int) (O : List Int) : O ++ [0] = inS m a p O (O.length + 1) := by
  apply List.ext_getElem?
  intro j
  unfold inS
  rw [List.getElem?_map]
  rcases Nat.lt_or_ge j (O.length + 1) with h | h
  · rw [List.getElem?_range h]
    simp only [Option.map_some, if_pos h]
    rcases Nat.lt_or_ge j O.length with h2 | h2
    · rw [List.getElem?_append_left h2, List.getD_eq_getElem?_getD, List.getElem?_eq_getElem h2]; rfl
    · obtain rfl : j = O.length := by omega
      rw [getD_out (Nat.le_refl _)]
      simp
  · rw [List.getElem?_eq_none (by simpa using h), List.getElem?_eq_none (by simpa using h)]; rfl
theorem inS_lo {m a p : Int} {O : List Int} {i j : Nat} (hi : i < O.length + 1) (h : i < j) : (inS m a p O j).getD i 0 = O.getD i 0 := by
  unfold inS; rw [range_getD _ hi, if_pos h]
theorem inS_step {m a p v : Int} {O : List Int} {k : Nat} (hv : v = subV m a p O k) : (inS m a p O (k + 1)).set k v = inS m a p O k :=
  range_set _ _ (fun _ => by rw [if_neg (by omega)]; exact hv) fun j hj => by
    by_cases h : j < k
    · rw [if_pos (show j < k + 1 by omega), if_pos h]
    · rw [if_neg (show ¬ j < k + 1 by omega), if_neg h]
theorem inS_end {m a p c : Int} {O : List Int} : (inS m a p O 0).set 0 ((O.getD 0 0 * a % m + c % m) % m) = subR m a p c O := by
  unfold subR
  refine range_set _ _ (fun _ => by rw [if_pos rfl]) fun j hj => ?_
  rw [if_neg (by omega), if_neg hj]
  unfold subV
  rw [if_neg hj]
set_option maxRecDepth 20000 in
set_option maxHeartbeats 8000000 in
theorem i_substituted (r : Value) (f : List Int) (a p m : Int) (w : World) (h : rdI w r f) (hl : f.length ≤ 1000) (ha : 0 ≤ a ∧ a ≤ 97) (hp : 0 ≤ p ∧ p ≤ 97) (hm : 1 ≤ m ∧ m ≤ 1000000000) :
    Calls Try.prog 81 #[r, .int .i64 a, .int .i64 p, .int .i64 m] w fun e w' => ∃ v, e = .returned v ∧ ownR w.heap.size w' v (subF m a p f) ∧ Below w.heap.size w w' := by
  obtain ⟨i0, hi, hz0, hz1, hz2⟩ := info_parts infoI
  obtain ⟨a1, cap1, rfl, _, _⟩ := id h
  have H1 := hid h
  have hm0 : (m == 0) = false := by simp; omega
  have hmn : m ≠ 0 := by omega
  clear h
  go_enter Try.func81, Try.ntmps81
  go_wp2_with fail
  go_loopw [9, 10] (fun o i wr => ∃ k : Nat, k ≤ f.length ∧ i = .int .i64 ((k : Int) - 1) ∧ Hid (ownR w.heap.size wr o (subF m a p (f.drop k))) ∧ Hid (Below w.heap.size w wr)) (fun _ i _ => (intOf i + 1).toNat)
  case atStart => exact ⟨f.length, Nat.le_refl _, rfl, hid (by rw [List.drop_length]; exact ownR.nil _ _), hid (Below.refl _ _)⟩
  case round =>
    obtain ⟨k, hk, rfl, HO, HB⟩ := hrel
    obtain ⟨wo, rfl⟩ : ∃ wo : World, wo = wr := ⟨_, rfl⟩
    have hBz := HB.out.size
    rcases Nat.eq_zero_or_pos k with hk0 | hk0
    · subst hk0
      go_wp2_with fail
      go_ret
      exact ⟨_, rfl, by have := HO.out; rwa [List.drop_zero] at this, HB.out⟩
    · obtain ⟨j, rfl⟩ : ∃ j, k = j + 1 := ⟨k - 1, by omega⟩
      rw [show ((j + 1 : Nat) : Int) - 1 = (j : Int) by omega]
      have hj : j < f.length := by omega
      have hjz : (0 : Int) ≤ (j : Int) := by omega
      have hjz2 : (j : Int) < (f.length : Int) := by omega
      obtain ⟨b1, o1, rfl⟩ := rd_head H1.out (by intro e; rw [e] at hj; simp at hj)
      have hSF : Hid (subF m a p (f.drop j) = subR m a p (f.getD j 0) (subF m a p (f.drop (j + 1)))) := hid (by
        rw [List.drop_eq_getElem_cons hj, getD_lt hj]; rfl)
      have hOl : (subF m a p (f.drop (j + 1))).length = f.length - (j + 1) := by rw [subF_len, List.length_drop]
      have hOb := sub_mem (a := a) (p := p) hm.1 (f.drop (j + 1))
      obtain ⟨O, hO⟩ : ∃ O, O = subF m a p (f.drop (j + 1)) := ⟨_, rfl⟩
      rw [← hO] at HO hSF hOl hOb
      have HOb := hid (getD_bd (b := m - 1) (by omega) hOb)
      have hOl9 : O.length ≤ 1000 := by omega
      clear hO hOb hOl
      have hown := HO.out
      go_wp2_with (at_builtin; refine wpList_append_own _ rfl _ _ 24 rfl (w.heap.size) 2 i0 (.int .i64 0) 1 8 Try.underlying24 hi hz0 hz1 hz2 rfl (by decide) _ _ _ rfl (((hown).alloc _)) ⟨_, 0, none⟩ 1 1 [.int .i64 (0)] rfl rfl ?c1 ?c2 ?c3 ?c4 ?c5 ?_)
      case c1 => exact cell_one_new _ _ _
      case c2 => first | rfl | (intro u hu; simp at hu; subst hu; rfl)
      case c3 => unfold maxLen; omega
      case c4 => omega
      case c5 => first | omega | (simp; omega)
      intro v' w1 hown' hgrow _
      have HB1 : Hid (Below w.heap.size w w1) := hid (Below.grown (HB.out.alloc hBz _) hgrow (by simp; omega) (fun k hk => own_row_ge hown k hk))
      have HO1 : Hid (ownR w.heap.size w1 v' (inS m a p O (O.length + 1))) := hid (by rw [← inS_all]; exact ownR.snoc hown')
      clear hown' hgrow hown HO
      obtain ⟨g9, c1, e1, _⟩ := own_some HO1.out (by intro e; have := congrArg List.length e; rw [inS_len] at this; simp at this)
      rw [inS_len] at e1
      subst e1
      obtain ⟨L, hL⟩ : ∃ L, L = O.length := ⟨_, rfl⟩
      have hL9 : L ≤ 1000 := by omega
      have HLo := hid hL
      rw [← hL] at HO1 ⊢
      clear hL
      go_wp2_with fail
      go_loopw [11] (fun i wr => ∃ q : Nat, q ≤ L + 1 ∧ i = .int .i64 ((q : Int) - 1) ∧ Hid (ownR w.heap.size wr (.slice (some ⟨g9, 0, none⟩) (L + 1) c1) (inS m a p O q)) ∧ Hid (Below w.heap.size w wr)) (fun i _ => (intOf i + 1).toNat)
      case atStart => exact ⟨L + 1, Nat.le_refl _, by go_num, HO1, HB1⟩
      case round =>
        obtain ⟨q, hq, rfl, HO, HB⟩ := hrel
        obtain ⟨wp, rfl⟩ : ∃ wp : World, wp = wr := ⟨_, rfl⟩
        have hBz := HB.out.size
        rcases Nat.eq_zero_or_pos q with hq0 | hq0
        · subst hq0
          have hfc := HB.out.cell (p := ⟨b1, o1 + j, none⟩) (World.block_lt_of_cell? w _ (rd_at H1.out hj))
          rw [rd_at H1.out hj] at hfc
          have hfb := World.block_lt_of_cell? _ _ hfc
          obtain ⟨hcl, hcf⟩ := own_cell HO.out (j := 0) (by rw [inS_len]; omega)
          have hz0 : (inS m a p O 0).getD 0 0 = O.getD 0 0 * a % m := by unfold inS; rw [range_getD _ (by omega), if_neg (by omega)]; rfl
          rw [hz0] at hcl
          have hcb := World.block_lt_of_cell? _ _ hcl
          obtain ⟨z, hz⟩ : ∃ z, z = O.getD 0 0 * a % m := ⟨_, rfl⟩
          have hzb : 0 ≤ z ∧ z ≤ 1000000000 := by rw [hz]; exact ⟨Int.emod_nonneg _ hmn, by have := Int.emod_lt_of_pos (O.getD 0 0 * a) (show 0 < m by omega); omega⟩
          obtain ⟨c, hc⟩ : ∃ c, c = f.getD j 0 := ⟨_, rfl⟩
          rw [← hz] at hcl
          rw [← hc] at hfc
          have hcm : 0 ≤ c % m ∧ c % m ≤ 1000000000 := ⟨Int.emod_nonneg _ hmn, by have := Int.emod_lt_of_pos c (show 0 < m by omega); omega⟩
          have HE : Hid ((inS m a p O 0).set 0 ((z + c) % m) = subF m a p (f.drop j)) := hid (by rw [show (z + c) % m = (z + c % m) % m from (Int.add_emod_emod _ _ _).symm, hSF.out, ← hc, hz, inS_end])
          have hL0 : (0 : Int) < (L : Int) + 1 := by omega
          clear hz hc hz0
          go_wp2_with fail
          refine wp_region_calm_tail 14 (by kernel_rfl) (by kernel_rfl) ?_
          simp only [List.take_succ_cons, List.take_zero, List.drop_succ_cons, List.drop_zero]
          repeat (go_big_quiet_step (first | (go_at_call 64; exact calmp (i_mod _ _ _ (by omega) (by omega)))))
          refine wpQuiet_nil ?_; intro uq zq; try simp at zq
          have hSt := own_set (HO.out.aft uq) 0 ((z + c) % m)
          rw [HE.out] at hSt
          have HBq : Hid (Below w.heap.size w (aft wp uq)) := hid (HB.out.trans ((below_aft wp uq).mono HB.out.size))
          have HSt := hid hSt
          clear hSt
          go_wp2_with fail
          go_roundw
          case rel => exact ⟨j, by omega, by go_num, hid HSt.out.1, hid (Below.grown HBq.out HSt.out.2 HBq.out.size (fun k hk => by injection hk with hk; have := own_row_ge HO.out g9 rfl; omega))⟩
          case measure => simp only [intOf]; omega
        · obtain ⟨t, rfl⟩ : ∃ j, q = j + 1 := ⟨q - 1, by omega⟩
          rw [show ((t + 1 : Nat) : Int) - 1 = (t : Int) by omega]
          have htL : t < L + 1 := by omega
          have htLz : (t : Int) < (L : Int) + 1 := by omega
          have htz : (0 : Int) ≤ (t : Int) := by omega
          have hg9 := own_row_ge HO.out g9 rfl
          obtain ⟨hcl, hcf⟩ := own_cell HO.out (j := t) (by rw [inS_len, ← HLo.out]; omega)
          rw [inS_lo (by rw [← HLo.out]; omega) (by omega)] at hcl
          have hcb := World.block_lt_of_cell? _ _ hcl
          have hxb := HOb.out t
          obtain ⟨x, hx⟩ : ∃ x, x = O.getD t 0 := ⟨_, rfl⟩
          rw [← hx] at hcl hxb
          have hxa : 0 ≤ x * a ∧ x * a ≤ 1000000000 * 97 := ⟨Int.mul_nonneg (by omega) (by omega), Int.mul_le_mul (by omega) (by omega) (by omega) (by omega)⟩
          have hxm : (x * a).tmod m = x * a % m := Int.tmod_eq_emod_of_nonneg hxa.1
          obtain ⟨v1, hv1⟩ : ∃ v1, v1 = x * a % m := ⟨_, rfl⟩
          have hv1b : 0 ≤ v1 ∧ v1 ≤ 1000000000 := by rw [hv1]; exact ⟨Int.emod_nonneg _ hmn, by have := Int.emod_lt_of_pos (x * a) (show 0 < m by omega); omega⟩
          rw [← hv1] at hxm
          have hst := own_set HO.out t v1
          have HX := hid hx
          have HV1 := hid hv1
          clear hx hv1
          rcases Nat.eq_zero_or_pos t with ht0 | ht0
          · subst ht0
            have hS0 := hst.1
            rw [inS_step (by unfold subV; rw [if_pos rfl, HV1.out, HX.out])] at hS0
            have HS := hid hS0
            have HG := hid hst.2
            clear hst hS0
            go_wp2_with fail
            go_roundw
            case rel => exact ⟨0, by omega, by go_num, HS, hid (Below.grown HB.out HG.out HB.out.size (fun k hk => by injection hk with hk; omega))⟩
            case measure => simp only [intOf]; omega
          · have htz2 : (0 : Int) < (t : Int) := by omega
            obtain ⟨s, rfl⟩ : ∃ s, t = s + 1 := ⟨t - 1, by omega⟩
            have HS := hid hst.1
            have HB2 : Hid (Below w.heap.size w (wp.setCell ⟨g9, s + 1, none⟩ (.int .i64 v1))) := hid (Below.grown HB.out hst.2 HB.out.size (fun k hk => by injection hk with hk; omega))
            obtain ⟨hd1, hd2⟩ := own_cell HS.out (j := s + 1) (by rw [List.length_set, inS_len, ← HLo.out]; omega)
            have he1 : ((inS m a p O (s + 1 + 1)).set (s + 1) v1).getD (s + 1) 0 = v1 := by simp [List.getElem?_set_self (show s + 1 < (inS m a p O (s + 1 + 1)).length by rw [inS_len, ← HLo.out]; omega)]
            rw [he1] at hd1
            have hdb := World.block_lt_of_cell? _ _ hd1
            obtain ⟨hy1, _⟩ := own_cell HS.out (j := s) (by rw [List.length_set, inS_len, ← HLo.out]; omega)
            have he2 : ((inS m a p O (s + 1 + 1)).set (s + 1) v1).getD s 0 = O.getD s 0 := by
              rw [List.getD_eq_getElem?_getD, List.getElem?_set_ne (by omega), ← List.getD_eq_getElem?_getD]
              exact inS_lo (by rw [← HLo.out]; omega) (by omega)
            rw [he2] at hy1
            have hyb := HOb.out s
            obtain ⟨y, hy⟩ : ∃ y, y = O.getD s 0 := ⟨_, rfl⟩
            rw [← hy] at hy1 hyb
            have hyp : 0 ≤ y * p ∧ y * p ≤ 1000000000 * 97 := ⟨Int.mul_nonneg (by omega) (by omega), Int.mul_le_mul (by omega) (by omega) (by omega) (by omega)⟩
            have hym : (v1 + y * p).tmod m = (v1 + y * p) % m := Int.tmod_eq_emod_of_nonneg (by omega)
            have HE : Hid (((inS m a p O (s + 1 + 1)).set (s + 1) v1).set (s + 1) ((v1 + y * p) % m) = inS m a p O (s + 1)) := hid (by
              rw [List.set_set]
              exact inS_step (by unfold subV; rw [if_neg (by omega), HV1.out, HX.out, hy, Nat.add_sub_cancel]))
            have hs1z : ((s + 1 : Nat) : Int) - 1 = (s : Int) := by omega
            have hBz2 := HB2.out.size
            have hsw : (s : Int) + 1 - 1 = (s : Int) := by omega
            have hsz : (0 : Int) ≤ (s : Int) := by omega
            have hsL : (s : Int) < (L : Int) + 1 := by omega
            clear hst hy he1 he2
            go_wp2_with fail
            obtain ⟨wq, hwq⟩ : ∃ wq, wq = wp.setCell ⟨g9, s + 1, none⟩ (.int .i64 v1) := ⟨_, rfl⟩
            rw [← hwq] at HB2 hd1 hd2 hdb hy1 HS hBz2 ⊢
            clear hwq hcl hcf hcb HB HO
            (try go_wp2_with fail)
            refine wp_region_calm_tail 17 (by kernel_rfl) (by kernel_rfl) ?_
            simp only [List.take_succ_cons, List.take_zero, List.drop_succ_cons, List.drop_zero]
            repeat (go_big_quiet_step (fail))
            refine wpQuiet_nil ?_; intro uq zq; try simp at zq
            have hSt := own_set (HS.out.aft uq) (s + 1) ((v1 + y * p) % m)
            rw [HE.out] at hSt
            have HBq : Hid (Below w.heap.size w (aft wq uq)) := hid (HB2.out.trans ((below_aft wq uq).mono HB2.out.size))
            have HSt := hid hSt
            clear hSt
            go_wp2_with fail
            go_roundw
            case rel => exact ⟨s + 1, by omega, by go_num, hid HSt.out.1, hid (Below.grown HBq.out HSt.out.2 HBq.out.size (fun k hk => by injection hk with hk; omega))⟩
            case measure => simp only [intOf]; omega
end Go.Proofs.Ytdhnpmjoajaeiaa
