/- Products of small polynomials, of which only the length is told; values and roots by a prime. -/
import Derived.Test.YtdhnpmjoajaeiaaMA
import Derived.Test.YtdhnpmjoajaeiaaZ1
namespace Go.Proofs.Ytdhnpmjoajaeiaa
open Go Go.RowKit

theorem getD_bs {o : List Int} {b : Int} (hb : 0 ≤ b) (h : ∀ x ∈ o, -b ≤ x ∧ x ≤ b) (t : Nat) : -b ≤ o.getD t 0 ∧ o.getD t 0 ≤ b := by
  rcases Nat.lt_or_ge t o.length with ht | ht
  · rw [getD_lt ht]; exact h _ (List.getElem_mem ht)
  · rw [List.getD_eq_getElem?_getD, List.getElem?_eq_none ht]; simp; omega
theorem mul_bs {c d : Int} (hc : -1000 ≤ c ∧ c ≤ 1000) (hd : -1000 ≤ d ∧ d ≤ 1000) : -1000000 ≤ c * d ∧ c * d ≤ 1000000 := by
  have h1 : (c * d).natAbs ≤ 1000 * 1000 := by rw [Int.natAbs_mul]; exact Nat.mul_le_mul (by omega) (by omega)
  omega
set_option maxRecDepth 20000 in
set_option maxHeartbeats 8000000 in
theorem s_productW (r1 r2 : Value) (xs ys : List Int) (w : World) (h1 : rdI w r1 xs) (h2 : rdI w r2 ys) (hl1 : 1 ≤ xs.length ∧ xs.length ≤ 9) (hl2 : 1 ≤ ys.length ∧ ys.length ≤ 9) (hx9 : ∀ c ∈ xs, -1000 ≤ c ∧ c ≤ 1000) (hy9 : ∀ d ∈ ys, -1000 ≤ d ∧ d ≤ 1000) :
    Calls Try.prog 60 #[r1, r2] w fun e w' => ∃ v zs, e = .returned v ∧ ownR w.heap.size w' v zs ∧ zs.length ≤ xs.length + ys.length ∧ Below w.heap.size w w' := by
  obtain ⟨i0, hi, hz0, hz1, hz2⟩ := info_parts infoI
  obtain ⟨a1, cap1, rfl, _, _⟩ := id h1
  obtain ⟨a2, cap2, rfl, _, _⟩ := id h2
  have hx : xs ≠ [] := by intro e; rw [e] at hl1; simp at hl1
  have hy : ys ≠ [] := by intro e; rw [e] at hl2; simp at hl2
  obtain ⟨b1, o1, rfl⟩ := rd_head h1 hx
  obtain ⟨b2, o2, rfl⟩ := rd_head h2 hy
  have H1 := hid h1
  have H2 := hid h2
  have Hc := hid hx9
  have Hy := hid hy9
  obtain ⟨L, hL⟩ : ∃ L, L = xs.length + ys.length - 1 := ⟨_, rfl⟩
  have hLi : (xs.length : Int) + ys.length - 1 = L := by omega
  have HL := hid hL
  have hx2 : ((xs.length : Int) == 0) = false := by simp; omega
  have hy2 : ((ys.length : Int) == 0) = false := by simp; omega
  have hL9 : L ≤ 2000 := by omega
  clear h1 h2 hx9 hy9 hx hy hL
  go_enter Try.func60, Try.ntmps60
  go_wp2_with (at_make; refine wpList_make_full _ rfl _ _ 24 rfl w.heap.size 2 i0 (.int .i64 0) 1 Try.underlying24 hi hz0 hz1 _ _ _ _ L rfl rfl (by omega) (by omega) (by rw [hz2]; omega) (by unfold maxLen; omega) (Nat.le_refl _) ?_)
  intro w1 hown0 hgr
  have hown : w1.ownsRow w.heap.size 2 1 (.slice (some ⟨w.heap.size, 0, none⟩) L L) L (vI (List.replicate L 0)) := by
    rw [← vI_zeros]; exact hown0
  have HB : Hid (Below w.heap.size w w1) := hid (Below.grown (Below.refl _ _) hgr (Nat.le_refl _) (fun k hk => by cases hk))
  have HO := hid hown
  clear hown0 hown hgr
  go_wp2_with fail
  go_loopw [6] (fun s wr => ∃ (i : Nat) (ls : List Int), i ≤ xs.length ∧ s = .int .i64 i ∧ ls.length = L ∧ Hid (∀ x ∈ ls, -(10000000 * (i : Int)) ≤ x ∧ x ≤ 10000000 * (i : Int)) ∧ Hid (wr.ownsRow w.heap.size 2 1 (.slice (some ⟨w.heap.size, 0, none⟩) L L) L (vI ls)) ∧ Hid (Below w.heap.size w wr)) (fun s _ => xs.length - (intOf s).toNat)
  case atStart => exact ⟨0, _, by omega, rfl, List.length_replicate, hid (fun x hx => by have := List.eq_of_mem_replicate hx; omega), HO, HB⟩
  case round =>
    obtain ⟨i, ls, hi9, rfl, hls, HLB, HO, HB⟩ := hrel
    obtain ⟨wo, rfl⟩ : ∃ wo : World, wo = wr := ⟨_, rfl⟩
    by_cases hlt : i < xs.length
    · have hltz : (i : Int) < (xs.length : Int) := by omega
      obtain ⟨c, hcx⟩ : ∃ c, c = xs.getD i 0 := ⟨_, rfl⟩
      have HC := hid hcx
      clear hcx
      go_wp2_with fail
      go_loopw [7] (fun s wr => ∃ (k : Nat) (ls : List Int), k ≤ ys.length ∧ s = .int .i64 k ∧ ls.length = L ∧ Hid (∀ x ∈ ls, -(10000000 * (i : Int) + 1000000 * (k : Int)) ≤ x ∧ x ≤ 10000000 * (i : Int) + 1000000 * (k : Int)) ∧ Hid (wr.ownsRow w.heap.size 2 1 (.slice (some ⟨w.heap.size, 0, none⟩) L L) L (vI ls)) ∧ Hid (Below w.heap.size w wr)) (fun s _ => ys.length - (intOf s).toNat)
      case atStart => exact ⟨0, ls, by omega, rfl, hls, hid (fun x hx => by have := HLB.out x hx; omega), HO, HB⟩
      case round =>
        obtain ⟨k, ls, hk9, rfl, hls, HLB, HO', HB'⟩ := hrel
        by_cases hlt2 : k < ys.length
        · have hltz2 : (k : Int) < (ys.length : Int) := by omega
          have hf := HB'.out.cell (p := ⟨b1, o1 + i, none⟩) (World.block_lt_of_cell? w _ (rd_at H1.out hlt))
          rw [rd_at H1.out hlt, ← HC.out] at hf
          have hfb := World.block_lt_of_cell? _ _ hf
          have hg := HB'.out.cell (p := ⟨b2, o2 + k, none⟩) (World.block_lt_of_cell? w _ (rd_at H2.out hlt2))
          rw [rd_at H2.out hlt2] at hg
          have hgb := World.block_lt_of_cell? _ _ hg
          have hik : i + k < L := by have := HL.out; omega
          have hcl := HO'.out.cellAt (i + k) (by omega)
          rw [vI_at (by rw [hls]; omega)] at hcl
          have hcb := World.block_lt_of_cell? _ _ hcl
          have hfr := HO'.out.frozenAt (i + k)
          obtain ⟨X, hX⟩ : ∃ X, X = ls.getD (i + k) 0 := ⟨_, rfl⟩
          have hbd := getD_bs (b := 10000000 * (i : Int) + 1000000 * (k : Int)) (by omega) HLB.out (i + k)
          rw [← hX] at hbd
          rw [← hX] at hcl
          obtain ⟨d, hd⟩ : ∃ d, d = ys.getD k 0 := ⟨_, rfl⟩
          have hdb := getD_bs (b := 1000) (by omega) Hy.out k
          have hcb9 := getD_bs (b := 1000) (by omega) Hc.out i
          rw [← hd] at hg hdb
          rw [← HC.out] at hcb9
          have hcd := mul_bs hcb9 hdb
          have hikz : (i : Int) + k < (L : Int) := by omega
          have hLS := hid hls
          clear hX hd hls
          go_wp2_with fail
          refine wp_region_calm_tail 21 (by kernel_rfl) (by kernel_rfl) ?_
          simp only [List.take_succ_cons, List.take_zero, List.drop_succ_cons, List.drop_zero]
          repeat (go_big_quiet_step (fail))
          refine wpQuiet_nil ?_; intro uq zq; try simp at zq
          have hst := (rawAft HO'.out uq).stored (i + k) (.int .i64 (X + c * d))
          rw [show (vI ls).set (i + k) (.int .i64 (X + c * d)) = vI (ls.set (i + k) (X + c * d)) by simp [vI, List.map_set]] at hst
          have HS := hid hst
          have HLN : Hid (∀ x ∈ ls.set (i + k) (X + c * d), -(10000000 * (i : Int) + 1000000 * ((k + 1 : Nat) : Int)) ≤ x ∧ x ≤ 10000000 * (i : Int) + 1000000 * ((k + 1 : Nat) : Int)) := hid (fun x hx => by
            rcases List.mem_or_eq_of_mem_set hx with hx | hx
            · have := HLB.out x hx; omega
            · subst hx; omega)
          have HBq : Hid (Below w.heap.size w (aft wr uq)) := hid (HB'.out.trans ((below_aft wr uq).mono HB'.out.size))
          clear hst
          go_wp2_with fail
          go_roundw
          case rel => exact ⟨k + 1, _, by omega, by go_num, by rw [List.length_set]; exact hLS.out, HLN, hid HS.out.1, hid (Below.grown HBq.out HS.out.2 HBq.out.size (fun k hk => by injection hk with hk; omega))⟩
          case measure => simp only [intOf]; omega
        · obtain rfl : k = ys.length := by omega
          have hltz2 : ¬ (ys.length : Int) < (ys.length : Int) := by omega
          go_wp2_with fail
          go_roundw
          case rel => exact ⟨i + 1, ls, by omega, by go_num, hls, hid (fun x hx => by have := HLB.out x hx; omega), HO', HB'⟩
          case measure => simp only [intOf]; omega
    · obtain rfl : i = xs.length := by omega
      have hltz : ¬ (xs.length : Int) < (xs.length : Int) := by omega
      have hown : ownR w.heap.size wo (.slice (some ⟨w.heap.size, 0, none⟩) L L) ls := by
        unfold ownR; rw [hls]; exact HO.out
      have HW := hid hown
      clear hown HO
      go_wp2_with (go_at_call 76; refine viaI (g := id) (s_trim w.heap.size _ _ _ HW.out (by omega)) ?_; intro rr ur zr hown2; (try simp at zr))
      go_ret
      exact ⟨_, _, rfl, hown2.mono HB.out.size, by have := trimF_len ls; omega, HB.out.trans (Below.mono (by refine Ext.bel ?_; repeat (with_reducible first | exact Ext.refl _ | apply Ext.alloc | apply Ext.aft | apply Ext.drew | apply Ext.drewN | apply Ext.setCell | exact Nat.le_add_right _ _ | exact Nat.le_refl _ | (simp; done) | omega)) HB.out.size)⟩
end Go.Proofs.Ytdhnpmjoajaeiaa
