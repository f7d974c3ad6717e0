/- The statement's sums of polynomials. -/
import Derived.Test.YtflmoopiajhadaaLW4
namespace Go.Proofs.Ytflmoopiajhadaa
open Go Go.RowKit

/-- A sum under way: the first t numbers. -/
def addT (F : Int → Int → Int) (L : Nat) (f g : List Int) (t : Nat) : List Int := (List.range L).map fun j => if j < t then F (f.getD j 0) (g.getD j 0) else 0
theorem addT_len (F : Int → Int → Int) (L : Nat) (f g : List Int) (t : Nat) : (addT F L f g t).length = L := by simp [addT]
theorem addT_at {F : Int → Int → Int} {L : Nat} {f g : List Int} {t : Nat} (h : t < L) : (addT F L f g t).getD t 0 = 0 := by
  unfold addT
  rw [range_getD _ h, if_neg (by omega)]
theorem addT_set {F : Int → Int → Int} {L : Nat} {f g : List Int} {t : Nat} {v : Int} (hv : v = F (f.getD t 0) (g.getD t 0)) : (addT F L f g t).set t v = addT F L f g (t + 1) :=
  range_set _ _ (fun _ => by rw [if_pos (show t < t + 1 by omega)]; exact hv) fun j hj => by
    by_cases h : j < t
    · rw [if_pos h, if_pos (show j < t + 1 by omega)]
    · rw [if_neg h, if_neg (show ¬ j < t + 1 by omega)]
theorem addT_set2 {F : Int → Int → Int} {L : Nat} {f g : List Int} {t : Nat} {x v : Int} (hv : v = F (f.getD t 0) (g.getD t 0)) : ((addT F L f g t).set t x).set t v = addT F L f g (t + 1) := by
  rw [List.set_set, addT_set hv]
theorem addT_zero (F : Int → Int → Int) (L : Nat) (f g : List Int) : addT F L f g 0 = List.replicate L 0 := by
  apply List.ext_getElem?
  intro j
  unfold addT
  rw [List.getElem?_map]
  rcases Nat.lt_or_ge j L with h | h
  · rw [List.getElem?_range h]; simp [h]
  · rw [List.getElem?_eq_none (by simpa using h)]; simp; omega
theorem addT_mod {m k : Int} (f g : List Int) : trimF (addT (fun x y => (x + k * y) % m) (max f.length g.length) f g (max f.length g.length)) = redF m (addK k f g) := by
  have e : redF m (addK k f g) = redF m (addR k f g) := red_congr fun j => by rw [co_add]; unfold co; rw [addR_getD]
  rw [e]
  unfold redF addT addR
  rw [List.map_map]
  congr 1
  apply List.map_congr_left
  intro j hj
  have := List.mem_range.1 hj
  simp only [Function.comp_apply, if_pos this]
theorem addT_plain {k : Int} (f g : List Int) : trimF (addT (fun x y => x + k * y) (max f.length g.length) f g (max f.length g.length)) = addK k f g := by
  unfold addK addT addR
  congr 1
  apply List.map_congr_left
  intro j hj
  have := List.mem_range.1 hj
  simp only [if_pos this]
set_option maxRecDepth 20000 in
set_option maxHeartbeats 8000000 in
theorem s_add_lt (r1 r2 : Value) (f g : List Int) (k : Int) (w : World) (h1 : rdI w r1 f) (h2 : rdI w r2 g) (hl1 : f.length ≤ 1000) (hl2 : g.length ≤ 1000) (hf : ∀ j, i64B (f.getD j 0)) (hg : ∀ j, i64B (k * g.getD j 0)) (hs : ∀ j, i64B (f.getD j 0 + k * g.getD j 0)) (hmx : f.length < g.length) :
    Calls Try.prog 80 #[r1, r2, .int .i64 k] w fun e w' => ∃ v, e = .returned v ∧ ownR w.heap.size w' v (addK k f g) ∧ Below w.heap.size w w' := by
  obtain ⟨i0, hi, hz0, hz1, hz2⟩ := info_parts infoI
  obtain ⟨a1, cap1, rfl, _, _⟩ := id h1
  obtain ⟨a2, cap2, rfl, _, _⟩ := id h2
  have H1 := hid h1
  have H2 := hid h2
  have Hf := hid hf
  have Hg := hid hg
  have Hs := hid hs
  have hmi : (f.length : Int) < (g.length : Int) ↔ f.length < g.length := by omega
  have hL : max f.length g.length = g.length := by omega
  rw [← addT_plain, hL]
  obtain ⟨L, hLd⟩ : ∃ L, L = g.length := ⟨_, rfl⟩
  have hLf : f.length ≤ L := by omega
  have hLg : g.length ≤ L := by omega
  have hL9 : L ≤ 1000 := by omega
  have hLo : ∀ t, t < L → ¬ t < f.length → t < g.length := by omega
  have HLO := hid hLo
  have HLD := hid hLd
  obtain ⟨F, hF⟩ : ∃ F, F = (fun x y : Int => x + k * y) := ⟨_, rfl⟩
  rw [← hF]
  have HF := hid hF
  clear h1 h2 hf hg hs hL hLd hLo hF
  go_enter Try.func80, Try.ntmps80
  go_wp2_with (at_make; refine wpList_make_full _ rfl _ _ 26 rfl w.heap.size 2 i0 (.int .i64 0) 1 Try.underlying26 hi hz0 hz1 _ _ _ _ g.length rfl rfl (by omega) (by omega) (by rw [hz2]; omega) (by unfold maxLen; omega) (Nat.le_refl _) ?_)
  intro w1 hown0 hgr
  rw [← HLD.out] at hown0
  have hown : ownR w.heap.size w1 (.slice (some ⟨w.heap.size, 0, none⟩) g.length g.length) (addT F L f g 0) := by
    rw [← HLD.out, addT_zero]
    unfold ownR
    rw [List.length_replicate, ← vI_zeros]; exact hown0
  have HB : Hid (Below w.heap.size w w1) := hid (Below.grown (Below.refl _ _) hgr (Nat.le_refl _) (fun k hk => by cases hk))
  have HO := hid hown
  clear hown0 hown hgr
  go_wp2_with fail
  go_loopw [8] (fun s wr => ∃ t : Nat, t ≤ L ∧ s = .int .i64 t ∧ Hid (ownR w.heap.size wr (.slice (some ⟨w.heap.size, 0, none⟩) g.length g.length) (addT F L f g t)) ∧ Hid (Below w.heap.size w wr)) (fun s _ => L - (intOf s).toNat)
  case atStart => exact ⟨0, by omega, rfl, HO, HB⟩
  case round =>
    obtain ⟨t, ht9, rfl, HO, HB⟩ := hrel
    obtain ⟨wo, rfl⟩ : ∃ wo : World, wo = wr := ⟨_, rfl⟩
    by_cases hlt : t < L
    · have hltz : (t : Int) < (g.length : Int) := by have := HLD.out; omega
      have hcl := (own_cell HO.out (j := t) (by rw [addT_len]; omega))
      rw [addT_at hlt] at hcl
      obtain ⟨hcl1, hcl2⟩ := hcl
      have hbk := World.block_lt_of_cell? _ _ hcl1
      obtain ⟨hb1, hb2⟩ := Hf.out t
      obtain ⟨hb3, hb4⟩ := Hg.out t
      obtain ⟨hb5, hb6⟩ := Hs.out t
      by_cases hf : t < f.length
      · have hfz : (t : Int) < (f.length : Int) := by omega
        obtain ⟨b1, o1, rfl⟩ := rd_head H1.out (by intro e; rw [e] at hf; simp at hf)
        have hfc := HB.out.cell (p := ⟨b1, o1 + t, none⟩) (World.block_lt_of_cell? w _ (rd_at H1.out hf))
        rw [rd_at H1.out hf] at hfc
        have hst := own_set HO.out t (f.getD t 0)
        by_cases hg : t < g.length
        · have hgz : (t : Int) < (g.length : Int) := by omega
          obtain ⟨b2, o2, rfl⟩ := rd_head H2.out (by intro e; rw [e] at hg; simp at hg)
          obtain ⟨x, hx⟩ : ∃ x, x = f.getD t 0 := ⟨_, rfl⟩
          obtain ⟨y, hy⟩ : ∃ y, y = g.getD t 0 := ⟨_, rfl⟩
          rw [← hx] at hfc hst hb1 hb2 hb5 hb6
          rw [← hy] at hb3 hb4 hb5 hb6
          have HB2 : Hid (Below w.heap.size w (wo.setCell ⟨w.heap.size, t, none⟩ (.int .i64 x))) := hid (Below.grown HB.out hst.2 HB.out.size (fun k hk => by injection hk with hk; omega))
          have hgc := HB2.out.cell (p := ⟨b2, o2 + t, none⟩) (World.block_lt_of_cell? w _ (rd_at H2.out hg))
          rw [rd_at H2.out hg, ← hy] at hgc
          have hgb := World.block_lt_of_cell? _ _ hgc
          have hc2 := (own_cell hst.1 (j := t) (by rw [List.length_set, addT_len]; omega))
          have hxe : ((addT F L f g t).set t x).getD t 0 = x := by simp [List.getElem?_set_self (show t < (addT F L f g t).length by rw [addT_len]; omega)]
          rw [hxe] at hc2
          obtain ⟨hc3, hc4⟩ := hc2
          have hck := World.block_lt_of_cell? _ _ hc3
          have HX := hid hx
          have HY := hid hy
          have HS := hid hst.1
          have HSE : Hid (((addT F L f g t).set t x).set t (x + k * y) = addT F L f g (t + 1)) := hid (addT_set2 (by rw [HF.out, ← HX.out, ← HY.out]))
          have hBz := HB2.out.size
          clear hst hx hy hxe
          go_wp2_with fail
          obtain ⟨wq, hwq⟩ : ∃ wq, wq = wo.setCell ⟨w.heap.size, t, none⟩ (.int .i64 x) := ⟨_, rfl⟩
          rw [← hwq] at HB2 hgc hgb hc3 hc4 hck HS hBz ⊢
          clear hwq hcl1 hcl2 hfc HB HO hbk
          (try go_wp2_with fail)
          refine wp_region_calm_tail 14 (by kernel_rfl) (by kernel_rfl) ?_
          simp only [List.take_succ_cons, List.take_zero, List.drop_succ_cons, List.drop_zero]
          repeat (go_big_quiet_step (fail))
          refine wpQuiet_nil ?_; intro uq zq; try simp at zq
          have hSt := own_set (HS.out.aft uq) t (x + k * y)
          rw [HSE.out] at hSt
          have HBq : Hid (Below w.heap.size w (aft wq uq)) := hid (HB2.out.trans ((below_aft wq uq).mono HB2.out.size))
          have HSt := hid hSt
          clear hSt
          go_wp2_with fail
          go_roundw
          case rel => exact ⟨t + 1, by omega, by go_num, hid HSt.out.1, hid (Below.grown HBq.out HSt.out.2 HBq.out.size (fun k hk => by injection hk with hk; omega))⟩
          case measure => simp only [intOf]; omega
        · exact absurd hg (by omega)
      · have hfz : ¬ (t : Int) < (f.length : Int) := by omega
        have hg := HLO.out t hlt hf
        have hgz : (t : Int) < (g.length : Int) := by omega
        have hx0 : f.getD t 0 = 0 := getD_out (by omega)
        obtain ⟨b2, o2, rfl⟩ := rd_head H2.out (by intro e; rw [e] at hg; simp at hg)
        have hgc := HB.out.cell (p := ⟨b2, o2 + t, none⟩) (World.block_lt_of_cell? w _ (rd_at H2.out hg))
        rw [rd_at H2.out hg] at hgc
        have hgb := World.block_lt_of_cell? _ _ hgc
        rw [hx0] at hb5 hb6
        obtain ⟨x, hx⟩ : ∃ x : Int, x = 0 := ⟨_, rfl⟩
        obtain ⟨y, hy⟩ : ∃ y, y = g.getD t 0 := ⟨_, rfl⟩
        rw [← hy] at hgc hb3 hb4 hb5 hb6
        rw [← hx] at hcl1 hb5 hb6
        have HSE : Hid ((addT F L f g t).set t (x + k * y) = addT F L f g (t + 1)) := hid (addT_set (by rw [HF.out, hx0, ← hy, hx]))
        clear hx0 hx hy
        go_wp2_with fail
        refine wp_region_calm_tail 14 (by kernel_rfl) (by kernel_rfl) ?_
        simp only [List.take_succ_cons, List.take_zero, List.drop_succ_cons, List.drop_zero]
        repeat (go_big_quiet_step (fail))
        refine wpQuiet_nil ?_; intro uq zq; try simp at zq
        have hSt := own_set (HO.out.aft uq) t (x + k * y)
        rw [HSE.out] at hSt
        have HBq : Hid (Below w.heap.size w (aft wo uq)) := hid (HB.out.trans ((below_aft wo uq).mono HB.out.size))
        have HSt := hid hSt
        clear hSt
        go_wp2_with fail
        go_roundw
        case rel => exact ⟨t + 1, by omega, by go_num, hid HSt.out.1, hid (Below.grown HBq.out HSt.out.2 HBq.out.size (fun k hk => by injection hk with hk; omega))⟩
        case measure => simp only [intOf]; omega
    · obtain rfl : t = L := by omega
      have hltz : ¬ (t : Int) < (g.length : Int) := by have := HLD.out; omega
      go_wp2_with (go_at_call 55; refine viaI (g := id) (s_trim w.heap.size _ _ _ HO.out (by rw [addT_len]; omega)) ?_; intro rr ur zr hown2; (try simp at zr))
      go_ret
      exact ⟨_, rfl, by rw [← HLD.out]; exact hown2.mono HB.out.size, HB.out.trans (Below.mono (by refine Ext.bel ?_; repeat (with_reducible first | exact Ext.refl _ | apply Ext.alloc | apply Ext.aft | apply Ext.drew | apply Ext.drewN | apply Ext.setCell | exact Nat.le_add_right _ _ | exact Nat.le_refl _ | (simp; done) | omega)) HB.out.size)⟩
set_option maxRecDepth 20000 in
set_option maxHeartbeats 8000000 in
theorem s_add_ge (r1 r2 : Value) (f g : List Int) (k : Int) (w : World) (h1 : rdI w r1 f) (h2 : rdI w r2 g) (hl1 : f.length ≤ 1000) (hl2 : g.length ≤ 1000) (hf : ∀ j, i64B (f.getD j 0)) (hg : ∀ j, i64B (k * g.getD j 0)) (hs : ∀ j, i64B (f.getD j 0 + k * g.getD j 0)) (hmx : ¬ f.length < g.length) :
    Calls Try.prog 80 #[r1, r2, .int .i64 k] w fun e w' => ∃ v, e = .returned v ∧ ownR w.heap.size w' v (addK k f g) ∧ Below w.heap.size w w' := by
  obtain ⟨i0, hi, hz0, hz1, hz2⟩ := info_parts infoI
  obtain ⟨a1, cap1, rfl, _, _⟩ := id h1
  obtain ⟨a2, cap2, rfl, _, _⟩ := id h2
  have H1 := hid h1
  have H2 := hid h2
  have Hf := hid hf
  have Hg := hid hg
  have Hs := hid hs
  have hmi : (f.length : Int) < (g.length : Int) ↔ f.length < g.length := by omega
  have hL : max f.length g.length = f.length := by omega
  rw [← addT_plain, hL]
  obtain ⟨L, hLd⟩ : ∃ L, L = f.length := ⟨_, rfl⟩
  have hLf : f.length ≤ L := by omega
  have hLg : g.length ≤ L := by omega
  have hL9 : L ≤ 1000 := by omega
  have hLo : ∀ t, t < L → ¬ t < f.length → t < g.length := by omega
  have HLO := hid hLo
  have HLD := hid hLd
  obtain ⟨F, hF⟩ : ∃ F, F = (fun x y : Int => x + k * y) := ⟨_, rfl⟩
  rw [← hF]
  have HF := hid hF
  clear h1 h2 hf hg hs hL hLd hLo hF
  go_enter Try.func80, Try.ntmps80
  go_wp2_with (at_make; refine wpList_make_full _ rfl _ _ 26 rfl w.heap.size 2 i0 (.int .i64 0) 1 Try.underlying26 hi hz0 hz1 _ _ _ _ f.length rfl rfl (by omega) (by omega) (by rw [hz2]; omega) (by unfold maxLen; omega) (Nat.le_refl _) ?_)
  intro w1 hown0 hgr
  rw [← HLD.out] at hown0
  have hown : ownR w.heap.size w1 (.slice (some ⟨w.heap.size, 0, none⟩) f.length f.length) (addT F L f g 0) := by
    rw [← HLD.out, addT_zero]
    unfold ownR
    rw [List.length_replicate, ← vI_zeros]; exact hown0
  have HB : Hid (Below w.heap.size w w1) := hid (Below.grown (Below.refl _ _) hgr (Nat.le_refl _) (fun k hk => by cases hk))
  have HO := hid hown
  clear hown0 hown hgr
  go_wp2_with fail
  go_loopw [8] (fun s wr => ∃ t : Nat, t ≤ L ∧ s = .int .i64 t ∧ Hid (ownR w.heap.size wr (.slice (some ⟨w.heap.size, 0, none⟩) f.length f.length) (addT F L f g t)) ∧ Hid (Below w.heap.size w wr)) (fun s _ => L - (intOf s).toNat)
  case atStart => exact ⟨0, by omega, rfl, HO, HB⟩
  case round =>
    obtain ⟨t, ht9, rfl, HO, HB⟩ := hrel
    obtain ⟨wo, rfl⟩ : ∃ wo : World, wo = wr := ⟨_, rfl⟩
    by_cases hlt : t < L
    · have hltz : (t : Int) < (f.length : Int) := by have := HLD.out; omega
      have hcl := (own_cell HO.out (j := t) (by rw [addT_len]; omega))
      rw [addT_at hlt] at hcl
      obtain ⟨hcl1, hcl2⟩ := hcl
      have hbk := World.block_lt_of_cell? _ _ hcl1
      obtain ⟨hb1, hb2⟩ := Hf.out t
      obtain ⟨hb3, hb4⟩ := Hg.out t
      obtain ⟨hb5, hb6⟩ := Hs.out t
      by_cases hf : t < f.length
      · have hfz : (t : Int) < (f.length : Int) := by omega
        obtain ⟨b1, o1, rfl⟩ := rd_head H1.out (by intro e; rw [e] at hf; simp at hf)
        have hfc := HB.out.cell (p := ⟨b1, o1 + t, none⟩) (World.block_lt_of_cell? w _ (rd_at H1.out hf))
        rw [rd_at H1.out hf] at hfc
        have hst := own_set HO.out t (f.getD t 0)
        by_cases hg : t < g.length
        · have hgz : (t : Int) < (g.length : Int) := by omega
          obtain ⟨b2, o2, rfl⟩ := rd_head H2.out (by intro e; rw [e] at hg; simp at hg)
          obtain ⟨x, hx⟩ : ∃ x, x = f.getD t 0 := ⟨_, rfl⟩
          obtain ⟨y, hy⟩ : ∃ y, y = g.getD t 0 := ⟨_, rfl⟩
          rw [← hx] at hfc hst hb1 hb2 hb5 hb6
          rw [← hy] at hb3 hb4 hb5 hb6
          have HB2 : Hid (Below w.heap.size w (wo.setCell ⟨w.heap.size, t, none⟩ (.int .i64 x))) := hid (Below.grown HB.out hst.2 HB.out.size (fun k hk => by injection hk with hk; omega))
          have hgc := HB2.out.cell (p := ⟨b2, o2 + t, none⟩) (World.block_lt_of_cell? w _ (rd_at H2.out hg))
          rw [rd_at H2.out hg, ← hy] at hgc
          have hgb := World.block_lt_of_cell? _ _ hgc
          have hc2 := (own_cell hst.1 (j := t) (by rw [List.length_set, addT_len]; omega))
          have hxe : ((addT F L f g t).set t x).getD t 0 = x := by simp [List.getElem?_set_self (show t < (addT F L f g t).length by rw [addT_len]; omega)]
          rw [hxe] at hc2
          obtain ⟨hc3, hc4⟩ := hc2
          have hck := World.block_lt_of_cell? _ _ hc3
          have HX := hid hx
          have HY := hid hy
          have HS := hid hst.1
          have HSE : Hid (((addT F L f g t).set t x).set t (x + k * y) = addT F L f g (t + 1)) := hid (addT_set2 (by rw [HF.out, ← HX.out, ← HY.out]))
          have hBz := HB2.out.size
          clear hst hx hy hxe
          go_wp2_with fail
          obtain ⟨wq, hwq⟩ : ∃ wq, wq = wo.setCell ⟨w.heap.size, t, none⟩ (.int .i64 x) := ⟨_, rfl⟩
          rw [← hwq] at HB2 hgc hgb hc3 hc4 hck HS hBz ⊢
          clear hwq hcl1 hcl2 hfc HB HO hbk
          (try go_wp2_with fail)
          refine wp_region_calm_tail 14 (by kernel_rfl) (by kernel_rfl) ?_
          simp only [List.take_succ_cons, List.take_zero, List.drop_succ_cons, List.drop_zero]
          repeat (go_big_quiet_step (fail))
          refine wpQuiet_nil ?_; intro uq zq; try simp at zq
          have hSt := own_set (HS.out.aft uq) t (x + k * y)
          rw [HSE.out] at hSt
          have HBq : Hid (Below w.heap.size w (aft wq uq)) := hid (HB2.out.trans ((below_aft wq uq).mono HB2.out.size))
          have HSt := hid hSt
          clear hSt
          go_wp2_with fail
          go_roundw
          case rel => exact ⟨t + 1, by omega, by go_num, hid HSt.out.1, hid (Below.grown HBq.out HSt.out.2 HBq.out.size (fun k hk => by injection hk with hk; omega))⟩
          case measure => simp only [intOf]; omega
        · have hgz : ¬ (t : Int) < (g.length : Int) := by omega
          have hy0 : g.getD t 0 = 0 := getD_out (by omega)
          have hst2 : ownR w.heap.size (wo.setCell ⟨w.heap.size, t, none⟩ (.int .i64 (f.getD t 0))) (.slice (some ⟨w.heap.size, 0, none⟩) f.length f.length) (addT F L f g (t + 1)) := by
            have h1 := hst.1
            rw [addT_set (by rw [HF.out, hy0]; show _ = f.getD t 0 + k * 0; rw [Int.mul_zero, Int.add_zero])] at h1
            exact h1
          have HS := hid hst2
          have HG := hid hst.2
          obtain ⟨x, hx⟩ : ∃ x, x = f.getD t 0 := ⟨_, rfl⟩
          rw [← hx] at hfc hb1 hb2 HS HG
          clear hst hst2 hx
          go_wp2_with fail
          go_roundw
          case rel => exact ⟨t + 1, by omega, by go_num, HS, hid (Below.grown HB.out HG.out HB.out.size (fun k hk => by injection hk with hk; omega))⟩
          case measure => simp only [intOf]; omega
      · exact absurd (HLO.out t hlt hf) (by omega)
    · obtain rfl : t = L := by omega
      have hltz : ¬ (t : Int) < (f.length : Int) := by have := HLD.out; omega
      go_wp2_with (go_at_call 55; refine viaI (g := id) (s_trim w.heap.size _ _ _ HO.out (by rw [addT_len]; omega)) ?_; intro rr ur zr hown2; (try simp at zr))
      go_ret
      exact ⟨_, rfl, by rw [← HLD.out]; exact hown2.mono HB.out.size, HB.out.trans (Below.mono (by refine Ext.bel ?_; repeat (with_reducible first | exact Ext.refl _ | apply Ext.alloc | apply Ext.aft | apply Ext.drew | apply Ext.drewN | apply Ext.setCell | exact Nat.le_add_right _ _ | exact Nat.le_refl _ | (simp; done) | omega)) HB.out.size)⟩
theorem s_add (r1 r2 : Value) (f g : List Int) (k : Int) (w : World) (h1 : rdI w r1 f) (h2 : rdI w r2 g) (hl1 : f.length ≤ 1000) (hl2 : g.length ≤ 1000) (hf : ∀ j, i64B (f.getD j 0)) (hg : ∀ j, i64B (k * g.getD j 0)) (hs : ∀ j, i64B (f.getD j 0 + k * g.getD j 0)) :
    Calls Try.prog 80 #[r1, r2, .int .i64 k] w fun e w' => ∃ v, e = .returned v ∧ ownR w.heap.size w' v (addK k f g) ∧ Below w.heap.size w w' := by
  by_cases h : f.length < g.length
  · exact s_add_lt r1 r2 f g k w h1 h2 hl1 hl2 hf hg hs h
  · exact s_add_ge r1 r2 f g k w h1 h2 hl1 hl2 hf hg hs h
set_option maxRecDepth 20000 in
set_option maxHeartbeats 8000000 in
theorem s_addM_lt (r1 r2 : Value) (f g : List Int) (k : Int) (m : Int) (w : World) (h1 : rdI w r1 f) (h2 : rdI w r2 g) (hl1 : f.length ≤ 1000) (hl2 : g.length ≤ 1000) (hf : ∀ j, i64B (f.getD j 0)) (hg : ∀ j, i64B (k * g.getD j 0)) (hs : ∀ j, i64B (f.getD j 0 + k * g.getD j 0)) (hm : 1 ≤ m ∧ m ≤ 1000000000) (hfm : ∀ j, f.getD j 0 % m = f.getD j 0) (hmx : f.length < g.length) :
    Calls Try.prog 53 #[r1, r2, .int .i64 k, .int .i64 m] w fun e w' => ∃ v, e = .returned v ∧ ownR w.heap.size w' v (redF m (addK k f g)) ∧ Below w.heap.size w w' := by
  obtain ⟨i0, hi, hz0, hz1, hz2⟩ := info_parts infoI
  obtain ⟨a1, cap1, rfl, _, _⟩ := id h1
  obtain ⟨a2, cap2, rfl, _, _⟩ := id h2
  have H1 := hid h1
  have H2 := hid h2
  have Hf := hid hf
  have Hg := hid hg
  have Hs := hid hs
  have Hfm := hid hfm
  have hmi : (f.length : Int) < (g.length : Int) ↔ f.length < g.length := by omega
  have hL : max f.length g.length = g.length := by omega
  rw [← addT_mod, hL]
  obtain ⟨L, hLd⟩ : ∃ L, L = g.length := ⟨_, rfl⟩
  have hLf : f.length ≤ L := by omega
  have hLg : g.length ≤ L := by omega
  have hL9 : L ≤ 1000 := by omega
  have hLo : ∀ t, t < L → ¬ t < f.length → t < g.length := by omega
  have HLO := hid hLo
  have HLD := hid hLd
  obtain ⟨F, hF⟩ : ∃ F, F = (fun x y : Int => (x + k * y) % m) := ⟨_, rfl⟩
  rw [← hF]
  have HF := hid hF
  clear h1 h2 hf hg hs hL hLd hLo hF hfm
  go_enter Try.func53, Try.ntmps53
  go_wp2_with (at_make; refine wpList_make_full _ rfl _ _ 26 rfl w.heap.size 2 i0 (.int .i64 0) 1 Try.underlying26 hi hz0 hz1 _ _ _ _ g.length rfl rfl (by omega) (by omega) (by rw [hz2]; omega) (by unfold maxLen; omega) (Nat.le_refl _) ?_)
  intro w1 hown0 hgr
  rw [← HLD.out] at hown0
  have hown : ownR w.heap.size w1 (.slice (some ⟨w.heap.size, 0, none⟩) g.length g.length) (addT F L f g 0) := by
    rw [← HLD.out, addT_zero]
    unfold ownR
    rw [List.length_replicate, ← vI_zeros]; exact hown0
  have HB : Hid (Below w.heap.size w w1) := hid (Below.grown (Below.refl _ _) hgr (Nat.le_refl _) (fun k hk => by cases hk))
  have HO := hid hown
  clear hown0 hown hgr
  go_wp2_with fail
  go_loopw [10] (fun s wr => ∃ t : Nat, t ≤ L ∧ s = .int .i64 t ∧ Hid (ownR w.heap.size wr (.slice (some ⟨w.heap.size, 0, none⟩) g.length g.length) (addT F L f g t)) ∧ Hid (Below w.heap.size w wr)) (fun s _ => L - (intOf s).toNat)
  case atStart => exact ⟨0, by omega, rfl, HO, HB⟩
  case round =>
    obtain ⟨t, ht9, rfl, HO, HB⟩ := hrel
    obtain ⟨wo, rfl⟩ : ∃ wo : World, wo = wr := ⟨_, rfl⟩
    by_cases hlt : t < L
    · have hltz : (t : Int) < (g.length : Int) := by have := HLD.out; omega
      have hcl := (own_cell HO.out (j := t) (by rw [addT_len]; omega))
      rw [addT_at hlt] at hcl
      obtain ⟨hcl1, hcl2⟩ := hcl
      have hbk := World.block_lt_of_cell? _ _ hcl1
      obtain ⟨hb1, hb2⟩ := Hf.out t
      obtain ⟨hb3, hb4⟩ := Hg.out t
      obtain ⟨hb5, hb6⟩ := Hs.out t
      by_cases hf : t < f.length
      · have hfz : (t : Int) < (f.length : Int) := by omega
        obtain ⟨b1, o1, rfl⟩ := rd_head H1.out (by intro e; rw [e] at hf; simp at hf)
        have hfc := HB.out.cell (p := ⟨b1, o1 + t, none⟩) (World.block_lt_of_cell? w _ (rd_at H1.out hf))
        rw [rd_at H1.out hf] at hfc
        have hst := own_set HO.out t (f.getD t 0)
        by_cases hg : t < g.length
        · have hgz : (t : Int) < (g.length : Int) := by omega
          obtain ⟨b2, o2, rfl⟩ := rd_head H2.out (by intro e; rw [e] at hg; simp at hg)
          obtain ⟨x, hx⟩ : ∃ x, x = f.getD t 0 := ⟨_, rfl⟩
          obtain ⟨y, hy⟩ : ∃ y, y = g.getD t 0 := ⟨_, rfl⟩
          rw [← hx] at hfc hst hb1 hb2 hb5 hb6
          rw [← hy] at hb3 hb4 hb5 hb6
          have HB2 : Hid (Below w.heap.size w (wo.setCell ⟨w.heap.size, t, none⟩ (.int .i64 x))) := hid (Below.grown HB.out hst.2 HB.out.size (fun k hk => by injection hk with hk; omega))
          have hgc := HB2.out.cell (p := ⟨b2, o2 + t, none⟩) (World.block_lt_of_cell? w _ (rd_at H2.out hg))
          rw [rd_at H2.out hg, ← hy] at hgc
          have hgb := World.block_lt_of_cell? _ _ hgc
          have hc2 := (own_cell hst.1 (j := t) (by rw [List.length_set, addT_len]; omega))
          have hxe : ((addT F L f g t).set t x).getD t 0 = x := by simp [List.getElem?_set_self (show t < (addT F L f g t).length by rw [addT_len]; omega)]
          rw [hxe] at hc2
          obtain ⟨hc3, hc4⟩ := hc2
          have hck := World.block_lt_of_cell? _ _ hc3
          have HX := hid hx
          have HY := hid hy
          have HS := hid hst.1
          have HSE : Hid (((addT F L f g t).set t x).set t ((x + k * y) % m) = addT F L f g (t + 1)) := hid (addT_set2 (by rw [HF.out, ← HX.out, ← HY.out]))
          have hBz := HB2.out.size
          clear hst hx hy hxe
          go_wp2_with fail
          obtain ⟨wq, hwq⟩ : ∃ wq, wq = wo.setCell ⟨w.heap.size, t, none⟩ (.int .i64 x) := ⟨_, rfl⟩
          rw [← hwq] at HB2 hgc hgb hc3 hc4 hck HS hBz ⊢
          clear hwq hcl1 hcl2 hfc HB HO hbk
          (try go_wp2_with fail)
          refine wp_region_calm_tail 16 (by kernel_rfl) (by kernel_rfl) ?_
          simp only [List.take_succ_cons, List.take_zero, List.drop_succ_cons, List.drop_zero]
          repeat (go_big_quiet_step ((go_at_call 68; exact calmp (s_mod _ _ _ (by omega) (by omega)))))
          refine wpQuiet_nil ?_; intro uq zq; try simp at zq
          have hSt := own_set (HS.out.aft uq) t ((x + k * y) % m)
          rw [HSE.out] at hSt
          have HBq : Hid (Below w.heap.size w (aft wq uq)) := hid (HB2.out.trans ((below_aft wq uq).mono HB2.out.size))
          have HSt := hid hSt
          clear hSt
          go_wp2_with fail
          go_roundw
          case rel => exact ⟨t + 1, by omega, by go_num, hid HSt.out.1, hid (Below.grown HBq.out HSt.out.2 HBq.out.size (fun k hk => by injection hk with hk; omega))⟩
          case measure => simp only [intOf]; omega
        · exact absurd hg (by omega)
      · have hfz : ¬ (t : Int) < (f.length : Int) := by omega
        have hg := HLO.out t hlt hf
        have hgz : (t : Int) < (g.length : Int) := by omega
        have hx0 : f.getD t 0 = 0 := getD_out (by omega)
        obtain ⟨b2, o2, rfl⟩ := rd_head H2.out (by intro e; rw [e] at hg; simp at hg)
        have hgc := HB.out.cell (p := ⟨b2, o2 + t, none⟩) (World.block_lt_of_cell? w _ (rd_at H2.out hg))
        rw [rd_at H2.out hg] at hgc
        have hgb := World.block_lt_of_cell? _ _ hgc
        rw [hx0] at hb5 hb6
        obtain ⟨x, hx⟩ : ∃ x : Int, x = 0 := ⟨_, rfl⟩
        obtain ⟨y, hy⟩ : ∃ y, y = g.getD t 0 := ⟨_, rfl⟩
        rw [← hy] at hgc hb3 hb4 hb5 hb6
        rw [← hx] at hcl1 hb5 hb6
        have HSE : Hid ((addT F L f g t).set t ((x + k * y) % m) = addT F L f g (t + 1)) := hid (addT_set (by rw [HF.out, hx0, ← hy, hx]))
        clear hx0 hx hy
        go_wp2_with fail
        refine wp_region_calm_tail 16 (by kernel_rfl) (by kernel_rfl) ?_
        simp only [List.take_succ_cons, List.take_zero, List.drop_succ_cons, List.drop_zero]
        repeat (go_big_quiet_step ((go_at_call 68; exact calmp (s_mod _ _ _ (by omega) (by omega)))))
        refine wpQuiet_nil ?_; intro uq zq; try simp at zq
        have hSt := own_set (HO.out.aft uq) t ((x + k * y) % m)
        rw [HSE.out] at hSt
        have HBq : Hid (Below w.heap.size w (aft wo uq)) := hid (HB.out.trans ((below_aft wo uq).mono HB.out.size))
        have HSt := hid hSt
        clear hSt
        go_wp2_with fail
        go_roundw
        case rel => exact ⟨t + 1, by omega, by go_num, hid HSt.out.1, hid (Below.grown HBq.out HSt.out.2 HBq.out.size (fun k hk => by injection hk with hk; omega))⟩
        case measure => simp only [intOf]; omega
    · obtain rfl : t = L := by omega
      have hltz : ¬ (t : Int) < (g.length : Int) := by have := HLD.out; omega
      go_wp2_with (go_at_call 55; refine viaI (g := id) (s_trim w.heap.size _ _ _ HO.out (by rw [addT_len]; omega)) ?_; intro rr ur zr hown2; (try simp at zr))
      go_ret
      exact ⟨_, rfl, by rw [← HLD.out]; exact hown2.mono HB.out.size, HB.out.trans (Below.mono (by refine Ext.bel ?_; repeat (with_reducible first | exact Ext.refl _ | apply Ext.alloc | apply Ext.aft | apply Ext.drew | apply Ext.drewN | apply Ext.setCell | exact Nat.le_add_right _ _ | exact Nat.le_refl _ | (simp; done) | omega)) HB.out.size)⟩
set_option maxRecDepth 20000 in
set_option maxHeartbeats 8000000 in
theorem s_addM_ge (r1 r2 : Value) (f g : List Int) (k : Int) (m : Int) (w : World) (h1 : rdI w r1 f) (h2 : rdI w r2 g) (hl1 : f.length ≤ 1000) (hl2 : g.length ≤ 1000) (hf : ∀ j, i64B (f.getD j 0)) (hg : ∀ j, i64B (k * g.getD j 0)) (hs : ∀ j, i64B (f.getD j 0 + k * g.getD j 0)) (hm : 1 ≤ m ∧ m ≤ 1000000000) (hfm : ∀ j, f.getD j 0 % m = f.getD j 0) (hmx : ¬ f.length < g.length) :
    Calls Try.prog 53 #[r1, r2, .int .i64 k, .int .i64 m] w fun e w' => ∃ v, e = .returned v ∧ ownR w.heap.size w' v (redF m (addK k f g)) ∧ Below w.heap.size w w' := by
  obtain ⟨i0, hi, hz0, hz1, hz2⟩ := info_parts infoI
  obtain ⟨a1, cap1, rfl, _, _⟩ := id h1
  obtain ⟨a2, cap2, rfl, _, _⟩ := id h2
  have H1 := hid h1
  have H2 := hid h2
  have Hf := hid hf
  have Hg := hid hg
  have Hs := hid hs
  have Hfm := hid hfm
  have hmi : (f.length : Int) < (g.length : Int) ↔ f.length < g.length := by omega
  have hL : max f.length g.length = f.length := by omega
  rw [← addT_mod, hL]
  obtain ⟨L, hLd⟩ : ∃ L, L = f.length := ⟨_, rfl⟩
  have hLf : f.length ≤ L := by omega
  have hLg : g.length ≤ L := by omega
  have hL9 : L ≤ 1000 := by omega
  have hLo : ∀ t, t < L → ¬ t < f.length → t < g.length := by omega
  have HLO := hid hLo
  have HLD := hid hLd
  obtain ⟨F, hF⟩ : ∃ F, F = (fun x y : Int => (x + k * y) % m) := ⟨_, rfl⟩
  rw [← hF]
  have HF := hid hF
  clear h1 h2 hf hg hs hL hLd hLo hF hfm
  go_enter Try.func53, Try.ntmps53
  go_wp2_with (at_make; refine wpList_make_full _ rfl _ _ 26 rfl w.heap.size 2 i0 (.int .i64 0) 1 Try.underlying26 hi hz0 hz1 _ _ _ _ f.length rfl rfl (by omega) (by omega) (by rw [hz2]; omega) (by unfold maxLen; omega) (Nat.le_refl _) ?_)
  intro w1 hown0 hgr
  rw [← HLD.out] at hown0
  have hown : ownR w.heap.size w1 (.slice (some ⟨w.heap.size, 0, none⟩) f.length f.length) (addT F L f g 0) := by
    rw [← HLD.out, addT_zero]
    unfold ownR
    rw [List.length_replicate, ← vI_zeros]; exact hown0
  have HB : Hid (Below w.heap.size w w1) := hid (Below.grown (Below.refl _ _) hgr (Nat.le_refl _) (fun k hk => by cases hk))
  have HO := hid hown
  clear hown0 hown hgr
  go_wp2_with fail
  go_loopw [10] (fun s wr => ∃ t : Nat, t ≤ L ∧ s = .int .i64 t ∧ Hid (ownR w.heap.size wr (.slice (some ⟨w.heap.size, 0, none⟩) f.length f.length) (addT F L f g t)) ∧ Hid (Below w.heap.size w wr)) (fun s _ => L - (intOf s).toNat)
  case atStart => exact ⟨0, by omega, rfl, HO, HB⟩
  case round =>
    obtain ⟨t, ht9, rfl, HO, HB⟩ := hrel
    obtain ⟨wo, rfl⟩ : ∃ wo : World, wo = wr := ⟨_, rfl⟩
    by_cases hlt : t < L
    · have hltz : (t : Int) < (f.length : Int) := by have := HLD.out; omega
      have hcl := (own_cell HO.out (j := t) (by rw [addT_len]; omega))
      rw [addT_at hlt] at hcl
      obtain ⟨hcl1, hcl2⟩ := hcl
      have hbk := World.block_lt_of_cell? _ _ hcl1
      obtain ⟨hb1, hb2⟩ := Hf.out t
      obtain ⟨hb3, hb4⟩ := Hg.out t
      obtain ⟨hb5, hb6⟩ := Hs.out t
      by_cases hf : t < f.length
      · have hfz : (t : Int) < (f.length : Int) := by omega
        obtain ⟨b1, o1, rfl⟩ := rd_head H1.out (by intro e; rw [e] at hf; simp at hf)
        have hfc := HB.out.cell (p := ⟨b1, o1 + t, none⟩) (World.block_lt_of_cell? w _ (rd_at H1.out hf))
        rw [rd_at H1.out hf] at hfc
        have hst := own_set HO.out t (f.getD t 0)
        by_cases hg : t < g.length
        · have hgz : (t : Int) < (g.length : Int) := by omega
          obtain ⟨b2, o2, rfl⟩ := rd_head H2.out (by intro e; rw [e] at hg; simp at hg)
          obtain ⟨x, hx⟩ : ∃ x, x = f.getD t 0 := ⟨_, rfl⟩
          obtain ⟨y, hy⟩ : ∃ y, y = g.getD t 0 := ⟨_, rfl⟩
          rw [← hx] at hfc hst hb1 hb2 hb5 hb6
          rw [← hy] at hb3 hb4 hb5 hb6
          have HB2 : Hid (Below w.heap.size w (wo.setCell ⟨w.heap.size, t, none⟩ (.int .i64 x))) := hid (Below.grown HB.out hst.2 HB.out.size (fun k hk => by injection hk with hk; omega))
          have hgc := HB2.out.cell (p := ⟨b2, o2 + t, none⟩) (World.block_lt_of_cell? w _ (rd_at H2.out hg))
          rw [rd_at H2.out hg, ← hy] at hgc
          have hgb := World.block_lt_of_cell? _ _ hgc
          have hc2 := (own_cell hst.1 (j := t) (by rw [List.length_set, addT_len]; omega))
          have hxe : ((addT F L f g t).set t x).getD t 0 = x := by simp [List.getElem?_set_self (show t < (addT F L f g t).length by rw [addT_len]; omega)]
          rw [hxe] at hc2
          obtain ⟨hc3, hc4⟩ := hc2
          have hck := World.block_lt_of_cell? _ _ hc3
          have HX := hid hx
          have HY := hid hy
          have HS := hid hst.1
          have HSE : Hid (((addT F L f g t).set t x).set t ((x + k * y) % m) = addT F L f g (t + 1)) := hid (addT_set2 (by rw [HF.out, ← HX.out, ← HY.out]))
          have hBz := HB2.out.size
          clear hst hx hy hxe
          go_wp2_with fail
          obtain ⟨wq, hwq⟩ : ∃ wq, wq = wo.setCell ⟨w.heap.size, t, none⟩ (.int .i64 x) := ⟨_, rfl⟩
          rw [← hwq] at HB2 hgc hgb hc3 hc4 hck HS hBz ⊢
          clear hwq hcl1 hcl2 hfc HB HO hbk
          (try go_wp2_with fail)
          refine wp_region_calm_tail 16 (by kernel_rfl) (by kernel_rfl) ?_
          simp only [List.take_succ_cons, List.take_zero, List.drop_succ_cons, List.drop_zero]
          repeat (go_big_quiet_step ((go_at_call 68; exact calmp (s_mod _ _ _ (by omega) (by omega)))))
          refine wpQuiet_nil ?_; intro uq zq; try simp at zq
          have hSt := own_set (HS.out.aft uq) t ((x + k * y) % m)
          rw [HSE.out] at hSt
          have HBq : Hid (Below w.heap.size w (aft wq uq)) := hid (HB2.out.trans ((below_aft wq uq).mono HB2.out.size))
          have HSt := hid hSt
          clear hSt
          go_wp2_with fail
          go_roundw
          case rel => exact ⟨t + 1, by omega, by go_num, hid HSt.out.1, hid (Below.grown HBq.out HSt.out.2 HBq.out.size (fun k hk => by injection hk with hk; omega))⟩
          case measure => simp only [intOf]; omega
        · have hgz : ¬ (t : Int) < (g.length : Int) := by omega
          have hy0 : g.getD t 0 = 0 := getD_out (by omega)
          have hst2 : ownR w.heap.size (wo.setCell ⟨w.heap.size, t, none⟩ (.int .i64 (f.getD t 0))) (.slice (some ⟨w.heap.size, 0, none⟩) f.length f.length) (addT F L f g (t + 1)) := by
            have h1 := hst.1
            rw [addT_set (by rw [HF.out, hy0]; show _ = (f.getD t 0 + k * 0) % m; rw [Int.mul_zero, Int.add_zero]; exact (Hfm.out t).symm)] at h1
            exact h1
          have HS := hid hst2
          have HG := hid hst.2
          obtain ⟨x, hx⟩ : ∃ x, x = f.getD t 0 := ⟨_, rfl⟩
          rw [← hx] at hfc hb1 hb2 HS HG
          clear hst hst2 hx
          go_wp2_with fail
          go_roundw
          case rel => exact ⟨t + 1, by omega, by go_num, HS, hid (Below.grown HB.out HG.out HB.out.size (fun k hk => by injection hk with hk; omega))⟩
          case measure => simp only [intOf]; omega
      · exact absurd (HLO.out t hlt hf) (by omega)
    · obtain rfl : t = L := by omega
      have hltz : ¬ (t : Int) < (f.length : Int) := by have := HLD.out; omega
      go_wp2_with (go_at_call 55; refine viaI (g := id) (s_trim w.heap.size _ _ _ HO.out (by rw [addT_len]; omega)) ?_; intro rr ur zr hown2; (try simp at zr))
      go_ret
      exact ⟨_, rfl, by rw [← HLD.out]; exact hown2.mono HB.out.size, HB.out.trans (Below.mono (by refine Ext.bel ?_; repeat (with_reducible first | exact Ext.refl _ | apply Ext.alloc | apply Ext.aft | apply Ext.drew | apply Ext.drewN | apply Ext.setCell | exact Nat.le_add_right _ _ | exact Nat.le_refl _ | (simp; done) | omega)) HB.out.size)⟩
theorem s_addM (r1 r2 : Value) (f g : List Int) (k : Int) (m : Int) (w : World) (h1 : rdI w r1 f) (h2 : rdI w r2 g) (hl1 : f.length ≤ 1000) (hl2 : g.length ≤ 1000) (hf : ∀ j, i64B (f.getD j 0)) (hg : ∀ j, i64B (k * g.getD j 0)) (hs : ∀ j, i64B (f.getD j 0 + k * g.getD j 0)) (hm : 1 ≤ m ∧ m ≤ 1000000000) (hfm : ∀ j, f.getD j 0 % m = f.getD j 0) :
    Calls Try.prog 53 #[r1, r2, .int .i64 k, .int .i64 m] w fun e w' => ∃ v, e = .returned v ∧ ownR w.heap.size w' v (redF m (addK k f g)) ∧ Below w.heap.size w w' := by
  by_cases h : f.length < g.length
  · exact s_addM_lt r1 r2 f g k m w h1 h2 hl1 hl2 hf hg hs hm hfm h
  · exact s_addM_ge r1 r2 f g k m w h1 h2 hl1 hl2 hf hg hs hm hfm h

end Go.Proofs.Ytflmoopiajhadaa
