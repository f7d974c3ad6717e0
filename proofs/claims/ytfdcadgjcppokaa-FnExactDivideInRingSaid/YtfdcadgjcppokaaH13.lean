/- Division by a monic polynomial in a ring: the program's text, the law. -/
import Derived.Test.YtfdcadgjcppokaaH12
namespace Go.Proofs.Ytfdcadgjcppokaa
open Go Go.RowKit

theorem i_modulusE (p n M : Int) (w : World) (h : ringB p n = true) (hM : p ^ n.toNat = M) :
    Calls Try.prog 40 #[(.agg #[.int .i64 p, .int .i64 n])] w fun e w' => e = .returned (.int .i64 M) ∧ Below w.heap.size w w' := by
  subst hM; exact i_modulus p n w h

set_option maxRecDepth 20000 in
set_option maxHeartbeats 16000000 in
theorem i_DivideInRing (p n : Int) (r1 r2 : Value) (f g : List Int) (w : World) (h1 : rdI w r1 f) (h2 : rdI w r2 g) :
    Calls Try.prog 22 #[(.agg #[.int .i64 p, .int .i64 n]), r1, r2] w fun e w' => ∃ v1 v2, e = .returned (.tuple #[v1, v2, .int .i64 (divideInRingF p n f g).2.2]) ∧ ownR w.heap.size w' v1 (divideInRingF p n f g).1 ∧ ownR w.heap.size w' v2 (divideInRingF p n f g).2.1 ∧ rowNe v1 v2.ownBlock ∧ rowNe v2 v1.ownBlock ∧ Below w.heap.size w w' := by
  cases hx : inRingB p n f
  · have e : (divideInRingF p n f g) = ([], [], 1) := by unfold divideInRingF; rw [if_neg (by simp [hx])]
    rw [e]; clear e
    go_enter Try.func22, Try.ntmps22
    go_wp2_with fail
    refine via (i_IsInRing _ _ r1 f _ (by repeat (with_reducible first | assumption | apply rdI.aft | apply rdI.alloc | apply rdI.drew | apply rdI.drewN))) ?_
    intro uu zz; try simp at zz
    go_wp2_with fail
    go_ret3
    exact ⟨.slice none 0 0, .slice none 0 0, rfl, ownR.nil _ _, ownR.nil _ _, (fun k hk => by cases hk), (fun k hk => by cases hk), (by refine Ext.bel ?_; repeat (with_reducible first | exact Ext.refl _ | apply Ext.alloc | apply Ext.aft | apply Ext.drew | apply Ext.drewN | apply Ext.setCell | exact Nat.le_add_right _ _ | exact Nat.le_refl _ | (simp; done) | omega))⟩
  cases hy : inRingB p n g
  · have e : (divideInRingF p n f g) = ([], [], 1) := by unfold divideInRingF; rw [if_neg (by simp [hy])]
    rw [e]; clear e
    go_enter Try.func22, Try.ntmps22
    go_wp2_with fail
    refine via (i_IsInRing _ _ r1 f _ (by repeat (with_reducible first | assumption | apply rdI.aft | apply rdI.alloc | apply rdI.drew | apply rdI.drewN))) ?_
    intro uu zz; try simp at zz
    go_wp2_with fail
    refine via (i_IsInRing _ _ r2 g _ (by repeat (with_reducible first | assumption | apply rdI.aft | apply rdI.alloc | apply rdI.drew | apply rdI.drewN))) ?_
    intro uu zz; try simp at zz
    go_wp2_with fail
    go_ret3
    exact ⟨.slice none 0 0, .slice none 0 0, rfl, ownR.nil _ _, ownR.nil _ _, (fun k hk => by cases hk), (fun k hk => by cases hk), (by refine Ext.bel ?_; repeat (with_reducible first | exact Ext.refl _ | apply Ext.alloc | apply Ext.aft | apply Ext.drew | apply Ext.drewN | apply Ext.setCell | exact Nat.le_add_right _ _ | exact Nat.le_refl _ | (simp; done) | omega))⟩
  cases hmo : monicB g
  · have e : (divideInRingF p n f g) = ([], [], 5) := by unfold divideInRingF; rw [if_pos ⟨hx, hy⟩, if_neg (by simp [hmo])]
    rw [e]; clear e
    go_enter Try.func22, Try.ntmps22
    go_wp2_with fail
    refine via (i_IsInRing _ _ r1 f _ (by repeat (with_reducible first | assumption | apply rdI.aft | apply rdI.alloc | apply rdI.drew | apply rdI.drewN))) ?_
    intro uu zz; try simp at zz
    go_wp2_with fail
    refine via (i_IsInRing _ _ r2 g _ (by repeat (with_reducible first | assumption | apply rdI.aft | apply rdI.alloc | apply rdI.drew | apply rdI.drewN))) ?_
    intro uu zz; try simp at zz
    go_wp2_with (go_at_call 47; refine pur (i_isMonic _ g _ (by repeat (with_reducible first | assumption | apply rdI.aft | apply rdI.alloc | apply rdI.drew | apply rdI.drewN))) ?_)
    go_ret3
    exact ⟨.slice none 0 0, .slice none 0 0, rfl, ownR.nil _ _, ownR.nil _ _, (fun k hk => by cases hk), (fun k hk => by cases hk), (by refine Ext.bel ?_; repeat (with_reducible first | exact Ext.refl _ | apply Ext.alloc | apply Ext.aft | apply Ext.drew | apply Ext.drewN | apply Ext.setCell | exact Nat.le_add_right _ _ | exact Nat.le_refl _ | (simp; done) | omega))⟩
  obtain ⟨i0, hi, hz0, hz1, hz2⟩ := info_parts infoI
  obtain ⟨hp, hn, hM⟩ := inRing_M hx
  have fx := inRing_facts hx
  have fy := inRing_facts hy
  have hlg0 := monic_len hmo
  have HR1 := hid fx.1
  have e : (divideInRingF p n f g) = (quoF (p ^ n.toNat) (fun x => x) f g, remF (p ^ n.toNat) (fun x => x) f g, 0) := by unfold divideInRingF; rw [if_pos ⟨hx, hy⟩, if_pos hmo]
  rw [e]; clear e
  obtain ⟨m, hMM⟩ : ∃ m, m = p ^ n.toNat := ⟨_, rfl⟩
  have HMM := hid hMM.symm
  rw [← hMM] at hM fx fy ⊢
  have hm := hM
  have hf := fx.2.2.1
  have hg := fy.2.2.1
  have hlf : f.length ≤ 1000 := by have := fx.2.1; omega
  have hlg : 1 ≤ g.length ∧ g.length ≤ 1000 := by have := fy.2.1; omega
  obtain ⟨a0, cap0, rfl, _, _⟩ := id h1
  obtain ⟨a2, cap2, rfl, _, _⟩ := id h2
  obtain ⟨b2, o2, rfl⟩ := rd_head h2 (by intro e; subst e; simp at hlg)
  have hgd := hid (getD_bd (b := m - 1) (by omega) hg)
  have HS := hid (divS_bd (lead := fun x => x) hm.1 (fun x hx => hx) hf (g := g) (n := divN f g))
  unfold quoF remF
  obtain ⟨N, hN⟩ : ∃ N, N = divN f g := ⟨_, rfl⟩
  rw [← hN] at HS ⊢
  unfold divN at hN
  have HL := hid (divS_len m (fun x => x) f g N)
  have hN9 : N ≤ 1001 := by omega
  have hNz : (0 < (f.length : Int) - g.length + 1 ∧ (f.length : Int) - g.length + 1 = N) ∨ ((f.length : Int) - g.length + 1 < 0 ∧ N = 0) ∨ ((f.length : Int) - g.length + 1 = 0 ∧ N = 0) := by omega
  have hNle : ∀ k, k < N → k + g.length - 1 < f.length := by omega
  have HNle := hid hNle
  clear hf hg hN hNle fx fy hMM hM hlg0
  go_enter Try.func22, Try.ntmps22
  go_wp2_with fail
  refine via (i_IsInRing _ _ _ f _ (by repeat (with_reducible first | assumption | apply rdI.aft | apply rdI.alloc | apply rdI.drew | apply rdI.drewN))) ?_
  intro uu zz; try simp at zz
  go_wp2_with fail
  refine via (i_IsInRing _ _ _ g _ (by repeat (with_reducible first | assumption | apply rdI.aft | apply rdI.alloc | apply rdI.drew | apply rdI.drewN))) ?_
  intro uu2 zz2; try simp at zz2
  go_wp2_with (go_at_call 47; refine pur (i_isMonic _ g _ (by repeat (with_reducible first | assumption | apply rdI.aft | apply rdI.alloc | apply rdI.drew | apply rdI.drewN))) ?_)
  obtain ⟨w0, hw0⟩ : ∃ w0, w0 = aft (aft (w.alloc (Obj.cells #[.int .i64 p, .int .i64 n] 27)) uu) uu2 := ⟨_, rfl⟩
  have C0 : Hid (∀ o, w0.cell? ⟨w.heap.size, o, none⟩ = #[Value.int .i64 p, .int .i64 n][o]?) := hid fun o => by rw [hw0]; simp [go_sem, ↓IntWalk.iteOmega]
  have E0 : Hid (Ext w.heap.size w w0) := hid (by rw [hw0]; exact (by repeat (with_reducible first | exact Ext.refl _ | apply Ext.alloc | apply Ext.aft | apply Ext.drew | apply Ext.drewN | apply Ext.setCell | exact Nat.le_add_right _ _ | exact Nat.le_refl _ | (simp; done) | omega)))
  have l0 : w.heap.size < w0.heap.size := by rw [hw0]; omega
  have H1 : Hid (rdI w0 (.slice a0 f.length cap0) f) := hid (h1.below E0.out.1)
  have H2 : Hid (rdI w0 (.slice (some ⟨b2, o2, none⟩) g.length cap2) g) := hid (h2.below E0.out.1)
  rw [← hw0]
  clear hw0 h1 h2 zz zz2 hx hy hmo
  refine viaI (g := id) (i_clone _ _ _ H1.out (by omega)) ?_
  intro q1 u1 z1 own1
  try simp at z1
  obtain ⟨a1, c1, hq1⟩ := own_len own1
  subst hq1
  obtain ⟨W, hW⟩ : ∃ W, W = aft w0 u1 := ⟨_, rfl⟩
  rw [← hW] at own1 z1 ⊢
  have hB0 : Hid (Below w0.heap.size w0 W) := hid (by rw [hW]; exact below_aft _ _)
  have HO1 := hid own1
  clear hW own1
  rcases hNz with ⟨hn1, hn2⟩ | hz
  · have Hn2 := hid hn2
    clear hn2
    go_wp2_with (at_make; refine wpList_make_full _ rfl _ _ 24 rfl W.heap.size 2 i0 (.int .i64 0) 1 Try.underlying24 hi hz0 hz1 _ _ _ _ N rfl rfl (by have := Hn2.out; omega) (by have := Hn2.out; omega) (by rw [hz2]; omega) (by unfold maxLen; omega) (Nat.le_refl _) ?_)
    intro w1 hown0 hgr
    have ne0 : Hid (∀ g1, a1 = some ⟨g1, 0, none⟩ → g1 ≠ W.heap.size) := hid fun g1 e1 e2 => by
      subst e1; have := (World.ownsRow.lt HO1.out g1 rfl).2; omega
    have oR : Hid (ownR w0.heap.size w1 (.slice a1 f.length c1) (divS m (fun x => x) f g N 0).1) := hid (HO1.out.grown hgr (fun k hk e => by cases e))
    have oQ : Hid (ownR w0.heap.size w1 (.slice (some ⟨W.heap.size, 0, none⟩) N N) (divS m (fun x => x) f g N 0).2) := hid (by
      have e : (divS m (fun x => x) f g N 0).2 = List.replicate N 0 := rfl
      rw [e]
      refine ownR.mono (B := W.heap.size) ?_ hB0.out.size
      unfold ownR
      rw [List.length_replicate, ← vI_zeros]; exact hown0)
    have HB : Hid (Below w0.heap.size w0 w1) := hid (hB0.out.trans ((Below.grown (Below.refl _ _) hgr (Nat.le_refl _) (fun k hk => by cases hk)).mono hB0.out.size))
    obtain ⟨g2, hg2⟩ : ∃ g2, g2 = W.heap.size := ⟨_, rfl⟩
    rw [← hg2] at ne0 oQ
    rw [← hg2]
    clear hown0 hgr hg2
    go_wp2_with fail
    go_loopw [11] (fun s wr => ∃ t : Nat, t ≤ N ∧ s = .int .i64 ((N : Int) - 1 - t) ∧ Hid (ownR w0.heap.size wr (.slice a1 f.length c1) (divS m (fun x => x) f g N t).1) ∧ Hid (ownR w0.heap.size wr (.slice (some ⟨g2, 0, none⟩) N N) (divS m (fun x => x) f g N t).2) ∧ Hid (Below w0.heap.size w0 wr)) (fun s _ => (intOf s + 1).toNat)
    case atStart => exact ⟨0, by omega, by go_num, oR, oQ, HB⟩
    case round =>
      obtain ⟨t, ht, rfl, HR, HQ, HB⟩ := hrel
      obtain ⟨wo, rfl⟩ : ∃ wo : World, wo = wr := ⟨_, rfl⟩
      by_cases hlt : t < N
      · obtain ⟨k, hk⟩ : ∃ k, k + t + 1 = N := ⟨N - 1 - t, by omega⟩
        rw [show (N : Int) - 1 - t = (k : Int) by omega]
        obtain ⟨j, hj⟩ : ∃ j, j = k + g.length - 1 := ⟨_, rfl⟩
        have hjz : (k : Int) + g.length - 1 = j := by omega
        have hjf : j < f.length := by rw [hj]; exact HNle.out k (by omega)
        have hlen := (HL.out t).1
        have hlenQ := (HL.out t).2
        obtain ⟨g1, rfl, hg1, hg1b⟩ := own_head HR.out (by omega)
        have hne := ne0.out g1 rfl
        have hcA := (own_cell HR.out (j := j) (by omega)).1
        have hcQ := own_cell HQ.out (j := k) (by omega)
        have hg2b := (World.ownsRow.lt HQ.out g2 rfl).2
        obtain ⟨c, hc⟩ : ∃ c, c = (divS m (fun x => x) f g N t).1.getD j 0 := ⟨_, rfl⟩
        have hcb := getD_bd (b := m - 1) (by omega) (HS.out t).1 j
        rw [← hc] at hcA hcb
        have hQs := own_set HQ.out k c
        have hRk := HR.out.grown hQs.2 (rowNe_block rfl hne)
        have hstep : Hid (divS m (fun x => x) f g N (t + 1) = (subK m (divS m (fun x => x) f g N t).1 k c g g.length, (divS m (fun x => x) f g N t).2.set k c)) := hid (by rw [divS_succ _ _ _ _ _ _ k hk, ← hj, ← hc])
        obtain ⟨A, hA⟩ : ∃ A, A = (divS m (fun x => x) f g N t).1 := ⟨_, rfl⟩
        have hAb := (HS.out t).1
        rw [← hA] at hRk hstep hlen hAb
        have Hj := hid hj
        have HQs := hid hQs.1
        have HRk := hid hRk
        have HBk : Hid (Below w0.heap.size w0 (wo.setCell ⟨g2, k, none⟩ (.int .i64 c))) := hid (Below.grown HB.out hQs.2 HB.out.size (fun x hx => by injection hx with hx; have := World.ownsRow.lt HQ.out g2 rfl; omega))
        have HAb := hid hAb
        have hcQ1 := hcQ.1
        have hcQ2 := hcQ.2
        have hkN : (k : Int) < (N : Int) := by omega
        clear hQs hRk hc hA hAb hcQ hj
        go_wp2_with fail
        go_loopw [59] (fun s wr => ∃ tt : Nat, tt ≤ g.length ∧ s = .int .i64 tt ∧ Hid (ownR w0.heap.size wr (.slice (some ⟨g1, 0, none⟩) f.length c1) (subK m A k c g tt)) ∧ Hid (ownR w0.heap.size wr (.slice (some ⟨g2, 0, none⟩) N N) ((divS m (fun x => x) f g N t).2.set k c)) ∧ Hid (Below w0.heap.size w0 wr)) (fun s _ => g.length - (intOf s).toNat)
        case atStart => exact ⟨0, by omega, rfl, HRk, HQs, HBk⟩
        case round =>
          obtain ⟨tt, htt, rfl, HR', HQ', HB'⟩ := hrel
          by_cases hlt2 : tt < g.length
          · have hlt2z : (tt : Int) < (g.length : Int) := by omega
            have hgc := HB'.out.cell (p := ⟨b2, o2 + tt, none⟩) (World.block_lt_of_cell? w0 _ (rd_at H2.out hlt2))
            rw [rd_at H2.out hlt2] at hgc
            have hgb := World.block_lt_of_cell? _ _ hgc
            have hkt : k + tt < (subK m A k c g tt).length := by rw [subK_len]; omega
            have hxc := own_cell HR'.out hkt
            have hxc1 := hxc.1
            have hxc2 := hxc.2
            have hxb := World.block_lt_of_cell? _ _ hxc1
            have hXb := getD_bd (b := m - 1) (by omega) (subK_bd (k := k) (c := c) (g := g) hm.1 HAb.out tt) (k + tt)
            have hdb := hgd.out tt
            have hS := subK_succ m A k c g tt
            obtain ⟨X, hX⟩ : ∃ X, X = (subK m A k c g tt).getD (k + tt) 0 := ⟨_, rfl⟩
            rw [← hX] at hxc1 hXb hS
            obtain ⟨d, hd⟩ : ∃ d, d = g.getD tt 0 := ⟨_, rfl⟩
            rw [← hd] at hgc hdb hS
            have hpb := prod_bd2 hm.2 hcb hdb hXb
            have hqc := (own_cell HQ'.out (j := k) (by rw [List.length_set]; omega)).1
            have hqe : ((divS m (fun x => x) f g N t).2.set k c).getD k 0 = c := by simp [List.getElem?_set_self (show k < (divS m (fun x => x) f g N t).2.length by omega)]
            rw [hqe] at hqc
            have hqb := World.block_lt_of_cell? _ _ hqc
            have hbx0 : wr.cell? ⟨w.heap.size, 0, none⟩ = some (.int .i64 p) := (HB'.out.cell (p := ⟨w.heap.size, 0, none⟩) l0).trans (C0.out 0)
            have hbx1 : wr.cell? ⟨w.heap.size, 1, none⟩ = some (.int .i64 n) := (HB'.out.cell (p := ⟨w.heap.size, 1, none⟩) l0).trans (C0.out 1)
            have hbxb := World.block_lt_of_cell? _ _ hbx0
            clear hqe
            have HSS := hid hS
            have hktz : (k : Int) + tt < (f.length : Int) := by rw [subK_len] at hkt; omega
            clear hX hd hS hxc hkt
            go_wp2_with fail
            refine wp_region_calm_tail 21 (by kernel_rfl) (by kernel_rfl) ?_
            simp only [List.take_succ_cons, List.take_zero, List.drop_succ_cons, List.drop_zero]
            repeat (go_big_quiet_step (first | (go_at_call 40; exact calm (i_modulusE _ _ _ _ HR1.out HMM.out)) | (go_at_call 49; exact calmp (i_mod _ _ _ (by omega) (by omega)))))
            refine wpQuiet_nil ?_; intro uq zq; try simp at zq
            have hSt := own_set (HR'.out.aft uq) (k + tt) ((X - c * d) % m)
            have HBq : Hid (Below w0.heap.size w0 (aft wr uq)) := hid (HB'.out.trans ((below_aft wr uq).mono HB'.out.size))
            have HSt := hid hSt
            clear hSt
            go_wp2_with fail
            go_roundw
            case rel => exact ⟨tt + 1, by omega, by go_num, hid (by rw [HSS.out]; exact HSt.out.1), hid ((HQ'.out.aft _).grown HSt.out.2 (rowNe_block rfl (fun e => hne e.symm))), hid (Below.grown HBq.out HSt.out.2 HBq.out.size (fun x hx => by injection hx with hx; omega))⟩
            case measure => simp only [intOf]; omega
          · obtain rfl : tt = g.length := by omega
            have hlt2z : ¬ (g.length : Int) < (g.length : Int) := by omega
            have hk2 : (k : Int) - 1 = (N : Int) - 1 - ((t + 1 : Nat) : Int) := by omega
            have HK2 := hid hk2
            clear hk2
            go_wp2_with fail
            go_roundw
            case rel => exact ⟨t + 1, by omega, by rw [← HK2.out], hid (by rw [hstep.out]; exact HR'.out), hid (by rw [hstep.out]; exact HQ'.out), HB'⟩
            case measure => simp only [intOf]; omega
      · obtain rfl : t = N := by omega
        have e1 : (t : Int) - 1 - t = -1 := by omega
        rw [e1]
        have hR := HR.out
        have hQ := HQ.out
        have lR := (HL.out t).1
        have lQ := (HL.out t).2
        clear HR HQ e1
        go_wp2_with fail
        refine viaI (g := id) (i_trim w0.heap.size _ _ _ hQ (by rw [lQ]; omega)) ?_
        intro v1 u2 z2 own2
        try simp at z2
        go_wp2_with fail
        refine viaI (g := id) (i_trim w0.heap.size _ _ _ (hR.aft _) (by rw [lR]; omega)) ?_
        intro v2 u3 z3 own3
        try simp at z3
        have n1 : Hid (rowNe v1 v2.ownBlock) := hid (rowNe_lt own2.rowLt (own_row_ge own3) (Nat.le_refl _))
        have n2 : Hid (rowNe v2 v1.ownBlock) := hid (rowNe_gt own2.rowLt (own_row_ge own3) (Nat.le_refl _))
        have o2 : Hid (ownR w0.heap.size (aft (aft wo u2) u3) v1 (trimF (divS m (fun x => x) f g t t).2)) := hid ((own2.aft _).mono HB.out.size)
        have o3 : Hid (ownR w0.heap.size (aft (aft wo u2) u3) v2 (trimF (divS m (fun x => x) f g t t).1)) := hid (own3.mono (Nat.le_trans HB.out.size z2))
        clear own2 own3 hR hQ
        go_wp2_with fail
        go_ret3
        exact ⟨v1, v2, rfl, o2.out.mono E0.out.2, o3.out.mono E0.out.2, n1.out, n2.out, Ext.bel (Ext.of E0.out (Ext.of ⟨HB.out, HB.out.size⟩ (by repeat (with_reducible first | exact Ext.refl _ | apply Ext.alloc | apply Ext.aft | apply Ext.drew | apply Ext.drewN | apply Ext.setCell | exact Nat.le_add_right _ _ | exact Nat.le_refl _ | (simp; done) | omega))))⟩
  · rcases hz with ⟨hn1, hn2⟩ | ⟨hn1, hn2⟩
    all_goals
      subst hn2
      go_wp2_with (at_make; refine wpList_make_full _ rfl _ _ 24 rfl W.heap.size 2 i0 (.int .i64 0) 1 Try.underlying24 hi hz0 hz1 _ _ _ _ 0 rfl rfl (by omega) (by omega) (by omega) (by unfold maxLen; omega) (Nat.le_refl _) ?_)
      intro w1 hown0 hgr
      have oR : Hid (ownR w0.heap.size w1 (.slice a1 f.length c1) f) := hid (HO1.out.grown hgr (fun k hk e => by cases e))
      have oQ : Hid (ownR w0.heap.size w1 (.slice (some ⟨W.heap.size, 0, none⟩) 0 0) []) := hid (by
        refine ownR.mono (B := W.heap.size) ?_ hB0.out.size
        unfold ownR
        have e : vI (List.replicate 0 0) = vI [] := rfl
        rw [List.length_nil, ← e, ← vI_zeros]; exact hown0)
      have HB : Hid (Below w0.heap.size w0 w1) := hid (hB0.out.trans ((Below.grown (Below.refl _ _) hgr (Nat.le_refl _) (fun k hk => by cases hk)).mono hB0.out.size))
      clear hown0 hgr
      go_wp2_with fail
      go_loopw [11] (fun s wr => s = .int .i64 (-1) ∧ wr = w1) (fun _ _ => 0)
      case atStart => exact ⟨rfl, rfl⟩
      case round =>
        obtain ⟨rfl, rfl⟩ := hrel
        have hR := oR.out
        have hQ := oQ.out
        clear oR oQ
        go_wp2_with fail
        refine viaI (g := id) (i_trim w0.heap.size _ _ _ hQ (by simp)) ?_
        intro v1 u2 z2 own2
        try simp at z2
        go_wp2_with fail
        refine viaI (g := id) (i_trim w0.heap.size _ _ _ (hR.aft _) (by omega)) ?_
        intro v2 u3 z3 own3
        try simp at z3
        have n1 : Hid (rowNe v1 v2.ownBlock) := hid (rowNe_lt own2.rowLt (own_row_ge own3) (Nat.le_refl _))
        have n2 : Hid (rowNe v2 v1.ownBlock) := hid (rowNe_gt own2.rowLt (own_row_ge own3) (Nat.le_refl _))
        have o2 : Hid (ownR w0.heap.size (aft (aft wr u2) u3) v1 (trimF [])) := hid ((own2.aft _).mono HB.out.size)
        have o3 : Hid (ownR w0.heap.size (aft (aft wr u2) u3) v2 (trimF f)) := hid (own3.mono (Nat.le_trans HB.out.size z2))
        clear own2 own3 hR hQ
        go_wp2_with fail
        go_ret3
        exact ⟨v1, v2, rfl, o2.out.mono E0.out.2, o3.out.mono E0.out.2, n1.out, n2.out, Ext.bel (Ext.of E0.out (Ext.of ⟨HB.out, HB.out.size⟩ (by repeat (with_reducible first | exact Ext.refl _ | apply Ext.alloc | apply Ext.aft | apply Ext.drew | apply Ext.drewN | apply Ext.setCell | exact Nat.le_add_right _ _ | exact Nat.le_refl _ | (simp; done) | omega))))⟩

theorem DivideInRing_len (p n : Int) (f g : List Int) : (divideInRingF p n f g).1.length ≤ 1000000 ∧ (divideInRingF p n f g).2.1.length ≤ 1000000 := by
  unfold divideInRingF
  split
  · rename_i h
    have fx := inRing_facts h.1
    split
    · have hl := divS_len (p ^ n.toNat) (fun x => x) f g (divN f g) (divN f g)
      have h1 := trimF_len (divS (p ^ n.toNat) (fun x => x) f g (divN f g) (divN f g)).2
      have h2 := trimF_len (divS (p ^ n.toNat) (fun x => x) f g (divN f g) (divN f g)).1
      show (quoF _ _ _ _).length ≤ 1000000 ∧ (remF _ _ _ _).length ≤ 1000000
      unfold quoF remF
      have : divN f g ≤ f.length + 1 := by unfold divN; omega
      omega
    · simp
  · simp
set_option maxRecDepth 20000 in
set_option maxHeartbeats 16000000 in
theorem law_DivideInRing (p n : Int) (r1 : Value) (xs1 : List Int) (r2 : Value) (xs2 : List Int) (w : World) (h1 : rdI w r1 xs1) (h2 : rdI w r2 xs2) :
    Calls Try.prog 5 #[(.agg #[.int .i64 p, .int .i64 n]), r1, r2] w fun e w' => e = .returned (.bool true) ∧ Below w.heap.size w w' := by
  have hlen1 : xs1.length ≤ maxLen := by obtain ⟨a, cap, _, hm, _⟩ := h1; exact hm
  unfold maxLen at hlen1
  obtain ⟨a1, cap1, hr1, _, _⟩ := id h1
  have hlen2 : xs2.length ≤ maxLen := by obtain ⟨a, cap, _, hm, _⟩ := h2; exact hm
  unfold maxLen at hlen2
  obtain ⟨a2, cap2, hr2, _, _⟩ := id h2
  by_cases hl1 : xs1.length ≤ 1048576
  case neg =>
    have hz1 : ¬ (xs1.length : Int) ≤ 1048576 := by omega
    subst hr1
    subst hr2
    go_enter Try.func5, Try.ntmps5
    go_wp2_with fail
    go_ret
    exact ⟨rfl, (by refine Ext.bel ?_; repeat (with_reducible first | exact Ext.refl _ | apply Ext.alloc | apply Ext.aft | apply Ext.drew | apply Ext.drewN | apply Ext.setCell | exact Nat.le_add_right _ _ | exact Nat.le_refl _ | (simp; done) | omega))⟩
  case pos =>
    by_cases hl2 : xs2.length ≤ 1048576
    case neg =>
      have hz2 : ¬ (xs2.length : Int) ≤ 1048576 := by omega
      have hz1 : (xs1.length : Int) ≤ 1048576 := by omega
      subst hr1
      subst hr2
      go_enter Try.func5, Try.ntmps5
      go_wp2_with fail
      go_ret
      exact ⟨rfl, (by refine Ext.bel ?_; repeat (with_reducible first | exact Ext.refl _ | apply Ext.alloc | apply Ext.aft | apply Ext.drew | apply Ext.drewN | apply Ext.setCell | exact Nat.le_add_right _ _ | exact Nat.le_refl _ | (simp; done) | omega))⟩
    case pos =>
      have hz1 : (xs1.length : Int) ≤ 1048576 := by omega
      have hz2 : (xs2.length : Int) ≤ 1048576 := by omega
      obtain ⟨ys1, hys1⟩ : ∃ y, y = (divideInRingF p n xs1 xs2).1 := ⟨_, rfl⟩
      have hy1 : ys1.length ≤ 1000000 := by rw [hys1]; exact (DivideInRing_len p n xs1 xs2).1
      obtain ⟨ys2, hys2⟩ : ∃ y, y = (divideInRingF p n xs1 xs2).2.1 := ⟨_, rfl⟩
      have hy2 : ys2.length ≤ 1000000 := by rw [hys2]; exact (DivideInRing_len p n xs1 xs2).2
      obtain ⟨cd, hcd⟩ : ∃ cd, cd = (divideInRingF p n xs1 xs2).2.2 := ⟨_, rfl⟩
      have HS : Hid (∀ r1 r2 w, rdI w r1 xs1 → rdI w r2 xs2 → Calls Try.prog 21 #[(.agg #[.int .i64 p, .int .i64 n]), r1, r2] w fun e w' => ∃ v1 v2, e = .returned (.tuple #[v1, v2, .int .i64 cd]) ∧ ownR w.heap.size w' v1 ys1 ∧ ownR w.heap.size w' v2 ys2 ∧ rowNe v1 v2.ownBlock ∧ rowNe v2 v1.ownBlock ∧ Below w.heap.size w w') := hid (by rw [hys1, hys2, hcd]; exact fun r1 r2 w h1 h2 => s_DivideInRing p n r1 r2 xs1 xs2 w h1 h2)
      have HI : Hid (∀ r1 r2 w, rdI w r1 xs1 → rdI w r2 xs2 → Calls Try.prog 22 #[(.agg #[.int .i64 p, .int .i64 n]), r1, r2] w fun e w' => ∃ v1 v2, e = .returned (.tuple #[v1, v2, .int .i64 cd]) ∧ ownR w.heap.size w' v1 ys1 ∧ ownR w.heap.size w' v2 ys2 ∧ rowNe v1 v2.ownBlock ∧ rowNe v2 v1.ownBlock ∧ Below w.heap.size w w') := hid (by rw [hys1, hys2, hcd]; exact fun r1 r2 w h1 h2 => i_DivideInRing p n r1 r2 xs1 xs2 w h1 h2)
      have H1 := hid h1
      have H2 := hid h2
      subst hr1
      subst hr2
      clear hys1 hys2 hcd h1 h2
      go_enter Try.func5, Try.ntmps5
      go_wp2_with (go_at_call 13; refine via (l_toRing' _ _ _) ?_; intro uu zz; try simp at zz)
      refine viaI (g := id) (l_toI _ _ _ (H1.out.below (by refine Ext.bel ?_; repeat (with_reducible first | exact Ext.refl _ | apply Ext.alloc | apply Ext.aft | apply Ext.drew | apply Ext.drewN))) hl1) ?_
      intro t1 ut1 zt1 ownt1
      try simp at zt1
      have rdt1 := ownt1.rd
      go_wp2_with fail
      refine viaI (g := id) (l_toI _ _ _ (H2.out.below (by refine Ext.bel ?_; repeat (with_reducible first | exact Ext.refl _ | apply Ext.alloc | apply Ext.aft | apply Ext.drew | apply Ext.drewN))) hl2) ?_
      intro t2 ut2 zt2 ownt2
      try simp at zt2
      have rdt2 := ownt2.rd
      go_wp2_with fail
      refine viaI2 (g := fun r q => .tuple #[r, q, _]) (HS.out _ _ _ (by repeat (with_reducible first | assumption | apply rdI.aft | apply rdI.alloc | apply rdI.drew | apply rdI.drewN)) (by repeat (with_reducible first | assumption | apply rdI.aft | apply rdI.alloc | apply rdI.drew | apply rdI.drewN))) ?_
      intro w1 w2 us zs ownw1 ownw2 nes nfs
      try simp at zs
      obtain ⟨W1, hW1⟩ : ∃ W1, W1 = aft (aft (aft (aft (w.alloc (Obj.cells #[.int .i64 p, .int .i64 n] 23)) uu) ut1) ut2) us := ⟨_, rfl⟩
      rw [← hW1] at ownw1 ownw2 zs ⊢
      have c1 : (fun W => ∀ o, W.cell? ⟨w.heap.size, o, none⟩ = #[Value.int .i64 p, .int .i64 n][o]?) W1 := fun o => by rw [hW1]; simp [go_sem, ↓IntWalk.iteOmega]
      have E1 : Hid (Ext w.heap.size w W1) := hid (by rw [hW1]; exact (by repeat (with_reducible first | exact Ext.refl _ | apply Ext.alloc | apply Ext.aft | apply Ext.drew | apply Ext.drewN | apply Ext.setCell | exact Nat.le_add_right _ _ | exact Nat.le_refl _ | (simp; done) | omega)))
      have l1 : w.heap.size < W1.heap.size := by omega
      have OW1 := hid ownw1.rd
      have OW2 := hid ownw2.rd
      clear hW1 zs zz ownw1 ownw2 ownt1 rdt1 zt1 ownt2 rdt2 zt2 nes nfs
      go_wp2_with fail
      refine viaI (g := id) (l_toI _ _ _ (H1.out.below (Ext.bel (Ext.of E1.out (by repeat (with_reducible first | exact Ext.refl _ | apply Ext.alloc | apply Ext.aft | apply Ext.drew | apply Ext.drewN | apply Ext.setCell | exact Nat.le_add_right _ _ | exact Nat.le_refl _ | (simp; done) | omega))))) hl1) ?_
      intro x1 ux1 zx1 ownx1
      try simp at zx1
      have rdx1 := ownx1.rd
      go_wp2_with fail
      refine viaI (g := id) (l_toI _ _ _ (H2.out.below (Ext.bel (Ext.of E1.out (by repeat (with_reducible first | exact Ext.refl _ | apply Ext.alloc | apply Ext.aft | apply Ext.drew | apply Ext.drewN | apply Ext.setCell | exact Nat.le_add_right _ _ | exact Nat.le_refl _ | (simp; done) | omega))))) hl2) ?_
      intro x2 ux2 zx2 ownx2
      try simp at zx2
      have rdx2 := ownx2.rd
      go_wp2_with (go_at_call 13; refine via (l_toRing' _ _ _) ?_; intro uu zz; try simp at zz)
      refine viaI2 (g := fun r q => .tuple #[r, q, _]) (HI.out _ _ _ (by repeat (with_reducible first | assumption | apply rdI.aft | apply rdI.alloc | apply rdI.drew | apply rdI.drewN)) (by repeat (with_reducible first | assumption | apply rdI.aft | apply rdI.alloc | apply rdI.drew | apply rdI.drewN))) ?_
      intro g1 g2 ui zi owng1 owng2 nei nfi
      try simp at zi
      obtain ⟨W2, hW2⟩ : ∃ W2, W2 = aft (aft (aft (aft (W1) ux1) ux2) uu) ui := ⟨_, rfl⟩
      have B2 : Hid (Ext W1.heap.size W1 W2) := hid (by rw [hW2]; exact (by repeat (with_reducible first | exact Ext.refl _ | apply Ext.alloc | apply Ext.aft | apply Ext.drew | apply Ext.drewN | apply Ext.setCell | exact Nat.le_add_right _ _ | exact Nat.le_refl _ | (simp; done) | omega)))
      have oX1 : ownR W1.heap.size W2 x1 xs1 := by rw [hW2]; exact ownR.mono (by repeat (with_reducible first | exact ownx1 | apply ownR.aft)) (by omega)
      have oX2 : ownR W1.heap.size W2 x2 xs2 := by rw [hW2]; exact ownR.mono (by repeat (with_reducible first | exact ownx2 | apply ownR.aft)) (by omega)
      have oG1 : ownR W1.heap.size W2 g1 ys1 := by rw [hW2]; exact owng1.mono (by omega)
      have oG2 : ownR W1.heap.size W2 g2 ys2 := by rw [hW2]; exact owng2.mono (by omega)
      have nXG11 : Hid (rowNe g1 x1.ownBlock) := hid (rowNe_gt ownx1.rowLt (own_row_ge owng1) (by omega))
      have nXG12 : Hid (rowNe g2 x1.ownBlock) := hid (rowNe_gt ownx1.rowLt (own_row_ge owng2) (by omega))
      have nXX12 : Hid (rowNe x2 x1.ownBlock) := hid (rowNe_gt ownx1.rowLt (own_row_ge ownx2) (by omega))
      have nXG21 : Hid (rowNe g1 x2.ownBlock) := hid (rowNe_gt ownx2.rowLt (own_row_ge owng1) (by omega))
      have nXG22 : Hid (rowNe g2 x2.ownBlock) := hid (rowNe_gt ownx2.rowLt (own_row_ge owng2) (by omega))
      have nXX21 : Hid (rowNe x1 x2.ownBlock) := hid (rowNe_lt ownx1.rowLt (own_row_ge ownx2) (by omega))
      have nGG12 : Hid (rowNe g1 g2.ownBlock) := hid nei
      have nGG21 : Hid (rowNe g2 g1.ownBlock) := hid nfi
      have gG1 : Hid (∀ k, g1.ownBlock = some k → W1.heap.size ≤ k) := hid (own_row_ge oG1)
      have gG2 : Hid (∀ k, g2.ownBlock = some k → W1.heap.size ≤ k) := hid (own_row_ge oG2)
      have gX1 : Hid (∀ k, x1.ownBlock = some k → W1.heap.size ≤ k) := hid (own_row_ge oX1)
      have gX2 : Hid (∀ k, x2.ownBlock = some k → W1.heap.size ≤ k) := hid (own_row_ge oX2)
      have l2 : W1.heap.size ≤ W2.heap.size := B2.out.2
      rw [← hW2]
      clear hW2 zi zz ownx1 rdx1 zx1 ownx2 rdx2 zx2 owng1 owng2 nei nfi
      go_wp2_with fail
      refine via (l_eqI g1 w1 ys1 _ (ownR.rd (by repeat (with_reducible first | exact oG1 | apply ownR.aft))) (OW1.out.below (Ext.bel (Ext.of B2.out (by repeat (with_reducible first | exact Ext.refl _ | apply Ext.alloc | apply Ext.aft | apply Ext.drew | apply Ext.drewN | apply Ext.setCell | exact Nat.le_add_right _ _ | exact Nat.le_refl _ | (simp; done) | omega)))))) ?_
      intro q1 y1
      go_wp2_with fail
      refine via (l_eqI g2 w2 ys2 _ (ownR.rd (by repeat (with_reducible first | exact oG2 | apply ownR.aft))) (OW2.out.below (Ext.bel (Ext.of B2.out (by repeat (with_reducible first | exact Ext.refl _ | apply Ext.alloc | apply Ext.aft | apply Ext.drew | apply Ext.drewN | apply Ext.setCell | exact Nat.le_add_right _ _ | exact Nat.le_refl _ | (simp; done) | omega)))))) ?_
      intro q2 y2
      go_wp2_with fail
      refine viaI (g := id) (l_toI _ _ _ (H1.out.below (Ext.bel (Ext.of E1.out (Ext.of B2.out (by repeat (with_reducible first | exact Ext.refl _ | apply Ext.alloc | apply Ext.aft | apply Ext.drew | apply Ext.drewN | apply Ext.setCell | exact Nat.le_add_right _ _ | exact Nat.le_refl _ | (simp; done) | omega)))))) hl1) ?_
      intro s1 q3 y3 owns1
      try simp at y3
      go_wp2_with fail
      refine via (l_eqI x1 s1 xs1 _ (ownR.rd (by repeat (with_reducible first | exact oX1 | apply ownR.aft))) owns1.rd) ?_
      intro q4 y4
      go_wp2_with fail
      refine viaI (g := id) (l_toI _ _ _ (H2.out.below (Ext.bel (Ext.of E1.out (Ext.of B2.out (by repeat (with_reducible first | exact Ext.refl _ | apply Ext.alloc | apply Ext.aft | apply Ext.drew | apply Ext.drewN | apply Ext.setCell | exact Nat.le_add_right _ _ | exact Nat.le_refl _ | (simp; done) | omega)))))) hl2) ?_
      intro s2 q5 y5 owns2
      try simp at y5
      go_wp2_with fail
      refine via (l_eqI x2 s2 xs2 _ (ownR.rd (by repeat (with_reducible first | exact oX2 | apply ownR.aft))) owns2.rd) ?_
      intro q6 y6
      clear owns1
      clear owns2
      go_wp2_with fail
      refine (l_markG W1.heap.size x1 xs1 _ _ (by repeat (with_reducible first | exact oX1 | apply ownR.aft)) (by omega) (by omega)).mono ?_
      rintro e w' ⟨he, hmk, hgr⟩
      subst he
      obtain ⟨q7, hq7⟩ := aftG_ex hgr gX1.out
      subst hq7
      obtain ⟨W3, hW3⟩ : ∃ W, W = aftG W1.heap.size x1.ownBlock (aft (aft (aft (aft (aft (aft (W2) q1) q2) q3) q4) q5) q6) q7 := ⟨_, rfl⟩
      have lw : W1.heap.size ≤ (aft (aft (aft (aft (aft (aft (W2) q1) q2) q3) q4) q5) q6).heap.size := by omega
      have B3 : Hid (Ext W1.heap.size W1 W3) := hid (by rw [hW3]; exact Ext.aftG (by repeat (with_reducible first | exact B2.out | apply Ext.aft)) _ _ (Nat.le_refl _) lw)
      have oX2n := ownR.aftG (B := W1.heap.size) (rb := x1.ownBlock) (show ownR W1.heap.size (aft (aft (aft (aft (aft (aft (W2) q1) q2) q3) q4) q5) q6) _ _ from (by repeat (with_reducible first | exact oX2 | apply ownR.aft))) q7 nXX12.out
      rw [← hW3] at oX2n
      have oG1n := ownR.aftG (B := W1.heap.size) (rb := x1.ownBlock) (show ownR W1.heap.size (aft (aft (aft (aft (aft (aft (W2) q1) q2) q3) q4) q5) q6) _ _ from (by repeat (with_reducible first | exact oG1 | apply ownR.aft))) q7 nXG11.out
      rw [← hW3] at oG1n
      have oG2n := ownR.aftG (B := W1.heap.size) (rb := x1.ownBlock) (show ownR W1.heap.size (aft (aft (aft (aft (aft (aft (W2) q1) q2) q3) q4) q5) q6) _ _ from (by repeat (with_reducible first | exact oG2 | apply ownR.aft))) q7 nXG12.out
      rw [← hW3] at oG2n
      rw [← hW3] at hmk
      rw [← hW3]
      have l3 : W1.heap.size ≤ W3.heap.size := B3.out.2
      clear oX2 oG1 oG2 hgr lw hW3 oX1 y1 y2 y3 y4 y5 y6
      have oX2 := oX2n; clear oX2n
      have oG1 := oG1n; clear oG1n
      have oG2 := oG2n; clear oG2n
      clear hmk
      go_wp2_with fail
      refine (l_markG W1.heap.size x2 xs2 _ _ (by repeat (with_reducible first | exact oX2 | apply ownR.aft)) (by omega) (by omega)).mono ?_
      rintro e w' ⟨he, hmk, hgr⟩
      subst he
      obtain ⟨q8, hq8⟩ := aftG_ex hgr gX2.out
      subst hq8
      obtain ⟨W4, hW4⟩ : ∃ W, W = aftG W1.heap.size x2.ownBlock (W3) q8 := ⟨_, rfl⟩
      have lw : W1.heap.size ≤ (W3).heap.size := by omega
      have B4 : Hid (Ext W1.heap.size W1 W4) := hid (by rw [hW4]; exact Ext.aftG (by repeat (with_reducible first | exact B3.out | apply Ext.aft)) _ _ (Nat.le_refl _) lw)
      have oG1n := ownR.aftG (B := W1.heap.size) (rb := x2.ownBlock) (show ownR W1.heap.size (W3) _ _ from (by repeat (with_reducible first | exact oG1 | apply ownR.aft))) q8 nXG21.out
      rw [← hW4] at oG1n
      have oG2n := ownR.aftG (B := W1.heap.size) (rb := x2.ownBlock) (show ownR W1.heap.size (W3) _ _ from (by repeat (with_reducible first | exact oG2 | apply ownR.aft))) q8 nXG22.out
      rw [← hW4] at oG2n
      rw [← hW4] at hmk
      rw [← hW4]
      have l4 : W1.heap.size ≤ W4.heap.size := B4.out.2
      clear oG1 oG2 hgr lw hW4 oX2
      have oG1 := oG1n; clear oG1n
      have oG2 := oG2n; clear oG2n
      clear hmk
      go_wp2_with fail
      refine via (l_eqI g1 w1 ys1 _ (ownR.rd (by repeat (with_reducible first | exact oG1 | apply ownR.aft))) (OW1.out.below (Ext.bel (Ext.of B4.out (by repeat (with_reducible first | exact Ext.refl _ | apply Ext.alloc | apply Ext.aft | apply Ext.drew | apply Ext.drewN | apply Ext.setCell | exact Nat.le_add_right _ _ | exact Nat.le_refl _ | (simp; done) | omega)))))) ?_
      intro q9 y9
      go_wp2_with fail
      refine via (l_eqI g2 w2 ys2 _ (ownR.rd (by repeat (with_reducible first | exact oG2 | apply ownR.aft))) (OW2.out.below (Ext.bel (Ext.of B4.out (by repeat (with_reducible first | exact Ext.refl _ | apply Ext.alloc | apply Ext.aft | apply Ext.drew | apply Ext.drewN | apply Ext.setCell | exact Nat.le_add_right _ _ | exact Nat.le_refl _ | (simp; done) | omega)))))) ?_
      intro q10 y10
      go_wp2_with fail
      refine (l_markG W1.heap.size g1 ys1 _ _ (by repeat (with_reducible first | exact oG1 | apply ownR.aft)) (by omega) (by omega)).mono ?_
      rintro e w' ⟨he, hmk, hgr⟩
      subst he
      obtain ⟨q11, hq11⟩ := aftG_ex hgr gG1.out
      subst hq11
      obtain ⟨W5, hW5⟩ : ∃ W, W = aftG W1.heap.size g1.ownBlock (aft (aft (W4) q9) q10) q11 := ⟨_, rfl⟩
      have lw : W1.heap.size ≤ (aft (aft (W4) q9) q10).heap.size := by omega
      have B5 : Hid (Ext W1.heap.size W1 W5) := hid (by rw [hW5]; exact Ext.aftG (by repeat (with_reducible first | exact B4.out | apply Ext.aft)) _ _ (Nat.le_refl _) lw)
      have oG2n := ownR.aftG (B := W1.heap.size) (rb := g1.ownBlock) (show ownR W1.heap.size (aft (aft (W4) q9) q10) _ _ from (by repeat (with_reducible first | exact oG2 | apply ownR.aft))) q11 nGG21.out
      rw [← hW5] at oG2n
      rw [← hW5] at hmk
      rw [← hW5]
      have l5 : W1.heap.size ≤ W5.heap.size := B5.out.2
      clear oG2 hgr lw hW5 oG1 y9 y10
      have oG2 := oG2n; clear oG2n
      have oM1 := hmk
      clear hmk
      go_wp2_with fail
      refine (l_markG W1.heap.size g2 ys2 _ _ (by repeat (with_reducible first | exact oG2 | apply ownR.aft)) (by omega) (by omega)).mono ?_
      rintro e w' ⟨he, hmk, hgr⟩
      subst he
      obtain ⟨q12, hq12⟩ := aftG_ex hgr gG2.out
      subst hq12
      obtain ⟨W6, hW6⟩ : ∃ W, W = aftG W1.heap.size g2.ownBlock (W5) q12 := ⟨_, rfl⟩
      have lw : W1.heap.size ≤ (W5).heap.size := by omega
      have B6 : Hid (Ext W1.heap.size W1 W6) := hid (by rw [hW6]; exact Ext.aftG (by repeat (with_reducible first | exact B5.out | apply Ext.aft)) _ _ (Nat.le_refl _) lw)
      have oM1n := ownR.aftG (B := W1.heap.size) (rb := g2.ownBlock) (show ownR W1.heap.size (W5) _ _ from (by repeat (with_reducible first | exact oM1 | apply ownR.aft))) q12 nGG12.out
      rw [← hW6] at oM1n
      rw [← hW6] at hmk
      rw [← hW6]
      have l6 : W1.heap.size ≤ W6.heap.size := B6.out.2
      clear oM1 hgr lw hW6 oG2
      have oM1 := oM1n; clear oM1n
      have oM2 := hmk
      clear hmk
      have E4 := hid (E1.out.below B6.out.1)
      have c4 : (fun W => ∀ o, W.cell? ⟨w.heap.size, o, none⟩ = #[Value.int .i64 p, .int .i64 n][o]?) W6 := fun o => (B6.out.1.cell (p := ⟨w.heap.size, o, none⟩) l1).trans (c1 o)
      have l4 : w.heap.size < W6.heap.size := Nat.lt_of_lt_of_le l1 B6.out.2
      have rM1 := hid oM1.rd
      have rM2 := hid oM2.rd
      clear c1 oM1 oM2
      go_wp2_with fail
      refine pur (l_heldI g1 ys1.length _ _ (by repeat (with_reducible first | exact rM1.out | apply rdI.aft)) (by omega) (by omega)) ?_
      go_wp2_with fail
      refine pur (l_heldI g2 ys2.length _ _ (by repeat (with_reducible first | exact rM2.out | apply rdI.aft)) (by omega) (by omega)) ?_
      go_wp2_with (go_at_call 13; refine via (l_toRing' _ _ _) ?_; intro uu zz; try simp at zz)
      refine viaI (g := id) (l_toI _ _ _ (H1.out.below (Ext.bel (Ext.of E4.out (by repeat (with_reducible first | exact Ext.refl _ | apply Ext.alloc | apply Ext.aft | apply Ext.drew | apply Ext.drewN | apply Ext.setCell | exact Nat.le_add_right _ _ | exact Nat.le_refl _ | (simp; done) | omega))))) hl1) ?_
      intro t1 ut1 zt1 ownt1
      try simp at zt1
      have rdt1 := ownt1.rd
      go_wp2_with fail
      refine viaI (g := id) (l_toI _ _ _ (H2.out.below (Ext.bel (Ext.of E4.out (by repeat (with_reducible first | exact Ext.refl _ | apply Ext.alloc | apply Ext.aft | apply Ext.drew | apply Ext.drewN | apply Ext.setCell | exact Nat.le_add_right _ _ | exact Nat.le_refl _ | (simp; done) | omega))))) hl2) ?_
      intro t2 ut2 zt2 ownt2
      try simp at zt2
      have rdt2 := ownt2.rd
      go_wp2_with fail
      refine viaI2 (g := fun r q => .tuple #[r, q, _]) (HI.out _ _ _ (by repeat (with_reducible first | assumption | apply rdI.aft | apply rdI.alloc | apply rdI.drew | apply rdI.drewN)) (by repeat (with_reducible first | assumption | apply rdI.aft | apply rdI.alloc | apply rdI.drew | apply rdI.drewN))) ?_
      intro k1 k2 uk zk ownk1 ownk2 nek nfk
      try simp at zk
      go_wp2_with fail
      refine via (l_eqI k1 w1 ys1 _ (ownR.rd (by repeat (with_reducible first | exact ownk1 | apply ownR.aft))) (OW1.out.below (Ext.bel (Ext.of B6.out (by repeat (with_reducible first | exact Ext.refl _ | apply Ext.alloc | apply Ext.aft | apply Ext.drew | apply Ext.drewN | apply Ext.setCell | exact Nat.le_add_right _ _ | exact Nat.le_refl _ | (simp; done) | omega)))))) ?_
      intro e1 d1
      go_wp2_with fail
      refine via (l_eqI k2 w2 ys2 _ (ownR.rd (by repeat (with_reducible first | exact ownk2 | apply ownR.aft))) (OW2.out.below (Ext.bel (Ext.of B6.out (by repeat (with_reducible first | exact Ext.refl _ | apply Ext.alloc | apply Ext.aft | apply Ext.drew | apply Ext.drewN | apply Ext.setCell | exact Nat.le_add_right _ _ | exact Nat.le_refl _ | (simp; done) | omega)))))) ?_
      intro e2 d2
      go_wp2_with fail
      refine pur (l_heldI g1 ys1.length _ _ (by repeat (with_reducible first | exact rM1.out | apply rdI.aft)) (by omega) (by omega)) ?_
      go_wp2_with fail
      refine pur (l_heldI g2 ys2.length _ _ (by repeat (with_reducible first | exact rM2.out | apply rdI.aft)) (by omega) (by omega)) ?_
      go_wp2_with fail
      go_ret
      exact ⟨rfl, Ext.bel (Ext.of E4.out (by repeat (with_reducible first | exact Ext.refl _ | apply Ext.alloc | apply Ext.aft | apply Ext.drew | apply Ext.drewN | apply Ext.setCell | exact Nat.le_add_right _ _ | exact Nat.le_refl _ | (simp; done) | omega)))⟩

end Go.Proofs.Ytfdcadgjcppokaa
