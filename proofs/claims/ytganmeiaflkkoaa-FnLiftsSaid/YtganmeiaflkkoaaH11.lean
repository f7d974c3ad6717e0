/- Division by a monic polynomial in a ring: the statement's text. -/
import Derived.Test.YtganmeiaflkkoaaH10
import Derived.Test.YtganmeiaflkkoaaB4
namespace Go.Proofs.Ytganmeiaflkkoaa
open Go Go.RowKit

/-- A call that hands back two new slices. -/
theorem viaI2 {P : Program} {f : FuncId} {args : Array Value} {w : World} {xs ys : List Int} {g : Value → Value → Value} {R : Ending → World → Prop}
    (h : Calls P f args w fun e w' => ∃ v1 v2, e = .returned (g v1 v2) ∧ ownR w.heap.size w' v1 xs ∧ ownR w.heap.size w' v2 ys ∧ rowNe v1 v2.ownBlock ∧ rowNe v2 v1.ownBlock ∧ Below w.heap.size w w')
    (hR : ∀ v1 v2 u, w.heap.size ≤ (aft w u).heap.size → ownR w.heap.size (aft w u) v1 xs → ownR w.heap.size (aft w u) v2 ys → rowNe v1 v2.ownBlock → rowNe v2 v1.ownBlock → R (.returned (g v1 v2)) (aft w u)) : Calls P f args w R :=
  h.mono fun e w' ⟨v1, v2, he, ho1, ho2, hn1, hn2, hb⟩ => by subst he; obtain ⟨u, rfl⟩ := aft_ex hb; exact hR v1 v2 u (size_aft w u) ho1 ho2 hn1 hn2
theorem viaE2 {P : Program} {f : FuncId} {args : Array Value} {w : World} {xs ys xs' ys' : List Int} {g : Value → Value → Value} {R : Ending → World → Prop}
    (h : Calls P f args w fun e w' => ∃ v1 v2, e = .returned (g v1 v2) ∧ ownR w.heap.size w' v1 xs ∧ ownR w.heap.size w' v2 ys ∧ rowNe v1 v2.ownBlock ∧ rowNe v2 v1.ownBlock ∧ Below w.heap.size w w') (hx : xs = xs') (hy : ys = ys')
    (hR : ∀ v1 v2 u, w.heap.size ≤ (aft w u).heap.size → ownR w.heap.size (aft w u) v1 xs' → ownR w.heap.size (aft w u) v2 ys' → rowNe v1 v2.ownBlock → rowNe v2 v1.ownBlock → R (.returned (g v1 v2)) (aft w u)) : Calls P f args w R := by
  subst hx; subst hy; exact viaI2 h hR

theorem divS_succ (m : Int) (lead : Int → Int) (f g : List Int) (n t k : Nat) (hk : k + t + 1 = n) :
    divS m lead f g n (t + 1) = (subK m (divS m lead f g n t).1 k (lead ((divS m lead f g n t).1.getD (k + g.length - 1) 0)) g g.length, (divS m lead f g n t).2.set k (lead ((divS m lead f g n t).1.getD (k + g.length - 1) 0))) := by
  have e : n - 1 - t = k := by omega
  simp only [divS, e]
theorem subK_zero (m : Int) (A : List Int) (k : Nat) (c : Int) (g : List Int) : subK m A k c g 0 = A := rfl
theorem prod_bd2 {a b x m : Int} (hm : m ≤ 1000000000) (ha : 0 ≤ a ∧ a ≤ m - 1) (hb : 0 ≤ b ∧ b ≤ m - 1) (hx : 0 ≤ x ∧ x ≤ m - 1) : 0 ≤ a * b ∧ a * b ≤ 1000000000000000000 ∧ -1000000000000000000 ≤ x - a * b ∧ x - a * b ≤ 1000000000 := by
  have h1 := Int.mul_nonneg ha.1 hb.1
  have h2 : a * b ≤ 1000000000 * 1000000000 := Int.mul_le_mul (by omega) (by omega) hb.1 (by omega)
  omega

set_option maxRecDepth 20000 in
set_option maxHeartbeats 16000000 in
theorem s_divRing (r1 r2 : Value) (f g : List Int) (m : Int) (w : World) (h1 : rdI w r1 f) (h2 : rdI w r2 g) (hm : 1 ≤ m ∧ m ≤ 1000000000) (hf : ∀ x ∈ f, 0 ≤ x ∧ x ≤ m - 1) (hg : ∀ x ∈ g, 0 ≤ x ∧ x ≤ m - 1) (hlf : f.length ≤ 1000) (hlg : 1 ≤ g.length ∧ g.length ≤ 1000) :
    Calls Try.prog 40 #[r1, r2, .int .i64 m] w fun e w' => ∃ v1 v2, e = .returned (.tuple #[v1, v2]) ∧ ownR w.heap.size w' v1 (quoF m (fun x => x) f g) ∧ ownR w.heap.size w' v2 (remF m (fun x => x) f g) ∧ rowNe v1 v2.ownBlock ∧ rowNe v2 v1.ownBlock ∧ Below w.heap.size w w' := by
  obtain ⟨i0, hi, hz0, hz1, hz2⟩ := info_parts infoI
  obtain ⟨a0, cap0, rfl, _, _⟩ := id h1
  obtain ⟨a2, cap2, rfl, _, _⟩ := id h2
  obtain ⟨b2, o2, rfl⟩ := rd_head h2 (by intro e; subst e; simp at hlg)
  have H1 := hid h1
  have H2 := hid h2
  have hgd := hid (getD_bd (b := m - 1) (by omega) hg)
  have HS := hid (divS_bd (lead := fun x => x) hm.1 (fun x hx => hx) hf (g := g) (n := divN f g))
  unfold quoF remF
  obtain ⟨N, hN⟩ : ∃ N, N = divN f g := ⟨_, rfl⟩
  rw [← hN] at HS ⊢
  unfold divN at hN
  have HL := hid (divS_len m (fun x => x) f g N)
  have hN9 : N ≤ 1001 := by omega
  have hNz : (0 < (f.length : Int) - g.length + 1 ∧ (f.length : Int) - g.length + 1 = N) ∨ ((f.length : Int) - g.length + 1 < 0 ∧ N = 0) ∨ ((f.length : Int) - g.length + 1 = 0 ∧ N = 0) := by omega
  have hNle : ∀ k, k < N → k + g.length - 1 < f.length := by omega
  have HNle := hid hNle
  clear h1 h2 hf hg hN hNle
  go_enter Try.func40, Try.ntmps40
  go_wp2_with fail
  refine viaI (g := id) (s_own _ _ _ H1.out (by omega)) ?_
  intro q1 u1 z1 own1
  try simp at z1
  obtain ⟨a1, c1, hq1⟩ := own_len own1
  subst hq1
  obtain ⟨W, hW⟩ : ∃ W, W = aft w u1 := ⟨_, rfl⟩
  rw [← hW] at own1 z1 ⊢
  have hB0 : Hid (Below w.heap.size w W) := hid (by rw [hW]; exact below_aft _ _)
  have HO1 := hid own1
  clear hW own1
  rcases hNz with ⟨hn1, hn2⟩ | hz
  · have Hn2 := hid hn2
    clear hn2
    go_wp2_with (at_make; refine wpList_make_full _ rfl _ _ 26 rfl W.heap.size 2 i0 (.int .i64 0) 1 Try.underlying26 hi hz0 hz1 _ _ _ _ N rfl rfl (by have := Hn2.out; omega) (by have := Hn2.out; omega) (by rw [hz2]; omega) (by unfold maxLen; omega) (Nat.le_refl _) ?_)
    intro w1 hown0 hgr
    have ne0 : Hid (∀ g1, a1 = some ⟨g1, 0, none⟩ → g1 ≠ W.heap.size) := hid fun g1 e1 e2 => by
      subst e1; have := (World.ownsRow.lt HO1.out g1 rfl).2; omega
    have oR : Hid (ownR w.heap.size w1 (.slice a1 f.length c1) (divS m (fun x => x) f g N 0).1) := hid (HO1.out.grown hgr (fun k hk e => by cases e))
    have oQ : Hid (ownR w.heap.size w1 (.slice (some ⟨W.heap.size, 0, none⟩) N N) (divS m (fun x => x) f g N 0).2) := hid (by
      have e : (divS m (fun x => x) f g N 0).2 = List.replicate N 0 := rfl
      rw [e]
      refine ownR.mono (B := W.heap.size) ?_ hB0.out.size
      unfold ownR
      rw [List.length_replicate, ← vI_zeros]; exact hown0)
    have HB : Hid (Below w.heap.size w w1) := hid (hB0.out.trans ((Below.grown (Below.refl _ _) hgr (Nat.le_refl _) (fun k hk => by cases hk)).mono hB0.out.size))
    obtain ⟨g2, hg2⟩ : ∃ g2, g2 = W.heap.size := ⟨_, rfl⟩
    rw [← hg2] at ne0 oQ
    rw [← hg2]
    clear hown0 hgr hg2
    go_wp2_with fail
    go_loopw [10] (fun s wr => ∃ t : Nat, t ≤ N ∧ s = .int .i64 ((N : Int) - 1 - t) ∧ Hid (ownR w.heap.size wr (.slice a1 f.length c1) (divS m (fun x => x) f g N t).1) ∧ Hid (ownR w.heap.size wr (.slice (some ⟨g2, 0, none⟩) N N) (divS m (fun x => x) f g N t).2) ∧ Hid (Below w.heap.size w wr)) (fun s _ => (intOf s + 1).toNat)
    case atStart => exact ⟨0, by omega, by go_num, oR, oQ, HB⟩
    case round =>
      obtain ⟨t, ht, rfl, HR, HQ, HB⟩ := hrel
      obtain ⟨wo, rfl⟩ : ∃ wo : World, wo = wr := ⟨_, rfl⟩
      by_cases hlt : t < N
      · obtain ⟨k, hk⟩ : ∃ k, k + t + 1 = N := ⟨N - 1 - t, by omega⟩
        rw [show (N : Int) - 1 - t = (k : Int) by omega]
        obtain ⟨j, hj⟩ : ∃ j, j = k + g.length - 1 := ⟨_, rfl⟩
        have hjz : (k : Int) + g.length - 1 = j := by omega
        have hjf : j < f.length := by rw [hj]; exact HNle.out k (by omega)
        have hlen := (HL.out t).1
        have hlenQ := (HL.out t).2
        obtain ⟨g1, rfl, hg1, hg1b⟩ := own_head HR.out (by omega)
        have hne := ne0.out g1 rfl
        have hcA := (own_cell HR.out (j := j) (by omega)).1
        have hcQ := own_cell HQ.out (j := k) (by omega)
        have hg2b := (World.ownsRow.lt HQ.out g2 rfl).2
        obtain ⟨c, hc⟩ : ∃ c, c = (divS m (fun x => x) f g N t).1.getD j 0 := ⟨_, rfl⟩
        have hcb := getD_bd (b := m - 1) (by omega) (HS.out t).1 j
        rw [← hc] at hcA hcb
        have hQs := own_set HQ.out k c
        have hRk := HR.out.grown hQs.2 (rowNe_block rfl hne)
        have hstep : Hid (divS m (fun x => x) f g N (t + 1) = (subK m (divS m (fun x => x) f g N t).1 k c g g.length, (divS m (fun x => x) f g N t).2.set k c)) := hid (by rw [divS_succ _ _ _ _ _ _ k hk, ← hj, ← hc])
        obtain ⟨A, hA⟩ : ∃ A, A = (divS m (fun x => x) f g N t).1 := ⟨_, rfl⟩
        have hAb := (HS.out t).1
        rw [← hA] at hRk hstep hlen hAb
        have Hj := hid hj
        have HQs := hid hQs.1
        have HRk := hid hRk
        have HBk : Hid (Below w.heap.size w (wo.setCell ⟨g2, k, none⟩ (.int .i64 c))) := hid (Below.grown HB.out hQs.2 HB.out.size (fun x hx => by injection hx with hx; have := World.ownsRow.lt HQ.out g2 rfl; omega))
        have HAb := hid hAb
        have hcQ1 := hcQ.1
        have hcQ2 := hcQ.2
        have hkN : (k : Int) < (N : Int) := by omega
        clear hQs hRk hc hA hAb hcQ hj
        go_wp2_with fail
        go_loopw [12] (fun s wr => ∃ tt : Nat, tt ≤ g.length ∧ s = .int .i64 tt ∧ Hid (ownR w.heap.size wr (.slice (some ⟨g1, 0, none⟩) f.length c1) (subK m A k c g tt)) ∧ Hid (ownR w.heap.size wr (.slice (some ⟨g2, 0, none⟩) N N) ((divS m (fun x => x) f g N t).2.set k c)) ∧ Hid (Below w.heap.size w wr)) (fun s _ => g.length - (intOf s).toNat)
        case atStart => exact ⟨0, by omega, rfl, HRk, HQs, HBk⟩
        case round =>
          obtain ⟨tt, htt, rfl, HR', HQ', HB'⟩ := hrel
          by_cases hlt2 : tt < g.length
          · have hlt2z : (tt : Int) < (g.length : Int) := by omega
            have hgc := HB'.out.cell (p := ⟨b2, o2 + tt, none⟩) (World.block_lt_of_cell? w _ (rd_at H2.out hlt2))
            rw [rd_at H2.out hlt2] at hgc
            have hgb := World.block_lt_of_cell? _ _ hgc
            have hkt : k + tt < (subK m A k c g tt).length := by rw [subK_len]; omega
            have hxc := own_cell HR'.out hkt
            have hxc1 := hxc.1
            have hxc2 := hxc.2
            have hxb := World.block_lt_of_cell? _ _ hxc1
            have hXb := getD_bd (b := m - 1) (by omega) (subK_bd (k := k) (c := c) (g := g) hm.1 HAb.out tt) (k + tt)
            have hdb := hgd.out tt
            have hS := subK_succ m A k c g tt
            obtain ⟨X, hX⟩ : ∃ X, X = (subK m A k c g tt).getD (k + tt) 0 := ⟨_, rfl⟩
            rw [← hX] at hxc1 hXb hS
            obtain ⟨d, hd⟩ : ∃ d, d = g.getD tt 0 := ⟨_, rfl⟩
            rw [← hd] at hgc hdb hS
            have hpb := prod_bd2 hm.2 hcb hdb hXb
            have HSS := hid hS
            have hktz : (k : Int) + tt < (f.length : Int) := by rw [subK_len] at hkt; omega
            clear hX hd hS hxc hkt
            go_wp2_with fail
            refine wp_region_calm_tail 20 (by kernel_rfl) (by kernel_rfl) ?_
            simp only [List.take_succ_cons, List.take_zero, List.drop_succ_cons, List.drop_zero]
            repeat (go_big_quiet_step (first | (go_at_call 75; exact calmp (s_mod _ _ _ (by omega) (by omega)))))
            refine wpQuiet_nil ?_; intro uq zq; try simp at zq
            have hSt := own_set (HR'.out.aft uq) (k + tt) ((X - c * d) % m)
            have HBq : Hid (Below w.heap.size w (aft wr uq)) := hid (HB'.out.trans ((below_aft wr uq).mono HB'.out.size))
            have HSt := hid hSt
            clear hSt
            go_wp2_with fail
            go_roundw
            case rel => exact ⟨tt + 1, by omega, by go_num, hid (by rw [HSS.out]; exact HSt.out.1), hid ((HQ'.out.aft _).grown HSt.out.2 (rowNe_block rfl (fun e => hne e.symm))), hid (Below.grown HBq.out HSt.out.2 HBq.out.size (fun x hx => by injection hx with hx; omega))⟩
            case measure => simp only [intOf]; omega
          · obtain rfl : tt = g.length := by omega
            have hlt2z : ¬ (g.length : Int) < (g.length : Int) := by omega
            have hk2 : (k : Int) - 1 = (N : Int) - 1 - ((t + 1 : Nat) : Int) := by omega
            have HK2 := hid hk2
            clear hk2
            go_wp2_with fail
            go_roundw
            case rel => exact ⟨t + 1, by omega, by rw [← HK2.out], hid (by rw [hstep.out]; exact HR'.out), hid (by rw [hstep.out]; exact HQ'.out), HB'⟩
            case measure => simp only [intOf]; omega
      · obtain rfl : t = N := by omega
        have e1 : (t : Int) - 1 - t = -1 := by omega
        rw [e1]
        have hR := HR.out
        have hQ := HQ.out
        have lR := (HL.out t).1
        have lQ := (HL.out t).2
        clear HR HQ e1
        go_wp2_with fail
        refine viaI (g := id) (s_trim w.heap.size _ _ _ hQ (by rw [lQ]; omega)) ?_
        intro v1 u2 z2 own2
        try simp at z2
        go_wp2_with fail
        refine viaI (g := id) (s_trim w.heap.size _ _ _ (hR.aft _) (by rw [lR]; omega)) ?_
        intro v2 u3 z3 own3
        try simp at z3
        have n1 : Hid (rowNe v1 v2.ownBlock) := hid (rowNe_lt own2.rowLt (own_row_ge own3) (Nat.le_refl _))
        have n2 : Hid (rowNe v2 v1.ownBlock) := hid (rowNe_gt own2.rowLt (own_row_ge own3) (Nat.le_refl _))
        have o2 : Hid (ownR w.heap.size (aft (aft wo u2) u3) v1 (trimF (divS m (fun x => x) f g t t).2)) := hid ((own2.aft _).mono HB.out.size)
        have o3 : Hid (ownR w.heap.size (aft (aft wo u2) u3) v2 (trimF (divS m (fun x => x) f g t t).1)) := hid (own3.mono (Nat.le_trans HB.out.size z2))
        clear own2 own3 hR hQ
        go_wp2_with fail
        go_ret2
        exact ⟨v1, v2, rfl, o2.out, o3.out, n1.out, n2.out, HB.out.trans (Below.mono (by refine Ext.bel ?_; repeat (with_reducible first | exact Ext.refl _ | apply Ext.alloc | apply Ext.aft | apply Ext.drew | apply Ext.drewN | apply Ext.setCell | exact Nat.le_add_right _ _ | exact Nat.le_refl _ | (simp; done) | omega)) HB.out.size)⟩
  · rcases hz with ⟨hn1, hn2⟩ | ⟨hn1, hn2⟩
    all_goals
      subst hn2
      go_wp2_with (at_make; refine wpList_make_full _ rfl _ _ 26 rfl W.heap.size 2 i0 (.int .i64 0) 1 Try.underlying26 hi hz0 hz1 _ _ _ _ 0 rfl rfl (by omega) (by omega) (by omega) (by unfold maxLen; omega) (Nat.le_refl _) ?_)
      intro w1 hown0 hgr
      have oR : Hid (ownR w.heap.size w1 (.slice a1 f.length c1) f) := hid (HO1.out.grown hgr (fun k hk e => by cases e))
      have oQ : Hid (ownR w.heap.size w1 (.slice (some ⟨W.heap.size, 0, none⟩) 0 0) []) := hid (by
        refine ownR.mono (B := W.heap.size) ?_ hB0.out.size
        unfold ownR
        have e : vI (List.replicate 0 0) = vI [] := rfl
        rw [List.length_nil, ← e, ← vI_zeros]; exact hown0)
      have HB : Hid (Below w.heap.size w w1) := hid (hB0.out.trans ((Below.grown (Below.refl _ _) hgr (Nat.le_refl _) (fun k hk => by cases hk)).mono hB0.out.size))
      clear hown0 hgr
      go_wp2_with fail
      go_loopw [10] (fun s wr => s = .int .i64 (-1) ∧ wr = w1) (fun _ _ => 0)
      case atStart => exact ⟨rfl, rfl⟩
      case round =>
        obtain ⟨rfl, rfl⟩ := hrel
        have hR := oR.out
        have hQ := oQ.out
        clear oR oQ
        go_wp2_with fail
        refine viaI (g := id) (s_trim w.heap.size _ _ _ hQ (by simp)) ?_
        intro v1 u2 z2 own2
        try simp at z2
        go_wp2_with fail
        refine viaI (g := id) (s_trim w.heap.size _ _ _ (hR.aft _) (by omega)) ?_
        intro v2 u3 z3 own3
        try simp at z3
        have n1 : Hid (rowNe v1 v2.ownBlock) := hid (rowNe_lt own2.rowLt (own_row_ge own3) (Nat.le_refl _))
        have n2 : Hid (rowNe v2 v1.ownBlock) := hid (rowNe_gt own2.rowLt (own_row_ge own3) (Nat.le_refl _))
        have o2 : Hid (ownR w.heap.size (aft (aft wr u2) u3) v1 (trimF [])) := hid ((own2.aft _).mono HB.out.size)
        have o3 : Hid (ownR w.heap.size (aft (aft wr u2) u3) v2 (trimF f)) := hid (own3.mono (Nat.le_trans HB.out.size z2))
        clear own2 own3 hR hQ
        go_wp2_with fail
        go_ret2
        exact ⟨v1, v2, rfl, o2.out, o3.out, n1.out, n2.out, HB.out.trans (Below.mono (by refine Ext.bel ?_; repeat (with_reducible first | exact Ext.refl _ | apply Ext.alloc | apply Ext.aft | apply Ext.drew | apply Ext.drewN | apply Ext.setCell | exact Nat.le_add_right _ _ | exact Nat.le_refl _ | (simp; done) | omega)) HB.out.size)⟩
end Go.Proofs.Ytganmeiaflkkoaa
