/- Division of polynomials by a prime: both texts. -/
import Derived.Test.YtaninbfcoifedaaH12
import Derived.Test.YtaninbfcoifedaaG6
namespace Go.Proofs.Ytaninbfcoifedaa
open Go Go.RowKit

def leadF (m L x : Int) : Int := x * L % m
theorem leadF_bd {m L : Int} (hm : 1 ≤ m) : ∀ x, 0 ≤ x ∧ x ≤ m - 1 → 0 ≤ leadF m L x ∧ leadF m L x ≤ m - 1 := fun x _ =>
  ⟨Int.emod_nonneg _ (by omega), by have := Int.emod_lt_of_pos (x * L) (show 0 < m by omega); unfold leadF; omega⟩
/-- The quotient and the remainder by a prime. -/
def quoP (p : Int) (f g : List Int) : List Int := quoF p (leadF p (inv (g.getD (g.length - 1) 0) p)) f g
def remP (p : Int) (f g : List Int) : List Int := remF p (leadF p (inv (g.getD (g.length - 1) 0) p)) f g
theorem ringB_one {p : Int} (h : smallP p = true) : ringB p 1 = true := by
  have := smallP_bd h
  exact ringB_iff.2 ⟨h, by omega, by omega, by show p ^ 1 ≤ 1000000000; rw [Int.pow_succ, Int.pow_zero]; omega⟩

set_option maxHeartbeats 1000000 in
theorem i_inverseBy (p a : Int) (w : World) (h : smallP p = true) (ha : 0 ≤ a ∧ a ≤ p - 1) :
    Calls Try.prog 82 #[.int .i64 p, .int .i64 a] w fun e w' => e = .returned (.int .i64 (inv a p)) ∧ Below w.heap.size w w' := by
  have hp := smallP_bd h
  have H1 := hid (ringB_one h)
  have e : a % p = a := Int.emod_eq_of_lt ha.1 (by omega)
  have e2 : p ^ (1 : Int).toNat = p := by show p ^ 1 = p; rw [Int.pow_succ, Int.pow_zero, Int.one_mul]
  have HE := hid e
  have HE2 := hid e2
  have ha9 : 0 ≤ a ∧ a ≤ 1000000000000 := by omega
  clear e e2 h
  go_enter Try.func82, Try.ntmps82
  go_wp2_with (go_at_call 67; refine pur (i_mod _ _ _ (by omega) (by omega)) ?_; rw [HE.out])
  first
    | (refine via (i_inverse p 1 a _ H1.out ha9) ?_; rw [HE2.out]; intro uu zz; try simp at zz)
    | (go_wp2_with (go_at_call 91; refine via (i_inverse p 1 a _ H1.out ha9) ?_; rw [HE2.out]; intro uu zz; try simp at zz))
  go_wp2_with fail
  go_ret
  exact ⟨rfl, (by refine Ext.bel ?_; repeat (with_reducible first | exact Ext.refl _ | apply Ext.alloc | apply Ext.aft | apply Ext.drew | apply Ext.drewN | apply Ext.setCell | exact Nat.le_add_right _ _ | exact Nat.le_refl _ | (simp; done) | omega))⟩

set_option maxRecDepth 20000 in
set_option maxHeartbeats 16000000 in
theorem i_divide (r1 r2 : Value) (f g : List Int) (m : Int) (w : World) (h1 : rdI w r1 f) (h2 : rdI w r2 g) (hsm : smallP m = true) (hf : ∀ x ∈ f, 0 ≤ x ∧ x ≤ m - 1) (hg : ∀ x ∈ g, 0 ≤ x ∧ x ≤ m - 1) (hlf : f.length ≤ 1000) (hlg : 1 ≤ g.length ∧ g.length ≤ 1000) :
    Calls Try.prog 54 #[.int .i64 m, r1, r2] w fun e w' => ∃ v1 v2, e = .returned (.tuple #[v1, v2]) ∧ ownR w.heap.size w' v1 (quoP m f g) ∧ ownR w.heap.size w' v2 (remP m f g) ∧ rowNe v1 v2.ownBlock ∧ rowNe v2 v1.ownBlock ∧ Below w.heap.size w w' := by
  obtain ⟨i0, hi, hz0, hz1, hz2⟩ := info_parts infoI
  have hp97 := smallP_bd hsm
  have hm : 1 ≤ m ∧ m ≤ 1000000000 := by omega
  have hm9 : 1 ≤ m ∧ m ≤ 1000000000000 := by omega
  obtain ⟨a0, cap0, rfl, _, _⟩ := id h1
  obtain ⟨a2, cap2, rfl, _, _⟩ := id h2
  obtain ⟨b2, o2, rfl⟩ := rd_head h2 (by intro e; subst e; simp at hlg)
  have H1 := hid h1
  have H2 := hid h2
  have hgd := hid (getD_bd (b := m - 1) (by omega) hg)
  unfold quoP remP
  obtain ⟨L, hL⟩ : ∃ L, L = inv (g.getD (g.length - 1) 0) m := ⟨_, rfl⟩
  have hLb : 0 ≤ L ∧ L ≤ m - 1 := by rw [hL]; exact inv_bd hm.1
  rw [← hL]
  obtain ⟨ge, hge⟩ : ∃ ge, ge = g.length - 1 := ⟨_, rfl⟩
  have hgez : (g.length : Int) - 1 = ge := by omega
  have hgl : ge < g.length := by omega
  have hgb0 := hgd.out ge
  rw [← hge] at hL
  obtain ⟨z, hz⟩ : ∃ z, z = g.getD ge 0 := ⟨_, rfl⟩
  rw [← hz] at hL hgb0
  have HL1 := hid hL.symm
  have Hz := hid hz
  have he1 : 0 ≤ z ∧ z ≤ m - 1 := hgb0
  have he2 : 0 ≤ z ∧ z ≤ 1000000000000 := by omega
  have hzc : Hid (∀ W : World, Below w.heap.size w W → W.cell? ⟨b2, o2 + ge, none⟩ = some (.int .i64 z)) := hid fun W hb => by
    rw [hb.cell (p := ⟨b2, o2 + ge, none⟩) (World.block_lt_of_cell? w _ (rd_at h2 hgl)), rd_at h2 hgl, ← Hz.out]
  have HS := hid (divS_bd (lead := leadF m L) hm.1 (leadF_bd hm.1) hf (g := g) (n := divN f g))
  unfold quoF remF
  obtain ⟨N, hN⟩ : ∃ N, N = divN f g := ⟨_, rfl⟩
  rw [← hN] at HS ⊢
  unfold divN at hN
  have HL := hid (divS_len m (leadF m L) f g N)
  have hN9 : N ≤ 1001 := by omega
  have hNz : (0 < (f.length : Int) - g.length + 1 ∧ (f.length : Int) - g.length + 1 = N) ∨ ((f.length : Int) - g.length + 1 < 0 ∧ N = 0) ∨ ((f.length : Int) - g.length + 1 = 0 ∧ N = 0) := by omega
  have hNle : ∀ k, k < N → k + g.length - 1 < f.length := by omega
  have HNle := hid hNle
  clear h1 h2 hf hg hN hNle hL hz hge hgb0
  go_enter Try.func54, Try.ntmps54
  go_wp2_with fail
  refine viaI (g := id) (i_clone _ _ _ H1.out (by omega)) ?_
  intro q1 u1 z1 own1
  try simp at z1
  obtain ⟨a1, c1, hq1⟩ := own_len own1
  subst hq1
  obtain ⟨W, hW⟩ : ∃ W, W = aft w u1 := ⟨_, rfl⟩
  rw [← hW] at own1 z1 ⊢
  have hB0 : Hid (Below w.heap.size w W) := hid (by rw [hW]; exact below_aft _ _)
  have HO1 := hid own1
  clear hW own1
  rcases hNz with ⟨hn1, hn2⟩ | hz
  · have Hn2 := hid hn2
    clear hn2
    go_wp2_with (at_make; refine wpList_make_full _ rfl _ _ 24 rfl W.heap.size 2 i0 (.int .i64 0) 1 Try.underlying24 hi hz0 hz1 _ _ _ _ N rfl rfl (by have := Hn2.out; omega) (by have := Hn2.out; omega) (by rw [hz2]; omega) (by unfold maxLen; omega) (Nat.le_refl _) ?_)
    intro w1 hown0 hgr
    have ne0 : Hid (∀ g1, a1 = some ⟨g1, 0, none⟩ → g1 ≠ W.heap.size) := hid fun g1 e1 e2 => by
      subst e1; have := (World.ownsRow.lt HO1.out g1 rfl).2; omega
    have oR : Hid (ownR w.heap.size w1 (.slice a1 f.length c1) (divS m (leadF m L) f g N 0).1) := hid (HO1.out.grown hgr (fun k hk e => by cases e))
    have oQ : Hid (ownR w.heap.size w1 (.slice (some ⟨W.heap.size, 0, none⟩) N N) (divS m (leadF m L) f g N 0).2) := hid (by
      have e : (divS m (leadF m L) f g N 0).2 = List.replicate N 0 := rfl
      rw [e]
      refine ownR.mono (B := W.heap.size) ?_ hB0.out.size
      unfold ownR
      rw [List.length_replicate, ← vI_zeros]; exact hown0)
    have HB : Hid (Below w.heap.size w w1) := hid (hB0.out.trans ((Below.grown (Below.refl _ _) hgr (Nat.le_refl _) (fun k hk => by cases hk)).mono hB0.out.size))
    obtain ⟨g2, hg2⟩ : ∃ g2, g2 = W.heap.size := ⟨_, rfl⟩
    rw [← hg2] at ne0 oQ
    rw [← hg2]
    clear hown0 hgr hg2
    have hzc1 := hzc.out w1 HB.out
    go_wp2_with fail
    refine via (i_inverseBy _ _ _ hsm he1) ?_
    rw [HL1.out]
    intro ui zi
    have HB : Hid (Below w.heap.size w (aft w1 ui)) := hid (HB.out.trans ((below_aft w1 ui).mono HB.out.size))
    go_wp2_with fail
    go_loopw [11] (fun s wr => ∃ t : Nat, t ≤ N ∧ s = .int .i64 ((N : Int) - 1 - t) ∧ Hid (ownR w.heap.size wr (.slice a1 f.length c1) (divS m (leadF m L) f g N t).1) ∧ Hid (ownR w.heap.size wr (.slice (some ⟨g2, 0, none⟩) N N) (divS m (leadF m L) f g N t).2) ∧ Hid (Below w.heap.size w wr)) (fun s _ => (intOf s + 1).toNat)
    case atStart => exact ⟨0, by omega, by go_num, hid (oR.out.aft _), hid (oQ.out.aft _), HB⟩
    case round =>
      obtain ⟨t, ht, rfl, HR, HQ, HB⟩ := hrel
      obtain ⟨wo, rfl⟩ : ∃ wo : World, wo = wr := ⟨_, rfl⟩
      by_cases hlt : t < N
      · obtain ⟨k, hk⟩ : ∃ k, k + t + 1 = N := ⟨N - 1 - t, by omega⟩
        rw [show (N : Int) - 1 - t = (k : Int) by omega]
        obtain ⟨j, hj⟩ : ∃ j, j = k + g.length - 1 := ⟨_, rfl⟩
        have hjz : (k : Int) + g.length - 1 = j := by omega
        have hjf : j < f.length := by rw [hj]; exact HNle.out k (by omega)
        have hlen := (HL.out t).1
        have hlenQ := (HL.out t).2
        obtain ⟨g1, rfl, hg1, hg1b⟩ := own_head HR.out (by omega)
        have hne := ne0.out g1 rfl
        have hcA := (own_cell HR.out (j := j) (by omega)).1
        have hcQ := own_cell HQ.out (j := k) (by omega)
        have hg2b := (World.ownsRow.lt HQ.out g2 rfl).2
        obtain ⟨Y, hY⟩ : ∃ Y, Y = (divS m (leadF m L) f g N t).1.getD j 0 := ⟨_, rfl⟩
        have hYb := getD_bd (b := m - 1) (by omega) (HS.out t).1 j
        rw [← hY] at hcA hYb
        obtain ⟨c, hc⟩ : ∃ c, c = Y * L % m := ⟨_, rfl⟩
        have hcb := leadF_bd (L := L) hm.1 Y hYb
        unfold leadF at hcb
        have hYL := prod_bd2 (x := 0) hm.2 hYb hLb (by omega)
        rw [← hc] at hcb
        have HCW := hid hc.symm
        have hQs := own_set HQ.out k c
        have hRk := HR.out.grown hQs.2 (rowNe_block rfl hne)
        have hstep : Hid (divS m (leadF m L) f g N (t + 1) = (subK m (divS m (leadF m L) f g N t).1 k c g g.length, (divS m (leadF m L) f g N t).2.set k c)) := hid (by rw [divS_succ _ _ _ _ _ _ k hk, ← hj, ← hY, show leadF m L Y = c from hc.symm])
        obtain ⟨A, hA⟩ : ∃ A, A = (divS m (leadF m L) f g N t).1 := ⟨_, rfl⟩
        have hAb := (HS.out t).1
        rw [← hA] at hRk hstep hlen hAb
        have Hj := hid hj
        have HQs := hid hQs.1
        have HRk := hid hRk
        have HBk : Hid (Below w.heap.size w (wo.setCell ⟨g2, k, none⟩ (.int .i64 c))) := hid (Below.grown HB.out hQs.2 HB.out.size (fun x hx => by injection hx with hx; have := World.ownsRow.lt HQ.out g2 rfl; omega))
        have HAb := hid hAb
        have hcQ1 := hcQ.1
        have hcQ2 := hcQ.2
        have hkN : (k : Int) < (N : Int) := by omega
        clear hQs hRk hc hA hAb hcQ hj hY
        go_wp2_with fail
        rw [HCW.out]
        go_loopw [56] (fun s wr => ∃ tt : Nat, tt ≤ g.length ∧ s = .int .i64 tt ∧ Hid (ownR w.heap.size wr (.slice (some ⟨g1, 0, none⟩) f.length c1) (subK m A k c g tt)) ∧ Hid (ownR w.heap.size wr (.slice (some ⟨g2, 0, none⟩) N N) ((divS m (leadF m L) f g N t).2.set k c)) ∧ Hid (Below w.heap.size w wr)) (fun s _ => g.length - (intOf s).toNat)
        case atStart => exact ⟨0, by omega, rfl, HRk, HQs, HBk⟩
        case round =>
          obtain ⟨tt, htt, rfl, HR', HQ', HB'⟩ := hrel
          by_cases hlt2 : tt < g.length
          · have hlt2z : (tt : Int) < (g.length : Int) := by omega
            have hgc := HB'.out.cell (p := ⟨b2, o2 + tt, none⟩) (World.block_lt_of_cell? w _ (rd_at H2.out hlt2))
            rw [rd_at H2.out hlt2] at hgc
            have hgb := World.block_lt_of_cell? _ _ hgc
            have hkt : k + tt < (subK m A k c g tt).length := by rw [subK_len]; omega
            have hxc := own_cell HR'.out hkt
            have hxc1 := hxc.1
            have hxc2 := hxc.2
            have hxb := World.block_lt_of_cell? _ _ hxc1
            have hXb := getD_bd (b := m - 1) (by omega) (subK_bd (k := k) (c := c) (g := g) hm.1 HAb.out tt) (k + tt)
            have hdb := hgd.out tt
            have hS := subK_succ m A k c g tt
            obtain ⟨X, hX⟩ : ∃ X, X = (subK m A k c g tt).getD (k + tt) 0 := ⟨_, rfl⟩
            rw [← hX] at hxc1 hXb hS
            obtain ⟨d, hd⟩ : ∃ d, d = g.getD tt 0 := ⟨_, rfl⟩
            rw [← hd] at hgc hdb hS
            have hpb := prod_bd2 hm.2 hcb hdb hXb
            have hqc := (own_cell HQ'.out (j := k) (by rw [List.length_set]; omega)).1
            have hqe : ((divS m (leadF m L) f g N t).2.set k c).getD k 0 = c := by simp [List.getElem?_set_self (show k < (divS m (leadF m L) f g N t).2.length by omega)]
            rw [hqe] at hqc
            have hqb := World.block_lt_of_cell? _ _ hqc
            clear hqe
            have HSS := hid hS
            have hktz : (k : Int) + tt < (f.length : Int) := by rw [subK_len] at hkt; omega
            clear hX hd hS hxc hkt
            go_wp2_with fail
            refine wp_region_calm_tail 20 (by kernel_rfl) (by kernel_rfl) ?_
            simp only [List.take_succ_cons, List.take_zero, List.drop_succ_cons, List.drop_zero]
            repeat (go_big_quiet_step (first | (go_at_call 67; exact calmp (i_mod _ _ _ (by omega) (by omega)))))
            refine wpQuiet_nil ?_; intro uq zq; try simp at zq
            have hSt := own_set (HR'.out.aft uq) (k + tt) ((X - c * d) % m)
            have HBq : Hid (Below w.heap.size w (aft wr uq)) := hid (HB'.out.trans ((below_aft wr uq).mono HB'.out.size))
            have HSt := hid hSt
            clear hSt
            go_wp2_with fail
            go_roundw
            case rel => exact ⟨tt + 1, by omega, by go_num, hid (by rw [HSS.out]; exact HSt.out.1), hid ((HQ'.out.aft _).grown HSt.out.2 (rowNe_block rfl (fun e => hne e.symm))), hid (Below.grown HBq.out HSt.out.2 HBq.out.size (fun x hx => by injection hx with hx; omega))⟩
            case measure => simp only [intOf]; omega
          · obtain rfl : tt = g.length := by omega
            have hlt2z : ¬ (g.length : Int) < (g.length : Int) := by omega
            have hk2 : (k : Int) - 1 = (N : Int) - 1 - ((t + 1 : Nat) : Int) := by omega
            have HK2 := hid hk2
            clear hk2
            go_wp2_with fail
            go_roundw
            case rel => exact ⟨t + 1, by omega, by rw [← HK2.out], hid (by rw [hstep.out]; exact HR'.out), hid (by rw [hstep.out]; exact HQ'.out), HB'⟩
            case measure => simp only [intOf]; omega
      · obtain rfl : t = N := by omega
        have e1 : (t : Int) - 1 - t = -1 := by omega
        rw [e1]
        have hR := HR.out
        have hQ := HQ.out
        have lR := (HL.out t).1
        have lQ := (HL.out t).2
        clear HR HQ e1
        go_wp2_with fail
        refine viaI (g := id) (i_trim w.heap.size _ _ _ hQ (by rw [lQ]; omega)) ?_
        intro v1 u2 z2 own2
        try simp at z2
        go_wp2_with fail
        refine viaI (g := id) (i_trim w.heap.size _ _ _ (hR.aft _) (by rw [lR]; omega)) ?_
        intro v2 u3 z3 own3
        try simp at z3
        have n1 : Hid (rowNe v1 v2.ownBlock) := hid (rowNe_lt own2.rowLt (own_row_ge own3) (Nat.le_refl _))
        have n2 : Hid (rowNe v2 v1.ownBlock) := hid (rowNe_gt own2.rowLt (own_row_ge own3) (Nat.le_refl _))
        have o2 : Hid (ownR w.heap.size (aft (aft wo u2) u3) v1 (trimF (divS m (leadF m L) f g t t).2)) := hid ((own2.aft _).mono HB.out.size)
        have o3 : Hid (ownR w.heap.size (aft (aft wo u2) u3) v2 (trimF (divS m (leadF m L) f g t t).1)) := hid (own3.mono (Nat.le_trans HB.out.size z2))
        clear own2 own3 hR hQ
        go_wp2_with fail
        go_ret2
        exact ⟨v1, v2, rfl, o2.out, o3.out, n1.out, n2.out, HB.out.trans (Below.mono (by refine Ext.bel ?_; repeat (with_reducible first | exact Ext.refl _ | apply Ext.alloc | apply Ext.aft | apply Ext.drew | apply Ext.drewN | apply Ext.setCell | exact Nat.le_add_right _ _ | exact Nat.le_refl _ | (simp; done) | omega)) HB.out.size)⟩
  · rcases hz with ⟨hn1, hn2⟩ | ⟨hn1, hn2⟩
    all_goals
      subst hn2
      go_wp2_with (at_make; refine wpList_make_full _ rfl _ _ 24 rfl W.heap.size 2 i0 (.int .i64 0) 1 Try.underlying24 hi hz0 hz1 _ _ _ _ 0 rfl rfl (by omega) (by omega) (by omega) (by unfold maxLen; omega) (Nat.le_refl _) ?_)
      intro w1 hown0 hgr
      have oR : Hid (ownR w.heap.size w1 (.slice a1 f.length c1) f) := hid (HO1.out.grown hgr (fun k hk e => by cases e))
      have oQ : Hid (ownR w.heap.size w1 (.slice (some ⟨W.heap.size, 0, none⟩) 0 0) []) := hid (by
        refine ownR.mono (B := W.heap.size) ?_ hB0.out.size
        unfold ownR
        have e : vI (List.replicate 0 0) = vI [] := rfl
        rw [List.length_nil, ← e, ← vI_zeros]; exact hown0)
      have HB : Hid (Below w.heap.size w w1) := hid (hB0.out.trans ((Below.grown (Below.refl _ _) hgr (Nat.le_refl _) (fun k hk => by cases hk)).mono hB0.out.size))
      clear hown0 hgr
      have hzc1 := hzc.out w1 HB.out
      go_wp2_with fail
      refine via (i_inverseBy _ _ _ hsm he1) ?_
      rw [HL1.out]
      intro ui zi
      have HB : Hid (Below w.heap.size w (aft w1 ui)) := hid (HB.out.trans ((below_aft w1 ui).mono HB.out.size))
      go_wp2_with fail
      go_loopw [11] (fun s wr => s = .int .i64 (-1) ∧ wr = aft w1 ui) (fun _ _ => 0)
      case atStart => exact ⟨rfl, rfl⟩
      case round =>
        obtain ⟨rfl, rfl⟩ := hrel
        have hR := oR.out.aft ui
        have hQ := oQ.out.aft ui
        clear oR oQ
        go_wp2_with fail
        refine viaI (g := id) (i_trim w.heap.size _ _ _ hQ (by simp)) ?_
        intro v1 u2 z2 own2
        try simp at z2
        go_wp2_with fail
        refine viaI (g := id) (i_trim w.heap.size _ _ _ (hR.aft _) (by omega)) ?_
        intro v2 u3 z3 own3
        try simp at z3
        have n1 : Hid (rowNe v1 v2.ownBlock) := hid (rowNe_lt own2.rowLt (own_row_ge own3) (Nat.le_refl _))
        have n2 : Hid (rowNe v2 v1.ownBlock) := hid (rowNe_gt own2.rowLt (own_row_ge own3) (Nat.le_refl _))
        have o2 : Hid (ownR w.heap.size (aft (aft (aft w1 ui) u2) u3) v1 (trimF [])) := hid ((own2.aft _).mono HB.out.size)
        have o3 : Hid (ownR w.heap.size (aft (aft (aft w1 ui) u2) u3) v2 (trimF f)) := hid (own3.mono (Nat.le_trans HB.out.size z2))
        clear own2 own3 hR hQ
        go_wp2_with fail
        go_ret2
        exact ⟨v1, v2, rfl, o2.out, o3.out, n1.out, n2.out, HB.out.trans (Below.mono (by refine Ext.bel ?_; repeat (with_reducible first | exact Ext.refl _ | apply Ext.alloc | apply Ext.aft | apply Ext.drew | apply Ext.drewN | apply Ext.setCell | exact Nat.le_add_right _ _ | exact Nat.le_refl _ | (simp; done) | omega)) HB.out.size)⟩

set_option maxRecDepth 20000 in
set_option maxHeartbeats 16000000 in
theorem s_divide (r1 r2 : Value) (f g : List Int) (m : Int) (w : World) (h1 : rdI w r1 f) (h2 : rdI w r2 g) (hsm : smallP m = true) (hf : ∀ x ∈ f, 0 ≤ x ∧ x ≤ m - 1) (hg : ∀ x ∈ g, 0 ≤ x ∧ x ≤ m - 1) (hlf : f.length ≤ 1000) (hlg : 1 ≤ g.length ∧ g.length ≤ 1000) :
    Calls Try.prog 62 #[.int .i64 m, r1, r2] w fun e w' => ∃ v1 v2, e = .returned (.tuple #[v1, v2]) ∧ ownR w.heap.size w' v1 (quoP m f g) ∧ ownR w.heap.size w' v2 (remP m f g) ∧ rowNe v1 v2.ownBlock ∧ rowNe v2 v1.ownBlock ∧ Below w.heap.size w w' := by
  obtain ⟨i0, hi, hz0, hz1, hz2⟩ := info_parts infoI
  have hp97 := smallP_bd hsm
  have hm : 1 ≤ m ∧ m ≤ 1000000000 := by omega
  have hm9 : 1 ≤ m ∧ m ≤ 1000000000000 := by omega
  obtain ⟨a0, cap0, rfl, _, _⟩ := id h1
  obtain ⟨a2, cap2, rfl, _, _⟩ := id h2
  obtain ⟨b2, o2, rfl⟩ := rd_head h2 (by intro e; subst e; simp at hlg)
  have H1 := hid h1
  have H2 := hid h2
  have hgd := hid (getD_bd (b := m - 1) (by omega) hg)
  unfold quoP remP
  obtain ⟨L, hL⟩ : ∃ L, L = inv (g.getD (g.length - 1) 0) m := ⟨_, rfl⟩
  have hLb : 0 ≤ L ∧ L ≤ m - 1 := by rw [hL]; exact inv_bd hm.1
  rw [← hL]
  obtain ⟨ge, hge⟩ : ∃ ge, ge = g.length - 1 := ⟨_, rfl⟩
  have hgez : (g.length : Int) - 1 = ge := by omega
  have hgl : ge < g.length := by omega
  have hgb0 := hgd.out ge
  rw [← hge] at hL
  obtain ⟨z, hz⟩ : ∃ z, z = g.getD ge 0 := ⟨_, rfl⟩
  rw [← hz] at hL hgb0
  have HL1 := hid hL.symm
  have Hz := hid hz
  have he1 : 0 ≤ z ∧ z ≤ m - 1 := hgb0
  have he2 : 0 ≤ z ∧ z ≤ 1000000000000 := by omega
  have hzc : Hid (∀ W : World, Below w.heap.size w W → W.cell? ⟨b2, o2 + ge, none⟩ = some (.int .i64 z)) := hid fun W hb => by
    rw [hb.cell (p := ⟨b2, o2 + ge, none⟩) (World.block_lt_of_cell? w _ (rd_at h2 hgl)), rd_at h2 hgl, ← Hz.out]
  have HS := hid (divS_bd (lead := leadF m L) hm.1 (leadF_bd hm.1) hf (g := g) (n := divN f g))
  unfold quoF remF
  obtain ⟨N, hN⟩ : ∃ N, N = divN f g := ⟨_, rfl⟩
  rw [← hN] at HS ⊢
  unfold divN at hN
  have HL := hid (divS_len m (leadF m L) f g N)
  have hN9 : N ≤ 1001 := by omega
  have hNz : (0 < (f.length : Int) - g.length + 1 ∧ (f.length : Int) - g.length + 1 = N) ∨ ((f.length : Int) - g.length + 1 < 0 ∧ N = 0) ∨ ((f.length : Int) - g.length + 1 = 0 ∧ N = 0) := by omega
  have hNle : ∀ k, k < N → k + g.length - 1 < f.length := by omega
  have HNle := hid hNle
  clear h1 h2 hf hg hN hNle hL hz hge hgb0
  go_enter Try.func62, Try.ntmps62
  go_wp2_with fail
  refine viaI (g := id) (s_own _ _ _ H1.out (by omega)) ?_
  intro q1 u1 z1 own1
  try simp at z1
  obtain ⟨a1, c1, hq1⟩ := own_len own1
  subst hq1
  obtain ⟨W, hW⟩ : ∃ W, W = aft w u1 := ⟨_, rfl⟩
  rw [← hW] at own1 z1 ⊢
  have hB0 : Hid (Below w.heap.size w W) := hid (by rw [hW]; exact below_aft _ _)
  have HO1 := hid own1
  clear hW own1
  rcases hNz with ⟨hn1, hn2⟩ | hz
  · have Hn2 := hid hn2
    clear hn2
    go_wp2_with (at_make; refine wpList_make_full _ rfl _ _ 24 rfl W.heap.size 2 i0 (.int .i64 0) 1 Try.underlying24 hi hz0 hz1 _ _ _ _ N rfl rfl (by have := Hn2.out; omega) (by have := Hn2.out; omega) (by rw [hz2]; omega) (by unfold maxLen; omega) (Nat.le_refl _) ?_)
    intro w1 hown0 hgr
    have ne0 : Hid (∀ g1, a1 = some ⟨g1, 0, none⟩ → g1 ≠ W.heap.size) := hid fun g1 e1 e2 => by
      subst e1; have := (World.ownsRow.lt HO1.out g1 rfl).2; omega
    have oR : Hid (ownR w.heap.size w1 (.slice a1 f.length c1) (divS m (leadF m L) f g N 0).1) := hid (HO1.out.grown hgr (fun k hk e => by cases e))
    have oQ : Hid (ownR w.heap.size w1 (.slice (some ⟨W.heap.size, 0, none⟩) N N) (divS m (leadF m L) f g N 0).2) := hid (by
      have e : (divS m (leadF m L) f g N 0).2 = List.replicate N 0 := rfl
      rw [e]
      refine ownR.mono (B := W.heap.size) ?_ hB0.out.size
      unfold ownR
      rw [List.length_replicate, ← vI_zeros]; exact hown0)
    have HB : Hid (Below w.heap.size w w1) := hid (hB0.out.trans ((Below.grown (Below.refl _ _) hgr (Nat.le_refl _) (fun k hk => by cases hk)).mono hB0.out.size))
    obtain ⟨g2, hg2⟩ : ∃ g2, g2 = W.heap.size := ⟨_, rfl⟩
    rw [← hg2] at ne0 oQ
    rw [← hg2]
    clear hown0 hgr hg2
    have hzc1 := hzc.out w1 HB.out
    go_wp2_with fail
    refine pur (s_inverse _ _ _ he2 hm9) ?_
    rw [HL1.out]
    go_wp2_with fail
    go_loopw [11] (fun s wr => ∃ t : Nat, t ≤ N ∧ s = .int .i64 ((N : Int) - 1 - t) ∧ Hid (ownR w.heap.size wr (.slice a1 f.length c1) (divS m (leadF m L) f g N t).1) ∧ Hid (ownR w.heap.size wr (.slice (some ⟨g2, 0, none⟩) N N) (divS m (leadF m L) f g N t).2) ∧ Hid (Below w.heap.size w wr)) (fun s _ => (intOf s + 1).toNat)
    case atStart => exact ⟨0, by omega, by go_num, hid (oR.out), hid (oQ.out), HB⟩
    case round =>
      obtain ⟨t, ht, rfl, HR, HQ, HB⟩ := hrel
      obtain ⟨wo, rfl⟩ : ∃ wo : World, wo = wr := ⟨_, rfl⟩
      by_cases hlt : t < N
      · obtain ⟨k, hk⟩ : ∃ k, k + t + 1 = N := ⟨N - 1 - t, by omega⟩
        rw [show (N : Int) - 1 - t = (k : Int) by omega]
        obtain ⟨j, hj⟩ : ∃ j, j = k + g.length - 1 := ⟨_, rfl⟩
        have hjz : (k : Int) + g.length - 1 = j := by omega
        have hjf : j < f.length := by rw [hj]; exact HNle.out k (by omega)
        have hlen := (HL.out t).1
        have hlenQ := (HL.out t).2
        obtain ⟨g1, rfl, hg1, hg1b⟩ := own_head HR.out (by omega)
        have hne := ne0.out g1 rfl
        have hcA := (own_cell HR.out (j := j) (by omega)).1
        have hcQ := own_cell HQ.out (j := k) (by omega)
        have hg2b := (World.ownsRow.lt HQ.out g2 rfl).2
        obtain ⟨Y, hY⟩ : ∃ Y, Y = (divS m (leadF m L) f g N t).1.getD j 0 := ⟨_, rfl⟩
        have hYb := getD_bd (b := m - 1) (by omega) (HS.out t).1 j
        rw [← hY] at hcA hYb
        obtain ⟨c, hc⟩ : ∃ c, c = Y * L % m := ⟨_, rfl⟩
        have hcb := leadF_bd (L := L) hm.1 Y hYb
        unfold leadF at hcb
        have hYL := prod_bd2 (x := 0) hm.2 hYb hLb (by omega)
        rw [← hc] at hcb
        have HCW := hid hc.symm
        have hQs := own_set HQ.out k c
        have hRk := HR.out.grown hQs.2 (rowNe_block rfl hne)
        have hstep : Hid (divS m (leadF m L) f g N (t + 1) = (subK m (divS m (leadF m L) f g N t).1 k c g g.length, (divS m (leadF m L) f g N t).2.set k c)) := hid (by rw [divS_succ _ _ _ _ _ _ k hk, ← hj, ← hY, show leadF m L Y = c from hc.symm])
        obtain ⟨A, hA⟩ : ∃ A, A = (divS m (leadF m L) f g N t).1 := ⟨_, rfl⟩
        have hAb := (HS.out t).1
        rw [← hA] at hRk hstep hlen hAb
        have Hj := hid hj
        have HQs := hid hQs.1
        have HRk := hid hRk
        have HBk : Hid (Below w.heap.size w (wo.setCell ⟨g2, k, none⟩ (.int .i64 c))) := hid (Below.grown HB.out hQs.2 HB.out.size (fun x hx => by injection hx with hx; have := World.ownsRow.lt HQ.out g2 rfl; omega))
        have HAb := hid hAb
        have hcQ1 := hcQ.1
        have hcQ2 := hcQ.2
        have hkN : (k : Int) < (N : Int) := by omega
        clear hQs hRk hc hA hAb hcQ hj hY
        go_wp2_with fail
        rw [HCW.out]
        go_loopw [13] (fun s wr => ∃ tt : Nat, tt ≤ g.length ∧ s = .int .i64 tt ∧ Hid (ownR w.heap.size wr (.slice (some ⟨g1, 0, none⟩) f.length c1) (subK m A k c g tt)) ∧ Hid (ownR w.heap.size wr (.slice (some ⟨g2, 0, none⟩) N N) ((divS m (leadF m L) f g N t).2.set k c)) ∧ Hid (Below w.heap.size w wr)) (fun s _ => g.length - (intOf s).toNat)
        case atStart => exact ⟨0, by omega, rfl, HRk, HQs, HBk⟩
        case round =>
          obtain ⟨tt, htt, rfl, HR', HQ', HB'⟩ := hrel
          by_cases hlt2 : tt < g.length
          · have hlt2z : (tt : Int) < (g.length : Int) := by omega
            have hgc := HB'.out.cell (p := ⟨b2, o2 + tt, none⟩) (World.block_lt_of_cell? w _ (rd_at H2.out hlt2))
            rw [rd_at H2.out hlt2] at hgc
            have hgb := World.block_lt_of_cell? _ _ hgc
            have hkt : k + tt < (subK m A k c g tt).length := by rw [subK_len]; omega
            have hxc := own_cell HR'.out hkt
            have hxc1 := hxc.1
            have hxc2 := hxc.2
            have hxb := World.block_lt_of_cell? _ _ hxc1
            have hXb := getD_bd (b := m - 1) (by omega) (subK_bd (k := k) (c := c) (g := g) hm.1 HAb.out tt) (k + tt)
            have hdb := hgd.out tt
            have hS := subK_succ m A k c g tt
            obtain ⟨X, hX⟩ : ∃ X, X = (subK m A k c g tt).getD (k + tt) 0 := ⟨_, rfl⟩
            rw [← hX] at hxc1 hXb hS
            obtain ⟨d, hd⟩ : ∃ d, d = g.getD tt 0 := ⟨_, rfl⟩
            rw [← hd] at hgc hdb hS
            have hpb := prod_bd2 hm.2 hcb hdb hXb
            have HSS := hid hS
            have hktz : (k : Int) + tt < (f.length : Int) := by rw [subK_len] at hkt; omega
            clear hX hd hS hxc hkt
            go_wp2_with fail
            refine wp_region_calm_tail 20 (by kernel_rfl) (by kernel_rfl) ?_
            simp only [List.take_succ_cons, List.take_zero, List.drop_succ_cons, List.drop_zero]
            repeat (go_big_quiet_step (first | (go_at_call 73; exact calmp (s_mod _ _ _ (by omega) (by omega)))))
            refine wpQuiet_nil ?_; intro uq zq; try simp at zq
            have hSt := own_set (HR'.out.aft uq) (k + tt) ((X - c * d) % m)
            have HBq : Hid (Below w.heap.size w (aft wr uq)) := hid (HB'.out.trans ((below_aft wr uq).mono HB'.out.size))
            have HSt := hid hSt
            clear hSt
            go_wp2_with fail
            go_roundw
            case rel => exact ⟨tt + 1, by omega, by go_num, hid (by rw [HSS.out]; exact HSt.out.1), hid ((HQ'.out.aft _).grown HSt.out.2 (rowNe_block rfl (fun e => hne e.symm))), hid (Below.grown HBq.out HSt.out.2 HBq.out.size (fun x hx => by injection hx with hx; omega))⟩
            case measure => simp only [intOf]; omega
          · obtain rfl : tt = g.length := by omega
            have hlt2z : ¬ (g.length : Int) < (g.length : Int) := by omega
            have hk2 : (k : Int) - 1 = (N : Int) - 1 - ((t + 1 : Nat) : Int) := by omega
            have HK2 := hid hk2
            clear hk2
            go_wp2_with fail
            go_roundw
            case rel => exact ⟨t + 1, by omega, by rw [← HK2.out], hid (by rw [hstep.out]; exact HR'.out), hid (by rw [hstep.out]; exact HQ'.out), HB'⟩
            case measure => simp only [intOf]; omega
      · obtain rfl : t = N := by omega
        have e1 : (t : Int) - 1 - t = -1 := by omega
        rw [e1]
        have hR := HR.out
        have hQ := HQ.out
        have lR := (HL.out t).1
        have lQ := (HL.out t).2
        clear HR HQ e1
        go_wp2_with fail
        refine viaI (g := id) (s_trim w.heap.size _ _ _ hQ (by rw [lQ]; omega)) ?_
        intro v1 u2 z2 own2
        try simp at z2
        go_wp2_with fail
        refine viaI (g := id) (s_trim w.heap.size _ _ _ (hR.aft _) (by rw [lR]; omega)) ?_
        intro v2 u3 z3 own3
        try simp at z3
        have n1 : Hid (rowNe v1 v2.ownBlock) := hid (rowNe_lt own2.rowLt (own_row_ge own3) (Nat.le_refl _))
        have n2 : Hid (rowNe v2 v1.ownBlock) := hid (rowNe_gt own2.rowLt (own_row_ge own3) (Nat.le_refl _))
        have o2 : Hid (ownR w.heap.size (aft (aft wo u2) u3) v1 (trimF (divS m (leadF m L) f g t t).2)) := hid ((own2.aft _).mono HB.out.size)
        have o3 : Hid (ownR w.heap.size (aft (aft wo u2) u3) v2 (trimF (divS m (leadF m L) f g t t).1)) := hid (own3.mono (Nat.le_trans HB.out.size z2))
        clear own2 own3 hR hQ
        go_wp2_with fail
        go_ret2
        exact ⟨v1, v2, rfl, o2.out, o3.out, n1.out, n2.out, HB.out.trans (Below.mono (by refine Ext.bel ?_; repeat (with_reducible first | exact Ext.refl _ | apply Ext.alloc | apply Ext.aft | apply Ext.drew | apply Ext.drewN | apply Ext.setCell | exact Nat.le_add_right _ _ | exact Nat.le_refl _ | (simp; done) | omega)) HB.out.size)⟩
  · rcases hz with ⟨hn1, hn2⟩ | ⟨hn1, hn2⟩
    all_goals
      subst hn2
      go_wp2_with (at_make; refine wpList_make_full _ rfl _ _ 24 rfl W.heap.size 2 i0 (.int .i64 0) 1 Try.underlying24 hi hz0 hz1 _ _ _ _ 0 rfl rfl (by omega) (by omega) (by omega) (by unfold maxLen; omega) (Nat.le_refl _) ?_)
      intro w1 hown0 hgr
      have oR : Hid (ownR w.heap.size w1 (.slice a1 f.length c1) f) := hid (HO1.out.grown hgr (fun k hk e => by cases e))
      have oQ : Hid (ownR w.heap.size w1 (.slice (some ⟨W.heap.size, 0, none⟩) 0 0) []) := hid (by
        refine ownR.mono (B := W.heap.size) ?_ hB0.out.size
        unfold ownR
        have e : vI (List.replicate 0 0) = vI [] := rfl
        rw [List.length_nil, ← e, ← vI_zeros]; exact hown0)
      have HB : Hid (Below w.heap.size w w1) := hid (hB0.out.trans ((Below.grown (Below.refl _ _) hgr (Nat.le_refl _) (fun k hk => by cases hk)).mono hB0.out.size))
      clear hown0 hgr
      have hzc1 := hzc.out w1 HB.out
      go_wp2_with fail
      refine pur (s_inverse _ _ _ he2 hm9) ?_
      rw [HL1.out]
      go_wp2_with fail
      go_loopw [11] (fun s wr => s = .int .i64 (-1) ∧ wr = w1) (fun _ _ => 0)
      case atStart => exact ⟨rfl, rfl⟩
      case round =>
        obtain ⟨rfl, rfl⟩ := hrel
        have hR := oR.out
        have hQ := oQ.out
        clear oR oQ
        go_wp2_with fail
        refine viaI (g := id) (s_trim w.heap.size _ _ _ hQ (by simp)) ?_
        intro v1 u2 z2 own2
        try simp at z2
        go_wp2_with fail
        refine viaI (g := id) (s_trim w.heap.size _ _ _ (hR.aft _) (by omega)) ?_
        intro v2 u3 z3 own3
        try simp at z3
        have n1 : Hid (rowNe v1 v2.ownBlock) := hid (rowNe_lt own2.rowLt (own_row_ge own3) (Nat.le_refl _))
        have n2 : Hid (rowNe v2 v1.ownBlock) := hid (rowNe_gt own2.rowLt (own_row_ge own3) (Nat.le_refl _))
        have o2 : Hid (ownR w.heap.size (aft (aft wr u2) u3) v1 (trimF [])) := hid ((own2.aft _).mono HB.out.size)
        have o3 : Hid (ownR w.heap.size (aft (aft wr u2) u3) v2 (trimF f)) := hid (own3.mono (Nat.le_trans HB.out.size z2))
        clear own2 own3 hR hQ
        go_wp2_with fail
        go_ret2
        exact ⟨v1, v2, rfl, o2.out, o3.out, n1.out, n2.out, HB.out.trans (Below.mono (by refine Ext.bel ?_; repeat (with_reducible first | exact Ext.refl _ | apply Ext.alloc | apply Ext.aft | apply Ext.drew | apply Ext.drewN | apply Ext.setCell | exact Nat.le_add_right _ _ | exact Nat.le_refl _ | (simp; done) | omega)) HB.out.size)⟩
end Go.Proofs.Ytaninbfcoifedaa
