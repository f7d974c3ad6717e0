/- IsTransitive, CountOrbits: both texts, the laws. -/
import Derived.Test.YteolkmgdnbdccaaO3
namespace Go.Proofs.Yteolkmgdnbdccaa
open Go Go.RowKit

def transF (n : Int) (rs : List Int) : Bool × Int := if groupB n rs = true then (decide ((orbF n.toNat rs 0).length = n.toNat), 0) else (false, 1)
set_option maxRecDepth 20000 in
set_option maxHeartbeats 4000000 in
theorem i_IsTrans (n : Int) (r : Value) (rs : List Int) (w : World) (h : rdI w r rs) (hl : rs.length ≤ 1048576) :
    Calls Try.prog 18 #[(.agg #[.int .i64 n, r])] w fun e w' => e = .returned (.tuple #[.bool (transF n rs).1, .int .i64 (transF n rs).2]) ∧ Below w.heap.size w w' := by
  have hR := h.alloc (Obj.cells #[.int .i64 n, r] 28)
  have hN : ∀ W, rdI W (.slice none 0 0) [] := fun W => ⟨none, 0, rfl, by simp [maxLen], fun h => absurd rfl h⟩
  cases hg : groupB n rs
  · have e : transF n rs = (false, 1) := by simp [transF, hg]
    rw [e]; clear e
    have HM := hid (show movC n rs [] = 1 by simp [movC, hg])
    have HN := hid hN
    clear hg hN
    go_enter Try.func18, Try.ntmps18
    go_wp2_with (first | (go_at_call 30; refine via (i_moved _ _ _ rs [] _ 1 hR hl (HN.out _) HM.out) ?_; intro uu zz; try simp at zz))
    exact bodyPost_ret (v := .tuple #[.bool false, .int .i64 1]) (by first | (simp [results, go_sem]; done) | simp [results, go_sem, ↓IntWalk.iteOmega]) rfl ⟨rfl, (by refine Ext.bel ?_; repeat (with_reducible first | exact Ext.refl _ | apply Ext.alloc | apply Ext.aft | apply Ext.drew | apply Ext.drewN | apply Ext.setCell | exact Nat.le_add_right _ _ | exact Nat.le_refl _ | (simp; done) | omega))⟩
  · obtain ⟨m, rfl, hm1, hm6, hne, hhd, hr, hpw, _⟩ := group_facts hg
    obtain ⟨c, hc⟩ : ∃ c, decide ((orbF m rs 0).length = m) = c := ⟨_, rfl⟩
    have e : transF m rs = (c, 0) := by unfold transF; rw [if_pos hg]; simp only [Int.toNat_natCast]; rw [hc]
    rw [e]; clear e
    have HM := hid (show movC m rs [] = 0 by simp [movC, hg])
    have HN := hid hN
    have HC := hid hc
    have Hr := hid hr
    have hl7 : rs.length ≤ 720 := Nat.le_trans (asc_len hpw hr) (facN_le hm6)
    clear hg hN hc hr hpw hne hhd
    go_enter Try.func18, Try.ntmps18
    go_wp2_with (first | (go_at_call 30; refine via (i_moved _ _ _ rs [] _ 0 hR hl (HN.out _) HM.out) ?_; intro uu zz; try simp at zz) | (go_at_call 34; refine via (i_trans m _ rs _ c (hR.aft _) hm1 hm6 Hr.out hl7 HC.out) ?_; intro u2 z2; try simp at z2))
    exact bodyPost_ret (v := .tuple #[.bool c, .int .i64 0]) (by first | (simp [results, go_sem]; done) | simp [results, go_sem, ↓IntWalk.iteOmega]) rfl ⟨rfl, (by refine Ext.bel ?_; repeat (with_reducible first | exact Ext.refl _ | apply Ext.alloc | apply Ext.aft | apply Ext.drew | apply Ext.drewN | apply Ext.setCell | exact Nat.le_add_right _ _ | exact Nat.le_refl _ | (simp; done) | omega))⟩
set_option maxRecDepth 20000 in
set_option maxHeartbeats 4000000 in
theorem s_IsTrans (n : Int) (r : Value) (rs : List Int) (w : World) (h : rdI w r rs) (hl : rs.length ≤ 1048576) :
    Calls Try.prog 17 #[(.agg #[.int .i64 n, r])] w fun e w' => e = .returned (.tuple #[.bool (transF n rs).1, .int .i64 (transF n rs).2]) ∧ Below w.heap.size w w' := by
  have hR := h.alloc (Obj.cells #[.int .i64 n, r] 28)
  cases hg : groupB n rs
  · have e : transF n rs = (false, 1) := by simp [transF, hg]
    rw [e]; clear e
    go_enter Try.func17, Try.ntmps17
    go_wp2_with (first | (go_at_call 32; refine via (s_IsGroupE _ _ rs _ false hR hl hg) ?_; intro uu zz; try simp at zz))
    exact bodyPost_ret (v := .tuple #[.bool false, .int .i64 1]) (by first | (simp [results, go_sem]; done) | simp [results, go_sem, ↓IntWalk.iteOmega]) rfl ⟨rfl, (by refine Ext.bel ?_; repeat (with_reducible first | exact Ext.refl _ | apply Ext.alloc | apply Ext.aft | apply Ext.drew | apply Ext.drewN | apply Ext.setCell | exact Nat.le_add_right _ _ | exact Nat.le_refl _ | (simp; done) | omega))⟩
  · have HG := hid hg
    obtain ⟨m, rfl, hm1, hm6, hne, hhd, hr, hpw, _⟩ := group_facts hg
    obtain ⟨c, hc⟩ : ∃ c, decide ((orbF m rs 0).length = m) = c := ⟨_, rfl⟩
    have e : transF m rs = (c, 0) := by unfold transF; rw [if_pos hg]; simp only [Int.toNat_natCast]; rw [hc]
    rw [e]; clear e
    have HC := hid hc
    have Hr := hid hr
    have hl7 : rs.length ≤ 720 := Nat.le_trans (asc_len hpw hr) (facN_le hm6)
    clear hg hc hr hpw hne hhd
    go_enter Try.func17, Try.ntmps17
    go_wp2_with (first | (go_at_call 32; refine via (s_IsGroupE _ _ rs _ true hR hl HG.out) ?_; intro uu zz; try simp at zz) | (go_at_call 33; refine via (s_trans m _ rs _ c (hR.aft _) hm1 hm6 Hr.out hl7 HC.out) ?_; intro u2 z2; try simp at z2))
    exact bodyPost_ret (v := .tuple #[.bool c, .int .i64 0]) (by first | (simp [results, go_sem]; done) | simp [results, go_sem, ↓IntWalk.iteOmega]) rfl ⟨rfl, (by refine Ext.bel ?_; repeat (with_reducible first | exact Ext.refl _ | apply Ext.alloc | apply Ext.aft | apply Ext.drew | apply Ext.drewN | apply Ext.setCell | exact Nat.le_add_right _ _ | exact Nat.le_refl _ | (simp; done) | omega))⟩

/-- The orbits whose first point is among the first k. -/
def orbsF (m : Nat) (rs : List Int) (k : Nat) : List (List Int) := ((List.range k).filter fun p => decide ((orbF m rs p).getD 0 0 = (p : Int))).map (orbF m rs)
theorem orbs_succ (m : Nat) (rs : List Int) (k : Nat) : orbsF m rs (k + 1) = if (orbF m rs k).getD 0 0 = (k : Int) then orbsF m rs k ++ [orbF m rs k] else orbsF m rs k := by
  unfold orbsF
  rw [List.range_succ, List.filter_append, List.map_append]
  by_cases h : (orbF m rs k).getD 0 0 = (k : Int)
  · rw [if_pos h]; simp only [List.filter_cons, h]; simp
  · rw [if_neg h]; simp only [List.filter_cons, h]; simp
theorem orbs_le (m : Nat) (rs : List Int) (k : Nat) : (orbsF m rs k).length ≤ k := by
  unfold orbsF; rw [List.length_map]
  exact Nat.le_trans (List.length_filter_le _ _) (by simp)
theorem orb_ne {m p : Nat} {rs : List Int} (hm : m ≤ 6) (hr : ∀ x ∈ rs, 0 ≤ x ∧ x < (facN m : Int)) (hp : p < m) (hne : rs ≠ []) : 0 < (orbF m rs p).length := by
  rcases rs with _ | ⟨x, t⟩
  · exact absurd rfl hne
  · have hb := imgs_bd hm hr hp
    have : (withF m x).getD p 0 ∈ orbF m (x :: t) p := by
      unfold orbF
      rw [listedU_mem]
      have h1 : (withF m x).getD p 0 ∈ imgs m (x :: t) p := by simp [imgs]
      exact ⟨(hb _ h1).1, (hb _ h1).2, h1⟩
    exact List.length_pos_of_mem this
set_option maxRecDepth 20000 in
set_option maxHeartbeats 8000000 in
theorem i_orbits (m : Nat) (r : Value) (rs : List Int) (w : World) (h : rdI w r rs) (hne : rs ≠ []) (hm6 : m ≤ 6) (hr : ∀ x ∈ rs, 0 ≤ x ∧ x < (facN m : Int)) (hl : rs.length ≤ 720) :
    Calls Try.prog 36 #[.agg #[.int .i64 (m : Int), r]] w fun e w' => ∃ v, e = .returned v ∧ ownRR w.heap.size w' v (orbsF m rs m) ∧ Below w.heap.size w w' := by
  obtain ⟨i1, hj, hy0, hy1, hy2⟩ := info_parts infoS
  have hR := hid (h.alloc (Obj.cells #[.int .i64 (m : Int), r] 28))
  have Hr := hid hr
  have HNE := hid hne
  obtain ⟨W, hW⟩ : ∃ W, W = w.alloc (Obj.cells #[.int .i64 (m : Int), r] 28) := ⟨_, rfl⟩
  have c0 : W.cell? ⟨w.heap.size, 0, none⟩ = some (.int .i64 (m : Int)) := by rw [hW]; simp [go_sem]
  have c1 : W.cell? ⟨w.heap.size, 1, none⟩ = some r := by rw [hW]; simp [go_sem]
  have HE := hid (show Ext w.heap.size w W by rw [hW]; exact (Ext.refl _).alloc _)
  have hb0 := World.block_lt_of_cell? W _ c0
  simp only at hb0
  have HWs := hid (show W.heap.size = w.heap.size + 1 by rw [hW]; simp)
  rw [← hW] at hR
  clear hr hne h
  go_enter Try.func36, Try.ntmps36
  go_wp2_with fail
  rw [← hW]
  clear hW
  go_loopw [3, 8] (fun v i wr => ∃ (k : Nat) (es : List Value), k ≤ m ∧ i = .int .i64 k ∧ Hid (ownE W.heap.size wr v es (orbsF m rs k)) ∧ Ext W.heap.size W wr) (fun _ i _ => m - (intOf i).toNat)
  case atStart => first | exact ⟨0, [], by omega, rfl, hid (ownE.nil _ _), Ext.refl _⟩ | exact ⟨0, [], by omega, rfl, hid (by rw [← HWs.out]; exact own_made2 W), (Ext.refl _).alloc _⟩
  case round =>
    obtain ⟨k, es, hk, rfl, HO, hE1⟩ := hrel
    have d0 := hE1.1.cell (p := ⟨w.heap.size, 0, none⟩) hb0
    have d1 := hE1.1.cell (p := ⟨w.heap.size, 1, none⟩) hb0
    rw [c0] at d0
    rw [c1] at d1
    have HE1 := hid hE1
    by_cases hlt : k < m
    · have hltz : (k : Int) < (m : Int) := by omega
      obtain ⟨os, hos⟩ : ∃ os, orbF m rs k = os := ⟨_, rfl⟩
      have hon := orb_ne hm6 Hr.out hlt HNE.out
      have hsn := orbs_succ m rs k
      have hle := orbs_le m rs k
      rw [hos] at hon hsn
      have HOS := hid hos
      have HS := hid hsn
      obtain ⟨x0, hx0⟩ : ∃ x0, x0 = os.getD 0 0 := ⟨_, rfl⟩
      rw [← hx0] at hsn HS
      have HX := hid hx0
      clear hos hsn hx0 hE1
      go_wp2_with fail
      refine viaX (g := id) (i_orbitE m k _ _ rs os _ (hR.out.below HE1.out.1) hm6 hlt Hr.out hl rfl HOS.out) ?_
      intro v5 u5 z5 own5
      try simp at z5
      obtain ⟨g5, c5, hsh, hg5, _, _⟩ := own_some own5 (by intro e; rw [e] at hon; simp at hon)
      subst hsh
      have hc5 := own_cell own5 (q := 0) hon
      rw [← HX.out] at hc5
      have hol : (0 : Int) < (os.length : Int) := by omega
      have HOw := HO.out.below (below_aft wr u5)
      by_cases hq : x0 = (k : Int)
      · have hqb : (x0 == (k : Int)) = true := by simpa using hq
        have HQ := hid hq
        have e1 : Hid (orbsF m rs (k + 1) = orbsF m rs k ++ [os]) := hid (by rw [HS.out, if_pos hq])
        clear hq
        go_wp2_with (at_builtin; refine wpList_append_own _ rfl _ _ 51 rfl W.heap.size 22 i1 (.slice none 0 0) 1 24 Try.underlying51 hj hy0 hy1 hy2 rfl (by decide) _ _ _ rfl (HOw.below ((Below.refl _ _).alloc (Nat.le_refl _) _)).2.1 ⟨_, 0, none⟩ 1 1 [_] rfl rfl one_new ?c2 ?c3 ?c4 ?c5 ?_)
        case c2 => first | exact own_one own5 | (intro u hu; simp at hu; subst hu; exact own_one own5) | rfl
        case c3 => unfold maxLen; omega
        case c4 => omega
        case c5 => first | (have := HE1.out.2; simp; omega) | omega
        intro v' w1 hown' hgrow _
        have HN : Hid (ownE W.heap.size w1 v' (es ++ [.slice (some ⟨g5, 0, none⟩) os.length c5]) (orbsF m rs (k + 1))) := hid (by
          rw [e1.out]
          exact ownE.snoc (HOw.below ((Below.refl _ _).alloc (Nat.le_refl _) _)) ((own5.mono (by have := HE1.out.2; omega)).alloc _) hown' hgrow)
        have HE3 : Hid (Ext W.heap.size W w1) := hid (Ext.grown ((HE1.out.aft u5).alloc _) hgrow (ownE.row HO.out))
        clear hown' hgrow own5 HOw hc5
        go_wp2_with fail
        go_roundw
        case rel => exact ⟨k + 1, _, by omega, by go_num, HN, HE3.out⟩
        case measure => simp only [intOf]; omega
      · have hqb : (x0 == (k : Int)) = false := by simpa using hq
        have HQ := hid hq
        have e1 : Hid (orbsF m rs (k + 1) = orbsF m rs k) := hid (by rw [HS.out, if_neg hq])
        have HE3 : Hid (Ext W.heap.size W (aft wr u5)) := hid (HE1.out.aft u5)
        have HN : Hid (ownE W.heap.size (aft wr u5) _ es (orbsF m rs (k + 1))) := hid (by rw [e1.out]; exact HOw)
        clear hq own5 HOw
        go_wp2_with fail
        go_roundw
        case rel => exact ⟨k + 1, es, by omega, by go_num, HN, HE3.out⟩
        case measure => simp only [intOf]; omega
    · obtain rfl : k = m := by omega
      have hltz : ¬ (k : Int) < (k : Int) := by omega
      clear hE1
      go_wp2_with fail
      go_ret
      exact ⟨_, rfl, ⟨es, HO.out.mono HE.out.2⟩, HE.out.bel.trans (HE1.out.1.mono HE.out.2)⟩
set_option maxRecDepth 20000 in
set_option maxHeartbeats 8000000 in
theorem s_orbits (m : Nat) (r : Value) (rs : List Int) (w : World) (h : rdI w r rs) (hne : rs ≠ []) (hm6 : m ≤ 6) (hr : ∀ x ∈ rs, 0 ≤ x ∧ x < (facN m : Int)) (hl : rs.length ≤ 720) :
    Calls Try.prog 35 #[.agg #[.int .i64 (m : Int), r]] w fun e w' => ∃ v, e = .returned v ∧ ownRR w.heap.size w' v (orbsF m rs m) ∧ Below w.heap.size w w' := by
  obtain ⟨i1, hj, hy0, hy1, hy2⟩ := info_parts infoS
  have hR := hid (h.alloc (Obj.cells #[.int .i64 (m : Int), r] 28))
  have Hr := hid hr
  have HNE := hid hne
  obtain ⟨W, hW⟩ : ∃ W, W = w.alloc (Obj.cells #[.int .i64 (m : Int), r] 28) := ⟨_, rfl⟩
  have c0 : W.cell? ⟨w.heap.size, 0, none⟩ = some (.int .i64 (m : Int)) := by rw [hW]; simp [go_sem]
  have c1 : W.cell? ⟨w.heap.size, 1, none⟩ = some r := by rw [hW]; simp [go_sem]
  have HE := hid (show Ext w.heap.size w W by rw [hW]; exact (Ext.refl _).alloc _)
  have hb0 := World.block_lt_of_cell? W _ c0
  simp only at hb0
  have HWs := hid (show W.heap.size = w.heap.size + 1 by rw [hW]; simp)
  rw [← hW] at hR
  clear hr hne h
  go_enter Try.func35, Try.ntmps35
  go_wp2_with fail
  rw [← hW]
  clear hW
  go_loopw [3, 4] (fun v i wr => ∃ (k : Nat) (es : List Value), k ≤ m ∧ i = .int .i64 k ∧ Hid (ownE W.heap.size wr v es (orbsF m rs k)) ∧ Ext W.heap.size W wr) (fun _ i _ => m - (intOf i).toNat)
  case atStart => first | exact ⟨0, [], by omega, rfl, hid (ownE.nil _ _), Ext.refl _⟩ | exact ⟨0, [], by omega, rfl, hid (by rw [← HWs.out]; exact own_made2 W), (Ext.refl _).alloc _⟩
  case round =>
    obtain ⟨k, es, hk, rfl, HO, hE1⟩ := hrel
    have d0 := hE1.1.cell (p := ⟨w.heap.size, 0, none⟩) hb0
    have d1 := hE1.1.cell (p := ⟨w.heap.size, 1, none⟩) hb0
    rw [c0] at d0
    rw [c1] at d1
    have HE1 := hid hE1
    by_cases hlt : k < m
    · have hltz : (k : Int) < (m : Int) := by omega
      obtain ⟨os, hos⟩ : ∃ os, orbF m rs k = os := ⟨_, rfl⟩
      have hon := orb_ne hm6 Hr.out hlt HNE.out
      have hsn := orbs_succ m rs k
      have hle := orbs_le m rs k
      rw [hos] at hon hsn
      have HOS := hid hos
      have HS := hid hsn
      obtain ⟨x0, hx0⟩ : ∃ x0, x0 = os.getD 0 0 := ⟨_, rfl⟩
      rw [← hx0] at hsn HS
      have HX := hid hx0
      clear hos hsn hx0 hE1
      go_wp2_with fail
      refine viaX (g := id) (s_orbitE m k _ _ rs os _ (hR.out.below HE1.out.1) hm6 hlt Hr.out hl rfl HOS.out) ?_
      intro v5 u5 z5 own5
      try simp at z5
      obtain ⟨g5, c5, hsh, hg5, _, _⟩ := own_some own5 (by intro e; rw [e] at hon; simp at hon)
      subst hsh
      have hc5 := own_cell own5 (q := 0) hon
      rw [← HX.out] at hc5
      have hol : (0 : Int) < (os.length : Int) := by omega
      have HOw := HO.out.below (below_aft wr u5)
      by_cases hq : x0 = (k : Int)
      · have hqb : (x0 == (k : Int)) = true := by simpa using hq
        have HQ := hid hq
        have e1 : Hid (orbsF m rs (k + 1) = orbsF m rs k ++ [os]) := hid (by rw [HS.out, if_pos hq])
        clear hq
        go_wp2_with (at_builtin; refine wpList_append_own _ rfl _ _ 51 rfl W.heap.size 22 i1 (.slice none 0 0) 1 24 Try.underlying51 hj hy0 hy1 hy2 rfl (by decide) _ _ _ rfl (HOw.below ((Below.refl _ _).alloc (Nat.le_refl _) _)).2.1 ⟨_, 0, none⟩ 1 1 [_] rfl rfl one_new ?c2 ?c3 ?c4 ?c5 ?_)
        case c2 => first | exact own_one own5 | (intro u hu; simp at hu; subst hu; exact own_one own5) | rfl
        case c3 => unfold maxLen; omega
        case c4 => omega
        case c5 => first | (have := HE1.out.2; simp; omega) | omega
        intro v' w1 hown' hgrow _
        have HN : Hid (ownE W.heap.size w1 v' (es ++ [.slice (some ⟨g5, 0, none⟩) os.length c5]) (orbsF m rs (k + 1))) := hid (by
          rw [e1.out]
          exact ownE.snoc (HOw.below ((Below.refl _ _).alloc (Nat.le_refl _) _)) ((own5.mono (by have := HE1.out.2; omega)).alloc _) hown' hgrow)
        have HE3 : Hid (Ext W.heap.size W w1) := hid (Ext.grown ((HE1.out.aft u5).alloc _) hgrow (ownE.row HO.out))
        clear hown' hgrow own5 HOw hc5
        go_wp2_with fail
        go_roundw
        case rel => exact ⟨k + 1, _, by omega, by go_num, HN, HE3.out⟩
        case measure => simp only [intOf]; omega
      · have hqb : (x0 == (k : Int)) = false := by simpa using hq
        have HQ := hid hq
        have e1 : Hid (orbsF m rs (k + 1) = orbsF m rs k) := hid (by rw [HS.out, if_neg hq])
        have HE3 : Hid (Ext W.heap.size W (aft wr u5)) := hid (HE1.out.aft u5)
        have HN : Hid (ownE W.heap.size (aft wr u5) _ es (orbsF m rs (k + 1))) := hid (by rw [e1.out]; exact HOw)
        clear hq own5 HOw
        go_wp2_with fail
        go_roundw
        case rel => exact ⟨k + 1, es, by omega, by go_num, HN, HE3.out⟩
        case measure => simp only [intOf]; omega
    · obtain rfl : k = m := by omega
      have hltz : ¬ (k : Int) < (k : Int) := by omega
      clear hE1
      go_wp2_with fail
      go_ret
      exact ⟨_, rfl, ⟨es, HO.out.mono HE.out.2⟩, HE.out.bel.trans (HE1.out.1.mono HE.out.2)⟩
def cntF (n : Int) (rs : List Int) : Int × Int := if groupB n rs = true then (((orbsF n.toNat rs n.toNat).length : Int), 0) else (0, 1)
set_option maxRecDepth 20000 in
set_option maxHeartbeats 4000000 in
theorem i_CountOrb (n : Int) (r : Value) (rs : List Int) (w : World) (h : rdI w r rs) (hl : rs.length ≤ 1048576) :
    Calls Try.prog 20 #[(.agg #[.int .i64 n, r])] w fun e w' => e = .returned (.tuple #[.int .i64 (cntF n rs).1, .int .i64 (cntF n rs).2]) ∧ Below w.heap.size w w' := by
  have hR := h.alloc (Obj.cells #[.int .i64 n, r] 28)
  have hN : ∀ W, rdI W (.slice none 0 0) [] := fun W => ⟨none, 0, rfl, by simp [maxLen], fun h => absurd rfl h⟩
  cases hg : groupB n rs
  · have e : cntF n rs = (0, 1) := by simp [cntF, hg]
    rw [e]; clear e
    have HM := hid (show movC n rs [] = 1 by simp [movC, hg])
    have HN := hid hN
    clear hg hN
    go_enter Try.func20, Try.ntmps20
    go_wp2_with (first | (go_at_call 30; refine via (i_moved _ _ _ rs [] _ 1 hR hl (HN.out _) HM.out) ?_; intro uu zz; try simp at zz))
    exact bodyPost_ret (v := .tuple #[.int .i64 0, .int .i64 1]) (by first | (simp [results, go_sem]; done) | simp [results, go_sem, ↓IntWalk.iteOmega]) rfl ⟨rfl, (by refine Ext.bel ?_; repeat (with_reducible first | exact Ext.refl _ | apply Ext.alloc | apply Ext.aft | apply Ext.drew | apply Ext.drewN | apply Ext.setCell | exact Nat.le_add_right _ _ | exact Nat.le_refl _ | (simp; done) | omega))⟩
  · obtain ⟨m, rfl, hm1, hm6, hne, hhd, hr, hpw, _⟩ := group_facts hg
    have e : cntF m rs = (((orbsF m rs m).length : Int), 0) := by unfold cntF; rw [if_pos hg]; simp only [Int.toNat_natCast]
    rw [e]; clear e
    have HM := hid (show movC m rs [] = 0 by simp [movC, hg])
    have HN := hid hN
    have Hr := hid hr
    have HNE := hid hne
    have hl7 : rs.length ≤ 720 := Nat.le_trans (asc_len hpw hr) (facN_le hm6)
    have hol := orbs_le m rs m
    obtain ⟨os, hos⟩ : ∃ os, os = orbsF m rs m := ⟨_, rfl⟩
    have HI : Hid (∀ v W, rdI W v rs → Calls Try.prog 36 #[.agg #[.int .i64 (m : Int), v]] W fun e w' => ∃ v, e = .returned v ∧ ownRR W.heap.size w' v os ∧ Below W.heap.size W w') := hid (by rw [hos]; exact fun v W h => i_orbits m v rs W h hne hm6 hr hl7)
    rw [← hos] at hol ⊢
    clear hg hN hr hpw hne hhd hos
    go_enter Try.func20, Try.ntmps20
    go_wp2_with fail
    refine via (i_moved _ _ _ rs [] _ 0 hR hl (HN.out _) HM.out) ?_
    intro uu zz; try simp at zz
    go_wp2_with fail
    refine viaX (g := id) (HI.out _ _ (hR.aft _)) ?_
    intro v2 u2 z2 own2
    try simp at z2
    obtain ⟨a2, c2, hsh, _, _⟩ := own2.rd
    subst hsh
    go_wp2_with fail
    exact bodyPost_ret (v := .tuple #[.int .i64 os.length, .int .i64 0]) (by first | (simp [results, go_sem]; done) | simp [results, go_sem, ↓IntWalk.iteOmega]) rfl ⟨rfl, (by refine Ext.bel ?_; repeat (with_reducible first | exact Ext.refl _ | apply Ext.alloc | apply Ext.aft | apply Ext.drew | apply Ext.drewN | apply Ext.setCell | exact Nat.le_add_right _ _ | exact Nat.le_refl _ | (simp; done) | omega))⟩
set_option maxRecDepth 20000 in
set_option maxHeartbeats 4000000 in
theorem s_CountOrb (n : Int) (r : Value) (rs : List Int) (w : World) (h : rdI w r rs) (hl : rs.length ≤ 1048576) :
    Calls Try.prog 19 #[(.agg #[.int .i64 n, r])] w fun e w' => e = .returned (.tuple #[.int .i64 (cntF n rs).1, .int .i64 (cntF n rs).2]) ∧ Below w.heap.size w w' := by
  have hR := h.alloc (Obj.cells #[.int .i64 n, r] 28)
  cases hg : groupB n rs
  · have e : cntF n rs = (0, 1) := by simp [cntF, hg]
    rw [e]; clear e
    go_enter Try.func19, Try.ntmps19
    go_wp2_with (first | (go_at_call 32; refine via (s_IsGroupE _ _ rs _ false hR hl hg) ?_; intro uu zz; try simp at zz))
    exact bodyPost_ret (v := .tuple #[.int .i64 0, .int .i64 1]) (by first | (simp [results, go_sem]; done) | simp [results, go_sem, ↓IntWalk.iteOmega]) rfl ⟨rfl, (by refine Ext.bel ?_; repeat (with_reducible first | exact Ext.refl _ | apply Ext.alloc | apply Ext.aft | apply Ext.drew | apply Ext.drewN | apply Ext.setCell | exact Nat.le_add_right _ _ | exact Nat.le_refl _ | (simp; done) | omega))⟩
  · have HG := hid hg
    obtain ⟨m, rfl, hm1, hm6, hne, hhd, hr, hpw, _⟩ := group_facts hg
    have e : cntF m rs = (((orbsF m rs m).length : Int), 0) := by unfold cntF; rw [if_pos hg]; simp only [Int.toNat_natCast]
    rw [e]; clear e
    have hl7 : rs.length ≤ 720 := Nat.le_trans (asc_len hpw hr) (facN_le hm6)
    have hol := orbs_le m rs m
    obtain ⟨os, hos⟩ : ∃ os, os = orbsF m rs m := ⟨_, rfl⟩
    have HI : Hid (∀ v W, rdI W v rs → Calls Try.prog 35 #[.agg #[.int .i64 (m : Int), v]] W fun e w' => ∃ v, e = .returned v ∧ ownRR W.heap.size w' v os ∧ Below W.heap.size W w') := hid (by rw [hos]; exact fun v W h => s_orbits m v rs W h hne hm6 hr hl7)
    rw [← hos] at hol ⊢
    clear hg hr hpw hne hhd hos
    go_enter Try.func19, Try.ntmps19
    go_wp2_with fail
    refine via (s_IsGroupE _ _ rs _ true hR hl HG.out) ?_
    intro uu zz; try simp at zz
    go_wp2_with fail
    refine viaX (g := id) (HI.out _ _ (hR.aft _)) ?_
    intro v2 u2 z2 own2
    try simp at z2
    obtain ⟨a2, c2, hsh, _, _⟩ := own2.rd
    subst hsh
    go_wp2_with fail
    exact bodyPost_ret (v := .tuple #[.int .i64 os.length, .int .i64 0]) (by first | (simp [results, go_sem]; done) | simp [results, go_sem, ↓IntWalk.iteOmega]) rfl ⟨rfl, (by refine Ext.bel ?_; repeat (with_reducible first | exact Ext.refl _ | apply Ext.alloc | apply Ext.aft | apply Ext.drew | apply Ext.drewN | apply Ext.setCell | exact Nat.le_add_right _ _ | exact Nat.le_refl _ | (simp; done) | omega))⟩
end Go.Proofs.Yteolkmgdnbdccaa
