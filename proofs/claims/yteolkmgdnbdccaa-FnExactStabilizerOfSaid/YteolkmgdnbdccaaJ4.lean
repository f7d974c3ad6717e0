/- StabilizerOf: both texts. -/
import Derived.Test.YteolkmgdnbdccaaJ3
import Derived.Test.YteolkmgdnbdccaaO6
namespace Go.Proofs.Yteolkmgdnbdccaa
open Go Go.RowKit

theorem filt_snoc {m : Nat} {rs : List Int} {p : List Int → Bool} {k : Nat} (h : k < rs.length) : filtF m (rs.take (k + 1)) p = if p (withF m rs[k]) then filtF m (rs.take k) p ++ [rs[k]] else filtF m (rs.take k) p := by
  unfold filtF
  rw [take_snocI _ _ h, List.filter_append]
  cases hb : p (withF m rs[k]) <;> simp only [List.filter_cons, hb] <;> simp
theorem filt_le (m : Nat) (rs : List Int) (p : List Int → Bool) : (filtF m rs p).length ≤ rs.length := List.length_filter_le _ _
def stays (q : Nat) (a : List Int) : Bool := decide (a.getD q 0 = (q : Int))
def stabF (n : Int) (rs : List Int) (p : Int) : List Int × Int × Int := if groupB n rs = true then (if inB p 0 (n - 1) = true then (filtF n.toNat rs (stays p.toNat), n, 0) else ([], 0, 2)) else ([], 0, 1)
theorem stabF_len (n : Int) (rs : List Int) (p : Int) : (stabF n rs p).1.length ≤ 1000 := by
  unfold stabF
  split
  · rename_i h
    obtain ⟨m, rfl, _, hm6, _, _, hr, hpw, _⟩ := group_facts h
    split
    · exact Nat.le_trans (filt_le _ _ _) (Nat.le_trans (asc_len hpw hr) (by have := facN_le hm6; omega))
    · simp
  · simp
theorem keep_stab {m q : Nat} {w : World} {xss : List (List Int)} {pb : Nat} (hq : q < m) (hx : ∀ xs ∈ xss, xs.length = m) (hc : w.cell? ⟨pb, 0, none⟩ = some (.int .i64 (q : Int))) : keepR 39 #[] #[.pointer (some ⟨pb, 0, none⟩)] (stays q) xss w := by
  intro W v xs hb hx2 hv
  have hc' : W.cell? ⟨pb, 0, none⟩ = some (.int .i64 (q : Int)) := by rw [hb.cell (p := ⟨pb, 0, none⟩) (World.block_lt_of_cell? w _ hc)]; exact hc
  have hl := hx xs hx2
  have hpb := World.block_lt_of_cell? W _ hc'
  obtain ⟨g, cp, hsh, hg, _, _⟩ := own_some hv (by intro e; rw [e] at hl; simp at hl; omega)
  rw [hl] at hsh
  subst hsh
  obtain ⟨x, hx⟩ : ∃ x, x = xs.getD q 0 := ⟨_, rfl⟩
  have hcc := own_cell hv (q := q) (by omega)
  rw [← hx] at hcc
  have hqz : (q : Int) < (m : Int) := by omega
  change Calls Try.prog 39 #[.slice (some ⟨g, 0, none⟩) m cp, .pointer (some ⟨pb, 0, none⟩)] W fun e w' => e = .returned (.bool (stays q xs)) ∧ Below W.heap.size W w'
  unfold stays
  rw [← hx]
  have hxq : decide (x = (q : Int)) = (x == (q : Int)) := by rw [Bool.eq_iff_iff, decide_eq_true_eq, beq_iff_eq]
  rw [hxq]
  clear hx hxq hv
  go_enter Try.func39, Try.ntmps39
  go_wp2_with fail
  refine wp_region_calm (by kernel_rfl) (by kernel_rfl) ?_
  repeat (go_big_quiet_step (fail))
  refine wpQuiet_nil ?_; intro uq zq; try simp at zq
  go_wp2_with fail
  go_ret
  exact ⟨rfl, (by refine Ext.bel ?_; repeat (with_reducible first | exact Ext.refl _ | apply Ext.alloc | apply Ext.aft | apply Ext.drew | apply Ext.drewN | apply Ext.setCell | exact Nat.le_add_right _ _ | exact Nat.le_refl _ | (simp; done) | omega))⟩
theorem i_filteredE (m : Nat) (r : Value) (rs : List Int) (gk : Nat) (lb : Array Value) (p : List Int → Bool) (w : World) (zs : List Int) (ek : ∀ args w, (callFunc gk args).run Try.prog w = .ok (.enter gk args) w) (hk : keepR gk #[] lb p (memF m rs) w) (h : rdI w r rs) (hm6 : m ≤ 6) (hr : ∀ x ∈ rs, 0 ≤ x ∧ x < (facN m : Int)) (hpw : rs.Pairwise (· < ·)) (hl : rs.length ≤ 720) (hz : filtF m rs p = zs) :
    Calls Try.prog 38 #[.agg #[.int .i64 (m : Int), r], .func (.func gk) #[] lb] w fun e w' => ∃ s, e = .returned (.agg #[.int .i64 (m : Int), s]) ∧ ownR w.heap.size w' s zs ∧ Below w.heap.size w w' := by
  subst hz; exact i_filtered m r rs gk lb p w ek hk h hm6 hr hpw hl
theorem mem_len {m : Nat} {rs : List Int} (hm6 : m ≤ 6) (hr : ∀ x ∈ rs, 0 ≤ x ∧ x < (facN m : Int)) : ∀ xs ∈ memF m rs, xs.length = m := fun xs hx => by
  obtain ⟨x, hx2, rfl⟩ := List.mem_map.1 hx
  exact with_len hm6 (hr x hx2)
set_option maxRecDepth 20000 in
set_option maxHeartbeats 8000000 in
theorem i_StabilizerOf (n p : Int) (r : Value) (rs : List Int) (w : World) (h : rdI w r rs) (hl : rs.length ≤ 1048576) :
    Calls Try.prog 22 #[(.agg #[.int .i64 n, r]), .int .i64 p] w fun e w' => ∃ v, e = .returned (.tuple #[.agg #[.int .i64 (stabF n rs p).2.1, v], .int .i64 (stabF n rs p).2.2]) ∧ ownR w.heap.size w' v (stabF n rs p).1 ∧ Below w.heap.size w w' := by
  have h1 := ((h.alloc (Obj.cells #[.int .i64 n, r] 28)).alloc (Obj.cells #[.int .i64 p] 2)).alloc (Obj.cells #[.int .i64 0, .slice none 0 0] 28)
  have hR := h1.alloc (Obj.cells #[.int .i64 p] 2)
  have hV : rdI ((((w.alloc (Obj.cells #[.int .i64 n, r] 28)).alloc (Obj.cells #[.int .i64 p] 2)).alloc (Obj.cells #[.int .i64 0, .slice none 0 0] 28)).alloc (Obj.cells #[.int .i64 p] 2)) (.slice (some ⟨w.heap.size + 1 + 1 + 1, 0, none⟩) 1 1) [p] := ⟨_, 1, rfl, by simp [maxLen], fun _ => ⟨_, _, rfl, fun i hi => by
    obtain rfl : i = 0 := by simp at hi; omega
    rw [alloc_cell, if_pos (by simp)]; rfl⟩⟩
  cases hg : groupB n rs
  · have e : stabF n rs p = ([], 0, 1) := by simp [stabF, hg]
    rw [e]; clear e
    have HM := hid (show movC n rs [p] = 1 by simp [movC, hg])
    clear hg
    go_enter Try.func22, Try.ntmps22
    go_wp2_with (first | (go_at_call 30; refine via (i_moved _ _ _ rs [p] _ 1 hR hl hV HM.out) ?_; intro uu zz; try simp at zz))
    exact bodyPost_ret (v := .tuple #[.agg #[.int .i64 0, .slice none 0 0], .int .i64 1]) (by first | (simp [results, go_sem]; done) | simp [results, go_sem, ↓IntWalk.iteOmega]) rfl ⟨_, rfl, ownR.nil _ _, (by refine Ext.bel ?_; repeat (with_reducible first | exact Ext.refl _ | apply Ext.alloc | apply Ext.aft | apply Ext.drew | apply Ext.drewN | apply Ext.setCell | exact Nat.le_add_right _ _ | exact Nat.le_refl _ | (simp; done) | omega))⟩
  obtain ⟨m, rfl, hm1, hm6, hne, hhd, hr, hpw, _⟩ := group_facts hg
  have hl7 : rs.length ≤ 720 := Nat.le_trans (asc_len hpw hr) (facN_le hm6)
  have Hr := hid hr
  have Hpw := hid hpw
  cases hp : inB p 0 ((m : Int) - 1)
  · have e : stabF m rs p = ([], 0, 2) := by unfold stabF; rw [if_pos hg, if_neg (by rw [hp]; simp)]
    rw [e]; clear e
    have HM := hid (show movC m rs [p] = 2 by simp [movC, hg, outP, hp])
    clear hg hp hr hpw hne hhd
    go_enter Try.func22, Try.ntmps22
    go_wp2_with (first | (go_at_call 30; refine via (i_moved _ _ _ rs [p] _ 2 hR hl hV HM.out) ?_; intro uu zz; try simp at zz))
    exact bodyPost_ret (v := .tuple #[.agg #[.int .i64 0, .slice none 0 0], .int .i64 2]) (by first | (simp [results, go_sem]; done) | simp [results, go_sem, ↓IntWalk.iteOmega]) rfl ⟨_, rfl, ownR.nil _ _, (by refine Ext.bel ?_; repeat (with_reducible first | exact Ext.refl _ | apply Ext.alloc | apply Ext.aft | apply Ext.drew | apply Ext.drewN | apply Ext.setCell | exact Nat.le_add_right _ _ | exact Nat.le_refl _ | (simp; done) | omega))⟩
  · have hpr := inB_iff.1 hp
    obtain ⟨q, rfl⟩ : ∃ q : Nat, p = q := ⟨p.toNat, by omega⟩
    obtain ⟨os, hos⟩ : ∃ os, filtF m rs (stays q) = os := ⟨_, rfl⟩
    have e : stabF m rs q = (os, (m : Int), 0) := by unfold stabF; rw [if_pos hg, if_pos hp]; simp only [Int.toNat_natCast]; rw [hos]
    rw [e]; clear e
    have HM := hid (show movC m rs [(q : Int)] = 0 by simp [movC, hg, outP, hp])
    have HOS := hid hos
    have ek : ∀ args w, (callFunc 39 args).run Try.prog w = .ok (.enter 39 args) w := entersT Try.func39 (by kernel_rfl) rfl
    have Ek := hid ek
    clear hg hp hr hpw hne hhd hos ek
    go_enter Try.func22, Try.ntmps22
    go_wp2_with (first | (go_at_call 30; refine via (i_moved _ _ _ rs [(q : Int)] _ 0 hR hl hV HM.out) ?_; intro uu zz; try simp at zz))
    have HK := hid (keep_stab (m := m) (q := q) (xss := memF m rs) (pb := w.heap.size + 1) (w := aft ((((w.alloc (Obj.cells #[.int .i64 (m : Int), r] 28)).alloc (Obj.cells #[.int .i64 (q : Int)] 2)).alloc (Obj.cells #[.int .i64 0, .slice none 0 0] 28)).alloc (Obj.cells #[.int .i64 (q : Int)] 2)) uu) (by omega) (mem_len hm6 Hr.out) (by simp [go_sem]))
    refine viaG (i_filteredE m _ rs _ _ (stays q) _ os Ek.out HK.out (hR.aft _) hm6 Hr.out Hpw.out hl7 HOS.out) ?_
    intro v2 u2 z2 own2
    try simp at z2
    obtain ⟨a2, c2, hsh, _, _⟩ := own2.rd
    subst hsh
    go_wp2_with fail
    exact bodyPost_ret (v := .tuple #[.agg #[.int .i64 (m : Int), .slice a2 os.length c2], .int .i64 0]) (by first | (simp [results, go_sem]; done) | simp [results, go_sem, ↓IntWalk.iteOmega]) rfl ⟨_, rfl, ((own2.setCell _ _ _ _ (by omega)).setCell _ _ _ _ (by omega)).mono (by omega), (by refine Ext.bel ?_; repeat (with_reducible first | exact Ext.refl _ | apply Ext.alloc | apply Ext.aft | apply Ext.drew | apply Ext.drewN | apply Ext.setCell | exact Nat.le_add_right _ _ | exact Nat.le_refl _ | (simp; done) | omega))⟩
set_option maxRecDepth 20000 in
set_option maxHeartbeats 8000000 in
theorem s_StabilizerOf (n p : Int) (r : Value) (rs : List Int) (w : World) (h : rdI w r rs) (hl : rs.length ≤ 1048576) :
    Calls Try.prog 21 #[(.agg #[.int .i64 n, r]), .int .i64 p] w fun e w' => ∃ v, e = .returned (.tuple #[.agg #[.int .i64 (stabF n rs p).2.1, v], .int .i64 (stabF n rs p).2.2]) ∧ ownR w.heap.size w' v (stabF n rs p).1 ∧ Below w.heap.size w w' := by
  obtain ⟨i0, hi, hz0, hz1, hz2⟩ := info_parts infoI
  have hR := (h.alloc (Obj.cells #[.int .i64 n, r] 28)).alloc (Obj.cells #[.int .i64 0, .slice none 0 0] 28)
  cases hg : groupB n rs
  · have e : stabF n rs p = ([], 0, 1) := by simp [stabF, hg]
    rw [e]; clear e
    have HM := hid (show movC n rs [p] = 1 by simp [movC, hg])
    clear hg
    go_enter Try.func21, Try.ntmps21
    go_wp2_with (first | (go_at_call 27; refine via (s_code23 _ p _ rs _ 1 hR hl HM.out) ?_; intro uu zz; try simp at zz))
    exact bodyPost_ret (v := .tuple #[.agg #[.int .i64 0, .slice none 0 0], .int .i64 1]) (by first | (simp [results, go_sem]; done) | simp [results, go_sem, ↓IntWalk.iteOmega]) rfl ⟨_, rfl, ownR.nil _ _, (by refine Ext.bel ?_; repeat (with_reducible first | exact Ext.refl _ | apply Ext.alloc | apply Ext.aft | apply Ext.drew | apply Ext.drewN | apply Ext.setCell | exact Nat.le_add_right _ _ | exact Nat.le_refl _ | (simp; done) | omega))⟩
  obtain ⟨m, rfl, hm1, hm6, hne, hhd, hr, hpw, _⟩ := group_facts hg
  have hl7 : rs.length ≤ 720 := Nat.le_trans (asc_len hpw hr) (facN_le hm6)
  have Hr := hid hr
  cases hp : inB p 0 ((m : Int) - 1)
  · have e : stabF m rs p = ([], 0, 2) := by unfold stabF; rw [if_pos hg, if_neg (by rw [hp]; simp)]
    rw [e]; clear e
    have HM := hid (show movC m rs [p] = 2 by simp [movC, hg, outP, hp])
    clear hg hp hr hpw hne hhd
    go_enter Try.func21, Try.ntmps21
    go_wp2_with (first | (go_at_call 27; refine via (s_code23 _ p _ rs _ 2 hR hl HM.out) ?_; intro uu zz; try simp at zz))
    exact bodyPost_ret (v := .tuple #[.agg #[.int .i64 0, .slice none 0 0], .int .i64 2]) (by first | (simp [results, go_sem]; done) | simp [results, go_sem, ↓IntWalk.iteOmega]) rfl ⟨_, rfl, ownR.nil _ _, (by refine Ext.bel ?_; repeat (with_reducible first | exact Ext.refl _ | apply Ext.alloc | apply Ext.aft | apply Ext.drew | apply Ext.drewN | apply Ext.setCell | exact Nat.le_add_right _ _ | exact Nat.le_refl _ | (simp; done) | omega))⟩
  · have hpr := inB_iff.1 hp
    obtain ⟨q, rfl⟩ : ∃ q : Nat, p = q := ⟨p.toNat, by omega⟩
    obtain ⟨os, hos⟩ : ∃ os, filtF m rs (stays q) = os := ⟨_, rfl⟩
    have e : stabF m rs q = (os, (m : Int), 0) := by unfold stabF; rw [if_pos hg, if_pos hp]; simp only [Int.toNat_natCast]; rw [hos]
    rw [e]; clear e
    have HM := hid (show movC m rs [(q : Int)] = 0 by simp [movC, hg, outP, hp])
    have HOS := hid hos
    have H0 := hid h
    obtain ⟨a0, cap0, hsh0, _, _⟩ := id h
    subst hsh0
    clear hg hp hr hpw hne hhd hos h
    go_enter Try.func21, Try.ntmps21
    go_wp2_with (first | (go_at_call 27; refine via (s_code23 _ (q : Int) _ rs _ 0 hR hl HM.out) ?_; intro uu zz; try simp at zz))
    refine viaX (g := id) (s_elements m _ rs _ (hR.aft _) hm6 Hr.out (by omega)) ?_
    intro v2 u2 z2 own2
    try simp at z2
    obtain ⟨W, hW⟩ : ∃ W, W = aft (aft ((w.alloc (Obj.cells #[.int .i64 (m : Int), .slice a0 rs.length cap0] 28)).alloc (Obj.cells #[.int .i64 0, .slice none 0 0] 28)) uu) u2 := ⟨_, rfl⟩
    have HE : Hid (Ext w.heap.size w W) := hid (by rw [hW]; exact (by repeat (with_reducible first | exact Ext.refl _ | apply Ext.alloc | apply Ext.aft | apply Ext.drew | apply Ext.drewN | apply Ext.setCell | exact Nat.le_add_right _ _ | exact Nat.le_refl _ | (simp; done) | omega)))
    have c0 : W.cell? ⟨w.heap.size, 0, none⟩ = some (.int .i64 (m : Int)) := by rw [hW]; simp [go_sem, ↓IntWalk.iteOmega]
    have c1 : W.cell? ⟨w.heap.size, 1, none⟩ = some (.slice a0 rs.length cap0) := by rw [hW]; simp [go_sem, ↓IntWalk.iteOmega]
    have hb0 := World.block_lt_of_cell? W _ c0
    have hres : resOK (w.heap.size + 1) W := by
      intro k hk
      obtain rfl | rfl : k = 0 ∨ k = 1 := by omega
      all_goals (rw [hW]; simp [go_sem, ↓IntWalk.iteOmega])
    have hres1 : w.heap.size + 1 < W.heap.size := by rw [hW]; omega
    have HRW := hid (show rdI W (.slice a0 rs.length cap0) rs by rw [hW]; exact (hR.aft _).aft _)
    have own2' := own2.rd
    rw [← hW] at own2' z2 ⊢
    obtain ⟨am, cm, hv2, hmm, hcm⟩ := own2'
    rw [memF_len] at hv2 hmm
    subst hv2
    have Hcm := hid hcm
    have HRES := hid hres
    simp only at hb0
    clear hW own2 hcm hmm hR hres zz
    go_wp2_with fail
    go_loopw [8, 9] (fun o i wr => ∃ k : Nat, k ≤ rs.length ∧ i = .int .i64 k ∧ Hid (ownR W.heap.size wr o (filtF m (rs.take k) (stays q))) ∧ Ext W.heap.size W wr) (fun _ i _ => rs.length - (intOf i).toNat)
    case atStart => exact ⟨0, by omega, rfl, hid (own_made W), (Ext.refl _).alloc _⟩
    case round =>
      obtain ⟨k, hk, rfl, HO, hE1⟩ := hrel
      have HE1 := hid hE1
      have d0 := hE1.1.cell (p := ⟨w.heap.size, 0, none⟩) hb0
      have d1 := hE1.1.cell (p := ⟨w.heap.size, 1, none⟩) hb0
      rw [c0] at d0
      rw [c1] at d1
      by_cases hlt : k < rs.length
      · have hltz : (k : Int) < (rs.length : Int) := by omega
        have hnem : memF m rs ≠ [] := by intro e; have := memF_len m rs; rw [e] at this; simp at this; omega
        obtain ⟨bm, om, rfl, hcel⟩ := Hcm.out hnem
        obtain ⟨e1, hc1, ho1⟩ := hcel k (by rw [memF_len]; exact hlt)
        have hb1 := World.block_lt_of_cell? W _ hc1
        have hc2 := hE1.1.cell (p := ⟨bm, om + k, none⟩) hb1
        rw [hc1] at hc2
        have em1 : (memF m rs)[k]'(by rw [memF_len]; exact hlt) = withF m rs[k] := by simp [memF]
        rw [em1] at ho1
        have hal := (with_ok hm6 (Hr.out _ (List.getElem_mem hlt)).1 (Hr.out _ (List.getElem_mem hlt)).2).len
        obtain ⟨g1, c1', hsh, hg1, _, _⟩ := own_some ho1 (by intro e; rw [e] at hal; simp at hal; omega)
        rw [hal] at hsh
        subst hsh
        have hcp := own_cell ho1 (q := q) (by rw [hal]; omega)
        have hcp2 := hE1.1.cell (p := ⟨g1, q, none⟩) hg1
        rw [hcp] at hcp2
        have hsn := filt_snoc (m := m) (p := stays q) hlt
        obtain ⟨x, hx⟩ : ∃ x, x = (withF m rs[k]).getD q 0 := ⟨_, rfl⟩
        have hst : stays q (withF m rs[k]) = decide (x = (q : Int)) := by unfold stays; rw [hx]
        rw [hst] at hsn
        rw [← hx] at hcp2
        obtain ⟨b0, o0, ha0⟩ : ∃ b o, a0 = some ⟨b, o, none⟩ := by
          obtain ⟨a', c', he, _, hc⟩ := HRW.out
          injection he with he1
          obtain ⟨b, o, e, _⟩ := hc (by intro e; subst e; simp at hlt)
          exact ⟨b, o, by rw [he1, e]⟩
        subst ha0
        have hrk := rd_cells HRW.out k hlt
        have hbk := World.block_lt_of_cell? W _ hrk
        have hrk2 := hE1.1.cell (p := ⟨b0, o0 + k, none⟩) hbk
        rw [hrk] at hrk2
        obtain ⟨y, hy⟩ : ∃ y, y = rs.getD k 0 := ⟨_, rfl⟩
        have hyk : rs[k] = y := by rw [hy, List.getD, List.getElem?_eq_getElem hlt]; rfl
        rw [← hy] at hrk2
        rw [hyk] at hsn
        have hqz : (q : Int) < (m : Int) := by omega
        have hle := filt_le m (rs.take k) (stays q)
        have hle2 : (filtF m (rs.take k) (stays q)).length ≤ 720 := by rw [List.length_take] at hle; omega
        have hown := HO.out
        by_cases hq : x = (q : Int)
        · have hqb : (x == (q : Int)) = true := by simpa using hq
          have HS := hid (show filtF m (rs.take (k + 1)) (stays q) = filtF m (rs.take k) (stays q) ++ [y] by rw [hsn]; simp [hq])
          have HQ := hid hq
          clear hq hsn hx hst hy hyk hcel em1 hnem ho1 hc1 hcp hal hE1 hrk hle
          go_wp2_with (at_builtin; refine wpList_append_own _ rfl _ _ 22 rfl (W.heap.size) 2 i0 (.int .i64 0) 1 8 Try.underlying22 hi hz0 hz1 hz2 rfl (by decide) _ _ _ rfl (hown.alloc _) ⟨_, 0, none⟩ 1 1 [.int .i64 (y)] rfl rfl ?c1 ?c2 ?c3 ?c4 ?c5 ?_)
          try case c1 => exact cell_one_new _ _ _
          case c2 => first | rfl | (intro u hu; simp at hu; subst hu; rfl)
          case c3 => unfold maxLen; omega
          case c4 => omega
          case c5 => first | (have := HE1.out.2; simp; omega) | omega
          intro v' w1 hown' hgrow _
          have HN : Hid (ownR W.heap.size w1 v' (filtF m (rs.take (k + 1)) (stays q))) := hid (by rw [HS.out]; exact ownR.snoc hown')
          have HE3 : Hid (Ext W.heap.size W w1) := hid (ext_grown (HE1.out.alloc _) hgrow (own_row_ge hown))
          clear hown' hgrow hown
          go_wp2_with fail
          go_roundw
          case rel => exact ⟨k + 1, by omega, by go_num, HN, HE3.out⟩
          case measure => simp only [intOf]; omega
        · have hqb : (x == (q : Int)) = false := by simpa using hq
          have HS := hid (show filtF m (rs.take (k + 1)) (stays q) = filtF m (rs.take k) (stays q) by rw [hsn]; simp [hq])
          have HQ := hid hq
          clear hq hsn hx hst hy hyk hcel em1 hnem ho1 hc1 hcp hal hE1 hrk hle
          go_wp2_with fail
          go_roundw
          case rel => exact ⟨k + 1, by omega, by go_num, hid (by rw [HS.out]; exact HO.out), HE1.out⟩
          case measure => simp only [intOf]; omega
      · obtain rfl : k = rs.length := by omega
        rw [List.take_length, HOS.out] at HO
        have hltz : ¬ (rs.length : Int) < (rs.length : Int) := by omega
        have hR10 := HRES.out.below hE1.1 hres1
        obtain ⟨y0, hy0⟩ := Option.isSome_iff_exists.1 (hR10 0 (by omega)).2
        obtain ⟨y1, hy1⟩ := Option.isSome_iff_exists.1 (hR10 1 (by omega)).2
        have hf0 := (hR10 0 (by omega)).1
        have hf1 := (hR10 1 (by omega)).1
        obtain ⟨a9, c9, hsh9, _, _⟩ := HO.out.rd
        subst hsh9
        have hEs := HE1.out.2
        clear hE1 hR10
        go_wp2_with fail
        exact bodyPost_ret (v := .tuple #[.agg #[.int .i64 (m : Int), .slice a9 os.length c9], .int .i64 0]) (by simp [results, go_sem, hy0, hy1]) rfl ⟨_, rfl, ((HO.out.setCell _ _ _ _ hres1).setCell _ _ _ _ hres1).mono HE.out.2, Ext.bel (((HE.out.below HE1.out.1).setCell _ _ _ _ (by omega)).setCell _ _ _ _ (by omega))⟩
end Go.Proofs.Yteolkmgdnbdccaa
