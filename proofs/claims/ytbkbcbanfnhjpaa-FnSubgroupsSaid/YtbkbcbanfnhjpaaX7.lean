/- MeetGroups: both texts (V2 beside P8: their common lemma stands there). -/
import Derived.Test.YtbkbcbanfnhjpaaV1
import Derived.Test.YtbkbcbanfnhjpaaP8
namespace Go.Proofs.Ytbkbcbanfnhjpaa
open Go Go.RowKit

def meetF (n : Int) (rs : List Int) (m : Int) (ss : List Int) : List Int × Int × Int := if twoC n rs m ss = 0 then (commonL rs ss, n, 0) else ([], 0, twoC n rs m ss)
theorem meetF_len (n : Int) (rs : List Int) (m : Int) (ss : List Int) : (meetF n rs m ss).1.length ≤ 1000 := by
  unfold meetF
  split
  · rename_i h
    obtain ⟨hg, _, _⟩ := two_zero h
    obtain ⟨m, rfl, _, hm6, _, _, hr, hpw, _⟩ := group_facts hg
    exact Nat.le_trans (common_le _ _) (Nat.le_trans (asc_len hpw hr) (by have := facN_le hm6; omega))
  · simp
theorem filt_common {m : Nat} {rs ss : List Int} (hm6 : m ≤ 6) (hr : ∀ x ∈ rs, 0 ≤ x ∧ x < (facN m : Int)) : filtF m rs (fun X => ss.contains (rankF X)) = commonL rs ss := by
  unfold filtF commonL
  refine List.filter_congr fun x hx => ?_
  show ss.contains (rankF (withF m x)) = ss.contains x
  rw [(with_ok hm6 (hr x hx).1 (hr x hx).2).rank]
theorem keep_has {m : Nat} {w : World} {s : Value} {rs ss : List Int} (h : rdI w s ss) (hm6 : m ≤ 6) (hr : ∀ x ∈ rs, 0 ≤ x ∧ x < (facN m : Int)) (hne : ss ≠ []) (hl : ss.length ≤ 1048576) (hs : ss.Pairwise (· < ·)) : keepR 63 #[.agg #[.int .i64 (m : Int), s]] #[] (fun X => ss.contains (rankF X)) (memF m rs) w := by
  intro W v X hb hX hv
  have hX2 : ∃ y ∈ rs, withF m y = X := by simpa [memF] using hX
  obtain ⟨y, hy, rfl⟩ := hX2
  have hwy := with_ok hm6 (hr _ hy).1 (hr _ hy).2
  exact i_hasE (m : Int) s v ss (withF m y) W _ (h.below hb) hne hl hs hv (by rw [hwy.len]; exact hm6) rfl
theorem i_filteredVE (hg : Value) (m : Nat) (r : Value) (rs : List Int) (gk : Nat) (p : List Int → Bool) (w : World) (zs : List Int) (ek : ∀ args w, (callFunc gk args).run Try.prog w = .ok (.enter gk args) w) (hk : keepR gk #[hg] #[] p (memF m rs) w) (h : rdI w r rs) (hm6 : m ≤ 6) (hr : ∀ x ∈ rs, 0 ≤ x ∧ x < (facN m : Int)) (hpw : rs.Pairwise (· < ·)) (hl : rs.length ≤ 720) (hz : filtF m rs p = zs) :
    Calls Try.prog 54 #[.agg #[.int .i64 (m : Int), r], .func (.func gk) #[hg] #[]] w fun e w' => ∃ s, e = .returned (.agg #[.int .i64 (m : Int), s]) ∧ ownR w.heap.size w' s zs ∧ Below w.heap.size w w' := by
  subst hz; exact i_filteredV hg m r rs gk p w ek hk h hm6 hr hpw hl
set_option maxRecDepth 20000 in
set_option maxHeartbeats 8000000 in
theorem i_Meet (n m : Int) (r s : Value) (rs ss : List Int) (w : World) (A : List Int) (P C : Int) (h : rdI w r rs) (hl : rs.length ≤ 1048576) (h2 : rdI w s ss) (hl2 : ss.length ≤ 1048576) (hF : meetF n rs m ss = (A, P, C)) :
    Calls Try.prog 17 #[(.agg #[.int .i64 n, r]), (.agg #[.int .i64 m, s])] w fun e w' => ∃ v, e = .returned (.tuple #[.agg #[.int .i64 P, v], .int .i64 C]) ∧ ownR w.heap.size w' v A ∧ Below w.heap.size w w' := by
  have hR := ((h.alloc (Obj.cells #[.int .i64 n, r] 26)).alloc (Obj.cells #[.int .i64 m, s] 26)).alloc (Obj.cells #[.int .i64 0, .slice none 0 0] 26)
  have hS := ((h2.alloc (Obj.cells #[.int .i64 n, r] 26)).alloc (Obj.cells #[.int .i64 m, s] 26)).alloc (Obj.cells #[.int .i64 0, .slice none 0 0] 26)
  by_cases h0 : twoC n rs m ss = 0
  · have e : (commonL rs ss, n, (0 : Int)) = (A, P, C) := by rw [← hF]; unfold meetF; rw [if_pos h0]
    injection e with e1 e2
    injection e2 with e3 e4
    subst e3
    subst e4
    obtain ⟨hg, hg2, rfl⟩ := two_zero h0
    obtain ⟨m, rfl, hm1, hm6, hne, hhd, hr, hpw, _⟩ := group_facts hg
    obtain ⟨m', e5, _, _, hne2, _, hr2, hpw2, _⟩ := group_facts hg2
    have hl7 : rs.length ≤ 720 := Nat.le_trans (asc_len hpw hr) (facN_le hm6)
    have Hr := hid hr
    have Hpw := hid hpw
    have HC := hid h0
    have HZ : Hid (filtF m rs (fun X => ss.contains (rankF X)) = A) := hid (by rw [filt_common hm6 hr]; exact e1)
    have HNE2 := hid hne2
    have HPW2 := hid hpw2
    have ek : ∀ args w, (callFunc 63 args).run Try.prog w = .ok (.enter 63 args) w := entersT Try.func63 (by kernel_rfl) rfl
    have Ek := hid ek
    clear h0 e1 hF hg hg2 hr hpw hne hhd hne2 hr2 hpw2 e5 ek
    go_enter Try.func17, Try.ntmps17
    go_wp2_with (first | (go_at_call 62; refine via (i_two _ _ _ _ rs ss _ 0 hR hl hS hl2 HC.out) ?_; intro uu zz; try simp at zz))
    refine viaG (i_filteredVE (.agg #[.int .i64 (m : Int), s]) m r rs _ (fun X => ss.contains (rankF X)) _ A Ek.out (keep_has (hS.aft _) hm6 Hr.out HNE2.out hl2 HPW2.out) (hR.aft _) hm6 Hr.out Hpw.out hl7 HZ.out) ?_
    intro v2 u2 z2 own2
    try simp at z2
    obtain ⟨a2, c2, hsh, _, _⟩ := own2.rd
    subst hsh
    go_wp2_with fail
    exact bodyPost_ret (v := .tuple #[.agg #[.int .i64 (m : Int), .slice a2 A.length c2], .int .i64 0]) (by first | (simp [results, go_sem]; done) | simp [results, go_sem, ↓IntWalk.iteOmega]) rfl ⟨_, rfl, ((own2.setCell _ _ _ _ (by omega)).setCell _ _ _ _ (by omega)).mono (by omega), (by refine Ext.bel ?_; repeat (with_reducible first | exact Ext.refl _ | apply Ext.alloc | apply Ext.aft | apply Ext.drew | apply Ext.drewN | apply Ext.setCell | exact Nat.le_add_right _ _ | exact Nat.le_refl _ | (simp; done) | omega))⟩
  · have e : (([] : List Int), (0 : Int), twoC n rs m ss) = (A, P, C) := by rw [← hF]; unfold meetF; rw [if_neg h0]
    injection e with e1 e2
    injection e2 with e3 e4
    subst e1
    subst e3
    have hcn : (C != 0) = true := by rw [← e4]; simpa using h0
    have HC := hid e4
    clear h0 e4 hF
    go_enter Try.func17, Try.ntmps17
    go_wp2_with (first | (go_at_call 62; refine via (i_two _ _ _ _ rs ss _ C hR hl hS hl2 HC.out) ?_; intro uu zz; try simp at zz))
    exact bodyPost_ret (v := .tuple #[.agg #[.int .i64 0, .slice none 0 0], .int .i64 C]) (by first | (simp [results, go_sem]; done) | simp [results, go_sem, ↓IntWalk.iteOmega]) rfl ⟨_, rfl, ownR.nil _ _, (by refine Ext.bel ?_; repeat (with_reducible first | exact Ext.refl _ | apply Ext.alloc | apply Ext.aft | apply Ext.drew | apply Ext.drewN | apply Ext.setCell | exact Nat.le_add_right _ _ | exact Nat.le_refl _ | (simp; done) | omega))⟩
set_option maxRecDepth 20000 in
set_option maxHeartbeats 8000000 in
theorem s_Meet (n m : Int) (r s : Value) (rs ss : List Int) (w : World) (A : List Int) (P C : Int) (h : rdI w r rs) (hl : rs.length ≤ 1048576) (h2 : rdI w s ss) (hl2 : ss.length ≤ 1048576) (hF : meetF n rs m ss = (A, P, C)) :
    Calls Try.prog 18 #[(.agg #[.int .i64 n, r]), (.agg #[.int .i64 m, s])] w fun e w' => ∃ v, e = .returned (.tuple #[.agg #[.int .i64 P, v], .int .i64 C]) ∧ ownR w.heap.size w' v A ∧ Below w.heap.size w w' := by
  have hR := ((h.alloc (Obj.cells #[.int .i64 n, r] 26)).alloc (Obj.cells #[.int .i64 m, s] 26)).alloc (Obj.cells #[.int .i64 0, .slice none 0 0] 26)
  have hS := ((h2.alloc (Obj.cells #[.int .i64 n, r] 26)).alloc (Obj.cells #[.int .i64 m, s] 26)).alloc (Obj.cells #[.int .i64 0, .slice none 0 0] 26)
  by_cases h0 : twoC n rs m ss = 0
  · have e : (commonL rs ss, n, (0 : Int)) = (A, P, C) := by rw [← hF]; unfold meetF; rw [if_pos h0]
    injection e with e1 e2
    injection e2 with e3 e4
    subst e3
    subst e4
    obtain ⟨hg, hg2, rfl⟩ := two_zero h0
    obtain ⟨m, rfl, hm1, hm6, hne, hhd, hr, hpw, _⟩ := group_facts hg
    obtain ⟨m', e5, _, _, hne2, _, hr2, hpw2, _⟩ := group_facts hg2
    obtain rfl : m = m' := by omega
    have Hr := hid hr
    have Hr2 := hid hr2
    have HC := hid h0
    have HZ := hid e1
    obtain ⟨a0, cap0, hsh0, _, _⟩ := id h
    subst hsh0
    obtain ⟨b0, cap1, hsh1, _, _⟩ := id h2
    subst hsh1
    clear h0 e1 hF hg hg2 hr hpw hne hhd hne2 hr2 hpw2 e5
    go_enter Try.func18, Try.ntmps18
    go_wp2_with (first | (go_at_call 64; refine via (s_two _ _ _ _ rs ss _ 0 hR hl hS hl2 HC.out) ?_; intro uu zz; try simp at zz))
    obtain ⟨W, hW⟩ : ∃ W, W = aft (((w.alloc (Obj.cells #[.int .i64 (m : Int), .slice a0 rs.length cap0] 26)).alloc (Obj.cells #[.int .i64 (m : Int), .slice b0 ss.length cap1] 26)).alloc (Obj.cells #[.int .i64 0, .slice none 0 0] 26)) uu := ⟨_, rfl⟩
    have HE : Hid (Ext w.heap.size w W) := hid (by rw [hW]; exact (by repeat (with_reducible first | exact Ext.refl _ | apply Ext.alloc | apply Ext.aft | apply Ext.drew | apply Ext.drewN | apply Ext.setCell | exact Nat.le_add_right _ _ | exact Nat.le_refl _ | (simp; done) | omega)))
    have hRW := hid (show rdI W (.slice a0 rs.length cap0) rs by rw [hW]; exact hR.aft _)
    have hSW := hid (show rdI W (.slice b0 ss.length cap1) ss by rw [hW]; exact hS.aft _)
    have c0 : W.cell? ⟨w.heap.size, 0, none⟩ = some (.int .i64 (m : Int)) := by rw [hW]; simp [go_sem]
    have c1 : W.cell? ⟨w.heap.size, 1, none⟩ = some (.slice a0 rs.length cap0) := by rw [hW]; simp [go_sem]
    have c3 : W.cell? ⟨w.heap.size + 1, 1, none⟩ = some (.slice b0 ss.length cap1) := by rw [hW]; simp [go_sem]
    have hb0 := World.block_lt_of_cell? W _ c0
    have hb3 := World.block_lt_of_cell? W _ c3
    simp only at hb0 hb3
    have hs1 : w.heap.size + 1 + 1 < W.heap.size := by rw [hW]; omega
    have hres : resOK (w.heap.size + 1 + 1) W := by
      intro k hk
      obtain rfl | rfl : k = 0 ∨ k = 1 := by omega
      all_goals (rw [hW]; simp [go_sem])
    rw [← hW]
    have HRES := hid hres
    have hEB : Ext (w.heap.size + 1 + 1) W W := Ext.base (by omega)
    have hn0 : w.heap.size < w.heap.size + 1 + 1 := by omega
    have hn1 : w.heap.size + 1 < w.heap.size + 1 + 1 := by omega
    clear hW hR hS zz hres
    go_region_held3 (fun w' => (∀ b o, b < w.heap.size + 1 + 1 → w'.cell? ⟨b, o, none⟩ = W.cell? ⟨b, o, none⟩) ∧ Hid (Ext (w.heap.size + 1 + 1) W w')) ((refine sB ?_; repeat (with_reducible first | assumption | exact Nat.le_refl _ | apply Ext.aft | apply Ext.alloc | apply Ext.drew | apply Ext.drewN | apply Ext.setCell))) (first | (go_at_call 65; refine viaI (g := id) (s_commonE m _ _ rs ss A _ (hRW.out.below (by refine Ext.bel ?_; repeat (with_reducible first | exact Ext.refl _ | apply Ext.alloc | apply Ext.aft | apply Ext.drew | apply Ext.drewN))) (hSW.out.below (by refine Ext.bel ?_; repeat (with_reducible first | exact Ext.refl _ | apply Ext.alloc | apply Ext.aft | apply Ext.drew | apply Ext.drewN))) hm6 Hr.out Hr2.out hl HZ.out) ?_; intro v9 u9 z9 own9; (try simp at z9); have hR10 : resOK (w.heap.size + 1 + 1) (aft W.drew u9) := HRES.out.below (by refine Ext.bel ?_; repeat (with_reducible first | exact Ext.refl _ | apply Ext.alloc | apply Ext.aft | apply Ext.drew | apply Ext.drewN)) hs1; obtain ⟨y0, hy0⟩ := Option.isSome_iff_exists.1 (hR10 0 (by omega)).2; obtain ⟨y1, hy1⟩ := Option.isSome_iff_exists.1 (hR10 1 (by omega)).2; have hf0 := (hR10 0 (by omega)).1; have hf1 := (hR10 1 (by omega)).1; obtain ⟨a9, c9, hsh9, _, _⟩ := own9.rd; subst hsh9))
    all_goals
      have hE9 : Ext (w.heap.size + 1 + 1) W (aft W.drew u9) := (by repeat (with_reducible first | exact hEB | apply Ext.aft | apply Ext.alloc | apply Ext.drew | apply Ext.drewN))
      have hsz9 : w.heap.size + 1 + 1 < (aft W.drew u9).heap.size := by have := hE9.2; have := z9; omega
      have HF : Hid (ownR w.heap.size (((aft W.drew u9).setCell ⟨w.heap.size + 1 + 1, 0, none⟩ (.int .i64 (m : Int))).setCell ⟨w.heap.size + 1 + 1, 1, none⟩ (.slice a9 A.length c9)) (.slice a9 A.length c9) A) := hid (ownR.mono ((own9.setCell _ _ _ _ (by simp; omega)).setCell _ _ _ _ (by simp; omega)) (by simp; omega))
      have HB9 : Hid (Ext w.heap.size w (aft W.drew u9)) := hid ⟨HE.out.1.trans (hE9.1.mono (by omega)), by omega⟩
      go_wp2_with fail
      exact bodyPost_ret (v := .tuple #[.agg #[.int .i64 (m : Int), .slice a9 A.length c9], .int .i64 0]) (by simp [results, go_sem, hy0, hy1]) rfl ⟨_, rfl, HF.out, Ext.bel ((HB9.out.setCell _ _ _ _ (by omega)).setCell _ _ _ _ (by omega))⟩
  · have e : (([] : List Int), (0 : Int), twoC n rs m ss) = (A, P, C) := by rw [← hF]; unfold meetF; rw [if_neg h0]
    injection e with e1 e2
    injection e2 with e3 e4
    subst e1
    subst e3
    have hcn : (C != 0) = true := by rw [← e4]; simpa using h0
    have HC := hid e4
    clear h0 e4 hF
    go_enter Try.func18, Try.ntmps18
    go_wp2_with (first | (go_at_call 64; refine via (s_two _ _ _ _ rs ss _ C hR hl hS hl2 HC.out) ?_; intro uu zz; try simp at zz))
    exact bodyPost_ret (v := .tuple #[.agg #[.int .i64 0, .slice none 0 0], .int .i64 C]) (by first | (simp [results, go_sem]; done) | simp [results, go_sem, ↓IntWalk.iteOmega]) rfl ⟨_, rfl, ownR.nil _ _, (by refine Ext.bel ?_; repeat (with_reducible first | exact Ext.refl _ | apply Ext.alloc | apply Ext.aft | apply Ext.drew | apply Ext.drewN | apply Ext.setCell | exact Nat.le_add_right _ _ | exact Nat.le_refl _ | (simp; done) | omega))⟩
end Go.Proofs.Ytbkbcbanfnhjpaa
