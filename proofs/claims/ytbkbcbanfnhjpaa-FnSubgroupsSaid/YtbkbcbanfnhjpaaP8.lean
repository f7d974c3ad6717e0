/- IsSubgroup: both texts. -/
import Derived.Test.YtbkbcbanfnhjpaaP7
namespace Go.Proofs.Ytbkbcbanfnhjpaa
open Go Go.RowKit

theorem s_commonE (n : Nat) (r1 r2 : Value) (a b c : List Int) (w : World) (h1 : rdI w r1 a) (h2 : rdI w r2 b) (hn : n ≤ 6) (ha : ∀ x ∈ a, 0 ≤ x ∧ x < (facN n : Int)) (hb : ∀ x ∈ b, 0 ≤ x ∧ x < (facN n : Int)) (hl : a.length ≤ 1048576) (hc : commonL a b = c) :
    Calls Try.prog 65 #[.int .i64 n, r1, r2] w fun e w' => ∃ v, e = .returned v ∧ ownR w.heap.size w' v c ∧ Below w.heap.size w w' := by subst hc; exact s_common n r1 r2 a b w h1 h2 hn ha hb hl
/-- Whether all of the first list are in the second. -/
def partB (rs ss : List Int) : Bool := !(rs.any fun x => !ss.contains x)
def subF (n : Int) (rs : List Int) (m : Int) (ss : List Int) : Bool × Int := if twoC n rs m ss = 0 then (partB rs ss, 0) else (false, twoC n rs m ss)
theorem pred_part {ss : List Int} {gb : Nat} {s : Value} {w : World} (h : rdI w s ss) (hg : w.cell? ⟨gb, 1, none⟩ = some s) : predC 124 #[.pointer (some ⟨gb, 0, none⟩)] (fun x => !ss.contains x) w := by
  intro W x hb
  have hg' : W.cell? ⟨gb, 1, none⟩ = some s := by rw [hb.cell (p := ⟨gb, 1, none⟩) (World.block_lt_of_cell? w _ hg)]; exact hg
  have hr := h.below hb
  change Calls Try.prog 124 #[.int .i64 x, .pointer (some ⟨gb, 0, none⟩)] W fun e w' => e = .returned (.bool (!ss.contains x)) ∧ Below w.heap.size w w'
  obtain ⟨b, hbb⟩ : ∃ b, ss.contains x = b := ⟨_, rfl⟩
  rw [hbb]
  have HB := hid hbb
  clear hbb
  go_enter Try.func124, Try.ntmps124
  go_wp2_with (first | (go_at_call 125; refine pur (lib_hasE hr x HB.out) ?_))
  go_ret
  exact ⟨rfl, hb⟩
set_option maxRecDepth 20000 in
set_option maxHeartbeats 4000000 in
theorem i_isPart (n m : Int) (r s : Value) (rs ss : List Int) (w : World) (c : Bool) (h : rdI w r rs) (h2 : rdI w s ss) (hc : partB rs ss = c) :
    Calls Try.prog 66 #[(.agg #[.int .i64 n, r]), (.agg #[.int .i64 m, s])] w fun e w' => e = .returned (.bool c) ∧ Below w.heap.size w w' := by
  have hR := (h.alloc (Obj.cells #[.int .i64 n, r] 26)).alloc (Obj.cells #[.int .i64 m, s] 26)
  have hS := (h2.alloc (Obj.cells #[.int .i64 n, r] 26)).alloc (Obj.cells #[.int .i64 m, s] 26)
  have cg : ((w.alloc (Obj.cells #[.int .i64 n, r] 26)).alloc (Obj.cells #[.int .i64 m, s] 26)).cell? ⟨w.heap.size + 1, 1, none⟩ = some s := by rw [alloc_cell, if_pos (by simp)]; rfl
  have HPR := hid (pred_part hS cg)
  have H3 : Hid ((rs.any fun x => !ss.contains x) = !c) := hid (by rw [← hc]; simp [partB])
  have eg : ∀ args w, (callFunc 124 args).run Try.prog w = .ok (.enter 124 args) w := entersT Try.func124 (by kernel_rfl) rfl
  clear hc cg
  go_enter Try.func66, Try.ntmps66
  go_wp2_with (first | (go_at_call 123; refine via (lib_containsB _ _ _ eg _ _ _ hR HPR.out _ H3.out) ?_; intro uu zz; try simp at zz))
  go_ret
  exact ⟨ret_b (by simp), (by refine Ext.bel ?_; repeat (with_reducible first | exact Ext.refl _ | apply Ext.alloc | apply Ext.aft | apply Ext.drew | apply Ext.drewN | apply Ext.setCell | exact Nat.le_add_right _ _ | exact Nat.le_refl _ | (simp; done) | omega))⟩
set_option maxRecDepth 20000 in
set_option maxHeartbeats 4000000 in
theorem i_Sub (n m : Int) (r s : Value) (rs ss : List Int) (w : World) (A : Bool) (C : Int) (h : rdI w r rs) (hl : rs.length ≤ 1048576) (h2 : rdI w s ss) (hl2 : ss.length ≤ 1048576) (hF : subF n rs m ss = (A, C)) :
    Calls Try.prog 19 #[(.agg #[.int .i64 n, r]), (.agg #[.int .i64 m, s])] w fun e w' => e = .returned (.tuple #[.bool A, .int .i64 C]) ∧ Below w.heap.size w w' := by
  have hR := (h.alloc (Obj.cells #[.int .i64 n, r] 26)).alloc (Obj.cells #[.int .i64 m, s] 26)
  have hS := (h2.alloc (Obj.cells #[.int .i64 n, r] 26)).alloc (Obj.cells #[.int .i64 m, s] 26)
  by_cases h0 : twoC n rs m ss = 0
  · have e : (partB rs ss, (0 : Int)) = (A, C) := by rw [← hF]; unfold subF; rw [if_pos h0]
    injection e with e1 e2
    subst e2
    have HC := hid h0
    have HA := hid e1
    clear h0 e1 hF
    go_enter Try.func19, Try.ntmps19
    go_wp2_with (first | (go_at_call 62; refine via (i_two _ _ _ _ rs ss _ 0 hR hl hS hl2 HC.out) ?_; intro uu zz; try simp at zz) | (go_at_call 66; refine via (i_isPart _ _ _ _ rs ss _ A (hR.aft _) (hS.aft _) HA.out) ?_; intro u2 z2; try simp at z2))
    exact bodyPost_ret (v := .tuple #[.bool A, .int .i64 0]) (by first | (simp [results, go_sem]; done) | simp [results, go_sem, ↓IntWalk.iteOmega]) rfl ⟨rfl, (by refine Ext.bel ?_; repeat (with_reducible first | exact Ext.refl _ | apply Ext.alloc | apply Ext.aft | apply Ext.drew | apply Ext.drewN | apply Ext.setCell | exact Nat.le_add_right _ _ | exact Nat.le_refl _ | (simp; done) | omega))⟩
  · have e : (false, twoC n rs m ss) = (A, C) := by rw [← hF]; unfold subF; rw [if_neg h0]
    injection e with e1 e2
    subst e1
    have hcn : (C != 0) = true := by rw [← e2]; simpa using h0
    have HC := hid e2
    clear h0 e2 hF
    go_enter Try.func19, Try.ntmps19
    go_wp2_with (first | (go_at_call 62; refine via (i_two _ _ _ _ rs ss _ C hR hl hS hl2 HC.out) ?_; intro uu zz; try simp at zz))
    exact bodyPost_ret (v := .tuple #[.bool false, .int .i64 C]) (by first | (simp [results, go_sem]; done) | simp [results, go_sem, ↓IntWalk.iteOmega]) rfl ⟨rfl, (by refine Ext.bel ?_; repeat (with_reducible first | exact Ext.refl _ | apply Ext.alloc | apply Ext.aft | apply Ext.drew | apply Ext.drewN | apply Ext.setCell | exact Nat.le_add_right _ _ | exact Nat.le_refl _ | (simp; done) | omega))⟩
set_option maxRecDepth 20000 in
set_option maxHeartbeats 4000000 in
theorem s_Sub (n m : Int) (r s : Value) (rs ss : List Int) (w : World) (A : Bool) (C : Int) (h : rdI w r rs) (hl : rs.length ≤ 1048576) (h2 : rdI w s ss) (hl2 : ss.length ≤ 1048576) (hF : subF n rs m ss = (A, C)) :
    Calls Try.prog 20 #[(.agg #[.int .i64 n, r]), (.agg #[.int .i64 m, s])] w fun e w' => e = .returned (.tuple #[.bool A, .int .i64 C]) ∧ Below w.heap.size w w' := by
  have hR := (h.alloc (Obj.cells #[.int .i64 n, r] 26)).alloc (Obj.cells #[.int .i64 m, s] 26)
  have hS := (h2.alloc (Obj.cells #[.int .i64 n, r] 26)).alloc (Obj.cells #[.int .i64 m, s] 26)
  by_cases h0 : twoC n rs m ss = 0
  · have e : (partB rs ss, (0 : Int)) = (A, C) := by rw [← hF]; unfold subF; rw [if_pos h0]
    injection e with e1 e2
    subst e2
    obtain ⟨hg1, hg2, hnm⟩ := two_zero h0
    obtain ⟨k, hk, hk1, hk6, _, _, hr1, _, _⟩ := group_facts hg1
    obtain ⟨k', hk', _, _, _, _, hr2, _, _⟩ := group_facts hg2
    obtain rfl : k = k' := by omega
    subst hk hnm
    have HC := hid h0
    have H1 := hid hr1
    have H2 := hid hr2
    have hcl := common_all rs ss
    have e3 : (!(rs.any fun x => !ss.contains x)) = A := e1
    rw [e3] at hcl
    obtain ⟨Z, hZ⟩ : ∃ Z, commonL rs ss = Z := ⟨_, rfl⟩
    have hZl := common_le rs ss
    rw [hZ] at hcl hZl
    have hcz : ((Z.length : Int) == (rs.length : Int)) = A := by
      rw [← hcl, Bool.eq_iff_iff, beq_iff_eq, decide_eq_true_eq]; omega
    have hcn : ((Z.length) == (rs.length)) = A := by
      rw [← hcl, Bool.eq_iff_iff, beq_iff_eq, decide_eq_true_eq]
    have HZ := hid hZ
    obtain ⟨a1, c1, hsh, hm1, _⟩ := id h
    unfold maxLen at hm1
    subst hsh
    clear h0 e1 hF hg1 hg2 hk' hr1 hr2 e3 hcl hZ
    go_enter Try.func20, Try.ntmps20
    go_wp2_with fail
    refine via (s_two _ _ _ _ rs ss _ 0 hR hl hS hl2 HC.out) ?_
    intro uu zz
    try simp at zz
    obtain ⟨W, hW⟩ : ∃ W, W = aft ((w.alloc (Obj.cells #[.int .i64 (k : Int), .slice a1 rs.length c1] 26)).alloc (Obj.cells #[.int .i64 (k : Int), s] 26)) uu := ⟨_, rfl⟩
    have HE3 : Hid (Ext w.heap.size w W) := hid (by rw [hW]; exact (by repeat (with_reducible first | exact Ext.refl _ | apply Ext.alloc | apply Ext.aft | apply Ext.drew | apply Ext.drewN | apply Ext.setCell | exact Nat.le_add_right _ _ | exact Nat.le_refl _ | (simp; done) | omega)))
    have c0 : W.cell? ⟨w.heap.size, 1, none⟩ = some (.slice a1 rs.length c1) := by rw [hW]; simp [go_sem]
    have c2 : W.cell? ⟨w.heap.size + 1, 0, none⟩ = some (.int .i64 (k : Int)) := by rw [hW]; simp [go_sem]
    have c3 : W.cell? ⟨w.heap.size + 1, 1, none⟩ = some s := by rw [hW]; simp [go_sem]
    have hb0 := World.block_lt_of_cell? W _ c0
    have hb1 := World.block_lt_of_cell? W _ c3
    simp only at hb0 hb1
    have HR := hid (show rdI W (.slice a1 rs.length c1) rs by rw [hW]; exact hR.aft _)
    have HS := hid (show rdI W s ss by rw [hW]; exact hS.aft _)
    have hE7 : Ext W.heap.size W W := Ext.refl _
    rw [← hW]
    clear hW hR hS h h2 zz
    go_wp2_with fail
    go_region_held3 (fun w' => (∀ b o, b < W.heap.size → w'.cell? ⟨b, o, none⟩ = W.cell? ⟨b, o, none⟩) ∧ Hid (Ext W.heap.size W w')) ((refine sB ?_; repeat (with_reducible first | assumption | apply Ext.aft | apply Ext.alloc | apply Ext.drew | apply Ext.drewN))) (first | (go_at_call 65; refine viaI (g := id) (s_commonE k _ _ rs ss Z _ (HR.out.below (Ext.bel (by repeat (with_reducible first | exact hE7 | apply Ext.aft | apply Ext.alloc | apply Ext.drew | apply Ext.drewN)))) (HS.out.below (Ext.bel (by repeat (with_reducible first | exact hE7 | apply Ext.aft | apply Ext.alloc | apply Ext.drew | apply Ext.drewN)))) hk6 H1.out H2.out hl HZ.out) ?_; intro t1 u7 z7 own7; (try simp at z7); obtain ⟨a9, c9, hsh9, _, _⟩ := own7.rd; subst hsh9))
    all_goals
      go_wp2_with fail
      exact bodyPost_ret (v := .tuple #[.bool A, .int .i64 0]) (by first | (simp [results, go_sem]; done) | simp [results, go_sem, ↓IntWalk.iteOmega]) rfl ⟨rfl, HE3.out.bel.trans (Below.mono (Ext.bel (by repeat (with_reducible first | exact hE7 | apply Ext.aft | apply Ext.alloc | apply Ext.drew | apply Ext.drewN))) HE3.out.2)⟩
  · have e : (false, twoC n rs m ss) = (A, C) := by rw [← hF]; unfold subF; rw [if_neg h0]
    injection e with e1 e2
    subst e1
    have hcn : (C != 0) = true := by rw [← e2]; simpa using h0
    have HC := hid e2
    clear h0 e2 hF
    go_enter Try.func20, Try.ntmps20
    go_wp2_with (first | (go_at_call 64; refine via (s_two _ _ _ _ rs ss _ C hR hl hS hl2 HC.out) ?_; intro uu zz; try simp at zz))
    exact bodyPost_ret (v := .tuple #[.bool false, .int .i64 C]) (by first | (simp [results, go_sem]; done) | simp [results, go_sem, ↓IntWalk.iteOmega]) rfl ⟨rfl, (by refine Ext.bel ?_; repeat (with_reducible first | exact Ext.refl _ | apply Ext.alloc | apply Ext.aft | apply Ext.drew | apply Ext.drewN | apply Ext.setCell | exact Nat.le_add_right _ _ | exact Nat.le_refl _ | (simp; done) | omega))⟩
end Go.Proofs.Ytbkbcbanfnhjpaa
