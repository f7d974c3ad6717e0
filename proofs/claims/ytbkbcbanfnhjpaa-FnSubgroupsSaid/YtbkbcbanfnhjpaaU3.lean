/- CenterOf, IsAbelian: the program's texts. -/
import Derived.Test.YtbkbcbanfnhjpaaU2
namespace Go.Proofs.Ytbkbcbanfnhjpaa
open Go Go.RowKit

def centF (n : Int) (rs : List Int) : List Int × Int × Int := if groupB n rs = true then (filtF n.toNat rs (centB n.toNat rs), n, 0) else ([], 0, 1)
theorem centF_len (n : Int) (rs : List Int) : (centF n rs).1.length ≤ 1000 := by
  unfold centF
  split
  · rename_i h
    obtain ⟨m, rfl, _, hm6, _, _, hr, hpw, _⟩ := group_facts h
    exact Nat.le_trans (filt_le _ _ _) (Nat.le_trans (asc_len hpw hr) (by have := facN_le hm6; omega))
  · simp
def abelF (n : Int) (rs : List Int) : Bool × Int := if groupB n rs = true then (decide ((centF n rs).1.length = rs.length), 0) else (false, 1)
set_option maxRecDepth 20000 in
set_option maxHeartbeats 8000000 in
theorem i_CenterOf (n : Int) (r : Value) (rs : List Int) (w : World) (h : rdI w r rs) (hl : rs.length ≤ 1048576) :
    Calls Try.prog 12 #[(.agg #[.int .i64 n, r])] w fun e w' => ∃ v, e = .returned (.tuple #[.agg #[.int .i64 (centF n rs).2.1, v], .int .i64 (centF n rs).2.2]) ∧ ownR w.heap.size w' v (centF n rs).1 ∧ Below w.heap.size w w' := by
  have hR := (h.alloc (Obj.cells #[.int .i64 n, r] 26)).alloc (Obj.cells #[.int .i64 0, .slice none 0 0] 26)
  cases hg : groupB n rs
  · have e : centF n rs = ([], 0, 1) := by simp [centF, hg]
    rw [e]; clear e
    have HG := hid hg
    clear hg
    go_enter Try.func12, Try.ntmps12
    go_wp2_with (first | (go_at_call 43; refine via (i_IsGroupE n _ rs _ false hR hl HG.out) ?_; intro uu zz; try simp at zz))
    exact bodyPost_ret (v := .tuple #[.agg #[.int .i64 0, .slice none 0 0], .int .i64 1]) (by first | (simp [results, go_sem]; done) | simp [results, go_sem, ↓IntWalk.iteOmega]) rfl ⟨_, rfl, ownR.nil _ _, (by refine Ext.bel ?_; repeat (with_reducible first | exact Ext.refl _ | apply Ext.alloc | apply Ext.aft | apply Ext.drew | apply Ext.drewN | apply Ext.setCell | exact Nat.le_add_right _ _ | exact Nat.le_refl _ | (simp; done) | omega))⟩
  obtain ⟨m, rfl, hm1, hm6, hne, hhd, hr, hpw, _⟩ := group_facts hg
  have hl7 : rs.length ≤ 720 := Nat.le_trans (asc_len hpw hr) (facN_le hm6)
  have Hr := hid hr
  have Hpw := hid hpw
  obtain ⟨os, hos⟩ : ∃ os, filtF m rs (centB m rs) = os := ⟨_, rfl⟩
  have e : centF m rs = (os, (m : Int), 0) := by unfold centF; rw [if_pos hg]; simp only [Int.toNat_natCast]; rw [hos]
  rw [e]; clear e
  have HG := hid hg
  have HOS := hid hos
  clear hg hr hpw hne hhd hos
  go_enter Try.func12, Try.ntmps12
  go_wp2_with (first | (go_at_call 43; refine via (i_IsGroupE (m : Int) _ rs _ true hR hl HG.out) ?_; intro uu zz; try simp at zz))
  refine viaG (i_center m _ rs _ os (hR.aft _) (by omega) hm6 Hr.out Hpw.out hl7 HOS.out) ?_
  intro v2 u2 z2 own2
  try simp at z2
  obtain ⟨a2, c2, hsh, _, _⟩ := own2.rd
  subst hsh
  go_wp2_with fail
  exact bodyPost_ret (v := .tuple #[.agg #[.int .i64 (m : Int), .slice a2 os.length c2], .int .i64 0]) (by first | (simp [results, go_sem]; done) | simp [results, go_sem, ↓IntWalk.iteOmega]) rfl ⟨_, rfl, ((own2.setCell _ _ _ _ (by omega)).setCell _ _ _ _ (by omega)).mono (by omega), (by refine Ext.bel ?_; repeat (with_reducible first | exact Ext.refl _ | apply Ext.alloc | apply Ext.aft | apply Ext.drew | apply Ext.drewN | apply Ext.setCell | exact Nat.le_add_right _ _ | exact Nat.le_refl _ | (simp; done) | omega))⟩
set_option maxRecDepth 20000 in
set_option maxHeartbeats 8000000 in
theorem i_IsAbelian (n : Int) (r : Value) (rs : List Int) (w : World) (h : rdI w r rs) (hl : rs.length ≤ 1048576) :
    Calls Try.prog 14 #[(.agg #[.int .i64 n, r])] w fun e w' => e = .returned (.tuple #[.bool (abelF n rs).1, .int .i64 (abelF n rs).2]) ∧ Below w.heap.size w w' := by
  have hR := h.alloc (Obj.cells #[.int .i64 n, r] 26)
  cases hg : groupB n rs
  · have e : abelF n rs = (false, 1) := by simp [abelF, hg]
    rw [e]; clear e
    have HG := hid hg
    clear hg
    go_enter Try.func14, Try.ntmps14
    go_wp2_with (first | (go_at_call 43; refine via (i_IsGroupE n _ rs _ false hR hl HG.out) ?_; intro uu zz; try simp at zz))
    exact bodyPost_ret (v := .tuple #[.bool false, .int .i64 1]) (by first | (simp [results, go_sem]; done) | simp [results, go_sem, ↓IntWalk.iteOmega]) rfl ⟨rfl, (by refine Ext.bel ?_; repeat (with_reducible first | exact Ext.refl _ | apply Ext.alloc | apply Ext.aft | apply Ext.drew | apply Ext.drewN | apply Ext.setCell | exact Nat.le_add_right _ _ | exact Nat.le_refl _ | (simp; done) | omega))⟩
  obtain ⟨m, rfl, hm1, hm6, hne, hhd, hr, hpw, _⟩ := group_facts hg
  have hl7 : rs.length ≤ 720 := Nat.le_trans (asc_len hpw hr) (facN_le hm6)
  have Hr := hid hr
  have Hpw := hid hpw
  obtain ⟨os, hos⟩ : ∃ os, filtF m rs (centB m rs) = os := ⟨_, rfl⟩
  have e : abelF m rs = (decide (os.length = rs.length), 0) := by simp only [abelF, centF, hg, if_true, Int.toNat_natCast, hos]
  rw [e]; clear e
  have HG := hid hg
  have HOS := hid hos
  obtain ⟨a0, cap0, hsh0, _, _⟩ := id h
  subst hsh0
  obtain ⟨B, hB⟩ : ∃ B, decide (os.length = rs.length) = B := ⟨_, rfl⟩
  have HB : Hid (((os.length : Int) == (rs.length : Int)) = B) := hid (by rw [← hB, Bool.eq_iff_iff]; simp [Int.ofNat_inj])
  rw [hB]
  clear hg hr hpw hne hhd hos hB
  go_enter Try.func14, Try.ntmps14
  go_wp2_with (first | (go_at_call 43; refine via (i_IsGroupE (m : Int) _ rs _ true hR hl HG.out) ?_; intro uu zz; try simp at zz))
  obtain ⟨W, hW⟩ : ∃ W, W = aft (w.alloc (Obj.cells #[.int .i64 (m : Int), .slice a0 rs.length cap0] 26)) uu := ⟨_, rfl⟩
  have HE : Hid (Ext w.heap.size w W) := hid (by rw [hW]; exact (by repeat (with_reducible first | exact Ext.refl _ | apply Ext.alloc | apply Ext.aft | apply Ext.drew | apply Ext.drewN | apply Ext.setCell | exact Nat.le_add_right _ _ | exact Nat.le_refl _ | (simp; done) | omega)))
  have hRW := hid (show rdI W (.slice a0 rs.length cap0) rs by rw [hW]; exact hR.aft _)
  have c0 : W.cell? ⟨w.heap.size, 0, none⟩ = some (.int .i64 (m : Int)) := by rw [hW]; simp [go_sem]
  have c1 : W.cell? ⟨w.heap.size, 1, none⟩ = some (.slice a0 rs.length cap0) := by rw [hW]; simp [go_sem]
  have hb0 := World.block_lt_of_cell? W _ c0
  simp only at hb0
  rw [← hW]
  have hE0 : Ext W.heap.size W W := Ext.refl _
  have hfd : ∀ (a9 : Option Addr) (c9 : Nat) (w : World), (Instr.field 26 (.agg #[.int .i64 (m : Int), .slice a9 os.length c9]) 1).run Try.prog w = .ok (.slice a9 os.length c9) w := fun _ _ _ => by kernel_rfl
  clear hW hR zz
  go_region_held3 (fun w' => (∀ b o, b < W.heap.size → w'.cell? ⟨b, o, none⟩ = W.cell? ⟨b, o, none⟩) ∧ Hid (Ext W.heap.size W w')) ((refine sB ?_; repeat (with_reducible first | assumption | apply Ext.aft | apply Ext.alloc | apply Ext.drew | apply Ext.drewN))) (first | (go_at_call 59; refine viaG (i_center m _ rs _ os (hRW.out.below (Ext.bel (by repeat (with_reducible first | exact Ext.refl _ | apply Ext.aft | apply Ext.alloc | apply Ext.drew | apply Ext.drewN)))) (by omega) hm6 Hr.out Hpw.out hl7 HOS.out) ?_; intro t1 u3 z1 own3; (try simp at z1); obtain ⟨a9, c9, hsh9, _, _⟩ := own3.rd; subst hsh9))
  all_goals
    go_wp2_with fail
    exact bodyPost_ret (v := .tuple #[.bool ((os.length : Int) == (rs.length : Int)), .int .i64 0]) (by first | (simp [results, go_sem]; done) | simp [results, go_sem, ↓IntWalk.iteOmega]) rfl ⟨by rw [HB.out], HE.out.bel.trans (Below.mono (Ext.bel (by repeat (with_reducible first | exact Ext.refl _ | apply Ext.aft | apply Ext.alloc | apply Ext.drew | apply Ext.drewN))) HE.out.2)⟩
end Go.Proofs.Ytbkbcbanfnhjpaa
