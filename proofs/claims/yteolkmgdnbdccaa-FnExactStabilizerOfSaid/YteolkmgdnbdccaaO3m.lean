/- Points of a group: the program's test. -/
import Derived.Test.YteolkmgdnbdccaaP4
namespace Go.Proofs.Yteolkmgdnbdccaa
open Go Go.RowKit

def outP (n : Int) (p : Int) : Bool := !inB p 0 (n - 1)
def movC (n : Int) (rs ps : List Int) : Int := if groupB n rs = true then (if ps.any (outP n) = true then 2 else 0) else 1
theorem pred_moved {n : Int} {gb : Nat} {w : World} (hn : 1 ≤ n ∧ n ≤ 6) (hg : w.cell? ⟨gb, 0, none⟩ = some (.int .i64 n)) : predC 48 #[.pointer (some ⟨gb, 0, none⟩)] (outP n) w := by
  intro W x hb
  have hg' : W.cell? ⟨gb, 0, none⟩ = some (.int .i64 n) := by rw [hb.cell (p := ⟨gb, 0, none⟩) (World.block_lt_of_cell? w _ hg)]; exact hg
  change Calls Try.prog 48 #[.int .i64 x, .pointer (some ⟨gb, 0, none⟩)] W fun e w' => e = .returned (.bool (outP n x)) ∧ Below w.heap.size w w'
  go_enter Try.func48, Try.ntmps48
  go_wp2_with (first | (go_at_call 49; refine pur (i_within _ _ _ _) ?_))
  go_ret
  exact ⟨ret_b (by simp [outP]), hb⟩
set_option maxRecDepth 20000 in
set_option maxHeartbeats 4000000 in
theorem i_moved (n : Int) (r v : Value) (rs ps : List Int) (w : World) (c : Int) (h : rdI w r rs) (hl : rs.length ≤ 1048576) (hv : rdI w v ps) (hc : movC n rs ps = c) :
    Calls Try.prog 30 #[(.agg #[.int .i64 n, r]), v] w fun e w' => e = .returned (.int .i64 c) ∧ Below w.heap.size w w' := by
  subst hc
  have hR := h.alloc (Obj.cells #[.int .i64 n, r] 28)
  have hV := hv.alloc (Obj.cells #[.int .i64 n, r] 28)
  cases hg : groupB n rs
  · have e : movC n rs ps = 1 := by simp [movC, hg]
    rw [e]; clear e
    go_enter Try.func30, Try.ntmps30
    go_wp2_with (first | (go_at_call 46; refine via (i_IsGroupE _ _ rs _ false hR hl hg) ?_; intro uu zz; try simp at zz))
    go_ret
    exact ⟨rfl, (by refine Ext.bel ?_; repeat (with_reducible first | exact Ext.refl _ | apply Ext.alloc | apply Ext.aft | apply Ext.drew | apply Ext.drewN | apply Ext.setCell | exact Nat.le_add_right _ _ | exact Nat.le_refl _ | (simp; done) | omega))⟩
  have HG := hid hg
  obtain ⟨m, hm, hm1, hm6, _⟩ := group_facts hg
  have hn16 : 1 ≤ n ∧ n ≤ 6 := by omega
  obtain ⟨b, hb⟩ : ∃ b, ps.any (outP n) = b := ⟨_, rfl⟩
  have e : movC n rs ps = if b = true then 2 else 0 := by unfold movC; rw [if_pos hg, hb]
  rw [e]; clear e
  have HB := hid hb
  have eg : ∀ args w, (callFunc 48 args).run Try.prog w = .ok (.enter 48 args) w := entersT Try.func48 (by kernel_rfl) rfl
  clear hg hb hm hm1 hm6
  cases b
  · go_enter Try.func30, Try.ntmps30
    go_wp2_with fail
    refine via (i_IsGroupE _ _ rs _ true hR hl HG.out) ?_
    intro u1 z1; try simp at z1
    have hpr := pred_moved (n := n) (gb := w.heap.size) (w := aft (w.alloc (Obj.cells #[.int .i64 n, r] 28)) u1) hn16 (by simp [go_sem])
    have HPR := hid hpr
    clear hpr
    go_wp2_with fail
    refine via (lib_containsB _ _ _ eg _ _ _ (hV.aft _) HPR.out _ HB.out) ?_
    intro u2 z2; try simp at z2
    go_wp2_with fail
    go_ret
    exact ⟨rfl, (by refine Ext.bel ?_; repeat (with_reducible first | exact Ext.refl _ | apply Ext.alloc | apply Ext.aft | apply Ext.drew | apply Ext.drewN | apply Ext.setCell | exact Nat.le_add_right _ _ | exact Nat.le_refl _ | (simp; done) | omega))⟩
  · go_enter Try.func30, Try.ntmps30
    go_wp2_with fail
    refine via (i_IsGroupE _ _ rs _ true hR hl HG.out) ?_
    intro u1 z1; try simp at z1
    have hpr := pred_moved (n := n) (gb := w.heap.size) (w := aft (w.alloc (Obj.cells #[.int .i64 n, r] 28)) u1) hn16 (by simp [go_sem])
    have HPR := hid hpr
    clear hpr
    go_wp2_with fail
    refine via (lib_containsB _ _ _ eg _ _ _ (hV.aft _) HPR.out _ HB.out) ?_
    intro u2 z2; try simp at z2
    go_wp2_with fail
    go_ret
    exact ⟨rfl, (by refine Ext.bel ?_; repeat (with_reducible first | exact Ext.refl _ | apply Ext.alloc | apply Ext.aft | apply Ext.drew | apply Ext.drewN | apply Ext.setCell | exact Nat.le_add_right _ _ | exact Nat.le_refl _ | (simp; done) | omega))⟩
end Go.Proofs.Yteolkmgdnbdccaa
