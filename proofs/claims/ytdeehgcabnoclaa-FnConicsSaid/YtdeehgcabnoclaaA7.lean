/- Contracts: rings, by value. -/
import Derived.Test.YtdeehgcabnoclaaA6
namespace Go.Proofs.Ytdeehgcabnoclaa
open Go Go.RowKit


theorem modu_pos {p n : Int} (hp : 2 ≤ p) : (0 < modu p n) ↔ p ^ n.toNat ≤ 1000000000 := by
  unfold modu
  have := pow_pos' (show 1 ≤ p by omega) n.toNat
  split <;> constructor <;> intro <;> omega

set_option maxHeartbeats 1000000 in
theorem s_IsRing (p n : Int) (w : World) :
    Calls Try.prog 60 #[(.agg #[.int .i64 p, .int .i64 n])] w fun e w' => e = .returned (.bool (ringB p n)) ∧ Below w.heap.size w w' := by
  by_cases hs : smallP p = true
  · have hp := smallP_bd hs
    by_cases hn : 1 ≤ n ∧ n ≤ 40
    · have hin := inB_t hn.1 hn.2
      by_cases hm : 0 < modu p n
      · have e : ringB p n = true := ringB_iff.2 ⟨hs, hn.1, hn.2, (modu_pos hp.1).1 hm⟩
        rw [e]
        clear e
        go_enter Try.func60, Try.ntmps60
        go_wp2_with (first | (go_at_call 38; refine pur (s_small _ _) ?_) | (go_at_call 26; refine pur (s_in _ _ _ _) ?_) | (go_at_call 62; refine pur (s_modulus _ _ _ (by omega) (by omega) (by omega)) ?_))
        go_ret
        exact ⟨rfl, (by refine Ext.bel ?_; repeat (with_reducible first | exact Ext.refl _ | apply Ext.alloc | apply Ext.aft | apply Ext.drew | apply Ext.drewN | apply Ext.setCell | exact Nat.le_add_right _ _ | exact Nat.le_refl _ | (simp; done) | omega))⟩
      · have e : ringB p n = false := by
          cases h : ringB p n
          · rfl
          · exact absurd ((modu_pos hp.1).2 (ringB_iff.1 h).2.2.2) hm
        rw [e]
        clear e
        have hd : decide (0 < modu p n) = false := by simpa using hm
        go_enter Try.func60, Try.ntmps60
        go_wp2_with (first | (go_at_call 38; refine pur (s_small _ _) ?_) | (go_at_call 26; refine pur (s_in _ _ _ _) ?_) | (go_at_call 62; refine pur (s_modulus _ _ _ (by omega) (by omega) (by omega)) ?_))
        go_ret
        exact ⟨rfl, (by refine Ext.bel ?_; repeat (with_reducible first | exact Ext.refl _ | apply Ext.alloc | apply Ext.aft | apply Ext.drew | apply Ext.drewN | apply Ext.setCell | exact Nat.le_add_right _ _ | exact Nat.le_refl _ | (simp; done) | omega))⟩
    · have hin : inB n 1 40 = false := by
        rcases Int.lt_or_le n 1 with h | h
        · exact inB_l h
        · exact inB_r (by omega)
      have e : ringB p n = false := by
        cases h : ringB p n
        · rfl
        · have := ringB_iff.1 h; omega
      rw [e]
      clear e hn
      go_enter Try.func60, Try.ntmps60
      go_wp2_with (first | (go_at_call 38; refine pur (s_small _ _) ?_) | (go_at_call 26; refine pur (s_in _ _ _ _) ?_))
      go_ret
      exact ⟨rfl, (by refine Ext.bel ?_; repeat (with_reducible first | exact Ext.refl _ | apply Ext.alloc | apply Ext.aft | apply Ext.drew | apply Ext.drewN | apply Ext.setCell | exact Nat.le_add_right _ _ | exact Nat.le_refl _ | (simp; done) | omega))⟩
  · have hs' : smallP p = false := by simpa using hs
    rw [ringB_f (.inl hs')]
    go_enter Try.func60, Try.ntmps60
    go_wp2_with (go_at_call 38; refine pur (s_small _ _) ?_)
    go_ret
    exact ⟨rfl, (by refine Ext.bel ?_; repeat (with_reducible first | exact Ext.refl _ | apply Ext.alloc | apply Ext.aft | apply Ext.drew | apply Ext.drewN | apply Ext.setCell | exact Nat.le_add_right _ _ | exact Nat.le_refl _ | (simp; done) | omega))⟩

set_option maxHeartbeats 400000 in
theorem i_modulus (p n : Int) (w : World) (h : ringB p n = true) :
    Calls Try.prog 71 #[(.agg #[.int .i64 p, .int .i64 n])] w fun e w' => e = .returned (.int .i64 (p ^ n.toNat)) ∧ Below w.heap.size w w' := by
  have h' := ringB_iff.1 h
  have hp := smallP_bd h'.1
  have h2 := h'.2
  have Hb := hid (show p ^ n.toNat ≤ 4000000000000000000 by omega)
  clear h h'
  go_enter Try.func71, Try.ntmps71
  go_wp2_with (go_at_call 64; refine pur (i_power _ _ _ (by omega) (by omega) Hb.out) ?_)
  go_ret
  exact ⟨rfl, (by refine Ext.bel ?_; repeat (with_reducible first | exact Ext.refl _ | apply Ext.alloc | apply Ext.aft | apply Ext.drew | apply Ext.drewN | apply Ext.setCell | exact Nat.le_add_right _ _ | exact Nat.le_refl _ | (simp; done) | omega))⟩

set_option maxHeartbeats 400000 in
theorem i_has (p n a : Int) (w : World) (h : ringB p n = true) :
    Calls Try.prog 52 #[(.agg #[.int .i64 p, .int .i64 n]), .int .i64 a] w fun e w' => e = .returned (.bool (inB a 0 (p ^ n.toNat - 1))) ∧ Below w.heap.size w w' := by
  have h2 := (ringB_iff.1 h).2
  have h3 := pow_pos' (show 1 ≤ p by have := smallP_bd (ringB_iff.1 h).1; omega) n.toNat
  have H := hid h
  clear h
  go_enter Try.func52, Try.ntmps52
  go_wp2_with (first | (go_at_call 71; refine via (i_modulus _ _ _ H.out) ?_; intro u1 z1; try simp at z1) | (go_at_call 24; refine pur (i_within _ _ _ _) ?_))
  go_ret
  exact ⟨rfl, (by refine Ext.bel ?_; repeat (with_reducible first | exact Ext.refl _ | apply Ext.alloc | apply Ext.aft | apply Ext.drew | apply Ext.drewN | apply Ext.setCell | exact Nat.le_add_right _ _ | exact Nat.le_refl _ | (simp; done) | omega))⟩

set_option maxHeartbeats 400000 in
theorem i_isUnit (p n a : Int) (w : World) (h : 2 ≤ p ∧ p ≤ 1000000) (ha : 0 ≤ a) :
    Calls Try.prog 53 #[(.agg #[.int .i64 p, .int .i64 n]), .int .i64 a] w fun e w' => e = .returned (.bool (a % p != 0)) ∧ Below w.heap.size w w' := by
  have hq : 0 ≤ a % p ∧ a % p < p := ⟨Int.emod_nonneg _ (by omega), Int.emod_lt_of_pos _ (by omega)⟩
  go_enter Try.func53, Try.ntmps53
  go_wp2
  go_ret
  exact ⟨rfl, (by refine Ext.bel ?_; repeat (with_reducible first | exact Ext.refl _ | apply Ext.alloc | apply Ext.aft | apply Ext.drew | apply Ext.drewN | apply Ext.setCell | exact Nat.le_add_right _ _ | exact Nat.le_refl _ | (simp; done) | omega))⟩

set_option maxHeartbeats 400000 in
theorem i_ring (p v u n : Int) (w : World) :
    Calls Try.prog 51 #[(.agg #[.int .i64 p, .int .i64 v, .int .i64 u, .int .i64 n])] w fun e w' => e = .returned (.agg #[.int .i64 p, .int .i64 n]) ∧ Below w.heap.size w w' := by
  go_enter Try.func51, Try.ntmps51
  go_wp2
  exact bodyPost_ret (v := (.agg #[.int .i64 p, .int .i64 n])) (by first | (simp [results, go_sem]; done) | simp [results, go_sem, ↓IntWalk.iteOmega]) rfl ⟨rfl, (by refine Ext.bel ?_; repeat (with_reducible first | exact Ext.refl _ | apply Ext.alloc | apply Ext.aft | apply Ext.drew | apply Ext.drewN | apply Ext.setCell | exact Nat.le_add_right _ _ | exact Nat.le_refl _ | (simp; done) | omega))⟩
set_option maxHeartbeats 400000 in
theorem s_ring (p v u n : Int) (w : World) :
    Calls Try.prog 61 #[(.agg #[.int .i64 p, .int .i64 v, .int .i64 u, .int .i64 n])] w fun e w' => e = .returned (.agg #[.int .i64 p, .int .i64 n]) ∧ Below w.heap.size w w' := by
  go_enter Try.func61, Try.ntmps61
  go_wp2
  exact bodyPost_ret (v := (.agg #[.int .i64 p, .int .i64 n])) (by first | (simp [results, go_sem]; done) | simp [results, go_sem, ↓IntWalk.iteOmega]) rfl ⟨rfl, (by refine Ext.bel ?_; repeat (with_reducible first | exact Ext.refl _ | apply Ext.alloc | apply Ext.aft | apply Ext.drew | apply Ext.drewN | apply Ext.setCell | exact Nat.le_add_right _ _ | exact Nat.le_refl _ | (simp; done) | omega))⟩

set_option maxHeartbeats 400000 in
theorem i_isZero (p v u n : Int) (w : World) :
    Calls Try.prog 31 #[(.agg #[.int .i64 p, .int .i64 v, .int .i64 u, .int .i64 n])] w fun e w' => e = .returned (.bool (n == 0)) ∧ Below w.heap.size w w' := by
  go_enter Try.func31, Try.ntmps31
  go_wp2
  go_ret
  exact ⟨rfl, (by refine Ext.bel ?_; repeat (with_reducible first | exact Ext.refl _ | apply Ext.alloc | apply Ext.aft | apply Ext.drew | apply Ext.drewN | apply Ext.setCell | exact Nat.le_add_right _ _ | exact Nat.le_refl _ | (simp; done) | omega))⟩

end Go.Proofs.Ytdeehgcabnoclaa
