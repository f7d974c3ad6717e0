/- A small fraction: the bound, what the program finds, the value of FindRational; the bound's texts. -/
import Derived.Test.YtehdkbopkkgabaaQ2
namespace Go.Proofs.Ytehdkbopkkgabaa
open Go Go.RowKit

def isB (m : Int) (B : Nat) : Prop := 2 * ((B : Int) * B) < m ∧ m ≤ 2 * (((B : Int) + 1) * (B + 1)) ∧ B ≤ 22360
open Classical in
noncomputable def bndF (m : Int) : Nat := if h : ∃ B, isB m B then h.choose else 0
theorem bndF_is {m : Int} (h2 : 2 ≤ m) (h9 : m ≤ 1000000000) : isB m (bndF m) := by
  have h : ∃ B, isB m B := exB m h2 h9
  unfold bndF
  rw [dif_pos h]
  exact h.choose_spec
noncomputable def frtF (p v u n : Int) : Int × Int × Int :=
  if padicB p v u n = true then (if n = 0 then (0, 0, 4) else if candOk u (p ^ n.toNat) (bndF (p ^ n.toNat)) = true then tailF p v (candF u (p ^ n.toNat) (bndF (p ^ n.toNat))).1 (candF u (p ^ n.toNat) (bndF (p ^ n.toNat))).2 else (0, 0, 4)) else (0, 0, 1)

set_option maxHeartbeats 1000000 in
theorem s_Bound (m : Int) (w : World) (h2 : 2 ≤ m) (h9 : m ≤ 1000000000) :
    Calls Try.prog 112 #[.int .i64 m] w fun e w' => e = .returned (.int .i64 (bndF m)) ∧ w = w' := by
  have hB := bndF_is h2 h9
  obtain ⟨B, hBe⟩ : ∃ B, B = bndF m := ⟨_, rfl⟩
  rw [← hBe] at hB ⊢
  have HB := hid hB
  have hB3 := hB.2.2
  clear hB hBe
  go_enter Try.func112, Try.ntmps112
  go_wp2_with fail
  go_loop [3] (fun b => ∃ k : Nat, b = .int .i64 k ∧ k ≤ B) (fun b => B - (intOf b).toNat)
  case atStart => exact ⟨0, rfl, by omega⟩
  case round =>
    obtain ⟨k, rfl, hk⟩ := hrel
    have hf := sq_fits (show k ≤ 22360 by omega)
    by_cases hlt : k < B
    · have hd : decide (2 * ((k : Int) + 1) * ((k : Int) + 1) < m) = true := by simpa using bnd_lt HB.out.1 hlt
      go_wp2
      go_round
      case rel => exact ⟨k + 1, by go_num, by omega⟩
      case measure => simp [intOf]; omega
    · obtain rfl : k = B := by omega
      have hd : decide (2 * ((k : Int) + 1) * ((k : Int) + 1) < m) = false := by simpa using bnd_ge HB.out.2.1
      go_wp2
      go_ret
      exact ⟨rfl, rfl⟩

theorem candOk_eq (x m B : Int) : candOk x m B = (!((candF x m B).1 == 0) && inB (candF x m B).2 1 B && ((Int.gcd (candF x m B).1 (candF x m B).2 : Int) == 1)) := by
  unfold candOk inB
  rw [Bool.eq_iff_iff]
  simp
  omega
/-- What the rows of the loop keep. -/
def Row (m x B r s t u : Int) : Prop := ∃ e T U, RecInv m x B e r s T U ∧ t = -e * T ∧ u = e * U ∧ T ≤ m ∧ U ≤ m ∧ r ≤ m
theorem Row.bd {m x B r s t u : Int} (h : Row m x B r s t u) : (0 ≤ s ∧ s < r ∧ r ≤ m) ∧ (-m ≤ t ∧ t ≤ m) ∧ (-m ≤ u ∧ u ≤ m) ∧ u ≠ 0 := by
  obtain ⟨e, T, U, h, ht, hu, hT, hU, hr⟩ := h
  have := h.u1
  have := h.t0
  have := h.s0
  have := h.sr
  rcases h.sgn with e1 | e1 <;> subst e1 <;> simp at ht hu <;> omega
theorem Row.step {m x B r s t u : Int} (h : Row m x B r s t u) (hs : B < s) (hB : 0 ≤ B) : Row m x B s (r - r / s * s) u (t - r / s * u) ∧ (0 ≤ r / s * s ∧ r / s * s ≤ r) ∧ (-m ≤ r / s * u ∧ r / s * u ≤ m) ∧ (0 ≤ r / s ∧ r / s ≤ r) := by
  obtain ⟨e, T, U, h, ht, hu, hT, hU, hr⟩ := h
  have hst := h.step hs hB
  have hp : 0 < s := by omega
  have hu1 := h.u1
  have ht0 := h.t0
  have h1 := Int.emod_nonneg r (show s ≠ 0 by omega)
  have h2 := Int.emod_lt_of_pos r hp
  have hmod : r - (r / s) * s = r % s := by rw [Int.emod_def, Int.mul_comm]
  have hq : 0 ≤ r / s := Int.ediv_nonneg (by have := h.sr; omega) (by omega)
  have hqr : r / s ≤ r := Int.ediv_le_self _ (by have := h.sr; omega)
  have hqu : 0 ≤ r / s * U := Int.mul_nonneg hq (by omega)
  have hU2 : T + r / s * U ≤ m := by
    have d := hst.det
    have := hst.u1
    have a1 : 1 * (T + r / s * U) ≤ s * (T + r / s * U) := Int.mul_le_mul_of_nonneg_right (by omega) (by omega)
    have a2 : 0 ≤ (r - r / s * s) * U := Int.mul_nonneg (by omega) (by omega)
    omega
  refine ⟨⟨-e, U, T + r / s * U, hst, by rw [hu, Int.neg_neg], ?_, hU, hU2, by have := h.sr; omega⟩, ⟨Int.mul_nonneg hq (by omega), by omega⟩, ?_, hq, hqr⟩
  · rw [ht, hu, Int.mul_add, Int.mul_left_comm (r / s)]
    have := Int.neg_mul e (r / s * U)
    omega
  · rw [hu, Int.mul_left_comm]
    rcases h.sgn with e1 | e1 <;> subst e1 <;> simp <;> omega
theorem recG_stop {f : Nat} {B r s t u : Int} (h : s ≤ B) : recG f B r s t u = (s, u) := by
  cases f with
  | zero => rfl
  | succ f => unfold recG; rw [if_pos h]
theorem recG_go {f : Nat} {B r s t u : Int} (hB : 0 ≤ B) (h : B < s) (hf : s.toNat < f + 1) : ∃ f', (r - r / s * s).toNat < f' + 1 ∧ recG f B r s t u = recG f' B s (r - r / s * s) u (t - r / s * u) := by
  cases f with
  | zero => omega
  | succ f =>
    have hmod : r - (r / s) * s = r % s := by rw [Int.emod_def, Int.mul_comm]
    have h2 := Int.emod_lt_of_pos r (show 0 < s by omega)
    exact ⟨f, by omega, by conv => lhs; unfold recG
                           rw [if_neg (by omega)]⟩
theorem Row.start {m x B : Int} (hm : B < m) (hx : 0 ≤ x ∧ x < m) : Row m x B m x 0 1 := ⟨1, 0, 1, RecInv.start hm hx, by simp, by simp, by omega, by omega, by omega⟩
set_option maxHeartbeats 2000000 in
theorem i_reconstruct (x m : Int) (w : World) (hx : 0 ≤ x ∧ x < m) (h2 : 2 ≤ m) (h9 : m ≤ 1000000000) :
    Calls Try.prog 109 #[.int .i64 x, .int .i64 m] w fun e w' => e = .returned (.tuple #[.int .i64 (candF x m (bndF m)).1, .int .i64 (candF x m (bndF m)).2, .bool (candOk x m (bndF m))]) ∧ Below w.heap.size w w' := by
  have hB := bndF_is h2 h9
  obtain ⟨B, hBe⟩ : ∃ B, B = bndF m := ⟨_, rfl⟩
  rw [← hBe] at hB ⊢
  have HB := hid hB
  have hB3 := hB.2.2
  have hBm : (B : Int) < m := by
    have := hB.1
    rcases Nat.eq_zero_or_pos B with h | h
    · subst h; omega
    · have := Int.mul_le_mul_of_nonneg_left (show (1 : Int) ≤ B by omega) (show 0 ≤ (B : Int) by omega)
      omega
  clear hB hBe
  go_enter Try.func109, Try.ntmps109
  go_wp2_with fail
  go_loop [7] (fun b => ∃ k : Nat, b = .int .i64 k ∧ k ≤ B) (fun b => B - (intOf b).toNat)
  case atStart => exact ⟨0, rfl, by omega⟩
  case round =>
    obtain ⟨k, rfl, hk⟩ := hrel
    have hf := sq_fits (show k ≤ 22360 by omega)
    by_cases hlt : k < B
    · have hd : decide (2 * ((k : Int) + 1) * ((k : Int) + 1) < m) = true := by simpa using bnd_lt HB.out.1 hlt
      go_wp2
      go_round
      case rel => exact ⟨k + 1, by go_num, by omega⟩
      case measure => simp [intOf]; omega
    · obtain rfl : k = B := by omega
      have hd : decide (2 * ((k : Int) + 1) * ((k : Int) + 1) < m) = false := by simpa using bnd_ge HB.out.2.1
      clear hlt hk
      go_wp2
      clear hd hf
      go_loop [8, 9, 10, 11] (fun a b c d => ∃ (r s t u : Int) (f : Nat), a = .int .i64 r ∧ b = .int .i64 s ∧ c = .int .i64 t ∧ d = .int .i64 u ∧ Row m x k r s t u ∧ s.toNat < f + 1 ∧ recG f k r s t u = recG (x.toNat + 1) k m x 0 1) (fun _ b _ _ => (intOf b).toNat)
      case atStart => exact ⟨m, x, 0, 1, x.toNat + 1, rfl, rfl, rfl, rfl, Row.start hBm hx, by omega, rfl⟩
      case round =>
        obtain ⟨r, s, t, u, f, rfl, rfl, rfl, rfl, hrow, hf, hrec⟩ := hrel
        have hbd := hrow.bd
        by_cases hs : (k : Int) < s
        · have hst := hrow.step hs (by omega)
          obtain ⟨f', hf', hgo⟩ := recG_go (r := r) (t := t) (u := u) (by omega) hs hf
          rw [hgo] at hrec
          have HR := hid hst.1
          have HC := hid hrec
          have HF := hid hf'
          have hbd2 := hst.1.bd
          obtain ⟨_, b1, b2, b3⟩ := hst
          have s0 : (s == 0) = false := by rw [beq_eq_false_iff_ne]; omega
          clear hrec hgo hrow hf hf'
          go_wp2
          go_round
          case rel => exact ⟨s, r - r / s * s, u, t - r / s * u, f', rfl, by go_num, by go_num, by go_num, HR.out, HF.out, HC.out⟩
          case measure => simp only [intOf]; omega
        · have HC : Hid (candF x m k = if u < 0 then (-s, -u) else (s, u)) := hid (by
            rw [recG_stop (by omega)] at hrec
            unfold candF
            rw [← hrec])
          clear hrec hrow hf
          by_cases hu : u < 0
          · have hu' : decide (u < 0) = true := by simpa using hu
            have e1 : candF x m k = (-s, -u) := by rw [HC.out, if_pos hu]
            have E1 := hid e1
            clear e1
            by_cases s0 : s = 0
            · subst s0
              go_wp2_with fail
              exact bodyPost_ret (v := .tuple #[.int .i64 0, .int .i64 (-u), .bool false]) (by first | (simp [results, go_sem]; done) | simp [results, go_sem, ↓IntWalk.iteOmega]) rfl ⟨by rw [candOk_eq, E1.out]; simp, (by refine Ext.bel ?_; repeat (with_reducible first | exact Ext.refl _ | apply Ext.alloc | apply Ext.aft | apply Ext.drew | apply Ext.drewN | apply Ext.setCell | exact Nat.le_add_right _ _ | exact Nat.le_refl _ | (simp; done) | omega))⟩
            have s1 : ((-s) == 0) = false := by rw [beq_eq_false_iff_ne]; omega
            have s2 : ((-s) != 0) = true := by rw [bne_iff_ne]; omega
            cases hin : inB (-u) 1 k
            · go_wp2_with (go_at_call 80; refine pur (i_within _ _ _ _) ?_)
              exact bodyPost_ret (v := .tuple #[.int .i64 (-s), .int .i64 (-u), .bool false]) (by first | (simp [results, go_sem]; done) | simp [results, go_sem, ↓IntWalk.iteOmega]) rfl ⟨by rw [candOk_eq, E1.out]; simp [s1, hin], (by refine Ext.bel ?_; repeat (with_reducible first | exact Ext.refl _ | apply Ext.alloc | apply Ext.aft | apply Ext.drew | apply Ext.drewN | apply Ext.setCell | exact Nat.le_add_right _ _ | exact Nat.le_refl _ | (simp; done) | omega))⟩
            · have g1 : -4000000000000000000 ≤ (-s) ∧ (-s) ≤ 4000000000000000000 := by omega
              have g2 : -4000000000000000000 ≤ (-u) ∧ (-u) ≤ 4000000000000000000 := by omega
              obtain ⟨G, hG⟩ : ∃ G : Int, G = (Int.gcd (-s) (-u) : Int) := ⟨_, rfl⟩
              have HG := hid hG.symm
              clear hG
              go_wp2_with (first | (go_at_call 80; refine pur (i_within _ _ _ _) ?_) | (go_at_call 104; refine via (i_gcd _ _ _ g1 g2) ?_; rw [HG.out]; intro uu zz; try simp at zz))
              exact bodyPost_ret (v := .tuple #[.int .i64 (-s), .int .i64 (-u), .bool (G == 1)]) (by first | (simp [results, go_sem]; done) | simp [results, go_sem, ↓IntWalk.iteOmega]) rfl ⟨by rw [candOk_eq, E1.out]; simp only [hin, s1, HG.out]; rfl, (by refine Ext.bel ?_; repeat (with_reducible first | exact Ext.refl _ | apply Ext.alloc | apply Ext.aft | apply Ext.drew | apply Ext.drewN | apply Ext.setCell | exact Nat.le_add_right _ _ | exact Nat.le_refl _ | (simp; done) | omega))⟩
          · have hu' : decide (u < 0) = false := by simpa using hu
            have e1 : candF x m k = (s, u) := by rw [HC.out, if_neg hu]
            have E1 := hid e1
            clear e1
            by_cases s0 : s = 0
            · subst s0
              go_wp2_with fail
              exact bodyPost_ret (v := .tuple #[.int .i64 0, .int .i64 u, .bool false]) (by first | (simp [results, go_sem]; done) | simp [results, go_sem, ↓IntWalk.iteOmega]) rfl ⟨by rw [candOk_eq, E1.out]; simp, (by refine Ext.bel ?_; repeat (with_reducible first | exact Ext.refl _ | apply Ext.alloc | apply Ext.aft | apply Ext.drew | apply Ext.drewN | apply Ext.setCell | exact Nat.le_add_right _ _ | exact Nat.le_refl _ | (simp; done) | omega))⟩
            have s1 : (s == 0) = false := by rw [beq_eq_false_iff_ne]; omega
            have s2 : (s != 0) = true := by rw [bne_iff_ne]; omega
            cases hin : inB u 1 k
            · go_wp2_with (go_at_call 80; refine pur (i_within _ _ _ _) ?_)
              exact bodyPost_ret (v := .tuple #[.int .i64 s, .int .i64 u, .bool false]) (by first | (simp [results, go_sem]; done) | simp [results, go_sem, ↓IntWalk.iteOmega]) rfl ⟨by rw [candOk_eq, E1.out]; simp [s1, hin], (by refine Ext.bel ?_; repeat (with_reducible first | exact Ext.refl _ | apply Ext.alloc | apply Ext.aft | apply Ext.drew | apply Ext.drewN | apply Ext.setCell | exact Nat.le_add_right _ _ | exact Nat.le_refl _ | (simp; done) | omega))⟩
            · have g1 : -4000000000000000000 ≤ s ∧ s ≤ 4000000000000000000 := by omega
              have g2 : -4000000000000000000 ≤ u ∧ u ≤ 4000000000000000000 := by omega
              obtain ⟨G, hG⟩ : ∃ G : Int, G = (Int.gcd s u : Int) := ⟨_, rfl⟩
              have HG := hid hG.symm
              clear hG
              go_wp2_with (first | (go_at_call 80; refine pur (i_within _ _ _ _) ?_) | (go_at_call 104; refine via (i_gcd _ _ _ g1 g2) ?_; rw [HG.out]; intro uu zz; try simp at zz))
              exact bodyPost_ret (v := .tuple #[.int .i64 s, .int .i64 u, .bool (G == 1)]) (by first | (simp [results, go_sem]; done) | simp [results, go_sem, ↓IntWalk.iteOmega]) rfl ⟨by rw [candOk_eq, E1.out]; simp only [hin, s1, HG.out]; rfl, (by refine Ext.bel ?_; repeat (with_reducible first | exact Ext.refl _ | apply Ext.alloc | apply Ext.aft | apply Ext.drew | apply Ext.drewN | apply Ext.setCell | exact Nat.le_add_right _ _ | exact Nat.le_refl _ | (simp; done) | omega))⟩
end Go.Proofs.Ytehdkbopkkgabaa
