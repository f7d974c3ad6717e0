/- InverseOf: both texts; the law. -/
import Derived.Test.YtdhnpmjoajaeiaaMA
import Derived.Test.YtdhnpmjoajaeiaaC1
namespace Go.Proofs.Ytdhnpmjoajaeiaa
open Go Go.RowKit

def invF (p n a : Int) : Int × Int := if unitF p n a = 0 then (inv a (p ^ n.toNat), 0) else (0, unitF p n a)

theorem unitF_cases (p n a : Int) : unitF p n a = 1 ∨ unitF p n a = 2 ∨ unitF p n a = 5 ∨ unitF p n a = 0 := by
  unfold unitF; split <;> (try split) <;> (try split) <;> simp
theorem unitF_0 {p n a : Int} (h : unitF p n a = 0) : ringB p n = true ∧ inB a 0 (p ^ n.toNat - 1) = true ∧ a % p ≠ 0 := by
  unfold unitF at h
  split at h
  · split at h
    · split at h
      · omega
      · exact ⟨‹_›, ‹_›, ‹_›⟩
    · omega
  · omega

theorem codeF_cases (p n a : Int) : codeF p n a = 1 ∨ codeF p n a = 2 ∨ (codeF p n a = 0 ∧ ringB p n = true ∧ inB a 0 (p ^ n.toNat - 1) = true) := by
  unfold codeF; split
  · split
    · exact .inr (.inr ⟨rfl, ‹_›, ‹_›⟩)
    · simp
  · simp
theorem unitF_code (p n a : Int) : unitF p n a = if codeF p n a = 0 then (if a % p = 0 then 5 else 0) else codeF p n a := by
  unfold unitF codeF; split <;> (try split) <;> simp_all

set_option maxHeartbeats 400000 in
theorem l_toRing (p n : Int) (w : World) :
    Calls Try.prog 6 #[(.agg #[.int .i64 p, .int .i64 n])] w fun e w' => e = .returned (.agg #[.int .i64 p, .int .i64 n]) ∧ Below w.heap.size w w' := by
  go_enter Try.func6, Try.ntmps6
  go_wp2
  exact bodyPost_ret (v := (.agg #[.int .i64 p, .int .i64 n])) (by first | (simp [results, go_sem]; done) | simp [results, go_sem, ↓IntWalk.iteOmega]) rfl ⟨rfl, (by refine Ext.bel ?_; repeat (with_reducible first | exact Ext.refl _ | apply Ext.alloc | apply Ext.aft | apply Ext.drew | apply Ext.drewN | apply Ext.setCell | exact Nat.le_add_right _ _ | exact Nat.le_refl _ | (simp; done) | omega))⟩

end Go.Proofs.Ytdhnpmjoajaeiaa
