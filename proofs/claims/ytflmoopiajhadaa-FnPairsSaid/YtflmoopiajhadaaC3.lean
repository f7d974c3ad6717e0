/- InverseOf: both texts; the law. -/
import Derived.Test.YtflmoopiajhadaaMA
import Derived.Test.YtflmoopiajhadaaC1
namespace Go.Proofs.Ytflmoopiajhadaa
open Go Go.RowKit

def invF (p n a : Int) : Int × Int := if unitF p n a = 0 then (inv a (p ^ n.toNat), 0) else (0, unitF p n a)

theorem unitF_cases (p n a : Int) : unitF p n a = 1 ∨ unitF p n a = 2 ∨ unitF p n a = 5 ∨ unitF p n a = 0 := by
  unfold unitF; split <;> (try split) <;> (try split) <;> simp
theorem unitF_0 {p n a : Int} (h : unitF p n a = 0) : ringB p n = true ∧ inB a 0 (p ^ n.toNat - 1) = true ∧ a % p ≠ 0 := by
  unfold unitF at h
  split at h
  · split at h
    · split at h
      · omega
      · exact ⟨‹_›, ‹_›, ‹_›⟩
    · omega
  · omega

theorem codeF_cases (p n a : Int) : codeF p n a = 1 ∨ codeF p n a = 2 ∨ (codeF p n a = 0 ∧ ringB p n = true ∧ inB a 0 (p ^ n.toNat - 1) = true) := by
  unfold codeF; split
  · split
    · exact .inr (.inr ⟨rfl, ‹_›, ‹_›⟩)
    · simp
  · simp
theorem unitF_code (p n a : Int) : unitF p n a = if codeF p n a = 0 then (if a % p = 0 then 5 else 0) else codeF p n a := by
  unfold unitF codeF; split <;> (try split) <;> simp_all

end Go.Proofs.Ytflmoopiajhadaa
