/- Division by a monic polynomial in a ring: the program's text, the law. -/
import Derived.Test.YtflmoopiajhadaaMA
namespace Go.Proofs.Ytflmoopiajhadaa
open Go Go.RowKit

theorem i_modulusE (p n M : Int) (w : World) (h : ringB p n = true) (hM : p ^ n.toNat = M) :
    Calls Try.prog 37 #[(.agg #[.int .i64 p, .int .i64 n])] w fun e w' => e = .returned (.int .i64 M) ∧ Below w.heap.size w w' := by
  subst hM; exact i_modulus p n w h

theorem DivideInRing_len (p n : Int) (f g : List Int) : (divideInRingF p n f g).1.length ≤ 1000000 ∧ (divideInRingF p n f g).2.1.length ≤ 1000000 := by
  unfold divideInRingF
  split
  · rename_i h
    have fx := inRing_facts h.1
    split
    · have hl := divS_len (p ^ n.toNat) (fun x => x) f g (divN f g) (divN f g)
      have h1 := trimF_len (divS (p ^ n.toNat) (fun x => x) f g (divN f g) (divN f g)).2
      have h2 := trimF_len (divS (p ^ n.toNat) (fun x => x) f g (divN f g) (divN f g)).1
      show (quoF _ _ _ _).length ≤ 1000000 ∧ (remF _ _ _ _).length ≤ 1000000
      unfold quoF remF
      have : divN f g ≤ f.length + 1 := by unfold divN; omega
      omega
    · simp
  · simp
end Go.Proofs.Ytflmoopiajhadaa
