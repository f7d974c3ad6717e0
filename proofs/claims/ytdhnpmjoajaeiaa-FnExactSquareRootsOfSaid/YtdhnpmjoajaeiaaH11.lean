/- Division by a monic polynomial in a ring: the statement's text. -/
import Derived.Test.YtdhnpmjoajaeiaaH10
import Derived.Test.YtdhnpmjoajaeiaaB4
namespace Go.Proofs.Ytdhnpmjoajaeiaa
open Go Go.RowKit

/-- A call that hands back two new slices. -/
theorem viaI2 {P : Program} {f : FuncId} {args : Array Value} {w : World} {xs ys : List Int} {g : Value → Value → Value} {R : Ending → World → Prop}
    (h : Calls P f args w fun e w' => ∃ v1 v2, e = .returned (g v1 v2) ∧ ownR w.heap.size w' v1 xs ∧ ownR w.heap.size w' v2 ys ∧ rowNe v1 v2.ownBlock ∧ rowNe v2 v1.ownBlock ∧ Below w.heap.size w w')
    (hR : ∀ v1 v2 u, w.heap.size ≤ (aft w u).heap.size → ownR w.heap.size (aft w u) v1 xs → ownR w.heap.size (aft w u) v2 ys → rowNe v1 v2.ownBlock → rowNe v2 v1.ownBlock → R (.returned (g v1 v2)) (aft w u)) : Calls P f args w R :=
  h.mono fun e w' ⟨v1, v2, he, ho1, ho2, hn1, hn2, hb⟩ => by subst he; obtain ⟨u, rfl⟩ := aft_ex hb; exact hR v1 v2 u (size_aft w u) ho1 ho2 hn1 hn2
theorem viaE2 {P : Program} {f : FuncId} {args : Array Value} {w : World} {xs ys xs' ys' : List Int} {g : Value → Value → Value} {R : Ending → World → Prop}
    (h : Calls P f args w fun e w' => ∃ v1 v2, e = .returned (g v1 v2) ∧ ownR w.heap.size w' v1 xs ∧ ownR w.heap.size w' v2 ys ∧ rowNe v1 v2.ownBlock ∧ rowNe v2 v1.ownBlock ∧ Below w.heap.size w w') (hx : xs = xs') (hy : ys = ys')
    (hR : ∀ v1 v2 u, w.heap.size ≤ (aft w u).heap.size → ownR w.heap.size (aft w u) v1 xs' → ownR w.heap.size (aft w u) v2 ys' → rowNe v1 v2.ownBlock → rowNe v2 v1.ownBlock → R (.returned (g v1 v2)) (aft w u)) : Calls P f args w R := by
  subst hx; subst hy; exact viaI2 h hR

theorem divS_succ (m : Int) (lead : Int → Int) (f g : List Int) (n t k : Nat) (hk : k + t + 1 = n) :
    divS m lead f g n (t + 1) = (subK m (divS m lead f g n t).1 k (lead ((divS m lead f g n t).1.getD (k + g.length - 1) 0)) g g.length, (divS m lead f g n t).2.set k (lead ((divS m lead f g n t).1.getD (k + g.length - 1) 0))) := by
  have e : n - 1 - t = k := by omega
  simp only [divS, e]
theorem subK_zero (m : Int) (A : List Int) (k : Nat) (c : Int) (g : List Int) : subK m A k c g 0 = A := rfl
theorem prod_bd2 {a b x m : Int} (hm : m ≤ 1000000000) (ha : 0 ≤ a ∧ a ≤ m - 1) (hb : 0 ≤ b ∧ b ≤ m - 1) (hx : 0 ≤ x ∧ x ≤ m - 1) : 0 ≤ a * b ∧ a * b ≤ 1000000000000000000 ∧ -1000000000000000000 ≤ x - a * b ∧ x - a * b ≤ 1000000000 := by
  have h1 := Int.mul_nonneg ha.1 hb.1
  have h2 : a * b ≤ 1000000000 * 1000000000 := Int.mul_le_mul (by omega) (by omega) hb.1 (by omega)
  omega

end Go.Proofs.Ytdhnpmjoajaeiaa
