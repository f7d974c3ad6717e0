/- Pairs: both texts. -/
import Derived.Test.YtaninbfcoifedaaH17
namespace Go.Proofs.Ytaninbfcoifedaa
open Go Go.RowKit

/-- The first error of a monic polynomial and two by the prime. -/
def pairingF (p n : Int) (f g h : List Int) : Int := if inRingB p n f = true ∧ modB p g = true ∧ modB p h = true then (if monicB f = true then 0 else 5) else 1
/-- Whether polynomials by the prime are a pair for a monic one. -/
def isPairB (p : Int) (f g h : List Int) : Bool := monicB g && monicB h && decide (1 < g.length) && decide (1 < h.length) && decide (timesP p g h = redF p f) && decide ((commonP p g h).length = 1)

set_option maxHeartbeats 4000000 in
theorem i_pairing (p n : Int) (r1 r2 r3 : Value) (f g h : List Int) (w : World) (h1 : rdI w r1 f) (h2 : rdI w r2 g) (h3 : rdI w r3 h) :
    Calls Try.prog 22 #[(.agg #[.int .i64 p, .int .i64 n]), r1, r2, r3] w fun e w' => e = .returned (.int .i64 (pairingF p n f g h)) ∧ Below w.heap.size w w' := by
  cases hx : inRingB p n f
  · have e : pairingF p n f g h = 1 := by unfold pairingF; rw [if_neg (by simp [hx])]
    rw [e]; clear e
    go_enter Try.func22, Try.ntmps22
    go_wp2_with (first | (go_at_call 27; refine via (i_IsInRing _ _ _ _ _ (by repeat (with_reducible first | assumption | apply rdI.aft | apply rdI.alloc | apply rdI.drew | apply rdI.drewN))) ?_; intro uu zz; try simp at zz))
    go_ret
    exact ⟨rfl, (by refine Ext.bel ?_; repeat (with_reducible first | exact Ext.refl _ | apply Ext.alloc | apply Ext.aft | apply Ext.drew | apply Ext.drewN | apply Ext.setCell | exact Nat.le_add_right _ _ | exact Nat.le_refl _ | (simp; done) | omega))⟩
  cases hy : modB p g
  · have e : pairingF p n f g h = 1 := by unfold pairingF; rw [if_neg (by simp [hy])]
    rw [e]; clear e
    go_enter Try.func22, Try.ntmps22
    go_wp2_with (first | (go_at_call 27; refine via (i_IsInRing _ _ _ _ _ (by repeat (with_reducible first | assumption | apply rdI.aft | apply rdI.alloc | apply rdI.drew | apply rdI.drewN))) ?_; intro uu zz; try simp at zz))
    refine via (i_IsModular _ _ g _ (by repeat (with_reducible first | assumption | apply rdI.aft | apply rdI.alloc | apply rdI.drew | apply rdI.drewN))) ?_
    try (intro uu zz; try simp at zz)
    go_wp2_with fail
    go_ret
    exact ⟨rfl, (by refine Ext.bel ?_; repeat (with_reducible first | exact Ext.refl _ | apply Ext.alloc | apply Ext.aft | apply Ext.drew | apply Ext.drewN | apply Ext.setCell | exact Nat.le_add_right _ _ | exact Nat.le_refl _ | (simp; done) | omega))⟩
  cases hz : modB p h
  · have e : pairingF p n f g h = 1 := by unfold pairingF; rw [if_neg (by simp [hz])]
    rw [e]; clear e
    go_enter Try.func22, Try.ntmps22
    go_wp2_with (first | (go_at_call 27; refine via (i_IsInRing _ _ _ _ _ (by repeat (with_reducible first | assumption | apply rdI.aft | apply rdI.alloc | apply rdI.drew | apply rdI.drewN))) ?_; intro uu zz; try simp at zz))
    refine via (i_IsModular _ _ g _ (by repeat (with_reducible first | assumption | apply rdI.aft | apply rdI.alloc | apply rdI.drew | apply rdI.drewN))) ?_
    try (intro uu zz; try simp at zz)
    go_wp2_with fail
    refine via (i_IsModular _ _ h _ (by repeat (with_reducible first | assumption | apply rdI.aft | apply rdI.alloc | apply rdI.drew | apply rdI.drewN))) ?_
    try (intro uu zz; try simp at zz)
    go_wp2_with fail
    go_ret
    exact ⟨rfl, (by refine Ext.bel ?_; repeat (with_reducible first | exact Ext.refl _ | apply Ext.alloc | apply Ext.aft | apply Ext.drew | apply Ext.drewN | apply Ext.setCell | exact Nat.le_add_right _ _ | exact Nat.le_refl _ | (simp; done) | omega))⟩
  have e : pairingF p n f g h = if monicB f = true then 0 else 5 := by unfold pairingF; rw [if_pos ⟨hx, hy, hz⟩]
  rw [e]; clear e
  cases hm : monicB f
  all_goals
    go_enter Try.func22, Try.ntmps22
    go_wp2_with (first | (go_at_call 27; refine via (i_IsInRing _ _ _ _ _ (by repeat (with_reducible first | assumption | apply rdI.aft | apply rdI.alloc | apply rdI.drew | apply rdI.drewN))) ?_; intro uu zz; try simp at zz))
    refine via (i_IsModular _ _ g _ (by repeat (with_reducible first | assumption | apply rdI.aft | apply rdI.alloc | apply rdI.drew | apply rdI.drewN))) ?_
    try (intro uu zz; try simp at zz)
    go_wp2_with fail
    refine via (i_IsModular _ _ h _ (by repeat (with_reducible first | assumption | apply rdI.aft | apply rdI.alloc | apply rdI.drew | apply rdI.drewN))) ?_
    try (intro uu zz; try simp at zz)
    go_wp2_with (go_at_call 45; refine pur (i_isMonic _ f _ (by repeat (with_reducible first | assumption | apply rdI.aft | apply rdI.alloc | apply rdI.drew | apply rdI.drewN))) ?_)
    go_ret
    exact ⟨rfl, (by refine Ext.bel ?_; repeat (with_reducible first | exact Ext.refl _ | apply Ext.alloc | apply Ext.aft | apply Ext.drew | apply Ext.drewN | apply Ext.setCell | exact Nat.le_add_right _ _ | exact Nat.le_refl _ | (simp; done) | omega))⟩
set_option maxHeartbeats 4000000 in
theorem s_pairing (p n : Int) (r1 r2 r3 : Value) (f g h : List Int) (w : World) (h1 : rdI w r1 f) (h2 : rdI w r2 g) (h3 : rdI w r3 h) :
    Calls Try.prog 19 #[(.agg #[.int .i64 p, .int .i64 n]), r1, r2, r3] w fun e w' => e = .returned (.int .i64 (pairingF p n f g h)) ∧ Below w.heap.size w w' := by
  cases hx : inRingB p n f
  · have e : pairingF p n f g h = 1 := by unfold pairingF; rw [if_neg (by simp [hx])]
    rw [e]; clear e
    go_enter Try.func19, Try.ntmps19
    go_wp2_with (first | (go_at_call 30; refine via (s_IsInRing _ _ _ _ _ (by repeat (with_reducible first | assumption | apply rdI.aft | apply rdI.alloc | apply rdI.drew | apply rdI.drewN))) ?_; intro uu zz; try simp at zz))
    go_ret
    exact ⟨rfl, (by refine Ext.bel ?_; repeat (with_reducible first | exact Ext.refl _ | apply Ext.alloc | apply Ext.aft | apply Ext.drew | apply Ext.drewN | apply Ext.setCell | exact Nat.le_add_right _ _ | exact Nat.le_refl _ | (simp; done) | omega))⟩
  cases hy : modB p g
  · have e : pairingF p n f g h = 1 := by unfold pairingF; rw [if_neg (by simp [hy])]
    rw [e]; clear e
    go_enter Try.func19, Try.ntmps19
    go_wp2_with (first | (go_at_call 30; refine via (s_IsInRing _ _ _ _ _ (by repeat (with_reducible first | assumption | apply rdI.aft | apply rdI.alloc | apply rdI.drew | apply rdI.drewN))) ?_; intro uu zz; try simp at zz))
    refine pur (s_IsModular _ _ g _ (by repeat (with_reducible first | assumption | apply rdI.aft | apply rdI.alloc | apply rdI.drew | apply rdI.drewN))) ?_
    try (intro uu zz; try simp at zz)
    go_wp2_with fail
    go_ret
    exact ⟨rfl, (by refine Ext.bel ?_; repeat (with_reducible first | exact Ext.refl _ | apply Ext.alloc | apply Ext.aft | apply Ext.drew | apply Ext.drewN | apply Ext.setCell | exact Nat.le_add_right _ _ | exact Nat.le_refl _ | (simp; done) | omega))⟩
  cases hz : modB p h
  · have e : pairingF p n f g h = 1 := by unfold pairingF; rw [if_neg (by simp [hz])]
    rw [e]; clear e
    go_enter Try.func19, Try.ntmps19
    go_wp2_with (first | (go_at_call 30; refine via (s_IsInRing _ _ _ _ _ (by repeat (with_reducible first | assumption | apply rdI.aft | apply rdI.alloc | apply rdI.drew | apply rdI.drewN))) ?_; intro uu zz; try simp at zz))
    refine pur (s_IsModular _ _ g _ (by repeat (with_reducible first | assumption | apply rdI.aft | apply rdI.alloc | apply rdI.drew | apply rdI.drewN))) ?_
    try (intro uu zz; try simp at zz)
    go_wp2_with fail
    refine pur (s_IsModular _ _ h _ (by repeat (with_reducible first | assumption | apply rdI.aft | apply rdI.alloc | apply rdI.drew | apply rdI.drewN))) ?_
    try (intro uu zz; try simp at zz)
    go_wp2_with fail
    go_ret
    exact ⟨rfl, (by refine Ext.bel ?_; repeat (with_reducible first | exact Ext.refl _ | apply Ext.alloc | apply Ext.aft | apply Ext.drew | apply Ext.drewN | apply Ext.setCell | exact Nat.le_add_right _ _ | exact Nat.le_refl _ | (simp; done) | omega))⟩
  have e : pairingF p n f g h = if monicB f = true then 0 else 5 := by unfold pairingF; rw [if_pos ⟨hx, hy, hz⟩]
  rw [e]; clear e
  cases hm : monicB f
  all_goals
    go_enter Try.func19, Try.ntmps19
    go_wp2_with (first | (go_at_call 30; refine via (s_IsInRing _ _ _ _ _ (by repeat (with_reducible first | assumption | apply rdI.aft | apply rdI.alloc | apply rdI.drew | apply rdI.drewN))) ?_; intro uu zz; try simp at zz))
    refine pur (s_IsModular _ _ g _ (by repeat (with_reducible first | assumption | apply rdI.aft | apply rdI.alloc | apply rdI.drew | apply rdI.drewN))) ?_
    try (intro uu zz; try simp at zz)
    go_wp2_with fail
    refine pur (s_IsModular _ _ h _ (by repeat (with_reducible first | assumption | apply rdI.aft | apply rdI.alloc | apply rdI.drew | apply rdI.drewN))) ?_
    try (intro uu zz; try simp at zz)
    go_wp2_with (go_at_call 32; refine pur (s_isMonic _ f _ (by repeat (with_reducible first | assumption | apply rdI.aft | apply rdI.alloc | apply rdI.drew | apply rdI.drewN))) ?_)
    go_ret
    exact ⟨rfl, (by refine Ext.bel ?_; repeat (with_reducible first | exact Ext.refl _ | apply Ext.alloc | apply Ext.aft | apply Ext.drew | apply Ext.drewN | apply Ext.setCell | exact Nat.le_add_right _ _ | exact Nat.le_refl _ | (simp; done) | omega))⟩

theorem timesP_mod {p : Int} (hp : 1 ≤ p) (f g : List Int) : isMod p (timesP p f g) := isMod_red hp _
theorem timesP_len (p : Int) (f g : List Int) : (timesP p f g).length ≤ f.length + g.length := by
  have := redF_len p (prodF f g); have := prodF_len f g; unfold timesP; omega

theorem purB {P : Program} {f : FuncId} {args : Array Value} {w : World} {b c : Bool} {R : Ending → World → Prop}
    (h : Calls P f args w fun e w' => e = .returned (.bool b) ∧ w = w') (hb : b = c) (hR : R (.returned (.bool c)) w) : Calls P f args w R := by subst hb; exact pur h hR
theorem viaB {P : Program} {f : FuncId} {args : Array Value} {w : World} {b c : Bool} {R : Ending → World → Prop}
    (h : Calls P f args w fun e w' => e = .returned (.bool b) ∧ Below w.heap.size w w') (hb : b = c) (hR : ∀ u, w.heap.size ≤ (aft w u).heap.size → R (.returned (.bool c)) (aft w u)) : Calls P f args w R := by subst hb; exact via h hR

theorem i_isMonicE (r : Value) (xs : List Int) (b : Bool) (w : World) (h : rdI w r xs) (hb : monicB xs = b) :
    Calls Try.prog 45 #[r] w fun e w' => e = .returned (.bool b) ∧ w = w' := by subst hb; exact i_isMonic r xs w h
theorem s_isMonicE (r : Value) (xs : List Int) (b : Bool) (w : World) (h : rdI w r xs) (hb : monicB xs = b) :
    Calls Try.prog 32 #[r] w fun e w' => e = .returned (.bool b) ∧ w = w' := by subst hb; exact s_isMonic r xs w h
theorem i_sameE (r1 r2 : Value) (xs ys : List Int) (b : Bool) (w : World) (h1 : rdI w r1 xs) (h2 : rdI w r2 ys) (hb : decide (xs = ys) = b) :
    Calls Try.prog 46 #[r1, r2] w fun e w' => e = .returned (.bool b) ∧ Below w.heap.size w w' := by subst hb; exact i_same r1 r2 xs ys w h1 h2
theorem s_sameE (r1 r2 : Value) (xs ys : List Int) (b : Bool) (w : World) (h1 : rdI w r1 xs) (h2 : rdI w r2 ys) (hb : decide (xs = ys) = b) :
    Calls Try.prog 33 #[r1, r2] w fun e w' => e = .returned (.bool b) ∧ Below w.heap.size w w' := by subst hb; exact s_same r1 r2 xs ys w h1 h2

end Go.Proofs.Ytaninbfcoifedaa
