/- ArePair: both texts, the law. -/
import Derived.Test.YtpkhaojhkhkjjaaH22
namespace Go.Proofs.Ytpkhaojhkhkjjaa
open Go Go.RowKit

theorem pairingF_0 {p n : Int} {f g h : List Int} (e : pairingF p n f g h = 0) : inRingB p n f = true ∧ modB p g = true ∧ modB p h = true ∧ monicB f = true := by
  unfold pairingF at e
  split at e
  · rename_i h1
    split at e
    · rename_i h2; exact ⟨h1.1, h1.2.1, h1.2.2, h2⟩
    · omega
  · omega
def arePairF (p n : Int) (f g h : List Int) : Bool × Int := if pairingF p n f g h = 0 then (isPairB p f g h, 0) else (false, pairingF p n f g h)
set_option maxHeartbeats 2000000 in
theorem i_ArePair (p n : Int) (r1 r2 r3 : Value) (f g h : List Int) (w : World) (h1 : rdI w r1 f) (h2 : rdI w r2 g) (h3 : rdI w r3 h) :
    Calls Try.prog 8 #[(.agg #[.int .i64 p, .int .i64 n]), r1, r2, r3] w fun e w' => e = .returned (.tuple #[.bool (arePairF p n f g h).1, .int .i64 (arePairF p n f g h).2]) ∧ Below w.heap.size w w' := by
  by_cases h0 : pairingF p n f g h = 0
  · have e : (arePairF p n f g h) = (isPairB p f g h, 0) := by unfold arePairF; rw [if_pos h0]
    rw [e]; clear e
    obtain ⟨q1, q2, q3, _⟩ := pairingF_0 h0
    have hl : f.length ≤ 1000000 := by have := (inRing_facts q1).2.1; omega
    have Q2 := hid q2
    have Q3 := hid q3
    clear q1 q2 q3
    go_enter Try.func8, Try.ntmps8
    go_wp2_with (first | (go_at_call 16; refine via (i_pairing _ _ _ _ _ f g h _ (by repeat (with_reducible first | assumption | apply rdI.aft | apply rdI.alloc | apply rdI.drew | apply rdI.drewN)) (by repeat (with_reducible first | assumption | apply rdI.aft | apply rdI.alloc | apply rdI.drew | apply rdI.drewN)) (by repeat (with_reducible first | assumption | apply rdI.aft | apply rdI.alloc | apply rdI.drew | apply rdI.drewN))) ?_; intro uu zz; try simp at zz) | (go_at_call 17; refine via (i_isPair _ _ _ _ _ f g h _ (by repeat (with_reducible first | assumption | apply rdI.aft | apply rdI.alloc | apply rdI.drew | apply rdI.drewN)) (by repeat (with_reducible first | assumption | apply rdI.aft | apply rdI.alloc | apply rdI.drew | apply rdI.drewN)) (by repeat (with_reducible first | assumption | apply rdI.aft | apply rdI.alloc | apply rdI.drew | apply rdI.drewN)) hl Q2.out Q3.out) ?_; intro uu zz; try simp at zz))
    go_ret2
    exact ⟨rfl, (by refine Ext.bel ?_; repeat (with_reducible first | exact Ext.refl _ | apply Ext.alloc | apply Ext.aft | apply Ext.drew | apply Ext.drewN | apply Ext.setCell | exact Nat.le_add_right _ _ | exact Nat.le_refl _ | (simp; done) | omega))⟩
  · have e : (arePairF p n f g h) = (false, pairingF p n f g h) := by unfold arePairF; rw [if_neg h0]
    rw [e]; clear e
    have h0' : (pairingF p n f g h != 0) = true := by simpa using h0
    clear h0
    go_enter Try.func8, Try.ntmps8
    go_wp2_with (first | (go_at_call 16; refine via (i_pairing _ _ _ _ _ f g h _ (by repeat (with_reducible first | assumption | apply rdI.aft | apply rdI.alloc | apply rdI.drew | apply rdI.drewN)) (by repeat (with_reducible first | assumption | apply rdI.aft | apply rdI.alloc | apply rdI.drew | apply rdI.drewN)) (by repeat (with_reducible first | assumption | apply rdI.aft | apply rdI.alloc | apply rdI.drew | apply rdI.drewN))) ?_; intro uu zz; try simp at zz))
    go_ret2
    exact ⟨rfl, (by refine Ext.bel ?_; repeat (with_reducible first | exact Ext.refl _ | apply Ext.alloc | apply Ext.aft | apply Ext.drew | apply Ext.drewN | apply Ext.setCell | exact Nat.le_add_right _ _ | exact Nat.le_refl _ | (simp; done) | omega))⟩
set_option maxHeartbeats 2000000 in
theorem s_ArePair (p n : Int) (r1 r2 r3 : Value) (f g h : List Int) (w : World) (h1 : rdI w r1 f) (h2 : rdI w r2 g) (h3 : rdI w r3 h) :
    Calls Try.prog 5 #[(.agg #[.int .i64 p, .int .i64 n]), r1, r2, r3] w fun e w' => e = .returned (.tuple #[.bool (arePairF p n f g h).1, .int .i64 (arePairF p n f g h).2]) ∧ Below w.heap.size w w' := by
  by_cases h0 : pairingF p n f g h = 0
  · have e : (arePairF p n f g h) = (isPairB p f g h, 0) := by unfold arePairF; rw [if_pos h0]
    rw [e]; clear e
    obtain ⟨q1, q2, q3, _⟩ := pairingF_0 h0
    have hl : f.length ≤ 1000000 := by have := (inRing_facts q1).2.1; omega
    have Q2 := hid q2
    have Q3 := hid q3
    clear q1 q2 q3
    go_enter Try.func5, Try.ntmps5
    go_wp2_with (first | (go_at_call 14; refine via (s_pairing _ _ _ _ _ f g h _ (by repeat (with_reducible first | assumption | apply rdI.aft | apply rdI.alloc | apply rdI.drew | apply rdI.drewN)) (by repeat (with_reducible first | assumption | apply rdI.aft | apply rdI.alloc | apply rdI.drew | apply rdI.drewN)) (by repeat (with_reducible first | assumption | apply rdI.aft | apply rdI.alloc | apply rdI.drew | apply rdI.drewN))) ?_; intro uu zz; try simp at zz) | (go_at_call 15; refine via (s_isPair _ _ _ _ _ f g h _ (by repeat (with_reducible first | assumption | apply rdI.aft | apply rdI.alloc | apply rdI.drew | apply rdI.drewN)) (by repeat (with_reducible first | assumption | apply rdI.aft | apply rdI.alloc | apply rdI.drew | apply rdI.drewN)) (by repeat (with_reducible first | assumption | apply rdI.aft | apply rdI.alloc | apply rdI.drew | apply rdI.drewN)) hl Q2.out Q3.out) ?_; intro uu zz; try simp at zz))
    go_ret2
    exact ⟨rfl, (by refine Ext.bel ?_; repeat (with_reducible first | exact Ext.refl _ | apply Ext.alloc | apply Ext.aft | apply Ext.drew | apply Ext.drewN | apply Ext.setCell | exact Nat.le_add_right _ _ | exact Nat.le_refl _ | (simp; done) | omega))⟩
  · have e : (arePairF p n f g h) = (false, pairingF p n f g h) := by unfold arePairF; rw [if_neg h0]
    rw [e]; clear e
    have h0' : (pairingF p n f g h != 0) = true := by simpa using h0
    clear h0
    go_enter Try.func5, Try.ntmps5
    go_wp2_with (first | (go_at_call 14; refine via (s_pairing _ _ _ _ _ f g h _ (by repeat (with_reducible first | assumption | apply rdI.aft | apply rdI.alloc | apply rdI.drew | apply rdI.drewN)) (by repeat (with_reducible first | assumption | apply rdI.aft | apply rdI.alloc | apply rdI.drew | apply rdI.drewN)) (by repeat (with_reducible first | assumption | apply rdI.aft | apply rdI.alloc | apply rdI.drew | apply rdI.drewN))) ?_; intro uu zz; try simp at zz))
    go_ret2
    exact ⟨rfl, (by refine Ext.bel ?_; repeat (with_reducible first | exact Ext.refl _ | apply Ext.alloc | apply Ext.aft | apply Ext.drew | apply Ext.drewN | apply Ext.setCell | exact Nat.le_add_right _ _ | exact Nat.le_refl _ | (simp; done) | omega))⟩

set_option maxRecDepth 20000 in
set_option maxHeartbeats 16000000 in
theorem law_ArePair (p n : Int) (r1 : Value) (f : List Int) (r2 : Value) (g : List Int) (r3 : Value) (h : List Int) (w : World) (h1 : rdI w r1 f) (h2 : rdI w r2 g) (h3 : rdI w r3 h) :
    Calls Try.prog 3 #[(.agg #[.int .i64 p, .int .i64 n]), r1, r2, r3] w fun e w' => e = .returned (.bool true) ∧ Below w.heap.size w w' := by
  have hm1 : f.length ≤ maxLen := by obtain ⟨a, cap, _, hm, _⟩ := h1; exact hm
  have hm2 : g.length ≤ maxLen := by obtain ⟨a, cap, _, hm, _⟩ := h2; exact hm
  have hm3 : h.length ≤ maxLen := by obtain ⟨a, cap, _, hm, _⟩ := h3; exact hm
  unfold maxLen at hm1 hm2 hm3
  obtain ⟨a1, c1, e1, _, _⟩ := id h1
  obtain ⟨a2, c2, e2, _, _⟩ := id h2
  obtain ⟨a3, c3, e3, _, _⟩ := id h3
  subst e1
  subst e2
  subst e3
  by_cases hl1 : f.length ≤ 1048576
  case neg =>
    have hz1 : ¬ (f.length : Int) ≤ 1048576 := by omega
    go_enter Try.func3, Try.ntmps3
    go_wp2_with fail
    go_ret
    exact ⟨rfl, (by refine Ext.bel ?_; repeat (with_reducible first | exact Ext.refl _ | apply Ext.alloc | apply Ext.aft | apply Ext.drew | apply Ext.drewN | apply Ext.setCell | exact Nat.le_add_right _ _ | exact Nat.le_refl _ | (simp; done) | omega))⟩
  have hz1 : (f.length : Int) ≤ 1048576 := by omega
  by_cases hl2 : g.length ≤ 1048576
  case neg =>
    have hz2 : ¬ (g.length : Int) ≤ 1048576 := by omega
    go_enter Try.func3, Try.ntmps3
    go_wp2_with fail
    go_ret
    exact ⟨rfl, (by refine Ext.bel ?_; repeat (with_reducible first | exact Ext.refl _ | apply Ext.alloc | apply Ext.aft | apply Ext.drew | apply Ext.drewN | apply Ext.setCell | exact Nat.le_add_right _ _ | exact Nat.le_refl _ | (simp; done) | omega))⟩
  have hz2 : (g.length : Int) ≤ 1048576 := by omega
  by_cases hl3 : h.length ≤ 1048576
  case neg =>
    have hz3 : ¬ (h.length : Int) ≤ 1048576 := by omega
    go_enter Try.func3, Try.ntmps3
    go_wp2_with fail
    go_ret
    exact ⟨rfl, (by refine Ext.bel ?_; repeat (with_reducible first | exact Ext.refl _ | apply Ext.alloc | apply Ext.aft | apply Ext.drew | apply Ext.drewN | apply Ext.setCell | exact Nat.le_add_right _ _ | exact Nat.le_refl _ | (simp; done) | omega))⟩
  have hz3 : (h.length : Int) ≤ 1048576 := by omega
  obtain ⟨b, hb⟩ : ∃ b, b = (arePairF p n f g h).1 := ⟨_, rfl⟩
  obtain ⟨cd, hcd⟩ : ∃ cd, cd = (arePairF p n f g h).2 := ⟨_, rfl⟩
  have HS : Hid (∀ r1 r2 r3 w, rdI w r1 f → rdI w r2 g → rdI w r3 h → Calls Try.prog 5 #[(.agg #[.int .i64 p, .int .i64 n]), r1, r2, r3] w fun e w' => e = .returned (.tuple #[.bool b, .int .i64 cd]) ∧ Below w.heap.size w w') := hid (by rw [hb, hcd]; exact fun r1 r2 r3 w h1 h2 h3 => s_ArePair p n r1 r2 r3 f g h w h1 h2 h3)
  have HI : Hid (∀ r1 r2 r3 w, rdI w r1 f → rdI w r2 g → rdI w r3 h → Calls Try.prog 8 #[(.agg #[.int .i64 p, .int .i64 n]), r1, r2, r3] w fun e w' => e = .returned (.tuple #[.bool b, .int .i64 cd]) ∧ Below w.heap.size w w') := hid (by rw [hb, hcd]; exact fun r1 r2 r3 w h1 h2 h3 => i_ArePair p n r1 r2 r3 f g h w h1 h2 h3)
  have H1 := hid h1
  have H2 := hid h2
  have H3 := hid h3
  clear hb hcd h1 h2 h3
  cases b
  all_goals
    go_enter Try.func3, Try.ntmps3
    go_wp2_with (go_at_call 6; refine via (l_toRing' _ _ _) ?_; intro uu zz; try simp at zz)
    refine viaI (g := id) (l_toI _ _ _ (H1.out.below (by refine Ext.bel ?_; repeat (with_reducible first | exact Ext.refl _ | apply Ext.alloc | apply Ext.aft | apply Ext.drew | apply Ext.drewN))) hl1) ?_
    intro t1 ut1 zt1 ownt1
    try simp at zt1
    have rdt1 := ownt1.rd
    go_wp2_with fail
    refine viaI (g := id) (l_toI _ _ _ (H2.out.below (by refine Ext.bel ?_; repeat (with_reducible first | exact Ext.refl _ | apply Ext.alloc | apply Ext.aft | apply Ext.drew | apply Ext.drewN))) hl2) ?_
    intro t2 ut2 zt2 ownt2
    try simp at zt2
    have rdt2 := ownt2.rd
    go_wp2_with fail
    refine viaI (g := id) (l_toI _ _ _ (H3.out.below (by refine Ext.bel ?_; repeat (with_reducible first | exact Ext.refl _ | apply Ext.alloc | apply Ext.aft | apply Ext.drew | apply Ext.drewN))) hl3) ?_
    intro t3 ut3 zt3 ownt3
    try simp at zt3
    have rdt3 := ownt3.rd
    go_wp2_with (go_at_call 5; refine via (HS.out _ _ _ _ (by repeat (with_reducible first | assumption | apply rdI.aft | apply rdI.alloc | apply rdI.drew | apply rdI.drewN)) (by repeat (with_reducible first | assumption | apply rdI.aft | apply rdI.alloc | apply rdI.drew | apply rdI.drewN)) (by repeat (with_reducible first | assumption | apply rdI.aft | apply rdI.alloc | apply rdI.drew | apply rdI.drewN))) ?_; intro us zs; try simp at zs)
    obtain ⟨W1, hW1⟩ : ∃ W1, W1 = aft (aft (aft (aft (aft (w.alloc (Obj.cells #[.int .i64 p, .int .i64 n] 23)) uu) ut1) ut2) ut3) us := ⟨_, rfl⟩
    rw [← hW1] at zs
    have b1 : (fun W => ∀ o, W.cell? ⟨w.heap.size, o, none⟩ = #[Value.int .i64 p, .int .i64 n][o]?) W1 := fun o => by rw [hW1]; simp [go_sem, ↓IntWalk.iteOmega]
    have E1 : Hid (Ext w.heap.size w W1) := hid (by rw [hW1]; exact (by repeat (with_reducible first | exact Ext.refl _ | apply Ext.alloc | apply Ext.aft | apply Ext.drew | apply Ext.drewN | apply Ext.setCell | exact Nat.le_add_right _ _ | exact Nat.le_refl _ | (simp; done) | omega)))
    have l1 : w.heap.size < W1.heap.size := by omega
    first | rw [← hW1] | skip
    clear zs zz zt1 zt2 zt3 ownt1 ownt2 ownt3 rdt1 rdt2 rdt3
    have HH := hid hW1
    go_wp2_with fail
    first | rw [← HH.out] | skip
    clear hW1 HH
    refine viaI (g := id) (l_toI _ _ _ (H1.out.below (Ext.bel (Ext.of E1.out (by repeat (with_reducible first | exact Ext.refl _ | apply Ext.alloc | apply Ext.aft | apply Ext.drew | apply Ext.drewN | apply Ext.setCell | exact Nat.le_add_right _ _ | exact Nat.le_refl _ | (simp; done) | omega))))) hl1) ?_
    intro x1 ux1 zx1 ownx1
    try simp at zx1
    have rdx1 := ownx1.rd
    go_wp2_with fail
    refine viaI (g := id) (l_toI _ _ _ (H2.out.below (Ext.bel (Ext.of E1.out (by repeat (with_reducible first | exact Ext.refl _ | apply Ext.alloc | apply Ext.aft | apply Ext.drew | apply Ext.drewN | apply Ext.setCell | exact Nat.le_add_right _ _ | exact Nat.le_refl _ | (simp; done) | omega))))) hl2) ?_
    intro x2 ux2 zx2 ownx2
    try simp at zx2
    have rdx2 := ownx2.rd
    go_wp2_with fail
    refine viaI (g := id) (l_toI _ _ _ (H3.out.below (Ext.bel (Ext.of E1.out (by repeat (with_reducible first | exact Ext.refl _ | apply Ext.alloc | apply Ext.aft | apply Ext.drew | apply Ext.drewN | apply Ext.setCell | exact Nat.le_add_right _ _ | exact Nat.le_refl _ | (simp; done) | omega))))) hl3) ?_
    intro x3 ux3 zx3 ownx3
    try simp at zx3
    have rdx3 := ownx3.rd
    go_wp2_with (first | (go_at_call 6; refine via (l_toRing' _ _ _) ?_; intro uu zz; try simp at zz) | (go_at_call 8; refine via (HI.out _ _ _ _ (by repeat (with_reducible first | assumption | apply rdI.aft | apply rdI.alloc | apply rdI.drew | apply rdI.drewN)) (by repeat (with_reducible first | assumption | apply rdI.aft | apply rdI.alloc | apply rdI.drew | apply rdI.drewN)) (by repeat (with_reducible first | assumption | apply rdI.aft | apply rdI.alloc | apply rdI.drew | apply rdI.drewN))) ?_; intro ui zi; try simp at zi))
    refine viaI (g := id) (l_toI _ _ _ (H1.out.below (Ext.bel (Ext.of E1.out (by repeat (with_reducible first | exact Ext.refl _ | apply Ext.alloc | apply Ext.aft | apply Ext.drew | apply Ext.drewN | apply Ext.setCell | exact Nat.le_add_right _ _ | exact Nat.le_refl _ | (simp; done) | omega))))) hl1) ?_
    intro s1 us1 zs1 owns1
    try simp at zs1
    have rds1 := owns1.rd
    go_wp2_with fail
    refine via (l_eqI x1 s1 f _ (by repeat (with_reducible first | assumption | apply rdI.aft | apply rdI.alloc | apply rdI.drew | apply rdI.drewN)) (by repeat (with_reducible first | assumption | apply rdI.aft | apply rdI.alloc | apply rdI.drew | apply rdI.drewN))) ?_
    intro ue1 ze1
    go_wp2_with fail
    refine viaI (g := id) (l_toI _ _ _ (H2.out.below (Ext.bel (Ext.of E1.out (by repeat (with_reducible first | exact Ext.refl _ | apply Ext.alloc | apply Ext.aft | apply Ext.drew | apply Ext.drewN | apply Ext.setCell | exact Nat.le_add_right _ _ | exact Nat.le_refl _ | (simp; done) | omega))))) hl2) ?_
    intro s2 us2 zs2 owns2
    try simp at zs2
    have rds2 := owns2.rd
    go_wp2_with fail
    refine via (l_eqI x2 s2 g _ (by repeat (with_reducible first | assumption | apply rdI.aft | apply rdI.alloc | apply rdI.drew | apply rdI.drewN)) (by repeat (with_reducible first | assumption | apply rdI.aft | apply rdI.alloc | apply rdI.drew | apply rdI.drewN))) ?_
    intro ue2 ze2
    go_wp2_with fail
    refine viaI (g := id) (l_toI _ _ _ (H3.out.below (Ext.bel (Ext.of E1.out (by repeat (with_reducible first | exact Ext.refl _ | apply Ext.alloc | apply Ext.aft | apply Ext.drew | apply Ext.drewN | apply Ext.setCell | exact Nat.le_add_right _ _ | exact Nat.le_refl _ | (simp; done) | omega))))) hl3) ?_
    intro s3 us3 zs3 owns3
    try simp at zs3
    have rds3 := owns3.rd
    go_wp2_with fail
    refine via (l_eqI x3 s3 h _ (by repeat (with_reducible first | assumption | apply rdI.aft | apply rdI.alloc | apply rdI.drew | apply rdI.drewN)) (by repeat (with_reducible first | assumption | apply rdI.aft | apply rdI.alloc | apply rdI.drew | apply rdI.drewN))) ?_
    intro ue3 ze3
    go_wp2_with fail
    go_ret
    exact ⟨rfl, Ext.bel (Ext.of E1.out (by repeat (with_reducible first | exact Ext.refl _ | apply Ext.alloc | apply Ext.aft | apply Ext.drew | apply Ext.drewN | apply Ext.setCell | exact Nat.le_add_right _ _ | exact Nat.le_refl _ | (simp; done) | omega)))⟩
end Go.Proofs.Ytpkhaojhkhkjjaa
