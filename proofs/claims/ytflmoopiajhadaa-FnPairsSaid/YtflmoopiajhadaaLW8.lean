/- LiftPair: both texts, the law. -/
import Derived.Test.YtflmoopiajhadaaLW7
import Derived.Test.YtflmoopiajhadaaLG
import Derived.Test.YtflmoopiajhadaaH21
namespace Go.Proofs.Ytflmoopiajhadaa
open Go Go.RowKit

theorem red_one8 {p : Int} {f : List Int} {k : Nat} (hp : 2 ≤ p) (hl : f.length = k + 1) (h1 : co f k = 1) : (redF p f).length = k + 1 := by
  have e1 := red_len p f
  have e2 : co (redF p f) k = 1 := by rw [co_red, h1]; exact Int.emod_eq_of_lt (by omega) (by omega)
  rcases Nat.lt_or_ge k (redF p f).length with h | h
  · omega
  · have : co (redF p f) k = 0 := getD_out h
    omega
theorem cv_top {a b : List Int} {k l : Nat} (ha : a.length = k + 1) (ha1 : co a k = 1) (hb : b.length = l + 1) (hb1 : co b l = 1) : cv (co a) (co b) (k + l) = 1 := by
  have := sumR_only (p := 0) (f := fun i => co a i * co b (k + l - i)) (k := k) (k + l + 1) (by omega) (fun i hi hne => by
    rw [Int.emod_zero]
    by_cases h2 : k < i
    · rw [show co a i = 0 from getD_out (by omega)]; simp
    · rw [show co b (k + l - i) = 0 from getD_out (by omega)]; simp)
  rw [Int.emod_zero, Int.emod_zero, ha1, show k + l - k = l by omega, hb1] at this
  exact this
theorem monic_co {f : List Int} (h : monicB f = true) : 1 ≤ f.length ∧ co f (f.length - 1) = 1 := by
  have h1 := monic_len h
  have := monicB_at (xs := f) (k := f.length - 1) (by omega)
  rw [h] at this
  exact ⟨h1, by unfold co; exact eq_of_beq this.symm⟩
/-- What is given when a pair is lifted. -/
theorem pairG_of {p n : Int} {f g h : List Int} (h0 : pairingF p n f g h = 0) (hp0 : isPairB p f g h = true) : pairG p (p ^ n.toNat) f g h ∧ ringB p n = true ∧ (1 ≤ n ∧ n ≤ 40) ∧ timesP p g h = redF p f := by
  obtain ⟨q1, q2, q3, q4⟩ := pairingF_0 h0
  obtain ⟨hs, lg, mg⟩ := mod_facts q2
  obtain ⟨_, lh, mh⟩ := mod_facts q3
  obtain ⟨fr, fl, fb, _⟩ := inRing_facts q1
  obtain ⟨hp, hn, hm1, hm2⟩ := inRing_M q1
  have hsp := smallP_bd hs
  unfold isPairB at hp0
  simp only [Bool.and_eq_true, decide_eq_true_eq] at hp0
  obtain ⟨⟨⟨⟨⟨x1, x2⟩, x3⟩, x4⟩, x5⟩, x6⟩ := hp0
  obtain ⟨g1, g2⟩ := monic_co x1
  obtain ⟨h1, h2⟩ := monic_co x2
  obtain ⟨f1, f2⟩ := monic_co q4
  have hfr := red_one8 (p := p) (f := f) (k := f.length - 1) hsp.1 (by omega) f2
  have ht : (timesP p g h).length = g.length - 1 + (h.length - 1) + 1 := by
    have e1 := times_len (p := p) (by omega) g h
    have e2 : co (timesP p g h) (g.length - 1 + (h.length - 1)) = 1 := by
      rw [co_times, cv_top (by omega) g2 (by omega) h2]
      exact Int.emod_eq_of_lt (by omega) (by omega)
    rcases Nat.lt_or_ge (g.length - 1 + (h.length - 1)) (timesP p g h).length with hh | hh
    · omega
    · have : co (timesP p g h) (g.length - 1 + (h.length - 1)) = 0 := getD_out hh
      omega
  rw [x5, hfr] at ht
  have hpm : p ^ n.toNat % p = 0 := by
    obtain ⟨t, ht⟩ : ∃ t, n.toNat = t + 1 := ⟨n.toNat - 1, by omega⟩
    rw [ht, Int.pow_succ]; exact Int.mul_emod_left _ _
  have hpl : p ≤ p ^ n.toNat := by
    have := pow_le (p := p) (by omega) (show 1 ≤ n.toNat by omega)
    rwa [Int.pow_succ, Int.pow_zero, Int.one_mul] at this
  exact ⟨⟨hs, by omega, hm2, hpl, hpm, mg, mh, x3, x4, lg, lh, fl, by omega, f2, fb, g2, h2, cop_of (by omega) x6⟩, fr, hn, x5⟩
def liftPairF (p n : Int) (f g h : List Int) : List Int × List Int × Int :=
  if pairingF p n f g h = 0 then (if isPairB p f g h = true then ((liftR p (p ^ n.toNat) n.toNat f g h).1, (liftR p (p ^ n.toNat) n.toNat f g h).2, 0) else ([], [], 5)) else ([], [], pairingF p n f g h)
theorem liftP_lif {p m : Int} {f g h : List Int} (k : pairG p m f g h) : ∀ (t : Nat) (q : Int) (a b : List Int), q % p = 0 → lif p m g a → lif p m h b → lif p m g (liftP p m f g h t q a b).1 ∧ lif p m h (liftP p m f g h t q a b).2 := by
  intro t
  induction t with
  | zero => intro q a b _ ka kb; exact ⟨ka, kb⟩
  | succ t ih =>
    intro q a b hq ka kb
    rw [liftP]
    split
    · obtain ⟨na, nb⟩ := pair_next k ka kb hq
      exact ih (q * p) _ _ (Int.mul_emod_left _ _) na nb
    · exact ⟨ka, kb⟩
theorem liftR_lif {p m : Int} {n : Nat} {f g h : List Int} (k : pairG p m f g h) : lif p m g (liftR p m n f g h).1 ∧ lif p m h (liftR p m n f g h).2 := by
  have k' := k
  obtain ⟨hs, m2, _, hpm, _, hg, hh, hlg, hlh, _, _, _, hlf, hf1, _, hg1, hh1, hc⟩ := k'
  exact liftP_lif k n p g h (Int.emod_self) (lif.refl hg hpm hg1) (lif.refl hh hpm hh1)
theorem LiftPair_len (p n : Int) (f g h : List Int) : (liftPairF p n f g h).1.length ≤ 1000000 ∧ (liftPairF p n f g h).2.1.length ≤ 1000000 := by
  unfold liftPairF
  split
  · split
    · obtain ⟨k, _⟩ := pairG_of ‹_› ‹_›
      obtain ⟨k1, k2⟩ := liftR_lif (n := n.toNat) k
      have e1 := k1.2.1
      have e2 := k2.2.1
      obtain ⟨_, _, _, _, _, _, _, _, _, lg, lh, _⟩ := k
      exact ⟨by show (liftR _ _ _ _ _ _).1.length ≤ _; omega, by show (liftR _ _ _ _ _ _).2.length ≤ _; omega⟩
    · simp
  · simp
set_option maxRecDepth 20000 in
set_option maxHeartbeats 8000000 in
theorem s_LiftPair (p n : Int) (r1 r2 r3 : Value) (f g h : List Int) (w : World) (h1 : rdI w r1 f) (h2 : rdI w r2 g) (h3 : rdI w r3 h) :
    Calls Try.prog 7 #[(.agg #[.int .i64 p, .int .i64 n]), r1, r2, r3] w fun e w' => ∃ v1 v2, e = .returned (.tuple #[v1, v2, .int .i64 (liftPairF p n f g h).2.2]) ∧ ownR w.heap.size w' v1 (liftPairF p n f g h).1 ∧ ownR w.heap.size w' v2 (liftPairF p n f g h).2.1 ∧ rowNe v1 v2.ownBlock ∧ rowNe v2 v1.ownBlock ∧ Below w.heap.size w w' := by
  by_cases h0 : pairingF p n f g h = 0
  · obtain ⟨q1, q2, q3, _⟩ := pairingF_0 h0
    have hl : f.length ≤ 1000000 := by have := (inRing_facts q1).2.1; omega
    have Q2 := hid q2
    have Q3 := hid q3
    clear q1 q2 q3
    cases hb : isPairB p f g h
    · have e : (liftPairF p n f g h) = ([], [], 5) := by unfold liftPairF; rw [if_pos h0, if_neg (by simp [hb])]
      rw [e]; clear e
      have H0 := hid h0
      have HB := hid hb
      clear h0 hb
      go_enter Try.func7, Try.ntmps7
      go_wp2_with fail
      refine via (s_pairing _ _ _ _ _ f g h _ (by repeat (with_reducible first | assumption | apply rdI.aft | apply rdI.alloc | apply rdI.drew | apply rdI.drewN)) (by repeat (with_reducible first | assumption | apply rdI.aft | apply rdI.alloc | apply rdI.drew | apply rdI.drewN)) (by repeat (with_reducible first | assumption | apply rdI.aft | apply rdI.alloc | apply rdI.drew | apply rdI.drewN))) ?_
      intro u1 z1; try simp at z1
      rw [H0.out]
      go_wp2_with fail
      refine via (s_isPair _ _ _ _ _ f g h _ (by repeat (with_reducible first | assumption | apply rdI.aft | apply rdI.alloc | apply rdI.drew | apply rdI.drewN)) (by repeat (with_reducible first | assumption | apply rdI.aft | apply rdI.alloc | apply rdI.drew | apply rdI.drewN)) (by repeat (with_reducible first | assumption | apply rdI.aft | apply rdI.alloc | apply rdI.drew | apply rdI.drewN)) hl Q2.out Q3.out) ?_
      intro u2 z2; try simp at z2
      rw [HB.out]
      go_wp2_with fail
      go_ret3
      exact ⟨.slice none 0 0, .slice none 0 0, rfl, ownR.nil _ _, ownR.nil _ _, (fun k hk => by cases hk), (fun k hk => by cases hk), (by refine Ext.bel ?_; repeat (with_reducible first | exact Ext.refl _ | apply Ext.alloc | apply Ext.aft | apply Ext.drew | apply Ext.drewN | apply Ext.setCell | exact Nat.le_add_right _ _ | exact Nat.le_refl _ | (simp; done) | omega))⟩
    · obtain ⟨k, hr, hn, _⟩ := pairG_of h0 hb
      have e : (liftPairF p n f g h) = ((liftR p (p ^ n.toNat) n.toNat f g h).1, (liftR p (p ^ n.toNat) n.toNat f g h).2, 0) := by unfold liftPairF; rw [if_pos h0, if_pos hb]
      rw [e]; clear e
      have HK := hid k
      have H0 := hid h0
      have HB := hid hb
      clear h0 hb k
      go_enter Try.func7, Try.ntmps7
      go_wp2_with fail
      refine via (s_pairing _ _ _ _ _ f g h _ (by repeat (with_reducible first | assumption | apply rdI.aft | apply rdI.alloc | apply rdI.drew | apply rdI.drewN)) (by repeat (with_reducible first | assumption | apply rdI.aft | apply rdI.alloc | apply rdI.drew | apply rdI.drewN)) (by repeat (with_reducible first | assumption | apply rdI.aft | apply rdI.alloc | apply rdI.drew | apply rdI.drewN))) ?_
      intro u1 z1; try simp at z1
      rw [H0.out]
      go_wp2_with fail
      refine via (s_isPair _ _ _ _ _ f g h _ (by repeat (with_reducible first | assumption | apply rdI.aft | apply rdI.alloc | apply rdI.drew | apply rdI.drewN)) (by repeat (with_reducible first | assumption | apply rdI.aft | apply rdI.alloc | apply rdI.drew | apply rdI.drewN)) (by repeat (with_reducible first | assumption | apply rdI.aft | apply rdI.alloc | apply rdI.drew | apply rdI.drewN)) hl Q2.out Q3.out) ?_
      intro u2 z2; try simp at z2
      rw [HB.out]
      go_wp2_with fail
      refine viaI2 (g := fun r q => .tuple #[r, q]) (s_lift2 p n (p ^ n.toNat) _ _ _ f g h _ (by repeat (with_reducible first | assumption | apply rdI.aft | apply rdI.alloc | apply rdI.drew | apply rdI.drewN)) (by repeat (with_reducible first | assumption | apply rdI.aft | apply rdI.alloc | apply rdI.drew | apply rdI.drewN)) (by repeat (with_reducible first | assumption | apply rdI.aft | apply rdI.alloc | apply rdI.drew | apply rdI.drewN)) hr hn rfl HK.out) ?_
      intro v1 v2 u3 z3 o1 o2 n1 n2
      try simp at z3
      have O1 := hid o1
      have O2 := hid o2
      have N1 := hid n1
      have N2 := hid n2
      clear o1 o2 n1 n2
      go_wp2_with fail
      go_ret3
      exact ⟨_, _, rfl, O1.out.mono (by first | omega | (simp; omega)), O2.out.mono (by first | omega | (simp; omega)), N1.out, N2.out, (by refine Ext.bel ?_; repeat (with_reducible first | exact Ext.refl _ | apply Ext.alloc | apply Ext.aft | apply Ext.drew | apply Ext.drewN | apply Ext.setCell | exact Nat.le_add_right _ _ | exact Nat.le_refl _ | (simp; done) | omega))⟩
  · have e : (liftPairF p n f g h) = ([], [], pairingF p n f g h) := by unfold liftPairF; rw [if_neg h0]
    rw [e]; clear e
    have h0' : (pairingF p n f g h != 0) = true := by simpa using h0
    have h0'' : (pairingF p n f g h == 0) = false := by simpa using h0
    obtain ⟨F, hF⟩ : ∃ F, F = pairingF p n f g h := ⟨_, rfl⟩
    have HF := hid hF
    rw [← hF] at h0' h0'' ⊢
    clear h0 hF
    go_enter Try.func7, Try.ntmps7
    go_wp2_with fail
    refine via (s_pairing _ _ _ _ _ f g h _ (by repeat (with_reducible first | assumption | apply rdI.aft | apply rdI.alloc | apply rdI.drew | apply rdI.drewN)) (by repeat (with_reducible first | assumption | apply rdI.aft | apply rdI.alloc | apply rdI.drew | apply rdI.drewN)) (by repeat (with_reducible first | assumption | apply rdI.aft | apply rdI.alloc | apply rdI.drew | apply rdI.drewN))) ?_
    intro u1 z1; try simp at z1
    rw [← HF.out]
    go_wp2_with fail
    go_ret3
    exact ⟨.slice none 0 0, .slice none 0 0, rfl, ownR.nil _ _, ownR.nil _ _, (fun k hk => by cases hk), (fun k hk => by cases hk), (by refine Ext.bel ?_; repeat (with_reducible first | exact Ext.refl _ | apply Ext.alloc | apply Ext.aft | apply Ext.drew | apply Ext.drewN | apply Ext.setCell | exact Nat.le_add_right _ _ | exact Nat.le_refl _ | (simp; done) | omega))⟩
theorem viaI2B {P : Program} {f : FuncId} {args : Array Value} {w : World} {B0 : Nat} {xs ys : List Int} {g : Value → Value → Value} {R : Ending → World → Prop}
    (h : Calls P f args w fun e w' => ∃ v1 v2, e = .returned (g v1 v2) ∧ ownR B0 w' v1 xs ∧ ownR B0 w' v2 ys ∧ rowNe v1 v2.ownBlock ∧ rowNe v2 v1.ownBlock ∧ Below w.heap.size w w')
    (hR : ∀ v1 v2 u, w.heap.size ≤ (aft w u).heap.size → ownR B0 (aft w u) v1 xs → ownR B0 (aft w u) v2 ys → rowNe v1 v2.ownBlock → rowNe v2 v1.ownBlock → R (.returned (g v1 v2)) (aft w u)) : Calls P f args w R :=
  h.mono fun e w' ⟨v1, v2, he, ho1, ho2, hn1, hn2, hb⟩ => by subst he; obtain ⟨u, rfl⟩ := aft_ex hb; exact hR v1 v2 u (size_aft w u) ho1 ho2 hn1 hn2
def heldU (V w' : World) : Prop := (∀ k o, k < V.heap.size → w'.cell? ⟨k, o, none⟩ = V.cell? ⟨k, o, none⟩) ∧ V.heap.size ≤ w'.heap.size
theorem heldU.refl (V : World) : heldU V V := ⟨fun _ _ _ => rfl, Nat.le_refl _⟩
theorem heldU.drew {V w' : World} (h : heldU V w') : heldU V w'.drew := h
theorem heldU.aft {V w' : World} (h : heldU V w') (u : World) : heldU V (Go.Proofs.Ytflmoopiajhadaa.aft w' u) :=
  ⟨fun k o hk => by have := h.2; rw [aft_cell, if_pos (by omega)]; exact h.1 k o hk, le_aft h.2⟩
theorem heldU.at {G : Nat} {V w' : World} {cs : Array Value} (h1 : G < V.heap.size) (hc : ∀ o, V.cell? ⟨G, o, none⟩ = cs[o]?) (h : heldU V w') : (∀ o, w'.cell? ⟨G, o, none⟩ = cs[o]?) ∧ V.heap.size ≤ w'.heap.size :=
  ⟨fun o => (h.1 G o h1).trans (hc o), h.2⟩
set_option maxRecDepth 20000 in
set_option maxHeartbeats 8000000 in
theorem i_LiftPair (p n : Int) (r1 r2 r3 : Value) (f g h : List Int) (w : World) (h1 : rdI w r1 f) (h2 : rdI w r2 g) (h3 : rdI w r3 h) :
    Calls Try.prog 6 #[(.agg #[.int .i64 p, .int .i64 n]), r1, r2, r3] w fun e w' => ∃ v1 v2, e = .returned (.tuple #[v1, v2, .int .i64 (liftPairF p n f g h).2.2]) ∧ ownR w.heap.size w' v1 (liftPairF p n f g h).1 ∧ ownR w.heap.size w' v2 (liftPairF p n f g h).2.1 ∧ rowNe v1 v2.ownBlock ∧ rowNe v2 v1.ownBlock ∧ Below w.heap.size w w' := by
  by_cases h0 : pairingF p n f g h = 0
  · obtain ⟨q1, q2, q3, _⟩ := pairingF_0 h0
    have hl : f.length ≤ 1000000 := by have := (inRing_facts q1).2.1; omega
    have Q2 := hid q2
    have Q3 := hid q3
    clear q1 q2 q3
    cases hb : isPairB p f g h
    · have e : (liftPairF p n f g h) = ([], [], 5) := by unfold liftPairF; rw [if_pos h0, if_neg (by simp [hb])]
      rw [e]; clear e
      have H0 := hid h0
      have HB := hid hb
      clear h0 hb
      go_enter Try.func6, Try.ntmps6
      go_wp2_with fail
      refine via (i_pairing _ _ _ _ _ f g h _ (by repeat (with_reducible first | assumption | apply rdI.aft | apply rdI.alloc | apply rdI.drew | apply rdI.drewN)) (by repeat (with_reducible first | assumption | apply rdI.aft | apply rdI.alloc | apply rdI.drew | apply rdI.drewN)) (by repeat (with_reducible first | assumption | apply rdI.aft | apply rdI.alloc | apply rdI.drew | apply rdI.drewN))) ?_
      intro u1 z1; try simp at z1
      rw [H0.out]
      go_wp2_with fail
      refine via (i_isPair _ _ _ _ _ f g h _ (by repeat (with_reducible first | assumption | apply rdI.aft | apply rdI.alloc | apply rdI.drew | apply rdI.drewN)) (by repeat (with_reducible first | assumption | apply rdI.aft | apply rdI.alloc | apply rdI.drew | apply rdI.drewN)) (by repeat (with_reducible first | assumption | apply rdI.aft | apply rdI.alloc | apply rdI.drew | apply rdI.drewN)) hl Q2.out Q3.out) ?_
      intro u2 z2; try simp at z2
      rw [HB.out]
      go_wp2_with fail
      go_ret3
      exact ⟨.slice none 0 0, .slice none 0 0, rfl, ownR.nil _ _, ownR.nil _ _, (fun k hk => by cases hk), (fun k hk => by cases hk), (by refine Ext.bel ?_; repeat (with_reducible first | exact Ext.refl _ | apply Ext.alloc | apply Ext.aft | apply Ext.drew | apply Ext.drewN | apply Ext.setCell | exact Nat.le_add_right _ _ | exact Nat.le_refl _ | (simp; done) | omega))⟩
    · obtain ⟨k, hr, hn, _⟩ := pairG_of h0 hb
      have e : (liftPairF p n f g h) = ((liftR p (p ^ n.toNat) n.toNat f g h).1, (liftR p (p ^ n.toNat) n.toNat f g h).2, 0) := by unfold liftPairF; rw [if_pos h0, if_pos hb]
      rw [e]; clear e
      have HK := hid k
      have H0 := hid h0
      have HB := hid hb
      have H1 := hid h1
      have H2 := hid h2
      have H3 := hid h3
      have hg9 : g.length ≤ 9 := k.2.2.2.2.2.2.2.2.2.1
      have hh9 : h.length ≤ 9 := k.2.2.2.2.2.2.2.2.2.2.1
      clear h0 hb k
      go_enter Try.func6, Try.ntmps6
      go_wp2_with fail
      refine via (i_pairing _ _ _ _ _ f g h _ (by repeat (with_reducible first | assumption | apply rdI.aft | apply rdI.alloc | apply rdI.drew | apply rdI.drewN)) (by repeat (with_reducible first | assumption | apply rdI.aft | apply rdI.alloc | apply rdI.drew | apply rdI.drewN)) (by repeat (with_reducible first | assumption | apply rdI.aft | apply rdI.alloc | apply rdI.drew | apply rdI.drewN))) ?_
      intro u1 z1; try simp at z1
      rw [H0.out]
      go_wp2_with fail
      refine via (i_isPair _ _ _ _ _ f g h _ (by repeat (with_reducible first | assumption | apply rdI.aft | apply rdI.alloc | apply rdI.drew | apply rdI.drewN)) (by repeat (with_reducible first | assumption | apply rdI.aft | apply rdI.alloc | apply rdI.drew | apply rdI.drewN)) (by repeat (with_reducible first | assumption | apply rdI.aft | apply rdI.alloc | apply rdI.drew | apply rdI.drewN)) hl Q2.out Q3.out) ?_
      intro u2 z2; try simp at z2
      rw [HB.out]
      go_wp2_with fail
      obtain ⟨X, hX⟩ : ∃ X, X = aft (aft (w.alloc (Obj.cells #[.int .i64 p, .int .i64 n] 25)) u1) u2 := ⟨_, rfl⟩
      have c0 : ∀ o, X.cell? ⟨w.heap.size, o, none⟩ = #[Value.int .i64 p, .int .i64 n][o]? := fun o => by rw [hX]; rw [aft_cell, if_pos (by omega), aft_cell, if_pos (by simp), alloc_cell, if_pos rfl]
      have E0 : Hid (Ext w.heap.size w X) := hid (by rw [hX]; exact (((Ext.refl w).alloc _).aft _).aft _)
      have l0 : w.heap.size < X.heap.size := by rw [hX]; omega
      have XF : Hid (rdI X r1 f) := hid (H1.out.below E0.out.1)
      have XG : Hid (rdI X r2 g) := hid (H2.out.below E0.out.1)
      have XH : Hid (rdI X r3 h) := hid (H3.out.below E0.out.1)
      rw [← hX]
      clear hX h1 h2 h3
      (refine wp_region_held_drew (S := (fun w' => (∀ o, w'.cell? ⟨w.heap.size, o, none⟩ = #[Value.int .i64 p, .int .i64 n][o]?) ∧ X.heap.size ≤ w'.heap.size)) (by kernel_rfl) ?_ (fun hHeld => ?_); focus ((try dsimp only); (refine heldU.at l0 c0 ?_; (repeat (with_reducible first | exact heldU.refl _ | apply heldU.drew | apply heldU.aft)))))
      (refine wpAnyH_take (i := 0) (oi := ?ho1) (v := ?hv1) ?hi1 (by kernel_rfl) (by kernel_rfl) (by kernel_rfl) ?hq1 ?hy1 (by assumption) ?hr1; (case hi1 => (simp only [List.getElem?_toArray, List.getElem?_cons_zero]; first | done | rfl)); (case hq1 => exact fun _ _ _ h => h); (case hy1 => (refine Or.inl ⟨by rfl, ?_⟩; intro w hSw; (try dsimp only at hSw); go_simp; first | done | with_reducible rfl)); (try simp only [Act.put, List.setIfInBounds_toArray, List.set_cons_zero, List.set_cons_succ]))
      (refine wpAnyH_take (i := 1) (oi := ?ho2) (v := ?hv2) ?hi2 (by kernel_rfl) (by kernel_rfl) (by kernel_rfl) ?hq2 ?hy2 (by assumption) ?hr2; (case hi2 => (simp only [List.getElem?_toArray, List.getElem?_cons_succ, List.getElem?_cons_zero]; first | done | rfl)); (case hq2 => exact fun _ _ _ h => h); (case hy2 => (refine Or.inl ⟨by rfl, ?_⟩; intro w hSw; (try dsimp only at hSw); go_simp; first | done | with_reducible rfl)); (try simp only [Act.put, List.setIfInBounds_toArray, List.set_cons_zero, List.set_cons_succ]))
      (refine wpAnyH_take (i := 2) (oi := ?ho3) (v := ?hv3) ?hi3 (by kernel_rfl) (by kernel_rfl) (by kernel_rfl) ?hq3 ?hy3 (by assumption) ?hr3; (case hi3 => (simp only [List.getElem?_toArray, List.getElem?_cons_succ, List.getElem?_cons_zero]; first | done | rfl)); (case hq3 => exact fun _ _ _ h => h); (case hy3 => (refine Or.inl ⟨by rfl, ?_⟩; intro w hSw; (try dsimp only at hSw); go_simp; first | done | with_reducible rfl)); (try simp only [Act.put, List.setIfInBounds_toArray, List.set_cons_zero, List.set_cons_succ]))
      (refine wpAnyH_take (i := 4) (oi := ?ho4) (v := ?hv4) ?hi4 (by kernel_rfl) (by kernel_rfl) (by kernel_rfl) ?hq4 ?hy4 (by assumption) ?hr4; (case hi4 => (simp only [List.getElem?_toArray, List.getElem?_cons_succ, List.getElem?_cons_zero]; first | done | rfl)); (case hq4 => exact fun _ _ _ h => h); (case hy4 => (refine Or.inl ⟨by rfl, ?_⟩; intro w hSw; (try dsimp only at hSw); go_simp; first | done | with_reducible rfl)); (try simp only [Act.put, List.setIfInBounds_toArray, List.set_cons_zero, List.set_cons_succ]))
      (refine wpAnyH_ready (rs := [3]) (by decide +kernel) (by simp) ?_; refine AllReadyH.cons (o := ?ho10) ?hi10 (fun K hK => ?hr10) AllReadyH.nil; (case hi10 => (simp only [List.getElem?_toArray, List.getElem?_cons_succ, List.getElem?_cons_zero]; first | done | rfl)))
      (go_simp; go_at_call 17; refine viaI (g := id) (i_clone _ g _ (XG.out.drew) (by omega)) ?_; intro r7 u7 z7 o7; (try simp at z7); have OG := hid o7; clear o7; go_wp2_with fail)
      (refine hK.out _ _ ?_ (fun hHeld => ?_); focus ((try dsimp only); (refine heldU.at l0 c0 ?_; (repeat (with_reducible first | exact heldU.refl _ | apply heldU.drew | apply heldU.aft)))))
      (clear hK K; (try simp only [Act.put, List.setIfInBounds_toArray, List.set_cons_zero, List.set_cons_succ]))
      (refine wpAnyH_ready (rs := [5]) (by decide +kernel) (by simp) ?_; refine AllReadyH.cons (o := ?ho11) ?hi11 (fun K hK => ?hr11) AllReadyH.nil; (case hi11 => (simp only [List.getElem?_toArray, List.getElem?_cons_succ, List.getElem?_cons_zero]; first | done | rfl)))
      (go_simp; go_at_call 17; refine viaI (g := id) (i_clone _ h _ (XH.out.drew.aft _) (by omega)) ?_; intro r8 u8 z8 o8; (try simp at z8); have OH := hid o8; have N1 : Hid (rowNe r7 r8.ownBlock) := hid (rowNe_lt OG.out.rowLt (own_row_ge o8) (by omega)); have N2 : Hid (rowNe r8 r7.ownBlock) := hid (rowNe_gt OG.out.rowLt (own_row_ge o8) (by omega)); clear o8; go_wp2_with fail)
      (refine hK.out _ _ ?_ (fun hHeld => ?_); focus ((try dsimp only); (refine heldU.at l0 c0 ?_; (repeat (with_reducible first | exact heldU.refl _ | apply heldU.drew | apply heldU.aft)))))
      (clear hK K; (try simp only [Act.put, List.setIfInBounds_toArray, List.set_cons_zero, List.set_cons_succ]))
      (refine wpAnyH_ready (rs := [6]) (by decide +kernel) (by simp) ?_; refine AllReadyH.cons (o := ?ho12) ?hi12 (fun K hK => ?hr12) AllReadyH.nil; (case hi12 => (simp only [List.getElem?_toArray, List.getElem?_cons_succ, List.getElem?_cons_zero]; first | done | rfl)))
      (go_simp; go_at_call 16; refine viaI2B (g := fun r q => .tuple #[r, q]) (i_liftPair p n (p ^ n.toNat) X.heap.size _ _ _ f g h _ ((XF.out.drew.aft _).aft _) (OG.out.aft _) (OH.out.mono (by omega)) (by omega) N1.out N2.out hr rfl HK.out) ?_; intro v1 v2 u9 z9 o1 o2 n1 n2; (try simp at z9); have O1 := hid o1; have O2 := hid o2; have M1 := hid n1; have M2 := hid n2; clear o1 o2 n1 n2; go_wp2_with fail)
      (refine hK.out _ _ ?_ (fun hHeld => ?_); focus ((try dsimp only); (refine heldU.at l0 c0 ?_; (repeat (with_reducible first | exact heldU.refl _ | apply heldU.drew | apply heldU.aft)))))
      (clear hK K; (try simp only [Act.put, List.setIfInBounds_toArray, List.set_cons_zero, List.set_cons_succ]))
      (refine wpAnyH_take (i := 7) (oi := ?ho5) (v := ?hv5) ?hi5 (by kernel_rfl) (by kernel_rfl) (by kernel_rfl) ?hq5 ?hy5 (by assumption) ?hr5; (case hi5 => (simp only [List.getElem?_toArray, List.getElem?_cons_succ, List.getElem?_cons_zero]; first | done | rfl)); (case hq5 => exact fun _ _ _ h => h); (case hy5 => (refine Or.inl ⟨by rfl, ?_⟩; intro w hSw; (try dsimp only at hSw); go_simp; first | done | with_reducible rfl)); (try simp only [Act.put, List.setIfInBounds_toArray, List.set_cons_zero, List.set_cons_succ]))
      (refine wpAnyH_take (i := 8) (oi := ?ho6) (v := ?hv6) ?hi6 (by kernel_rfl) (by kernel_rfl) (by kernel_rfl) ?hq6 ?hy6 (by assumption) ?hr6; (case hi6 => (simp only [List.getElem?_toArray, List.getElem?_cons_succ, List.getElem?_cons_zero]; first | done | rfl)); (case hq6 => exact fun _ _ _ h => h); (case hy6 => (refine Or.inl ⟨by rfl, ?_⟩; intro w hSw; (try dsimp only at hSw); go_simp; first | done | with_reducible rfl)); (try simp only [Act.put, List.setIfInBounds_toArray, List.set_cons_zero, List.set_cons_succ]))
      (refine wpAnyH_take (i := 9) (oi := ?ho7) (v := ?hv7) ?hi7 (by kernel_rfl) (by kernel_rfl) (by kernel_rfl) ?hq7 ?hy7 (by assumption) ?hr7; (case hi7 => (simp only [List.getElem?_toArray, List.getElem?_cons_succ, List.getElem?_cons_zero]; first | done | rfl)); (case hq7 => exact fun _ _ _ h => h); (case hy7 => (refine Or.inl ⟨by rfl, ?_⟩; intro w hSw; (try dsimp only at hSw); go_simp; first | done | with_reducible rfl)); (try simp only [Act.put, List.setIfInBounds_toArray, List.set_cons_zero, List.set_cons_succ]))
      (refine wpAnyH_take (i := 10) (oi := ?ho8) (v := ?hv8) ?hi8 (by kernel_rfl) (by kernel_rfl) (by kernel_rfl) ?hq8 ?hy8 (by assumption) ?hr8; (case hi8 => (simp only [List.getElem?_toArray, List.getElem?_cons_succ, List.getElem?_cons_zero]; first | done | rfl)); (case hq8 => exact fun _ _ _ h => h); (case hy8 => (refine Or.inl ⟨by rfl, ?_⟩; intro w hSw; (try dsimp only at hSw); go_simp; first | done | with_reducible rfl)); (try simp only [Act.put, List.setIfInBounds_toArray, List.set_cons_zero, List.set_cons_succ]))
      (refine wpAnyH_take (i := 11) (oi := ?ho9) (v := ?hv9) ?hi9 (by kernel_rfl) (by kernel_rfl) (by kernel_rfl) ?hq9 ?hy9 (by assumption) ?hr9; (case hi9 => (simp only [List.getElem?_toArray, List.getElem?_cons_succ, List.getElem?_cons_zero]; first | done | rfl)); (case hq9 => exact fun _ _ _ h => h); (case hy9 => (refine Or.inl ⟨by rfl, ?_⟩; intro w hSw; (try dsimp only at hSw); go_simp; first | done | with_reducible rfl)); (try simp only [Act.put, List.setIfInBounds_toArray, List.set_cons_zero, List.set_cons_succ]))
      (refine wpAnyH_done (by kernel_rfl) ?_ _)
      go_wp2_with fail
      go_ret3
      exact ⟨_, _, rfl, O1.out.mono (by omega), O2.out.mono (by omega), M1.out, M2.out, (Ext.bel ((((E0.out.drew).aft _).aft _).aft _))⟩
  · have e : (liftPairF p n f g h) = ([], [], pairingF p n f g h) := by unfold liftPairF; rw [if_neg h0]
    rw [e]; clear e
    have h0' : (pairingF p n f g h != 0) = true := by simpa using h0
    have h0'' : (pairingF p n f g h == 0) = false := by simpa using h0
    obtain ⟨F, hF⟩ : ∃ F, F = pairingF p n f g h := ⟨_, rfl⟩
    have HF := hid hF
    rw [← hF] at h0' h0'' ⊢
    clear h0 hF
    go_enter Try.func6, Try.ntmps6
    go_wp2_with fail
    refine via (i_pairing _ _ _ _ _ f g h _ (by repeat (with_reducible first | assumption | apply rdI.aft | apply rdI.alloc | apply rdI.drew | apply rdI.drewN)) (by repeat (with_reducible first | assumption | apply rdI.aft | apply rdI.alloc | apply rdI.drew | apply rdI.drewN)) (by repeat (with_reducible first | assumption | apply rdI.aft | apply rdI.alloc | apply rdI.drew | apply rdI.drewN))) ?_
    intro u1 z1; try simp at z1
    rw [← HF.out]
    go_wp2_with fail
    go_ret3
    exact ⟨.slice none 0 0, .slice none 0 0, rfl, ownR.nil _ _, ownR.nil _ _, (fun k hk => by cases hk), (fun k hk => by cases hk), (by refine Ext.bel ?_; repeat (with_reducible first | exact Ext.refl _ | apply Ext.alloc | apply Ext.aft | apply Ext.drew | apply Ext.drewN | apply Ext.setCell | exact Nat.le_add_right _ _ | exact Nat.le_refl _ | (simp; done) | omega))⟩
end Go.Proofs.Ytflmoopiajhadaa
