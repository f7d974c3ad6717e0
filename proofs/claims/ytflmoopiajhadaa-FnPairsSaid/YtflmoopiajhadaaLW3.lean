/- Remainders and the cofactor: the program's text. -/
import Derived.Test.YtflmoopiajhadaaLW2
import Derived.Test.YtflmoopiajhadaaLE
namespace Go.Proofs.Ytflmoopiajhadaa
open Go Go.RowKit

set_option maxHeartbeats 4000000 in
theorem i_remainder (r1 r2 : Value) (f g : List Int) (m : Int) (w : World) (h1 : rdI w r1 f) (h2 : rdI w r2 g) (hsm : smallP m = true) (hf : ∀ x ∈ f, 0 ≤ x ∧ x ≤ m - 1) (hg : ∀ x ∈ g, 0 ≤ x ∧ x ≤ m - 1) (hlf : f.length ≤ 1000) (hlg : 1 ≤ g.length ∧ g.length ≤ 1000) :
    Calls Try.prog 41 #[.int .i64 m, r1, r2] w fun e w' => ∃ v, e = .returned v ∧ ownR w.heap.size w' v (remP m f g) ∧ Below w.heap.size w w' := by
  have HC := hid (i_divide r1 r2 f g m w h1 h2 hsm hf hg hlf hlg)
  clear h1 h2 hf hg
  go_enter Try.func41, Try.ntmps41
  go_wp2_with fail
  refine viaI2 (g := fun r q => .tuple #[r, q]) HC.out ?_
  intro v1 v2 ur zr o1 o2 n1 n2
  have HO := hid o2
  clear o1 o2 n1 n2
  go_wp2_with fail
  go_ret
  exact ⟨_, rfl, HO.out, (by refine Ext.bel ?_; repeat (with_reducible first | exact Ext.refl _ | apply Ext.alloc | apply Ext.aft | apply Ext.drew | apply Ext.drewN | apply Ext.setCell | exact Nat.le_add_right _ _ | exact Nat.le_refl _ | (simp; done) | omega))⟩
set_option maxHeartbeats 4000000 in
theorem s_rest (r1 r2 : Value) (f g : List Int) (m : Int) (w : World) (h1 : rdI w r1 f) (h2 : rdI w r2 g) (hsm : smallP m = true) (hf : ∀ x ∈ f, 0 ≤ x ∧ x ≤ m - 1) (hg : ∀ x ∈ g, 0 ≤ x ∧ x ≤ m - 1) (hlf : f.length ≤ 1000) (hlg : 1 ≤ g.length ∧ g.length ≤ 1000) :
    Calls Try.prog 56 #[.int .i64 m, r1, r2] w fun e w' => ∃ v, e = .returned v ∧ ownR w.heap.size w' v (remP m f g) ∧ Below w.heap.size w w' := by
  have HC := hid (s_divide r1 r2 f g m w h1 h2 hsm hf hg hlf hlg)
  clear h1 h2 hf hg
  go_enter Try.func56, Try.ntmps56
  go_wp2_with fail
  refine viaI2 (g := fun r q => .tuple #[r, q]) HC.out ?_
  intro v1 v2 ur zr o1 o2 n1 n2
  have HO := hid o2
  clear o1 o2 n1 n2
  go_wp2_with fail
  go_ret
  exact ⟨_, rfl, HO.out, (by refine Ext.bel ?_; repeat (with_reducible first | exact Ext.refl _ | apply Ext.alloc | apply Ext.aft | apply Ext.drew | apply Ext.drewN | apply Ext.setCell | exact Nat.le_add_right _ _ | exact Nat.le_refl _ | (simp; done) | omega))⟩
theorem small64 {f : List Int} {M : Int} (hM : 0 ≤ M ∧ M ≤ 1000000000) (h : ∀ x ∈ f, 0 ≤ x ∧ x ≤ M) (j : Nat) : 0 ≤ f.getD j 0 ∧ f.getD j 0 ≤ 1000000000 := by
  have := getD_bd (b := M) hM.1 h j
  omega
/-- The state of the program's loop. -/
def cofI (p : Int) (h g A B U V : List Int) : Prop :=
  (∃ n, B.length ≤ n + 1 ∧ eucF p n A B U V = eucE p h g ∧ EU p g h A B U V ∧ 2 ≤ A.length ∧ A.length ≤ 9) ∨ (B = [] ∧ A = (eucE p h g).2.1 ∧ U = (eucE p h g).2.2.2)
theorem cofI.next {p : Int} {h g A B U V : List Int} (hs : smallP p = true) (hE : (eucE p h g).2.1.length = 1) (hB : B ≠ []) (k : cofI p h g A B U V) :
    EU p g h A B U V ∧ 1 ≤ B.length ∧ A.length ≤ 9 ∧ cofI p h g B (remP p A B) V (nextV p A B U V) := by
  rcases k with ⟨n, h1, h2, h3, h4, h5⟩ | ⟨h1, _, _⟩
  · by_cases hl : B.length ≤ 1
    · rw [eucF_stop hl] at h2
      have hb : B = (eucE p h g).2.1 := by rw [← h2]
      have hv : V = (eucE p h g).2.2.2 := by rw [← h2]
      have hr := rem_len hs h3.1.1 h3.2.1 (by rw [hb]; omega)
      exact ⟨h3, by rw [hb]; omega, h5, .inr ⟨List.eq_nil_of_length_eq_zero (by omega), hb, hv⟩⟩
    · obtain ⟨n, rfl⟩ : ∃ k, n = k + 1 := ⟨n - 1, by omega⟩
      rw [eucF_step (by omega)] at h2
      have hr := rem_len hs h3.1.1 h3.2.1 (by omega)
      exact ⟨h3, by omega, h5, .inl ⟨n, by omega, h2, h3.step hs (by omega), by omega, by have := h3.2.2.2.2.1; omega⟩⟩
  · exact absurd h1 hB
theorem cofI.stop {p : Int} {h g A U V : List Int} (hE : (eucE p h g).2.1.length = 1) (k : cofI p h g A [] U V) : A = (eucE p h g).2.1 ∧ U = (eucE p h g).2.2.2 := by
  rcases k with ⟨n, _, h2, _, _, _⟩ | ⟨_, h2, h3⟩
  · rw [eucF_stop (by simp)] at h2
    rw [← h2] at hE
    simp at hE
  · exact ⟨h2, h3⟩
set_option maxRecDepth 20000 in
set_option maxHeartbeats 8000000 in
theorem i_cofactor (p : Int) (r1 r2 : Value) (h g : List Int) (w : World) (h1 : rdI w r1 h) (h2 : rdI w r2 g) (hs : smallP p = true) (hh : isMod p h) (hg : isMod p g) (hl : 2 ≤ g.length) (hlg : g.length ≤ 9) (hlh : h.length ≤ 9) (hc : cop p g h) :
    Calls Try.prog 38 #[.int .i64 p, r1, r2] w fun e w' => ∃ v, e = .returned v ∧ ownR w.heap.size w' v (cofP p h g) ∧ Below w.heap.size w w' := by
  have hp := smallP_bd hs
  obtain ⟨kE, hE⟩ := euc_end hs hg hh hl hc
  have HKE := hid kE
  have HSt := hid (EU.start (g := g) (h := h) hs hg hh (by omega))
  have H1 := hid h1
  have H2 := hid h2
  have Hg := hid hg
  have Hh := hid hh
  obtain ⟨a2, c2, e2, _, _⟩ := id h2
  subst e2
  unfold cofP
  clear h1 h2 hg hh hc kE
  go_enter Try.func38, Try.ntmps38
  go_wp2_with fail
  refine viaI (g := id) (i_remainder _ _ h g p _ H1.out H2.out hs Hh.out.1 Hg.out.1 (by omega) (by omega)) ?_
  intro r0 u0 z0 own0
  have HB0 := hid own0.rd
  clear own0
  go_wp2_with fail
  go_loopw [7, 8, 9, 10] (fun a b u v wr => ∃ (A B U V : List Int) (uu : World), wr = aft w uu ∧ Hid (rdI wr a A) ∧ Hid (rdI wr b B) ∧ Hid (rdI wr u U) ∧ Hid (rdI wr v V) ∧ Hid (cofI p h g A B U V)) (fun _ b _ _ _ => slenV b)
  case atStart =>
    exact ⟨g, remP p h g, [], [1], _, (aft_of ((below_aft w u0).trans ((Below.alloc (Below.refl _ _) (Nat.le_refl _) _).mono (size_aft w u0)))).symm, hid ((H2.out.aft _).alloc _), hid (HB0.out.alloc _), hid (ownR.nil 0 _).rd, hid (rd_one _ _), hid (.inl ⟨g.length, by have := rem_len hs Hh.out.1 Hg.out (by omega); omega, rfl, HSt.out, hl, hlg⟩)⟩
  case round =>
    obtain ⟨A, B, U, V, uu, rfl, HA, HB, HU, HV, HI⟩ := hrel
    have zs := size_aft w uu
    obtain ⟨a7, c7, e7, _, _⟩ := HA.out
    subst e7
    obtain ⟨a8, c8, e8, _, _⟩ := HB.out
    subst e8
    obtain ⟨a9, c9, e9, _, _⟩ := HU.out
    subst e9
    obtain ⟨a0, c0, e0, _, _⟩ := HV.out
    subst e0
    by_cases hB : B = []
    · subst hB
      obtain ⟨hA, hU⟩ := HI.out.stop hE
      have mb := HKE.out.2.1
      rw [← hA] at mb
      have mu := HKE.out.2.2.2.1
      rw [← hU] at mu
      have lu := HKE.out.2.2.2.2.2.1
      have la := HKE.out.2.2.2.2.1
      rw [← hU] at lu
      have hA1 : A.length = 1 := by rw [hA]; exact hE
      obtain ⟨x, hx⟩ : ∃ x, A = [x] := by
        match A, hA1 with
        | [x], _ => exact ⟨x, rfl⟩
      subst hx
      obtain ⟨b7, o7, rfl⟩ := rd_head HA.out (by simp)
      have hcl := rd_at HA.out (j := 0) (by simp)
      simp only [List.getD_cons_zero, Nat.add_zero] at hcl
      have hxb := mb.1 x (by simp)
      have MU := hid mu
      have HAE := hid hA
      have HUE := hid hU
      have hib := inv_bd (a := x) (m := p) (by omega)
      have hib2 : ∀ c ∈ [inv x p], 0 ≤ c ∧ c ≤ p - 1 := fun c hc => by
        obtain rfl : c = inv x p := by simpa using hc
        omega
      have hU9 : U.length ≤ 9 := by omega
      clear mb mu hA hU HI hib
      simp only [List.length_nil, List.length_singleton]
      go_wp2_with fail
      refine via (i_inverseBy p x _ hs hxb) ?_
      intro u1 z1
      (try simp at z1)
      obtain ⟨y, hy⟩ : ∃ y, y = inv x p := ⟨_, rfl⟩
      rw [← hy] at hib2 ⊢
      have HY := hid hy
      clear hy
      go_wp2_with fail
      refine viaI (g := id) (i_times p _ _ U [y] _ ((HU.out.aft _).alloc _) (rd_one _ _) hp MU.out.1 hib2 hU9 (by simp)) ?_
      intro rr ur zr hown
      (try simp at zr)
      go_wp2_with fail
      go_ret
      exact ⟨_, rfl, by rw [← HUE.out, ← HAE.out, show [x].getD 0 0 = x from rfl, ← HY.out]; exact hown.mono (by first | omega | (simp; omega)), (by refine Ext.bel ?_; repeat (with_reducible first | exact Ext.refl _ | apply Ext.alloc | apply Ext.aft | apply Ext.drew | apply Ext.drewN | apply Ext.setCell | exact Nat.le_add_right _ _ | exact Nat.le_refl _ | (simp; done) | omega))⟩
    · obtain ⟨hEU, hB1, hA9, hI⟩ := HI.out.next hs hE hB
      have HEU := hid hEU
      have HI' := hid hI
      clear hEU hI hB
      have hz : (0 : Int) < (B.length : Int) := by omega
      have l1 := HEU.out.2.2.2.2.1
      have l2 := HEU.out.2.2.2.2.2.1
      have l3 := HEU.out.2.2.2.2.2.2.1
      have hq9 := quo_len (p := p) A B
      have MA := hid HEU.out.1
      have MB := hid HEU.out.2.1
      have MU := hid HEU.out.2.2.1
      have MV := hid HEU.out.2.2.2.1
      have hv9 : V.length ≤ 9 := by omega
      have hu9 : U.length ≤ 9 := by omega
      go_wp2_with fail
      refine viaI2 (g := fun r q => .tuple #[r, q]) (i_divide _ _ A B p _ HA.out HB.out hs MA.out.1 MB.out.1 (by omega) (by omega)) ?_
      intro v1 v2 u1 z1 o1 o2 n1 n2
      have HQ := hid o1.rd
      have HR := hid o2.rd
      clear o1 o2 n1 n2
      have MQ := hid (isMod_quo (g := B) hs MA.out.1)
      have hr := rem_len hs MA.out.1 MB.out hB1
      obtain ⟨Qu, hQu⟩ : ∃ Qu, Qu = quoP p A B := ⟨_, rfl⟩
      obtain ⟨Re, hRe⟩ : ∃ Re, Re = remP p A B := ⟨_, rfl⟩
      have HQE := hid hQu
      rw [← hQu] at HQ MQ hq9
      rw [← hRe] at HR hr HI'
      clear hQu hRe
      go_wp2_with fail
      refine viaI (g := id) (i_times p _ _ Qu V _ HQ.out (HV.out.aft _) hp MQ.out.1 MV.out.1 (by omega) (by omega)) ?_
      intro r2 u2 z2 o2
      have HT := hid o2.rd
      have MT := hid (timesP_mod (p := p) (by omega) Qu V)
      have hTl := timesP_len p Qu V
      obtain ⟨T, hT⟩ : ∃ T, T = timesP p Qu V := ⟨_, rfl⟩
      have HTE := hid hT
      rw [← hT] at HT MT hTl
      clear hT o2
      have b1 := hid (small64 (f := U) (M := p - 1) (by omega) MU.out.1)
      have b2 := hid (small64 (f := T) (M := p - 1) (by omega) MT.out.1)
      go_wp2_with fail
      refine viaI (g := id) (i_minus _ _ U T _ ((HU.out.aft _).aft _) HT.out (by omega) (by omega) (fun j => by have := b1.out j; unfold i64B; omega) (fun j => by have := b2.out j; omega) (fun j => by have := b1.out j; have := b2.out j; unfold i64B; omega)) ?_
      intro r3 u3 z3 o3
      have HM := hid o3.rd
      have hMl := addK_len (-1) U T
      clear o3
      go_wp2_with fail
      refine viaI (g := id) (i_reduce p _ (addK (-1) U T) _ HM.out (by omega) (by omega)) ?_
      intro r4 u4 z4 o4
      have HN : Hid (rdI (aft (aft (aft (aft (aft w uu) u1) u2) u3) u4) r4 (nextV p A B U V)) := hid (by unfold nextV; rw [← HQE.out, ← HTE.out]; exact o4.rd)
      clear o4
      go_wp2_with fail
      go_roundw
      case rel => exact ⟨B, Re, V, nextV p A B U V, _, (aft_of ((((((Ext.refl w).aft _).aft _).aft _).aft _).aft _).1).symm, hid ((((HB.out.aft _).aft _).aft _).aft _), hid (((HR.out.aft _).aft _).aft _), hid ((((HV.out.aft _).aft _).aft _).aft _), HN, HI'⟩
      case measure => rw [rd_slen HR.out]; exact hr
end Go.Proofs.Ytflmoopiajhadaa
