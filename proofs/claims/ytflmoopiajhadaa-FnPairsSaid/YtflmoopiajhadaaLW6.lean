/- The statement's inverse of a polynomial by another one. -/
import Derived.Test.YtflmoopiajhadaaLW5
namespace Go.Proofs.Ytflmoopiajhadaa
open Go Go.RowKit

theorem next_alt (p : Int) (A B U V : List Int) : redF p (addK (-1) U (prodF (quoP p A B) V)) = nextV p A B U V := by
  unfold nextV
  rcases Nat.eq_zero_or_pos V.length with hV | hV
  · obtain rfl := List.eq_nil_of_length_eq_zero hV
    have e1 : prodF (quoP p A B) [] = [] := by unfold prodF; rw [if_pos (.inr rfl)]
    have e2 : timesP p (quoP p A B) [] = [] := by unfold timesP; rw [e1]; rfl
    rw [e1, e2]
  · refine red_congr fun j => ?_
    rw [co_add, co_add, co_times, co_prodF hV]
    refine mod_of0 ?_
    have := mod_self0 (cv (co (quoP p A B)) (co V) j) p
    rw [show co U j + -1 * cv (co (quoP p A B)) (co V) j - (co U j + -1 * (cv (co (quoP p A B)) (co V) j % p)) = -(cv (co (quoP p A B)) (co V) j - cv (co (quoP p A B)) (co V) j % p) by omega]
    exact neg0 this
theorem rd_oneK {w : World} {a : Int} {k : Nat} (hk : k = w.heap.size) : rdI (w.alloc (.cells #[.int .i64 a] 2)) (.slice (some ⟨k, 0, none⟩) 1 1) [a] := by subst hk; exact rd_one w a
/-- The state of the statement's loop. -/
def invI (p : Int) (h g A B U V : List Int) : Prop := ∃ n, B.length ≤ n + 1 ∧ eucF p n A B U V = eucE p h g ∧ EU p g h A B U V ∧ 2 ≤ A.length ∧ A.length ≤ 9
theorem invI.next {p : Int} {h g A B U V : List Int} (hs : smallP p = true) (hB : 2 ≤ B.length) (k : invI p h g A B U V) : invI p h g B (remP p A B) V (nextV p A B U V) := by
  obtain ⟨n, h1, h2, h3, h4, h5⟩ := k
  obtain ⟨n, rfl⟩ : ∃ k, n = k + 1 := ⟨n - 1, by omega⟩
  rw [eucF_step hB] at h2
  have hr := rem_len hs h3.1.1 h3.2.1 (by omega)
  exact ⟨n, by omega, h2, h3.step hs (by omega), by omega, by have := h3.2.2.2.2.1; omega⟩
theorem invI.stop {p : Int} {h g A B U V : List Int} (hB : B.length ≤ 1) (k : invI p h g A B U V) : B = (eucE p h g).2.1 ∧ V = (eucE p h g).2.2.2 := by
  obtain ⟨n, _, h2, _⟩ := k
  rw [eucF_stop hB] at h2
  rw [← h2]
  exact ⟨rfl, rfl⟩
set_option maxRecDepth 20000 in
set_option maxHeartbeats 8000000 in
theorem s_inverseP (p : Int) (r1 r2 : Value) (h g : List Int) (w : World) (h1 : rdI w r1 h) (h2 : rdI w r2 g) (hs : smallP p = true) (hh : isMod p h) (hg : isMod p g) (hl : 2 ≤ g.length) (hlg : g.length ≤ 9) (hlh : h.length ≤ 9) (hc : cop p g h) :
    Calls Try.prog 51 #[.int .i64 p, r1, r2] w fun e w' => ∃ v, e = .returned v ∧ ownR w.heap.size w' v (invP p h g) ∧ Below w.heap.size w w' := by
  have hp := smallP_bd hs
  obtain ⟨_, hE⟩ := euc_end hs hg hh hl hc
  have HSt := hid (EU.start (g := g) (h := h) hs hg hh (by omega))
  have H1 := hid h1
  have H2 := hid h2
  have Hg := hid hg
  have Hh := hid hh
  obtain ⟨a2, c2, e2, _, _⟩ := id h2
  subst e2
  unfold invP cofP
  clear h1 h2 hg hh hc
  go_enter Try.func51, Try.ntmps51
  go_wp2_with fail
  refine viaI (g := id) (s_rest _ _ h g p _ H1.out H2.out hs Hh.out.1 Hg.out.1 (by omega) (by omega)) ?_
  intro r0 u0 z0 own0
  have HB0 := hid own0.rd
  clear own0
  go_wp2_with fail
  go_loopw [7, 8, 9, 10] (fun a b u v wr => ∃ (A B U V : List Int) (uu : World), wr = aft w uu ∧ Hid (rdI wr a A) ∧ Hid (rdI wr b B) ∧ Hid (rdI wr u U) ∧ Hid (rdI wr v V) ∧ Hid (invI p h g A B U V)) (fun _ b _ _ _ => slenV b)
  case atStart =>
    exact ⟨g, remP p h g, [], [1], _, (aft_of (((((Ext.refl w).aft u0).alloc _).alloc _).1)).symm, hid (((H2.out.aft _).alloc _).alloc _), hid ((HB0.out.alloc _).alloc _), hid ((own_made _).rd.alloc _), hid (rd_oneK (by simp)), hid ⟨g.length, by have := rem_len hs Hh.out.1 Hg.out (by omega); omega, rfl, HSt.out, hl, hlg⟩⟩
  case round =>
    obtain ⟨A, B, U, V, uu, rfl, HA, HB, HU, HV, HI⟩ := hrel
    have zs := size_aft w uu
    obtain ⟨a7, c7, e7, _, _⟩ := HA.out
    subst e7
    obtain ⟨a8, c8, e8, _, _⟩ := HB.out
    subst e8
    obtain ⟨a9, c9, e9, _, _⟩ := HU.out
    subst e9
    obtain ⟨a0, c0, e0, _, _⟩ := HV.out
    subst e0
    have hEU : EU p g h A B U V ∧ A.length ≤ 9 := by obtain ⟨_, _, _, h3, _, h5⟩ := HI.out; exact ⟨h3, h5⟩
    have MA := hid hEU.1.1
    have MB := hid hEU.1.2.1
    have MU := hid hEU.1.2.2.1
    have MV := hid hEU.1.2.2.2.1
    have l1 := hEU.1.2.2.2.2.1
    have l2 := hEU.1.2.2.2.2.2.1
    have l3 := hEU.1.2.2.2.2.2.2.1
    have hA9 := hEU.2
    clear hEU
    by_cases hB : B.length ≤ 1
    · obtain ⟨hBE, hVE⟩ := HI.out.stop hB
      have hB1 : B.length = 1 := by rw [hBE]; exact hE
      obtain ⟨x, hx⟩ : ∃ x, B = [x] := by
        match B, hB1 with
        | [x], _ => exact ⟨x, rfl⟩
      subst hx
      obtain ⟨b8, o8, rfl⟩ := rd_head HB.out (by simp)
      have hcl := rd_at HB.out (j := 0) (by simp)
      simp only [List.getD_cons_zero, Nat.add_zero] at hcl
      have hxb := MB.out.1 x (by simp)
      have HBE := hid hBE
      have HVE := hid hVE
      have hx9 : 0 ≤ x ∧ x ≤ 1000000000000 := by omega
      have hp9 : 1 ≤ p ∧ p ≤ 1000000000000 := by omega
      have hib := inv_bd (a := x) (m := p) (by omega)
      have hib2 : ∀ c ∈ [inv x p], 0 ≤ c ∧ c ≤ p - 1 := fun c hc => by
        obtain rfl : c = inv x p := by simpa using hc
        omega
      clear hBE hVE HI hib hB
      simp only [List.length_singleton]
      go_wp2_with fail
      refine pur (s_inverse x p _ hx9 hp9) ?_
      obtain ⟨y, hy⟩ : ∃ y, y = inv x p := ⟨_, rfl⟩
      rw [← hy] at hib2 ⊢
      have HY := hid hy
      clear hy
      go_wp2_with fail
      refine viaI (g := id) (s_times p _ _ V [y] _ (HV.out.alloc _) (rd_one _ _) hp MV.out.1 hib2 (by omega) (by simp)) ?_
      intro rr ur zr o1
      have HT := hid o1.rd
      have MT := hid (timesP_mod (p := p) (by omega) V [y])
      have lT := timesP_len p V [y]
      rw [List.length_singleton] at lT
      have e1 : Hid (remP p (timesP p V [y]) g = remP p (timesP p (eucE p h g).2.2.2 [inv ((eucE p h g).2.1.getD 0 0) p]) g) := hid (by rw [← HVE.out, ← HBE.out, HY.out]; rfl)
      clear o1
      go_wp2_with fail
      refine viaI (g := id) (s_rest _ _ (timesP p V [y]) g p _ HT.out ((((H2.out.aft _).alloc _).aft _)) hs MT.out.1 Hg.out.1 (by omega) (by omega)) ?_
      intro rq uq zq o2
      (try simp at zr)
      (try simp at zq)
      go_wp2_with fail
      go_ret
      exact ⟨_, rfl, by rw [← e1.out]; exact o2.mono (by first | omega | (simp; omega)), (by refine Ext.bel ?_; repeat (with_reducible first | exact Ext.refl _ | apply Ext.alloc | apply Ext.aft | apply Ext.drew | apply Ext.drewN | apply Ext.setCell | exact Nat.le_add_right _ _ | exact Nat.le_refl _ | (simp; done) | omega))⟩
    · have hI := HI.out.next hs (by omega)
      have HI' := hid hI
      have hr := rem_len hs MA.out.1 MB.out (by omega)
      have hq9 := quo_len (p := p) A B
      have hz : (1 : Int) < (B.length : Int) := by omega
      have hB2 : 2 ≤ B.length := by omega
      clear hI hB
      go_wp2_with fail
      refine viaI2 (g := fun r q => .tuple #[r, q]) (s_divide _ _ A B p _ HA.out HB.out hs MA.out.1 MB.out.1 (by omega) (by omega)) ?_
      intro v1 v2 u1 z1 o1 o2 n1 n2
      have HQ := hid o1.rd
      have HR := hid o2.rd
      clear o1 o2 n1 n2
      have MQ := hid (isMod_quo (g := B) hs MA.out.1)
      obtain ⟨Qu, hQu⟩ : ∃ Qu, Qu = quoP p A B := ⟨_, rfl⟩
      obtain ⟨Re, hRe⟩ : ∃ Re, Re = remP p A B := ⟨_, rfl⟩
      have HQE := hid hQu
      rw [← hQu] at HQ MQ hq9
      rw [← hRe] at HR hr HI'
      clear hQu hRe
      have hcp := hid (mod_prods hp MQ.out.1 MV.out.1)
      have hbp := hid (prodF_bd (by omega) hcp.out)
      have lp := prodF_len Qu V
      go_wp2_with fail
      refine viaI (g := id) (s_product _ _ Qu V _ HQ.out (HV.out.aft _) (by omega) (by omega) hcp.out) ?_
      intro r2 u2 z2 o2
      have HT := hid o2.rd
      clear o2
      have b1 := hid (small64 (f := U) (M := p - 1) (by omega) MU.out.1)
      go_wp2_with fail
      refine viaI (g := id) (s_add _ _ U (prodF Qu V) (-1) _ ((HU.out.aft _).aft _) HT.out (by omega) (by omega) (fun j => by have := b1.out j; unfold i64B; omega) (fun j => by have := hbp.out j; unfold i64B; omega) (fun j => by have := b1.out j; have := hbp.out j; unfold i64B; omega)) ?_
      intro r3 u3 z3 o3
      have HM := hid o3.rd
      have hMl := addK_len (-1) U (prodF Qu V)
      clear o3
      go_wp2_with fail
      refine viaI (g := id) (s_reduce p _ (addK (-1) U (prodF Qu V)) _ HM.out (by omega) (by omega)) ?_
      intro r4 u4 z4 o4
      have HN : Hid (rdI (aft (aft (aft (aft (aft w uu) u1) u2) u3) u4) r4 (nextV p A B U V)) := hid (by rw [← next_alt, ← HQE.out]; exact o4.rd)
      clear o4
      go_wp2_with fail
      go_roundw
      case rel => exact ⟨B, Re, V, nextV p A B U V, _, (aft_of ((((((Ext.refl w).aft _).aft _).aft _).aft _).aft _).1).symm, hid ((((HB.out.aft _).aft _).aft _).aft _), hid (((HR.out.aft _).aft _).aft _), hid ((((HV.out.aft _).aft _).aft _).aft _), HN, HI'⟩
      case measure => rw [rd_slen HR.out]; exact hr
end Go.Proofs.Ytflmoopiajhadaa
