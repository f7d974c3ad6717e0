/- Powers by a polynomial: the statement's text. -/
import Derived.Test.YtflmoopiajhadaaXC
import Derived.Test.YtflmoopiajhadaaLW6
namespace Go.Proofs.Ytflmoopiajhadaa
open Go Go.RowKit

theorem co_1 : co [1] = one := by rw [co_cons, co_zr, cv_zr, ad_zr, sc_one]
theorem pow_start {p : Int} {f A0 : List Int} {e : Nat} (hf : 1 ≤ f.length) : cgr p (co f) (cv (co (remP p [1] f)) (pw (co (remP p A0 f)) e)) (pw (co A0) e) := by
  have h1 : cgr p (co f) (co [1]) (co (remP p [1] f)) := rem_mg hf
  have h2 : cgr p (co f) (co A0) (co (remP p A0 f)) := rem_mg hf
  obtain ⟨K, hK⟩ := dg_pw (dg_list p (remP p A0 f)) e
  obtain ⟨K', hK'⟩ := dg_pw (dg_list p A0) e
  have h3 := h1.symm.cv (h2.symm.pw (dg_list p _) (dg_list p _) e) hK (dg_list p [1])
  rw [co_1, cv1] at h3
  exact h3
theorem viaR {P : Program} {f : FuncId} {args : Array Value} {w : World} {φ : List Int → Prop} {R : Ending → World → Prop}
    (h : Calls P f args w fun e w' => ∃ v xs, e = .returned v ∧ ownR w.heap.size w' v xs ∧ φ xs ∧ Below w.heap.size w w')
    (hR : ∀ v xs u, w.heap.size ≤ (aft w u).heap.size → ownR w.heap.size (aft w u) v xs → φ xs → R (.returned v) (aft w u)) : Calls P f args w R :=
  h.mono fun e w' ⟨v, xs, he, ho, hp, hb⟩ => by subst he; obtain ⟨u, rfl⟩ := aft_ex hb; exact hR v xs u (size_aft w u) ho hp

set_option maxRecDepth 20000 in
set_option maxHeartbeats 8000000 in
theorem s_powP (p : Int) (r1 r2 : Value) (A0 f : List Int) (e0 : Nat) (w : World) (h1 : rdI w r1 A0) (h2 : rdI w r2 f) (hs : smallP p = true) (hA : ∀ x ∈ A0, 0 ≤ x ∧ x ≤ p - 1) (hf : isMod p f) (hlA : A0.length ≤ 9) (hl : 1 ≤ f.length) (hlf : f.length ≤ 9) (he : e0 ≤ 1000000) :
    Calls Try.prog 95 #[.int .i64 p, r1, .int .i64 e0, r2] w fun e w' => ∃ v R, e = .returned v ∧ ownR w.heap.size w' v R ∧ (isMod p R ∧ R.length < f.length ∧ cgr p (co f) (co R) (pw (co A0) e0)) ∧ Below w.heap.size w w' := by
  have hp := smallP_bd hs
  have H1 := hid h1
  have H2 := hid h2
  have HA := hid hA
  have Hf := hid hf
  have HS := hid (@pow_start p f A0 e0 hl)
  obtain ⟨T, hT⟩ : ∃ T, T = pw (co A0) e0 := ⟨_, rfl⟩
  rw [← hT] at HS ⊢
  have hm1 : isMod p (remP p [1] f) := isMod_rem hs (isMod_one hp.1).1
  have hm2 : isMod p (remP p A0 f) := isMod_rem hs hA
  have hl1 := rem_len hs (isMod_one hp.1).1 hf hl
  have hl2 := rem_len hs hA hf hl
  have HM1 := hid hm1
  have HM2 := hid hm2
  clear h1 h2 hA hf hT hm1 hm2
  go_enter Try.func95, Try.ntmps95
  go_wp2_with fail
  refine viaI (g := id) (s_rest _ _ [1] f p _ (rd_one _ _) (H2.out.alloc _) hs (isMod_one hp.1).1 Hf.out.1 (by simp) (by omega)) ?_
  intro o0 u0 z0 own0
  (try simp at z0)
  have HO0 := hid (own0.mono (show w.heap.size ≤ _ by simp))
  clear own0
  go_wp2_with fail
  refine viaI (g := id) (s_rest _ _ A0 f p _ ((H1.out.alloc _).aft _) ((H2.out.alloc _).aft _) hs HA.out Hf.out.1 (by omega) (by omega)) ?_
  intro o1 u1 z1 own1
  (try simp at z1)
  have HO1 := hid (own1.rd)
  have HO0' := hid (HO0.out.aft u1)
  clear own1 HO0
  obtain ⟨W0, hW0⟩ : ∃ X, X = aft (aft (w.alloc (Obj.cells #[Value.int IntKind.i64 1] 2)) u0) u1 := ⟨_, rfl⟩
  have hG : Hid (Ext w.heap.size w W0) := hid (by rw [hW0]; exact (((Ext.refl w).alloc _).aft _).aft _)
  rw [← hW0] at HO1 HO0' ⊢
  clear hW0 z0 z1
  go_wp2_with fail
  go_loopw [9, 1, 2] (fun ov av ev wr => ∃ (O A : List Int) (E : Nat) (uu : World), wr = aft w uu ∧ ev = .int .i64 E ∧ E ≤ 1000000 ∧ Hid (ownR w.heap.size wr ov O) ∧ Hid (rdI wr av A) ∧ Hid (isMod p O) ∧ Hid (isMod p A) ∧ O.length < f.length ∧ A.length < f.length ∧ Hid (cgr p (co f) (cv (co O) (pw (co A) E)) T)) (fun _ _ ev _ => (intOf ev).toNat)
  case atStart => exact ⟨remP p [1] f, remP p A0 f, e0, W0, (aft_of hG.out.1).symm, rfl, he, HO0', HO1, HM1, HM2, hl1, hl2, HS⟩
  case round =>
    obtain ⟨O, A, E, uu, rfl, rfl, hE, HO, HA2, MO, MA, lO, lA, HC⟩ := hrel
    have zs := size_aft w uu
    by_cases h0 : E = 0
    · subst h0
      have hz : Hid (cgr p (co f) (co O) T) := hid (by have := HC.out; simp only [pw] at this; rwa [cv1R] at this)
      go_wp2_with fail
      go_ret
      exact ⟨_, ⟨_, rfl, HO.out, ⟨MO.out, lO, hz.out⟩, (by refine Ext.bel ?_; repeat (with_reducible first | exact Ext.refl _ | apply Ext.alloc | apply Ext.aft | apply Ext.drew | apply Ext.drewN | apply Ext.setCell | exact Nat.le_add_right _ _ | exact Nat.le_refl _ | (simp; done) | omega))⟩⟩
    have hd : decide ((0 : Int) < (E : Int)) = true := by simp; omega
    have hd2 : decide (0 < E) = true := by simp; omega
    have ht : (E : Int).tdiv 2 = ((E / 2 : Nat) : Int) := by rw [Int.tdiv_eq_ediv_of_nonneg (by omega)]; omega
    have hq : (E : Int).tmod 2 = (E : Int) % 2 := Int.tmod_eq_emod_of_nonneg (by omega)
    have HN := hid (@powP_step p f O A T E hl HC.out)
    have hta := rem_len hs (timesP_mod (p := p) (by omega) A A).1 Hf.out hl
    have hto := rem_len hs (timesP_mod (p := p) (by omega) O A).1 Hf.out hl
    have htl := times_len (p := p) (by omega) A A
    have htl2 := times_len (p := p) (by omega) O A
    have HTA := hid (timesP_mod (p := p) (by omega) A A)
    have HTO := hid (timesP_mod (p := p) (by omega) O A)
    by_cases he2 : E % 2 = 1
    · have hb : ((E : Int) % 2 == 1) = true := by rw [beq_iff_eq]; omega
      have HN2 := hid HN.out
      rw [if_pos he2] at HN2
      clear he2 HN
      go_wp2_with fail
      refine viaI (g := id) (s_times p _ _ O A _ HO.out.rd HA2.out hp MO.out.1 MA.out.1 (by omega) (by omega)) ?_
      intro t1 v1 y1 own1
      have HX1 := hid own1.rd
      clear own1
      go_wp2_with fail
      refine viaI (g := id) (s_rest _ _ (timesP p O A) f p _ HX1.out (by first | exact ((H2.out.aft _).aft _)) hs HTO.out.1 Hf.out.1 (by omega) (by omega)) ?_
      intro t2 v2 y2 own2
      have HX2 := hid (own2.mono (show w.heap.size ≤ _ by omega))
      clear own2
      go_wp2_with fail
      refine viaI (g := id) (s_times p _ _ A A _ ((HA2.out.aft _).aft _) ((HA2.out.aft _).aft _) hp MA.out.1 MA.out.1 (by omega) (by omega)) ?_
      intro t3 v3 y3 own3
      have HX3 := hid own3.rd
      clear own3
      go_wp2_with fail
      refine viaI (g := id) (s_rest _ _ (timesP p A A) f p _ HX3.out ((((H2.out.aft _).aft _).aft _).aft _) hs HTA.out.1 Hf.out.1 (by omega) (by omega)) ?_
      intro t4 v4 y4 own4
      have HX4 := hid own4.rd
      clear own4
      have hGr : Hid (Ext w.heap.size w (aft (aft (aft (aft (aft w uu) v1) v2) v3) v4)) := hid ((((((Ext.refl w).aft _).aft _).aft _).aft _).aft _)
      have HX2' := hid ((HX2.out.aft v3).aft v4)
      go_wp2_with fail
      go_roundw
      case rel => exact ⟨remP p (timesP p O A) f, remP p (timesP p A A) f, E / 2, _, (aft_of hGr.out.1).symm, by go_num, by omega, HX2', HX4, hid (isMod_rem hs HTO.out.1), hid (isMod_rem hs HTA.out.1), hto, hta, HN2⟩
      case measure => simp only [intOf]; omega
    · have hb : ((E : Int) % 2 == 1) = false := by rw [beq_eq_false_iff_ne]; omega
      have HN2 := hid HN.out
      rw [if_neg he2] at HN2
      clear he2 HN
      go_wp2_with fail
      refine viaI (g := id) (s_times p _ _ A A _ HA2.out HA2.out hp MA.out.1 MA.out.1 (by omega) (by omega)) ?_
      intro t3 v3 y3 own3
      have HX3 := hid own3.rd
      clear own3
      go_wp2_with fail
      refine viaI (g := id) (s_rest _ _ (timesP p A A) f p _ HX3.out ((H2.out.aft _).aft _) hs HTA.out.1 Hf.out.1 (by omega) (by omega)) ?_
      intro t4 v4 y4 own4
      have HX4 := hid own4.rd
      clear own4
      have hGr : Hid (Ext w.heap.size w (aft (aft (aft w uu) v3) v4)) := hid ((((Ext.refl w).aft _).aft _).aft _)
      have HX2' := hid ((HO.out.aft v3).aft v4)
      go_wp2_with fail
      go_roundw
      case rel => exact ⟨O, remP p (timesP p A A) f, E / 2, _, (aft_of hGr.out.1).symm, by go_num, by omega, HX2', HX4, MO, hid (isMod_rem hs HTA.out.1), lO, hta, HN2⟩
      case measure => simp only [intOf]; omega
end Go.Proofs.Ytflmoopiajhadaa
