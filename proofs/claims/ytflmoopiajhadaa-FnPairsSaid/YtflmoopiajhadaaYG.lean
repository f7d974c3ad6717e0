/- Factoring by a prime: the statement's text. -/
import Derived.Test.YtflmoopiajhadaaYF
import Derived.Test.YtflmoopiajhadaaXD
namespace Go.Proofs.Ytflmoopiajhadaa
open Go Go.RowKit

set_option maxHeartbeats 2000000 in
theorem s_deriv8 (p : Int) (r : Value) (f : List Int) (w : World) (h : rdI w r f) (hs : smallP p = true) (hf : isMod p f) (hl : f.length ≤ 9) :
    Calls Try.prog 84 #[.int .i64 p, r] w fun e w' => ∃ v, e = .returned v ∧ ownR w.heap.size w' v (redF p (derF f)) ∧ Below w.heap.size w w' := by
  have hp := smallP_bd hs
  have HD := hid (s_derivative r f w h hl (fun c hc => by have := hf.1 c hc; omega))
  have hdl : (derF f).length ≤ 9 := by rw [show (derF f).length = f.length - 1 from derK_len _ _]; omega
  clear h hf
  go_enter Try.func84, Try.ntmps84
  go_wp2_with fail
  refine viaI (g := id) HD.out ?_
  intro v1 u1 z1 own1
  have HX := hid own1.rd
  clear own1
  go_wp2_with fail
  refine viaI (g := id) (s_reduce p _ (derF f) _ HX.out (by omega) (by omega)) ?_
  intro v2 u2 z2 own2
  have HO := hid (own2.mono (show w.heap.size ≤ _ by omega))
  clear own2
  go_wp2_with fail
  go_ret
  exact ⟨_, rfl, HO.out, (by refine Ext.bel ?_; repeat (with_reducible first | exact Ext.refl _ | apply Ext.alloc | apply Ext.aft | apply Ext.drew | apply Ext.drewN | apply Ext.setCell | exact Nat.le_add_right _ _ | exact Nat.le_refl _ | (simp; done) | omega))⟩
/-- A factor as it should be. -/
def okF (p : Int) (w : World) (x : Value × Int) : Prop := ∃ xs, ownR 0 w x.1 xs ∧ mon p xs ∧ 2 ≤ xs.length ∧ xs.length ≤ 9 ∧ 0 ≤ x.2 ∧ x.2 * ((xs.length : Int) - 1) ≤ 8
theorem okF.below {p : Int} {w w' : World} {x : Value × Int} (h : okF p w x) (hb : Below w.heap.size w w') : okF p w' x := by
  obtain ⟨xs, h1, h2⟩ := h
  exact ⟨xs, h1.below hb, h2⟩
theorem viaFz {P : Program} {f : FuncId} {args : Array Value} {w : World} {B : Nat} {φ : World → List (Value × Int) → Prop} {R : Ending → World → Prop}
    (h : Calls P f args w fun e w' => ∃ v qs, e = .returned v ∧ ownF B w' v qs ∧ φ w' qs ∧ Below w.heap.size w w')
    (hR : ∀ v qs u, w.heap.size ≤ (aft w u).heap.size → ownF B (aft w u) v qs → φ (aft w u) qs → R (.returned v) (aft w u)) : Calls P f args w R :=
  h.mono fun e w' ⟨v, qs, he, ho, hp, hb⟩ => by subst he; obtain ⟨u, rfl⟩ := aft_ex hb; exact hR v qs u (size_aft w u) ho hp
theorem ownZ.cell {B : Nat} {w : World} {g n cap : Nat} {es : List Value} {L : List (List Int)} (h : ownZ B w (.slice (some ⟨g, 0, none⟩) n cap) es L) {i : Nat} (hi : i < L.length) : ∃ e, w.cell? ⟨g, i, none⟩ = some e ∧ ownR 0 w e L[i] := by
  obtain ⟨e, k1, k2⟩ := h.2.2 i hi
  refine ⟨e, ?_, k2⟩
  have hn : n = L.length := by
    rcases h.2.1.2 with ⟨hv, _⟩ | ⟨g', c, cur, hv, _⟩
    · cases hv
    · cases hv; rfl
  subst hn
  have := h.2.1.cellAt i (by omega)
  rw [k1] at this
  exact this
theorem ownZ.some {B : Nat} {w : World} {v : Value} {es : List Value} {L : List (List Int)} (h : ownZ B w v es L) (hne : L ≠ []) : ∃ g cap, v = .slice (some ⟨g, 0, none⟩) L.length cap := by
  rcases h.2.1.2 with ⟨_, hn⟩ | ⟨g, c, cur, hv, _⟩
  · exact absurd (List.eq_nil_of_length_eq_zero hn) hne
  · exact ⟨g, c, hv⟩

set_option maxRecDepth 20000 in
set_option maxHeartbeats 16000000 in
theorem s_factor (p : Int) (hs : smallP p = true) : ∀ (d : Nat) (r2 : Value) (f : List Int) (t : Int) (lv : Value) (ps : List (Value × Int)) (w : World), f.length ≤ d → ownR 0 w r2 f → mon p f → f.length ≤ 9 → 1 ≤ t → t ≤ 8 → t * ((f.length : Int) - 1) ≤ 8 → ownF 0 w lv ps → (∀ x ∈ ps, okF p w x) → ps.length + 10 * f.length ≤ 150 →
    Calls Try.prog 69 #[.int .i64 p, r2, .int .i64 t, lv] w fun e w' => ∃ v qs, e = .returned v ∧ ownF 0 w' v qs ∧ ((∀ x ∈ qs, okF p w' x) ∧ (2 ≤ f.length ∨ 1 ≤ ps.length → 1 ≤ qs.length) ∧ qs.length ≤ 150) ∧ Below w.heap.size w w' := by
  obtain ⟨i0, hi, hz0, hz1, hz2⟩ := info_parts infoI
  have hp := smallP_bd hs
  intro d
  induction d with
  | zero => intro r2 f t lv ps w h1 _ h3; have := h3.2.1; omega
  | succ d ih =>
    intro r2 f t lv ps w hd h2 hf hlf ht1 ht8 htf hv hok hpl
    have IH := hid ih
    clear ih
    obtain ⟨ra, rc, rfl⟩ := own_len h2
    obtain ⟨lg, lc, rfl⟩ := hv.2
    have H2 := hid h2
    have Hf := hid hf
    have HV := hid hv
    have HOK := hid hok
    have hf1 := hf.2.1
    have HD8 := hid (s_deriv8 p _ f w h2.rd hs hf.1 hlf)
    obtain ⟨n, hn⟩ : ∃ n, f.length = n + 1 := ⟨f.length - 1, by omega⟩
    obtain ⟨N, hN⟩ : ∃ N, N = ps.length := ⟨_, rfl⟩
    rw [hn] at H2 HD8 hd hlf htf hpl ⊢
    rw [← hN] at HV hpl ⊢
    have HN := hid hn
    have HNN := hid hN
    have htf' : t * (n : Int) ≤ 8 := by rw [show ((n + 1 : Nat) : Int) - 1 = (n : Int) by omega] at htf; exact htf
    clear h2 hf hv hok hn hN hf1 htf
    by_cases hn0 : n = 0
    · subst hn0
      go_enter Try.func69, Try.ntmps69
      go_wp2_with fail
      go_ret
      exact ⟨_, ps, rfl, HV.out, ⟨HOK.out, fun h => by have := HNN.out; omega, by have := HNN.out; omega⟩, (by refine Ext.bel ?_; repeat (with_reducible first | exact Ext.refl _ | apply Ext.alloc | apply Ext.aft | apply Ext.drew | apply Ext.drewN | apply Ext.setCell | exact Nat.le_add_right _ _ | exact Nat.le_refl _ | (simp; done) | omega))⟩
    have hnd : decide ((n : Int) + 1 < 2) = false := by simp; omega
    have hnd2 : decide (n + 1 < 2) = false := by simp; omega
    have hn1 : 1 ≤ n := by omega
    clear hn0
    go_enter Try.func69, Try.ntmps69
    go_wp2_with fail
    refine viaI (g := id) HD8.out ?_
    intro dv u1 z1 own1
    obtain ⟨da, dc, rfl⟩ := own_len own1
    have HDv := hid own1
    obtain ⟨W1, hW1⟩ : ∃ X, X = aft w u1 := ⟨_, rfl⟩
    have HE : Hid (Ext w.heap.size w W1) := hid (by rw [hW1]; exact (Ext.refl w).aft _)
    have H21 : Hid (ownR 0 W1 (.slice ra (n + 1) rc) f) := hid (by rw [hW1]; exact H2.out.aft _)
    have HV1 : Hid (ownF 0 W1 (.slice (some ⟨lg, 0, none⟩) N lc) ps) := hid (by rw [hW1]; exact HV.out.aft _)
    have HOK1 : Hid (∀ x ∈ ps, okF p W1 x) := hid fun x hx => by rw [hW1]; exact (HOK.out x hx).below (below_aft _ _)
    rw [← hW1] at HDv z1 ⊢
    clear hW1 own1 HD8 H2 HV HOK
    by_cases hD0 : redF p (derF f) = []
    · have hdiv := der_last hs Hf.out HN.out hn1 (by omega) hD0
      obtain ⟨m, hm⟩ : ∃ m : Nat, n = m * p.toNat := by
        obtain ⟨c, hc⟩ := Int.dvd_of_emod_eq_zero hdiv
        have hc0 : 0 ≤ c := by
          rcases Int.lt_or_le c 0 with h | h
          · have := Int.mul_le_mul_of_nonneg_left (show c ≤ -1 by omega) (show 0 ≤ p by omega); omega
          · exact h
        refine ⟨c.toNat, ?_⟩
        have : ((c.toNat * p.toNat : Nat) : Int) = (n : Int) := by rw [Int.natCast_mul, show ((c.toNat : Nat) : Int) = c by omega, show ((p.toNat : Nat) : Int) = p by omega, hc, Int.mul_comm]
        omega
      have hl0 : (redF p (derF f)).length = 0 := by rw [hD0]; rfl
      rw [hl0]
      have hm1 : 1 ≤ m := by
        rcases Nat.eq_zero_or_pos m with h | h
        · rw [h] at hm; simp at hm; omega
        · exact h
      have hP2 : 2 ≤ p.toNat := by omega
      have hPz : ((p.toNat : Nat) : Int) = p := by omega
      have hmP : m * 2 ≤ m * p.toNat := Nat.mul_le_mul_left _ hP2
      have hpt : p * t * (m : Int) = t * (n : Int) := by rw [hm, Int.natCast_mul, hPz]; grind
      have hpt1 : 2 * 1 ≤ p * t := Int.mul_le_mul hp.1 ht1 (by omega) (by omega)
      have hpt8 : p * t ≤ 8 := by
        have h1 : p * t * 1 ≤ p * t * (m : Int) := Int.mul_le_mul_of_nonneg_left (by omega) (by omega)
        omega
      have HRM := hid (rootK_mon hs Hf.out HN.out hm)
      obtain ⟨P, hP⟩ : ∃ P, P = p.toNat := ⟨_, rfl⟩
      rw [← hP] at hm hmP HRM hPz hP2
      have HMP := hid hm
      have hmPn : m * P = n := hm.symm
      have hnP : (m + 1) * P = n + P := by rw [Nat.succ_mul]; omega
      have hP97 : P ≤ 97 := by omega
      have HMPN := hid hmPn
      have HNP := hid hnP
      have HHP := hid hP
      have hmn : 2 * m ≤ n := by rw [hm]; omega
      have HPT := hid hpt
      clear hD0 hl0 hdiv hm hP hmPn hnP hpt
      go_wp2_with fail
      go_loopw [10, 11] (fun rv iv wr => ∃ (k : Nat) (uu : World), wr = aft W1 uu ∧ iv = .int .i64 ((k * P : Nat) : Int) ∧ k ≤ m + 1 ∧ Hid (ownR W1.heap.size wr rv (rootK P f k))) (fun _ iv _ => (400 - intOf iv).toNat)
      case atStart => exact ⟨0, W1.alloc (Obj.cells #[] 2), (aft_of (Below.alloc (Below.refl _ _) (Nat.le_refl _) _)).symm, by simp, by omega, hid (own_made W1)⟩
      case round =>
        obtain ⟨k, uu, rfl, rfl, hk, HO⟩ := hrel
        have zs := size_aft W1 uu
        by_cases hkm : k ≤ m
        case neg =>
          have ek : k = m + 1 := by omega
          subst ek
          have hc1 : decide ((((m + 1) * P : Nat) : Int) < (n : Int) + 1) = false := by rw [HNP.out]; simp; omega
          have hc2 : decide ((m + 1) * P < n + 1) = false := by rw [HNP.out]; simp; omega
          obtain ⟨xa, xc, rfl⟩ := own_len HO.out
          have HIH := hid (IH.out _ (rootK P f (m + 1)) (p * t) _ ps (aft W1 uu) (by rw [rootK_len]; omega) (HO.out.mono (Nat.zero_le _)) HRM.out (by rw [rootK_len]; omega) (by omega) hpt8 (by rw [rootK_len, show ((m + 1 : Nat) : Int) - 1 = (m : Int) by omega, HPT.out]; exact htf') (HV1.out.aft uu) (fun x hx => (HOK1.out x hx).below (below_aft _ _)) (by rw [rootK_len]; have := HNN.out; omega))
          have hrl : 2 ≤ (rootK P f (m + 1)).length := by rw [rootK_len]; omega
          clear hkm hk
          rw [HNP.out]
          rw [HNP.out] at hc1 hc2
          go_wp2_with fail
          refine viaFz (φ := fun w' qs => (∀ x ∈ qs, okF p w' x) ∧ (2 ≤ (rootK P f (m + 1)).length ∨ 1 ≤ ps.length → 1 ≤ qs.length) ∧ qs.length ≤ 150) HIH.out ?_
          intro v' qs u4 z4 own4 hφ
          obtain ⟨q1, q2, q3⟩ := hφ
          have HQ1 := hid q1
          have hq2 := q2 (.inl hrl)
          have HO4 := hid own4
          have hEx : Hid (Ext w.heap.size w (aft (aft W1 uu) u4)) := hid ((HE.out.aft _).aft _)
          clear q1 q2 own4 HIH
          go_wp2_with fail
          go_ret
          exact ⟨_, qs, rfl, HO4.out, ⟨HQ1.out, fun _ => hq2, q3⟩, hEx.out.1⟩
        have hkP : k * P ≤ n := by rw [← HMPN.out]; exact Nat.mul_le_mul_right _ hkm
        have hkP2 : (k + 1) * P = k * P + P := Nat.succ_mul _ _
        have HKP2 := hid hkP2
        obtain ⟨b1, o1, rfl⟩ := rd_head H21.out.rd (by intro e; have := HN.out; rw [e] at this; simp at this)
        have hcl := rd_at H21.out.rd (j := k * P) (by rw [HN.out]; omega)
        have hcb := World.block_lt_of_cell? _ _ hcl
        obtain ⟨x, hx⟩ : ∃ x, x = f.getD (k * P) 0 := ⟨_, rfl⟩
        rw [← hx] at hcl
        have HX := hid hx
        obtain ⟨K, hK⟩ : ∃ K, K = k * P := ⟨_, rfl⟩
        rw [← hK] at hcl hkP ⊢
        have HK := hid hK
        have hc1 : decide ((K : Int) < (n : Int) + 1) = true := by simp; omega
        have hc2 : decide (K < n + 1) = true := by simp; omega
        have hKz : (K : Int) < (n : Int) + 1 := by omega
        have hown := HO.out
        have hkl : (rootK P f k).length = k := rootK_len P f k
        clear hx hK hkP2
        go_wp2_with (at_builtin; refine wpList_append_own _ rfl _ _ 26 rfl (W1.heap.size) 2 i0 (.int .i64 0) 1 8 Try.underlying26 hi hz0 hz1 hz2 rfl (by decide) _ _ _ rfl (((hown).alloc _)) ⟨_, 0, none⟩ 1 1 [.int .i64 (x)] rfl rfl ?c1 ?c2 ?c3 ?c4 ?c5 ?_)
        first | (case c1 => (intro j u hj; match j with | 0 => (simp at hj; subst hj; simp [Addr.add, alloc_cell]) | n + 1 => simp at hj)) | skip
        case c2 => first | rfl | (intro u hu; simp at hu; subst hu; rfl)
        case c3 => first | (rw [hkl]; unfold maxLen; omega) | (unfold maxLen; omega)
        case c4 => first | (rw [hkl]; omega) | omega
        case c5 => first | omega | (simp; omega)
        intro v' w1 hown' hgrow _
        obtain ⟨u', rfl⟩ := grown_aft (W := W1) (by repeat (with_reducible first | exact Ext.refl _ | apply Ext.alloc | apply Ext.aft | apply Ext.drew | apply Ext.drewN | apply Ext.setCell | exact Nat.le_add_right _ _ | exact Nat.le_refl _ | (simp; done) | omega)) hgrow (own_row_ge hown)
        have HO' := hid (ownR.snoc (xs := rootK P f k) (x := x) (by rw [hkl]; first | exact hown' | (rw [hkl] at hown'; exact hown')))
        clear hown' hgrow hown
        go_wp2_with fail
        go_roundw
        case rel => exact ⟨k + 1, u', rfl, by rw [HKP2.out, ← HK.out]; go_num, by omega, hid (by rw [rootK_succ, ← HX.out]; exact HO'.out)⟩
        case measure => simp only [intOf]; omega
    · have hf2 : 2 ≤ f.length := by have := HN.out; omega
      obtain ⟨m1, m2, m3, m4, m5, m6⟩ := part_facts hs Hf.out hf2 hD0
      have hDm : isMod p (redF p (derF f)) := isMod_red (by omega) _
      have hDl := der_len p f
      have hD1 : 1 ≤ (redF p (derF f)).length := by
        rcases h : redF p (derF f) with _ | ⟨x, l⟩
        · exact absurd h hD0
        · simp
      obtain ⟨D, hD⟩ : ∃ D, D = redF p (derF f) := ⟨_, rfl⟩
      rw [← hD] at m1 m2 m3 m4 m5 m6 hDm hDl hD1 HDv ⊢
      obtain ⟨PT, hPT⟩ : ∃ PT, PT = quoP p f (commonP p f D) := ⟨_, rfl⟩
      rw [← hPT] at m1 m2 m3 m4
      have HPT := hid hPT
      have HDm := hid hDm
      have HM1 := hid m1
      have HM4 := hid m4
      have HM5 := hid m5
      obtain ⟨DL, hDL⟩ : ∃ x, x = D.length := ⟨_, rfl⟩
      rw [← hDL] at hDl hD1 HDv ⊢
      have HDL := hid hDL
      have hd1 : ((DL : Int) == 0) = false := by rw [beq_eq_false_iff_ne]; omega
      have hd2 : (DL == 0) = false := by rw [beq_eq_false_iff_ne]; omega
      have hGl : (commonP p f D).length ≤ 9 ∧ 1 ≤ (commonP p f D).length := ⟨by have := HN.out; omega, m5.2.1⟩
      have hPl : 2 ≤ PT.length ∧ PT.length ≤ n + 1 := ⟨m2, by have := HN.out; omega⟩
      have HCO := hid (s_common p _ _ f D W1 H21.out.rd HDv.out.rd hs Hf.out.1 HDm.out (by have := HN.out; omega) (by have := HDL.out; have := HN.out; omega))
      clear hD0 hD hPT m1 m2 m3 m4 m5 m6 hDm hDL hf2 hDl
      go_wp2_with fail
      refine viaI (g := id) HCO.out ?_
      intro cv1 u2 z2 own2
      have HCV := hid own2.rd
      clear own2 HCO
      go_wp2_with fail
      refine viaI2 (g := fun r q => .tuple #[r, q]) (s_divide _ _ f (commonP p f D) p _ ((H21.out.aft u2).rd) HCV.out hs Hf.out.1.1 HM5.out.1.1 (by have := HN.out; omega) (by omega)) ?_
      intro q1 q2 u3 z3 own3 own4 _ _
      rw [← HPT.out] at own3
      obtain ⟨qa, qc, rfl⟩ := own_len own3
      have HQ := hid (own3.mono (Nat.zero_le _))
      clear own3 own4 HCV
      have hEx3 : Hid (Ext w.heap.size w (aft (aft W1 u2) u3)) := hid ((HE.out.aft _).aft _)
      have H23 := hid ((H21.out.aft u2).aft u3)
      have HV3 := hid ((HV1.out.aft u2).aft u3)
      have HOK3 : Hid (∀ x ∈ ps, okF p (aft (aft W1 u2) u3) x) := hid fun x hx => ((HOK1.out x hx).below (below_aft _ _)).below (below_aft _ _)
      obtain ⟨W3, hW3⟩ : ∃ X, X = aft (aft W1 u2) u3 := ⟨_, rfl⟩
      rw [← hW3] at HQ hEx3 H23 HV3 HOK3 ⊢
      clear hW3 H21 HV1 HOK1 HDv z2 z3
      have HSP := hid (s_split p hs PT.length _ PT W3 (Nat.le_refl _) HQ.out HM1.out hPl.1 (by omega))
      go_wp2_with fail
      refine viaZ HSP.out ?_
      intro zv es L u4 z4 ownZ4 hL
      obtain ⟨hLne, hLf, hLd⟩ := hL
      obtain ⟨zg, zc, rfl⟩ := ownZ4.some hLne
      have hLl : L.length ≤ 8 := by
        have := degS_len (L := L) fun x hx => (hLf x hx).2.1
        omega
      have hL1 : 1 ≤ L.length := by
        rcases L with _ | ⟨x, l⟩
        · exact absurd rfl hLne
        · simp
      have HZ := hid ownZ4
      have HLF := hid hLf
      have hEx4 : Hid (Ext w.heap.size w (aft W3 u4)) := hid (hEx3.out.aft _)
      have H24 := hid (H23.out.aft u4)
      have HV4 := hid (HV3.out.aft u4)
      have HOK4 : Hid (∀ x ∈ ps, okF p (aft W3 u4) x) := hid fun x hx => (HOK3.out x hx).below (below_aft _ _)
      obtain ⟨W4, hW4⟩ : ∃ X, X = aft W3 u4 := ⟨_, rfl⟩
      rw [← hW4] at HZ hEx4 H24 HV4 HOK4 ⊢
      clear hW4 ownZ4 hLf hLne hLd HSP H23 HV3 HOK3 z4
      obtain ⟨LL, hLL⟩ : ∃ x, x = L.length := ⟨_, rfl⟩
      rw [← hLL] at hLl hL1 HZ ⊢
      have HLL := hid hLL
      clear hLL
      go_wp2_with fail
      go_loopw [1, 3, 15] (fun fv lv iv wr => ∃ (i : Nat) (f' : List Int) (qs : List (Value × Int)) (uu : World), wr = aft W4 uu ∧ iv = .int .i64 i ∧ i ≤ LL ∧ Hid (ownR 0 wr fv f') ∧ Hid (mon p f') ∧ f'.length ≤ n + 1 ∧ Hid (i = 0 → f' = f) ∧ Hid (1 ≤ i → f'.length ≤ n) ∧ Hid (ownF 0 wr lv qs) ∧ Hid (∀ x ∈ qs, okF p wr x) ∧ Hid (qs.length = N + i)) (fun _ _ iv _ => LL - (intOf iv).toNat)
      case atStart => exact ⟨0, f, ps, W4, (aft_of (Below.refl _ _)).symm, rfl, by omega, H24, Hf, by have := HN.out; omega, hid (fun _ => rfl), hid (fun h => by omega), HV4, HOK4, hid (by have := HNN.out; omega)⟩
      case round =>
        obtain ⟨i, f1, qs, uu, rfl, rfl, hiL, HF1, HM1', hf1l, HI0, HI1, HQS, HOK, hql⟩ := hrel
        have zs := size_aft W4 uu
        obtain ⟨fa, fc, rfl⟩ := own_len HF1.out
        obtain ⟨qg, qc', rfl⟩ := HQS.out.2
        have hf11 := HM1'.out.2.1
        by_cases hlt : i < LL
        case neg =>
          have ei : i = LL := by omega
          have hdd : decide ((i : Int) < (LL : Int)) = false := by simp; omega
          have hdd2 : decide (i < LL) = false := by simp; omega
          have hf1n := HI1.out (by omega)
          have htf1 : t * ((f1.length : Int) - 1) ≤ 8 := by
            have h1 : t * ((f1.length : Int) - 1) ≤ t * (n : Int) := Int.mul_le_mul_of_nonneg_left (by omega) (by omega)
            omega
          have HIH := hid (IH.out _ f1 t _ qs (aft W4 uu) (by omega) HF1.out HM1'.out (by omega) ht1 ht8 htf1 HQS.out HOK.out (by have := hql.out; omega))
          have hi1 : 1 ≤ i := by omega
          clear hlt ei
          go_wp2_with fail
          refine viaFz (φ := fun w' rs => (∀ x ∈ rs, okF p w' x) ∧ (2 ≤ f1.length ∨ 1 ≤ qs.length → 1 ≤ rs.length) ∧ rs.length ≤ 150) HIH.out ?_
          intro v' rs u6 z6 own6 hφ
          obtain ⟨k1, k2, k3⟩ := hφ
          have HK1 := hid k1
          have hk2 := k2 (.inr (by have := hql.out; omega))
          have HO6 := hid own6
          have hEx : Hid (Ext w.heap.size w (aft (aft W4 uu) u6)) := hid ((hEx4.out.aft _).aft _)
          clear k1 k2 own6 HIH
          go_wp2_with fail
          go_ret
          exact ⟨_, rs, rfl, HO6.out, ⟨HK1.out, fun _ => hk2, k3⟩, hEx.out.1⟩
        have hdd : decide ((i : Int) < (LL : Int)) = true := by simp; omega
        have hdd2 : decide (i < LL) = true := by simp; omega
        have hiz : (i : Int) < (LL : Int) := by omega
        have hiLL : i < L.length := by have := HLL.out; omega
        obtain ⟨he, hh1, hh2⟩ := (HZ.out.below (below_aft W4 uu)).cell hiLL
        obtain ⟨h, hh⟩ : ∃ h, h = L[i] := ⟨_, rfl⟩
        have hLi := HLF.out L[i] (List.getElem_mem hiLL)
        rw [← hh] at hh2 hLi
        have hhb := World.block_lt_of_cell? _ _ hh1
        obtain ⟨ha, hc, rfl⟩ := own_len hh2
        have HH := hid hh2
        obtain ⟨hm, hm2, hmd⟩ := hLi
        have HHM := hid hm
        have HHD := hid hmd
        have hhl9 : h.length ≤ 9 := by
          have h1 := mg_len hs hm.1 (by omega) HM1.out.1 (by omega) hmd
          omega
        have HHF : Hid (mg p (co h) (co f)) := hid (HM4.out.trans hmd)
        obtain ⟨HL, hHL⟩ : ∃ x, x = h.length := ⟨_, rfl⟩
        rw [← hHL] at hh1 HH hm2 hhl9
        have HHL := hid hHL
        clear hh hh2 hm hmd hHL
        have hEx5 : Hid (Ext W4.heap.size W4 (aft W4 uu)) := hid ((Ext.refl W4).aft _)
        obtain ⟨Wa, hWa⟩ : ∃ X, X = aft W4 uu := ⟨_, rfl⟩
        rw [← hWa] at HF1 HQS HOK HH hh1 hhb hEx5 zs ⊢
        clear hWa
        obtain ⟨F1l, hF1l⟩ : ∃ x, x = f1.length := ⟨_, rfl⟩
        rw [← hF1l] at HF1 hf1l hf11 ⊢
        have HF1L := hid hF1l
        obtain ⟨QL, hQL⟩ : ∃ x, x = qs.length := ⟨_, rfl⟩
        rw [← hQL] at HQS hql ⊢
        have HQL := hid hQL
        clear hF1l hQL
        go_wp2_with fail
        go_loopw [1, 16] (fun fv nv wr => ∃ (k : Nat) (f2 : List Int) (u2 : World), wr = aft Wa u2 ∧ nv = .int .i64 k ∧ Hid (ownR 0 wr fv f2) ∧ Hid (mon p f2) ∧ f2.length ≤ F1l ∧ Hid (k * (HL - 1) + (f2.length - 1) = F1l - 1) ∧ Hid (k = 0 → f2 = f1)) (fun fv _ _ => slenV fv)
        case atStart => exact ⟨0, f1, Wa, (aft_of (Below.refl _ _)).symm, rfl, HF1, HM1', by have := HF1L.out; omega, hid (by have := HF1L.out; rw [Nat.zero_mul]; omega), hid (fun _ => rfl)⟩
        case round =>
          obtain ⟨k, f2, u2, rfl, rfl, HF2, HM2, hf2l, HKE, HK0⟩ := hrel
          have zs2 := size_aft Wa u2
          obtain ⟨f2a, f2c, rfl⟩ := own_len HF2.out
          have hf21 := HM2.out.2.1
          have HDI := hid (s_divide _ _ f2 h p (aft Wa u2) HF2.out.rd ((HH.out.aft u2).rd) hs HM2.out.1.1 HHM.out.1.1 (by omega) (by have := HHL.out; omega))
          have hkHL : k * (HL - 1) ≤ F1l - 1 := by have := HKE.out; omega
          have hk8 : k ≤ 8 := by
            have : k * 1 ≤ k * (HL - 1) := Nat.mul_le_mul_left _ (by omega)
            omega
          by_cases hr : remP p f2 h = []
          · obtain ⟨_, g2, g3, _⟩ := quo_facts hs HM2.out HHM.out (mg_of_rem HHM.out.2.1 hr)
            have HG2 := hid g2
            have hr0 : (remP p f2 h).length = 0 := by rw [hr]; rfl
            have g3' : (quoP p f2 h).length + HL = f2.length + 1 := by rw [HHL.out]; exact g3
            have HKE2 : Hid ((k + 1) * (HL - 1) + ((quoP p f2 h).length - 1) = F1l - 1) := hid (by
              have h1 := HKE.out
              have h2 := g2.2.1
              rw [Nat.succ_mul]; omega)
            clear g2 g3 hr
            go_wp2_with fail
            refine viaI2 (g := fun r q => .tuple #[r, q]) HDI.out ?_
            intro q1 q2 u3 z3 own3 own4 _ _
            obtain ⟨q1a, q1c, rfl⟩ := own_len own3
            obtain ⟨q2a, q2c, rfl⟩ := own_len own4
            have HQ := hid (own3.mono (Nat.zero_le _))
            clear own3 own4 HDI
            rw [hr0]
            have hEx6 : Hid (Ext Wa.heap.size Wa (aft (aft Wa u2) u3)) := hid (((Ext.refl Wa).aft _).aft _)
            clear hr0
            go_wp2_with fail
            go_roundw
            case rel => exact ⟨k + 1, quoP p f2 h, _, (aft_of hEx6.out.1).symm, by go_num, HQ, HG2, by omega, HKE2, hid (fun h => by omega)⟩
            case measure => simp only [slenV]; omega
          · have hr1 : 1 ≤ (remP p f2 h).length := by
              rcases h' : remP p f2 h with _ | ⟨x, l⟩
              · exact absurd h' hr
              · simp
            have hk1 : i = 0 → 1 ≤ k := fun hi0 => by
              rcases Nat.eq_zero_or_pos k with hk | hk
              · exfalso
                apply hr
                rw [HK0.out hk, HI0.out hi0]
                exact (quo_facts hs Hf.out HHM.out HHF.out).1
              · exact hk
            obtain ⟨RL, hRL⟩ : ∃ x, x = (remP p f2 h).length := ⟨_, rfl⟩
            rw [← hRL] at hr1
            have hRd : decide ((0 : Int) < (RL : Int)) = true := by simp; omega
            have hRd2 : decide (0 < RL) = true := by simp; omega
            have hfn : f2.length ≤ n := by
              rcases Nat.eq_zero_or_pos i with hi0 | hi0
              · have h1 := hk1 hi0
                have : 1 * 1 ≤ k * (HL - 1) := Nat.mul_le_mul h1 (by omega)
                have := HKE.out
                omega
              · have h1 := HI1.out hi0
                have := HF1L.out
                omega
            have hkt : 0 ≤ (k : Int) * t ∧ (k : Int) * t ≤ 64 := ⟨Int.mul_nonneg (by omega) (by omega), Int.mul_le_mul (show (k : Int) ≤ 8 by omega) ht8 (by omega) (by omega)⟩
            have hkt8 : (k : Int) * t * ((h.length : Int) - 1) ≤ 8 := by
              have h1 : ((k * (HL - 1) : Nat) : Int) ≤ (n : Int) := by omega
              rw [Int.natCast_mul, show ((HL - 1 : Nat) : Int) = (HL : Int) - 1 by omega] at h1
              have h2 : t * ((k : Int) * ((HL : Int) - 1)) ≤ t * (n : Int) := Int.mul_le_mul_of_nonneg_left h1 (by omega)
              rw [← HHL.out, show (k : Int) * t * ((HL : Int) - 1) = t * ((k : Int) * ((HL : Int) - 1)) by grind]
              omega
            have HK8 := hid hkt8
            have HRL := hid hRL
            clear hr hk1 hRL hkt8
            go_wp2_with fail
            refine viaI2 (g := fun r q => .tuple #[r, q]) HDI.out ?_
            intro q1 q2 u3 z3 own3 own4 _ _
            obtain ⟨q1a, q1c, rfl⟩ := own_len own3
            obtain ⟨q2a, q2c, rfl⟩ := own_len own4
            clear own3 own4 HDI
            rw [← HRL.out]
            have hEx6 : Hid (Ext W4.heap.size W4 (aft (aft Wa u2) u3)) := hid ((hEx5.out.aft _).aft _)
            have HH6 := hid ((HH.out.aft u2).aft u3)
            have HF6 := hid (HF2.out.aft u3)
            have HQ6 := hid ((HQS.out.aft u2).aft u3)
            have HOK6 : Hid (∀ x ∈ qs, okF p (aft (aft Wa u2) u3) x) := hid fun x hx => ((HOK.out x hx).below (below_aft _ _)).below (below_aft _ _)
            have hc6 : (aft (aft Wa u2) u3).cell? ⟨zg, i, none⟩ = some (.slice ha HL hc) := by rw [aft_cell, if_pos (by omega), aft_cell, if_pos hhb]; exact hh1
            have hcb6 : zg < (aft (aft Wa u2) u3).heap.size := by omega
            obtain ⟨W6, hW6⟩ : ∃ X, X = aft (aft Wa u2) u3 := ⟨_, rfl⟩
            rw [← hW6] at hEx6 HH6 HF6 HQ6 HOK6 hc6 hcb6 ⊢
            clear hW6 HH HF1 HQS HOK hh1 hhb hEx5 HF2 zs zs2 z3
            have HPU := hid (s_put 0 _ (.slice ha HL hc) qs h ((k : Int) * t) W6 HQ6.out HH6.out (fun x hx => by obtain ⟨xs, k1, _, _, k4, _⟩ := HOK6.out x hx; exact ⟨xs, k1, by omega⟩) (by have := HQL.out; have := hql.out; omega))
            go_wp2_with fail
            refine viaFz (φ := fun _ rs => rs.length = qs.length + 1 ∧ ∀ x ∈ rs, x ∈ qs ∨ x = (Value.slice ha HL hc, (k : Int) * t)) HPU.out ?_
            intro pv rs u7 z7 own7 hφ
            obtain ⟨k1, k2⟩ := hφ
            have HO7 := hid (own7.mono (Nat.zero_le _))
            have HF7 := hid (HF6.out.aft u7)
            have hEx7 : Hid (Ext W4.heap.size W4 (aft W6 u7)) := hid (hEx6.out.aft _)
            have HOK7 : Hid (∀ x ∈ rs, okF p (aft W6 u7) x) := hid fun x hx => by
              rcases k2 x hx with h1 | h1
              · exact (HOK6.out x h1).below (below_aft _ _)
              · subst h1
                refine ⟨h, HH6.out.aft u7, HHM.out, by have := HHL.out; omega, by have := HHL.out; omega, hkt.1, HK8.out⟩
            have HRL2 : Hid (rs.length = N + (i + 1)) := hid (by have := HQL.out; have := hql.out; omega)
            clear k1 k2 own7 HPU
            go_wp2_with fail
            exact ⟨⟨i + 1, f2, rs, _, (aft_of hEx7.out.1).symm, by go_num, by omega, HF7, HM2, by omega, hid (fun h => by omega), hid (fun _ => hfn), HO7, HOK7, HRL2⟩, by simp only [intOf]; omega⟩
end Go.Proofs.Ytflmoopiajhadaa
