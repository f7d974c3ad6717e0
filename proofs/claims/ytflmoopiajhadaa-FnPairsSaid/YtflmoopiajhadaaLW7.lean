/- The lifting of a pair: the statement's text. -/
import Derived.Test.YtflmoopiajhadaaLW6
namespace Go.Proofs.Ytflmoopiajhadaa
open Go Go.RowKit

theorem s_modE (p n M : Int) (w : World) (hr : ringB p n = true) (hp : 2 ≤ p ∧ p ≤ 97) (hn : 1 ≤ n ∧ n ≤ 40) (hM : p ^ n.toNat = M) :
    Calls Try.prog 50 #[.int .i64 p, .int .i64 n] w fun e w' => e = .returned (.int .i64 M) ∧ w = w' := by
  have h := s_modulus p n w (by omega) (by omega) (by omega)
  rw [modu_ring hr, hM] at h
  exact h
def quoR (q p : Int) (D : List Int) (k : Nat) : List Int := (D.take k).map (fun c => c / q % p)
theorem quoR_len {q p : Int} {D : List Int} {k : Nat} (h : k ≤ D.length) : (quoR q p D k).length = k := by simp [quoR]; omega
theorem quoR_succ {q p : Int} {D : List Int} {k : Nat} (h : k < D.length) : quoR q p D (k + 1) = quoR q p D k ++ [D[k] / q % p] := by
  unfold quoR; rw [take_snocI _ _ h, List.map_append]; rfl
theorem quoR_all (q p : Int) (D : List Int) : trimF (quoR q p D D.length) = redF p (D.map (· / q)) := by
  unfold quoR redF
  rw [List.take_length, List.map_map]
  rfl
theorem dif_alt {M : Int} {f A B : List Int} (hB : 1 ≤ B.length) : redF M (addK (-1) f (mulR M A B)) = dif M f A B := by
  unfold dif
  refine red_congr fun j => ?_
  rw [co_add, co_add, co_prodF hB]
  have : co (mulR M A B) j = cv (co A) (co B) j % M := mulR_getD _ _ _ _
  rw [this]
  refine mod_of0 ?_
  have := mod_self0 (cv (co A) (co B) j) M
  rw [show co f j + -1 * (cv (co A) (co B) j % M) - (co f j + -1 * cv (co A) (co B) j) = cv (co A) (co B) j - cv (co A) (co B) j % M by omega]
  exact this
theorem rng_mod {M : Int} {f : List Int} (hM : 1 ≤ M) (h : ∀ x ∈ f, 0 ≤ x ∧ x ≤ M - 1) (j : Nat) : f.getD j 0 % M = f.getD j 0 := by
  have := getD_bd (b := M - 1) (by omega) h j
  exact Int.emod_eq_of_lt this.1 (by omega)
theorem mul_bd {Q x : Int} (hQ : 0 ≤ Q ∧ Q ≤ 1000000000) (hx : 0 ≤ x ∧ x ≤ 100) : 0 ≤ Q * x ∧ Q * x ≤ 100000000000 := by
  have := Int.mul_le_mul hQ.2 hx.2 hx.1 (by omega)
  exact ⟨Int.mul_nonneg hQ.1 hx.1, by omega⟩
theorem small97 {f : List Int} {p : Int} (hp : 1 ≤ p ∧ p ≤ 97) (h : ∀ x ∈ f, 0 ≤ x ∧ x ≤ p - 1) (j : Nat) : 0 ≤ f.getD j 0 ∧ f.getD j 0 ≤ 100 := by
  have := getD_bd (b := p - 1) (by omega) h j
  omega
set_option maxRecDepth 20000 in
set_option maxHeartbeats 16000000 in
theorem s_lift2 (p n M : Int) (r1 r2 r3 : Value) (f g h : List Int) (w : World) (h1 : rdI w r1 f) (h2 : rdI w r2 g) (h3 : rdI w r3 h) (hr : ringB p n = true) (hn : 1 ≤ n ∧ n ≤ 40) (hM : p ^ n.toNat = M) (hG : pairG p M f g h) :
    Calls Try.prog 20 #[(.agg #[.int .i64 p, .int .i64 n]), r1, r2, r3] w fun e w' => ∃ v1 v2, e = .returned (.tuple #[v1, v2]) ∧ ownR w.heap.size w' v1 (liftR p M n.toNat f g h).1 ∧ ownR w.heap.size w' v2 (liftR p M n.toNat f g h).2 ∧ rowNe v1 v2.ownBlock ∧ rowNe v2 v1.ownBlock ∧ Below w.heap.size w w' := by
  obtain ⟨i0, hi, hz0, hz1, hz2⟩ := info_parts infoI
  have HG := hid hG
  have HSt := hid (liftI.start (n := n.toNat) hG)
  obtain ⟨hs, m2, m9, hpm, hmp, mg, mh, hlg, hlh, hg9, hh9, hf9, hlf, hf1, hfb, hg1, hh1, hc⟩ := hG
  have hp := smallP_bd hs
  have HR := hid hr
  have HM := hid hM
  have H1 := hid h1
  have H2 := hid h2
  have H3 := hid h3
  have Mg := hid mg
  have Mh := hid mh
  have Hc := hid hc
  have Hfb := hid hfb
  obtain ⟨a1, c1, e1, _, _⟩ := id h1
  subst e1
  clear h1 h2 h3 hr hM mg mh hc hfb hf1 hg1 hh1 hmp
  go_enter Try.func20, Try.ntmps20
  go_wp2_with fail
  refine wp_region_calm (by kernel_rfl) (by kernel_rfl) ?_
  repeat (go_big_quiet_step (first | (go_at_call 50; exact calmp (s_modE p n M _ HR.out hp hn HM.out))))
  refine wpQuiet_nil ?_; intro uq zq; try simp at zq
  go_wp2_with fail
  refine viaI (g := id) (s_inverseP p _ _ h g _ ((H3.out.alloc _).aft _) ((H2.out.alloc _).aft _) hs Mh.out Mg.out hlg hg9 hh9 Hc.out) ?_
  intro r12 u12 z12 o12
  have HT := hid o12.rd
  clear o12
  go_wp2_with fail
  refine viaI (g := id) (s_inverseP p _ _ g h _ (((H2.out.alloc _).aft _).aft _) (((H3.out.alloc _).aft _).aft _) hs Mg.out Mh.out hlh hh9 hg9 Hc.out.swap) ?_
  intro r13 u13 z13 o13
  have HT2 := hid o13.rd
  clear o13
  go_wp2_with fail
  refine viaI (g := id) (s_own _ g _ ((((H2.out.alloc _).aft _).aft _).aft _) (by omega)) ?_
  intro r14 u14 z14 o14
  have O2 := hid o14
  clear o14
  go_wp2_with fail
  refine viaI (g := id) (s_own _ h _ (((((H3.out.alloc _).aft _).aft _).aft _).aft _) (by omega)) ?_
  intro r15 u15 z15 o15
  have O3 := hid o15
  have N2 : Hid (rowNe r14 r15.ownBlock) := hid (rowNe_lt O2.out.rowLt (own_row_ge o15) (by omega))
  have N3 : Hid (rowNe r15 r14.ownBlock) := hid (rowNe_gt O2.out.rowLt (own_row_ge o15) (by omega))
  clear o15
  have MS := hid (isMod_rem (p := p) (g := g) hs (isMod_cof (p := p) (by omega) h g).1)
  have MS2 := hid (isMod_rem (p := p) (g := h) hs (isMod_cof (p := p) (by omega) g h).1)
  have lS := rem_len hs (isMod_cof (p := p) (by omega) h g).1 Mg.out (by omega)
  have lS2 := rem_len hs (isMod_cof (p := p) (by omega) g h).1 Mh.out (by omega)
  have eS : remP p (cofP p h g) g = invP p h g := rfl
  have eS2 : remP p (cofP p g h) h = invP p g h := rfl
  rw [eS] at MS lS
  rw [eS2] at MS2 lS2
  clear eS eS2
  obtain ⟨W0, hW0⟩ : ∃ W, W = aft (aft (aft (aft (aft (w.alloc (Obj.cells #[Value.int IntKind.i64 p, Value.int IntKind.i64 n] 25)) uq) u12) u13) u14) u15 := ⟨_, rfl⟩
  have E0 : Hid (Ext w.heap.size w W0) := hid (by rw [hW0]; exact (((((((Ext.refl w).alloc _).aft _).aft _).aft _).aft _).aft _))
  have P12 : Hid (rdI W0 r12 (invP p h g)) := hid (by rw [hW0]; exact ((HT.out.aft _).aft _).aft _)
  have P13 : Hid (rdI W0 r13 (invP p g h)) := hid (by rw [hW0]; exact (HT2.out.aft _).aft _)
  have e14 : w.heap.size ≤ (aft (aft (aft (w.alloc (Obj.cells #[Value.int IntKind.i64 p, Value.int IntKind.i64 n] 25)) uq) u12) u13).heap.size := ((((Ext.refl w).alloc _).aft _).aft _).aft _ |>.2
  have e15 : w.heap.size ≤ (aft (aft (aft (aft (w.alloc (Obj.cells #[Value.int IntKind.i64 p, Value.int IntKind.i64 n] 25)) uq) u12) u13) u14).heap.size := (((((Ext.refl w).alloc _).aft _).aft _).aft _).aft _ |>.2
  have P14 : Hid (ownR w.heap.size W0 r14 g) := hid (by rw [hW0]; exact (O2.out.mono e14).aft _)
  have P15 : Hid (ownR w.heap.size W0 r15 h) := hid (by rw [hW0]; exact O3.out.mono e15)
  rw [← hW0]
  clear hW0 z12 z13 z14 z15 e14 e15 O2 O3 HT HT2 HR
  go_wp2_with fail
  go_loopw [14, 15, 16] (fun a b q wr => ∃ (A B : List Int) (Q : Int) (uu : World), wr = aft w uu ∧ q = .int .i64 Q ∧ Hid (ownR w.heap.size wr a A) ∧ Hid (ownR w.heap.size wr b B) ∧ Hid (rowNe a b.ownBlock) ∧ Hid (rowNe b a.ownBlock) ∧ Hid (rdI wr r12 (invP p h g)) ∧ Hid (rdI wr r13 (invP p g h)) ∧ Hid (liftI p M n.toNat f g h Q A B)) (fun _ _ q _ => (M - intOf q).toNat)
  case atStart =>
    obtain ⟨u0, hu0⟩ := aft_ex E0.out.1
    exact ⟨g, h, p, u0, hu0, rfl, P14, P15, N2, N3, P12, P13, HSt⟩
  case round =>
    obtain ⟨A, B, Q, uu, rfl, rfl, OA, OB, NA, NB, HT, HT2, HI⟩ := hrel
    clear E0
    have zs := size_aft w uu
    obtain ⟨a2, c2, e2⟩ := own_len OA.out
    subst e2
    obtain ⟨a3, c3, e3⟩ := own_len OB.out
    subst e3
    have hQ1 := HI.out.pos (by omega)
    by_cases hQ : Q < M
    · have hI2 := HI.out.next HG.out HM.out hQ
      obtain ⟨ka, kb⟩ := HI.out.both
      have hQp : Q * p ≤ 1000000000 * 97 := Int.mul_le_mul (by omega) (by omega) (by omega) (by omega)
      have hQp0 : 0 ≤ Q * p := Int.mul_nonneg (by omega) (by omega)
      have hQp1 : Q + 1 ≤ Q * p := by have := Int.mul_le_mul_of_nonneg_left hp.1 (show 0 ≤ Q by omega); omega
      obtain ⟨ml, mm⟩ := pair_mis (q := Q) HG.out ka kb
      have hA9 : A.length ≤ 9 := by rw [ka.2.1]; exact hg9
      have hB9 : B.length ≤ 9 := by rw [kb.2.1]; exact hh9
      have hB1 : 1 ≤ B.length := by rw [kb.2.1]; omega
      have HI2 := hid hI2
      have MM := hid mm
      have Ka := hid ka
      have Kb := hid kb
      have Hprod := hid (ring_prods (M := M) (by omega) ka.1 kb.1)
      have hFb := hid (small64 (f := f) (M := M - 1) (by omega) Hfb.out)
      have hFm := hid (rng_mod (M := M) (by omega) Hfb.out)
      have hpl := mulR_len M A B
      have hmb : Hid (∀ x ∈ mulR M A B, 0 ≤ x ∧ x ≤ M - 1) := hid fun x hx => by
        unfold mulR at hx
        split at hx
        · simp at hx
        · exact modL_mem (by omega) x (trimF_mem hx)
      have hPb := hid (small64 (f := mulR M A B) (M := M - 1) (by omega) hmb.out)
      clear hI2 mm ka kb HI hmb
      go_wp2_with fail
      refine viaI (g := id) (s_mulRing _ _ A B M _ OA.out.rd OB.out.rd hA9 (by omega) (by omega) Hprod.out) ?_
      intro v1 u1 z1 o1
      have HP : Hid (rdI (aft (aft w uu) u1) v1 (mulR M A B)) := hid o1.rd
      clear o1
      go_wp2_with fail
      refine viaI (g := id) (s_addM _ _ f (mulR M A B) (-1) M _ ((H1.out.aft _).aft _) HP.out (by omega) (by omega) (fun j => by have := hFb.out j; unfold i64B; omega) (fun j => by have := hPb.out j; unfold i64B; omega) (fun j => by have := hFb.out j; have := hPb.out j; unfold i64B; omega) (by omega) hFm.out) ?_
      intro v3 u3 z3 o3
      rw [dif_alt hB1] at o3
      have HX3 := hid o3.rd
      have hD9 : (dif M f A B).length ≤ 100 := by rw [← dif_alt hB1]; have := red_len M (addK (-1) f (mulR M A B)); have := addK_len (-1) f (mulR M A B); omega
      have hDb : Hid (∀ x ∈ dif M f A B, 0 ≤ x ∧ x ≤ M - 1) := hid fun x hx => modL_mem (by omega) x (trimF_mem hx)
      clear o3 HP
      obtain ⟨X, hX⟩ : ∃ X, X = aft (aft (aft w uu) u1) u3 := ⟨_, rfl⟩
      have EX : Hid (Ext w.heap.size w X) := hid (by rw [hX]; exact (((Ext.refl w).aft _).aft _).aft _)
      have XA : Hid (ownR w.heap.size X (.slice a2 A.length c2) A) := hid (by rw [hX]; exact (OA.out.aft _).aft _)
      have XB : Hid (ownR w.heap.size X (.slice a3 B.length c3) B) := hid (by rw [hX]; exact (OB.out.aft _).aft _)
      have XT : Hid (rdI X r12 (invP p h g)) := hid (by rw [hX]; exact (HT.out.aft _).aft _)
      have XT2 : Hid (rdI X r13 (invP p g h)) := hid (by rw [hX]; exact (HT2.out.aft _).aft _)
      rw [← hX] at HX3 ⊢
      clear hX z1 z3 OA OB HT HT2
      obtain ⟨D, hD⟩ : ∃ D, D = dif M f A B := ⟨_, rfl⟩
      have HDE := hid hD
      rw [← hD] at HX3 hD9 hDb
      clear hD
      obtain ⟨a8, c8, e8, hm8, hc8⟩ := HX3.out
      subst e8
      have Hc8 := hid hc8
      have hzX := EX.out.2
      clear hc8 hm8
      go_wp2_with fail
      go_loopw [18, 19] (fun r i_ wr => ∃ (k : Nat) (u7 : World), wr = aft X u7 ∧ k ≤ D.length ∧ i_ = .int .i64 k ∧ Hid (ownR X.heap.size wr r (quoR Q p D k))) (fun r i_ _ => (D.length - intOf i_).toNat)
      case atStart => exact ⟨0, _, (aft_of (((Ext.refl X).alloc _).1)).symm, by omega, rfl, hid (own_made X)⟩
      case round =>
        obtain ⟨k, u7, rfl, hk, rfl, HO⟩ := hrel
        have zs7 := size_aft X u7
        by_cases hlt : k < D.length
        · have hltz : (k : Int) < (D.length : Int) := by omega
          obtain ⟨b, o, rfl, hcell⟩ := Hc8.out (by intro e; rw [e] at hlt; simp at hlt)
          have h1 := hcell k hlt
          have hb := World.block_lt_of_cell? X _ h1
          have hcb := hDb.out D[k] (List.getElem_mem hlt)
          obtain ⟨c, hcx⟩ : ∃ c, c = D[k] := ⟨_, rfl⟩
          rw [← hcx] at h1 hcb
          have HX := hid hcx
          clear hcx hcell
          have hown := HO.out
          have hml : (quoR Q p D k).length = k := quoR_len hk
          have hq0 : (Q == 0) = false := by simp; omega
          have hqn : Q ≠ 0 := by omega
          have hp0 : (p == 0) = false := by simp; omega
          have hpn : p ≠ 0 := by omega
          have htd : c.tdiv Q = c / Q := Int.tdiv_eq_ediv_of_nonneg hcb.1
          have hcq : 0 ≤ c / Q ∧ c / Q ≤ 1000000000 := ⟨Int.ediv_nonneg hcb.1 (by omega), by have := Int.ediv_le_self Q hcb.1; omega⟩
          have htm : (c / Q).tmod p = c / Q % p := Int.tmod_eq_emod_of_nonneg hcq.1
          have hcm : 0 ≤ c / Q % p ∧ c / Q % p ≤ 100 := ⟨Int.emod_nonneg _ hpn, by have := Int.emod_lt_of_pos (c / Q) (show 0 < p by omega); omega⟩
          go_wp2_with (at_builtin; refine wpList_append_own _ rfl _ _ 26 rfl (X.heap.size) 2 i0 (.int .i64 0) 1 8 Try.underlying26 hi hz0 hz1 hz2 rfl (by decide) _ _ _ rfl (((hown).alloc _)) ⟨_, 0, none⟩ 1 1 [.int .i64 (c / Q % p)] rfl rfl ?c1 ?c2 ?c3 ?c4 ?c5 ?_)
          case c2 => first | rfl | (intro u hu; simp at hu; subst hu; rfl)
          case c3 => first | (rw [hml]; unfold maxLen; omega) | (unfold maxLen; omega)
          case c4 => first | (rw [hml]; omega) | omega
          case c5 => first | omega | (simp; omega)
          intro v' w1 hown' hgrow _
          obtain ⟨u', rfl⟩ := grown_aft (W := X) (by repeat (with_reducible first | exact Ext.refl _ | apply Ext.alloc | apply Ext.aft | apply Ext.drew | apply Ext.drewN | apply Ext.setCell | exact Nat.le_add_right _ _ | exact Nat.le_refl _ | (simp; done) | omega)) hgrow (own_row_ge hown)
          have HO' := hid hown'
          clear hown' hgrow hown
          go_wp2_with fail
          go_roundw
          case rel => exact ⟨k + 1, u', rfl, by omega, by go_num, hid (by rw [quoR_succ hlt, ← HX.out]; exact ownR.snocK hml HO'.out)⟩
          case measure => simp only [intOf]; omega
        · obtain rfl : k = D.length := by omega
          have hltz : ¬ (D.length : Int) < (D.length : Int) := by omega
          have hml : (quoR Q p D D.length).length = D.length := quoR_len (Nat.le_refl _)
          go_wp2_with fail
          refine viaI (g := id) (s_trim X.heap.size _ _ _ HO.out (by omega)) ?_
          intro v8 u8 z8 o8
          have HC : Hid (rdI (aft (aft X u7) u8) v8 (misP p M Q f A B)) := hid (by unfold misP; rw [← HDE.out, ← quoR_all]; exact o8.rd)
          obtain ⟨cc, hcc⟩ : ∃ cc, cc = misP p M Q f A B := ⟨_, rfl⟩
          rw [← hcc] at HC MM ml HI2
          clear hcc o8 HDE
          obtain ⟨Y, hY⟩ : ∃ Y, Y = aft (aft X u7) u8 := ⟨_, rfl⟩
          have EY : Hid (Ext w.heap.size w Y) := hid (by rw [hY]; exact (EX.out.aft _).aft _)
          have YA : Hid (ownR w.heap.size Y (.slice a2 A.length c2) A) := hid (by rw [hY]; exact (XA.out.aft _).aft _)
          have YB : Hid (ownR w.heap.size Y (.slice a3 B.length c3) B) := hid (by rw [hY]; exact (XB.out.aft _).aft _)
          have YT : Hid (rdI Y r12 (invP p h g)) := hid (by rw [hY]; exact (XT.out.aft _).aft _)
          have YT2 : Hid (rdI Y r13 (invP p g h)) := hid (by rw [hY]; exact (XT2.out.aft _).aft _)
          rw [← hY] at HC ⊢
          clear hY EX XA XB XT XT2 HO HX3 Hc8 z8
          go_wp2_with fail
          refine viaI (g := id) (s_times p _ _ cc (invP p h g) _ HC.out YT.out hp MM.out.1 MS.out.1 (by omega) (by omega)) ?_
          intro t1 y1 q1 o1
          have Y1 := hid o1.rd
          have l1 := timesP_len p cc (invP p h g)
          have m1 := hid (timesP_mod (p := p) (by omega) cc (invP p h g))
          clear o1
          go_wp2_with fail
          refine viaI (g := id) (s_rest _ _ (timesP p cc (invP p h g)) g p _ Y1.out (((H2.out.below EY.out.1)).aft _) hs m1.out.1 Mg.out.1 (by omega) (by omega)) ?_
          intro t3 y3 q3 o3
          have Y3 : Hid (rdI (aft (aft Y y1) y3) t3 (stX p cc (invP p h g) g)) := hid o3.rd
          clear o3 Y1 m1
          obtain ⟨xx, hxx⟩ : ∃ xx, xx = stX p cc (invP p h g) g := ⟨_, rfl⟩
          have mx : Hid (isMod p xx) := hid (by rw [hxx]; exact stX_mod hs)
          have lx : xx.length < g.length := by rw [hxx]; exact stX_len hs Mg.out (by omega)
          rw [← hxx] at Y3 HI2
          clear hxx
          go_wp2_with fail
          refine viaI (g := id) (s_times p _ _ cc (invP p g h) _ ((HC.out.aft _).aft _) ((YT2.out.aft _).aft _) hp MM.out.1 MS2.out.1 (by omega) (by omega)) ?_
          intro t4 y4 q4 o4
          have Y4 := hid o4.rd
          have l4 := timesP_len p cc (invP p g h)
          have m4 := hid (timesP_mod (p := p) (by omega) cc (invP p g h))
          clear o4
          go_wp2_with fail
          refine viaI (g := id) (s_rest _ _ (timesP p cc (invP p g h)) h p _ Y4.out ((((H3.out.below EY.out.1).aft _).aft _).aft _) hs m4.out.1 Mh.out.1 (by omega) (by omega)) ?_
          intro t5 y5 q5 o5
          have Y5 : Hid (rdI (aft (aft (aft (aft Y y1) y3) y4) y5) t5 (stX p cc (invP p g h) h)) := hid o5.rd
          clear o5 Y4 m4
          obtain ⟨yy, hyy⟩ : ∃ yy, yy = stX p cc (invP p g h) h := ⟨_, rfl⟩
          have my : Hid (isMod p yy) := hid (by rw [hyy]; exact stX_mod hs)
          have ly : yy.length < h.length := by rw [hyy]; exact stX_len hs Mh.out (by omega)
          rw [← hyy] at Y5 HI2
          clear hyy
          have bX := hid (small97 (p := p) (by omega) mx.out.1)
          have bY := hid (small97 (p := p) (by omega) my.out.1)
          have bA := hid (small64 (f := A) (M := M - 1) (by omega) Ka.out.1)
          have bB := hid (small64 (f := B) (M := M - 1) (by omega) Kb.out.1)
          have cA := hid (rng_mod (M := M) (by omega) Ka.out.1)
          have cB := hid (rng_mod (M := M) (by omega) Kb.out.1)
          have hQ9 : 0 ≤ Q ∧ Q ≤ 1000000000 := by omega
          go_wp2_with fail
          refine viaI (g := id) (s_addM _ _ A xx Q M _ ((((YA.out.aft _).aft _).aft _).aft _).rd ((Y3.out.aft _).aft _) (by omega) (by omega) (fun j => by have := bA.out j; unfold i64B; omega) (fun j => by have := mul_bd hQ9 (bX.out j); unfold i64B; omega) (fun j => by have := bA.out j; have := mul_bd hQ9 (bX.out j); unfold i64B; omega) (by omega) cA.out) ?_
          intro s3 v3 w3 o3
          have S3 := hid o3
          clear o3
          go_wp2_with fail
          refine viaI (g := id) (s_addM _ _ B yy Q M _ (((((YB.out.aft _).aft _).aft _).aft _).aft _).rd (Y5.out.aft _) (by omega) (by omega) (fun j => by have := bB.out j; unfold i64B; omega) (fun j => by have := mul_bd hQ9 (bY.out j); unfold i64B; omega) (fun j => by have := bB.out j; have := mul_bd hQ9 (bY.out j); unfold i64B; omega) (by omega) cB.out) ?_
          intro s6 v6 w6 o6
          have S6 := hid o6
          have nS1 : Hid (rowNe s3 s6.ownBlock) := hid (rowNe_lt S3.out.rowLt (own_row_ge o6) (by omega))
          have nS2 : Hid (rowNe s6 s3.ownBlock) := hid (rowNe_gt S3.out.rowLt (own_row_ge o6) (by omega))
          clear o6
          have hzY := EY.out.2
          go_wp2_with fail
          go_roundw
          case rel =>
            obtain ⟨uf, huf⟩ := aft_ex ((((((EY.out.aft y1).aft y3).aft y4).aft y5).aft v3).aft v6).1
            exact ⟨_, _, Q * p, uf, huf, rfl, hid ((S3.out.aft _).mono (by omega)), hid (S6.out.mono (by omega)), nS1, nS2, hid ((((((YT.out.aft _).aft _).aft _).aft _).aft _).aft _), hid ((((((YT2.out.aft _).aft _).aft _).aft _).aft _).aft _), HI2⟩
          case measure => simp only [intOf]; omega
    · have hAB := HI.out.stop hQ
      have HAB := hid hAB
      clear hAB
      go_wp2_with fail
      go_ret2
      exact ⟨_, _, rfl, by rw [← HAB.out]; exact OA.out, by rw [← HAB.out]; exact OB.out, NA.out, NB.out, (by refine Ext.bel ?_; repeat (with_reducible first | exact Ext.refl _ | apply Ext.alloc | apply Ext.aft | apply Ext.drew | apply Ext.drewN | apply Ext.setCell | exact Nat.le_add_right _ _ | exact Nat.le_refl _ | (simp; done) | omega))⟩
end Go.Proofs.Ytflmoopiajhadaa
