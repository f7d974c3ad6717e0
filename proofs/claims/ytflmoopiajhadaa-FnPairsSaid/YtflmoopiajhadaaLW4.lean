/- The lifting of a pair: the program's text. -/
import Derived.Test.YtflmoopiajhadaaLW3
namespace Go.Proofs.Ytflmoopiajhadaa
open Go Go.RowKit

theorem cv_single (i : Int) (x : Nat → Int) (j : Nat) : cv (co [i]) x j = i * x j := by
  have : cv (co [i]) x j = cv (fun t => i * one t) x j := cv_congr j (fun t => by
    cases t with
    | zero => simp [co, one]
    | succ t => simp [co, one]) (fun _ => rfl)
  rw [this, cv_scale, cv_one]
theorem co_prodF {f g : List Int} (hg : 1 ≤ g.length) (j : Nat) : co (prodF f g) j = cv (co f) (co g) j := by
  unfold prodF
  split
  · rename_i h
    rcases h with rfl | rfl
    · exact (sumR_zero _ _ fun i _ => by simp [co_nil]).symm
    · simp at hg
  · show (trimF _).getD j 0 = _
    rw [trimF_getD]
    exact prod_conv hg j
theorem co_scaled (X : List Int) (q : Int) (j : Nat) : co (prodF X [q]) j = q * co X j := by
  rw [co_prodF (by simp), cv_comm, cv_single]
theorem scal_eq (m q : Int) (A X : List Int) : redF m (addK 1 A (prodF X [q])) = redF m (addK q A X) := red_congr fun j => by
  rw [co_add, co_add, co_scaled, Int.one_mul]
def quoK (q : Int) (D : List Int) (k : Nat) : List Int := (D.take k).map (· / q)
theorem quoK_len {q : Int} {D : List Int} {k : Nat} (h : k ≤ D.length) : (quoK q D k).length = k := by simp [quoK]; omega
theorem quoK_succ {q : Int} {D : List Int} {k : Nat} (h : k < D.length) : quoK q D (k + 1) = quoK q D k ++ [D[k] / q] := by
  unfold quoK; rw [take_snocI _ _ h, List.map_append]; rfl
theorem quoK_all (q : Int) (D : List Int) : quoK q D D.length = D.map (· / q) := by simp [quoK]
theorem prodF_bd {f g : List Int} {P : Int} (hP : 0 ≤ P) (h : ∀ c ∈ f, ∀ d ∈ g, 0 ≤ c * d ∧ c * d ≤ P) (j : Nat) : 0 ≤ (prodF f g).getD j 0 ∧ (prodF f g).getD j 0 ≤ P * f.length := by
  have h0 : 0 ≤ P * f.length := Int.mul_nonneg hP (by omega)
  unfold prodF
  split
  · simp; exact h0
  · rw [trimF_getD]
    exact getD_bd h0 (prodS_bd hP (prods_of hP h) f.length) j
theorem pow_le {p : Int} (hp : 1 ≤ p) {i n : Nat} (h : n ≤ i) : p ^ n ≤ p ^ i := by
  induction i with
  | zero => obtain rfl : n = 0 := by omega
            exact Int.le_refl _
  | succ i ih =>
    by_cases e : n = i + 1
    · subst e; exact Int.le_refl _
    · have h1 := ih (by omega)
      have h2 : 0 < p ^ i := Int.pow_pos (by omega)
      rw [Int.pow_succ]
      have := Int.mul_le_mul_of_nonneg_left hp (show 0 ≤ p ^ i by omega)
      omega
/-- The lifted pair. -/
def liftR (p M : Int) (n : Nat) (f g h : List Int) : List Int × List Int := liftP p M f g h n p g h
/-- The state of a round. -/
def liftI (p M : Int) (n : Nat) (f g h : List Int) (Q : Int) (A B : List Int) : Prop :=
  ∃ (k i : Nat), Q = p ^ i ∧ 1 ≤ i ∧ n ≤ i + k ∧ liftP p M f g h k Q A B = liftR p M n f g h ∧ lif p M g A ∧ lif p M h B
theorem liftI.start {p M : Int} {n : Nat} {f g h : List Int} (k : pairG p M f g h) : liftI p M n f g h p g h := by
  obtain ⟨hs, m2, _, hpm, _, hg, hh, hlg, hlh, _, _, _, hlf, hf1, _, hg1, hh1, hc⟩ := k
  exact ⟨n, 1, by rw [Int.pow_succ, Int.pow_zero, Int.one_mul], by omega, by omega, rfl, lif.refl hg hpm hg1, lif.refl hh hpm hh1⟩
theorem liftI.next {p M Q : Int} {n : Nat} {f g h A B : List Int} (k : pairG p M f g h) (hM : p ^ n = M) (hQ : Q < M) (i : liftI p M n f g h Q A B) :
    liftI p M n f g h (Q * p) (redF M (addK Q A (stX p (misP p M Q f A B) (invP p h g) g))) (redF M (addK Q B (stX p (misP p M Q f A B) (invP p g h) h))) := by
  have hp := smallP_bd k.1
  obtain ⟨t, i, hq, hi, hn, hl, ka, kb⟩ := i
  have hin : i < n := by
    rcases Nat.lt_or_ge i n with h | h
    · exact h
    · have := pow_le (p := p) (by omega) h
      omega
  obtain ⟨t, rfl⟩ : ∃ r, t = r + 1 := ⟨t - 1, by omega⟩
  rw [liftP, if_pos hQ] at hl
  have hqp : Q % p = 0 := by
    obtain ⟨i, rfl⟩ : ∃ r, i = r + 1 := ⟨i - 1, by omega⟩
    rw [hq, Int.pow_succ]; exact Int.mul_emod_left _ _
  obtain ⟨na, nb⟩ := pair_next k ka kb hqp
  exact ⟨t, i + 1, by rw [Int.pow_succ, hq], by omega, by omega, hl, na, nb⟩
theorem liftI.stop {p M Q : Int} {n : Nat} {f g h A B : List Int} (hQ : ¬ Q < M) (i : liftI p M n f g h Q A B) : (A, B) = liftR p M n f g h := by
  obtain ⟨t, i, _, _, _, hl, _, _⟩ := i
  rw [liftP_stop hQ] at hl
  exact hl
theorem liftI.pos {p M Q : Int} {n : Nat} {f g h A B : List Int} (hp : 1 ≤ p) (i : liftI p M n f g h Q A B) : 1 ≤ Q := by
  obtain ⟨t, i, hq, _⟩ := i
  have : 0 < p ^ i := Int.pow_pos (by omega)
  omega
theorem liftI.both {p M Q : Int} {n : Nat} {f g h A B : List Int} (i : liftI p M n f g h Q A B) : lif p M g A ∧ lif p M h B := by
  obtain ⟨_, _, _, _, _, _, ka, kb⟩ := i
  exact ⟨ka, kb⟩
theorem cof_len {p : Int} {g h : List Int} (hs : smallP p = true) (hg : isMod p g) (hh : isMod p h) (hl : 2 ≤ g.length) (hc : cop p g h) : (cofP p h g).length ≤ g.length + 2 := by
  have h1 := (euc_end hs hg hh hl hc).1.2.2.2.2.2.1
  have h2 := timesP_len p (eucE p h g).2.2.2 [inv ((eucE p h g).2.1.getD 0 0) p]
  rw [List.length_singleton] at h2
  unfold cofP
  omega
set_option maxRecDepth 20000 in
set_option maxHeartbeats 16000000 in
theorem i_liftPair (p n M : Int) (B0 : Nat) (r1 r2 r3 : Value) (f g h : List Int) (w : World) (h1 : rdI w r1 f) (h2 : ownR B0 w r2 g) (h3 : ownR B0 w r3 h) (hB0 : B0 ≤ w.heap.size) (n2 : rowNe r2 r3.ownBlock) (n3 : rowNe r3 r2.ownBlock) (hr : ringB p n = true) (hM : p ^ n.toNat = M) (hG : pairG p M f g h) :
    Calls Try.prog 16 #[(.agg #[.int .i64 p, .int .i64 n]), r1, r2, r3] w fun e w' => ∃ v1 v2, e = .returned (.tuple #[v1, v2]) ∧ ownR B0 w' v1 (liftR p M n.toNat f g h).1 ∧ ownR B0 w' v2 (liftR p M n.toNat f g h).2 ∧ rowNe v1 v2.ownBlock ∧ rowNe v2 v1.ownBlock ∧ Below w.heap.size w w' := by
  obtain ⟨i0, hi, hz0, hz1, hz2⟩ := info_parts infoI
  have HG := hid hG
  have HSt := hid (liftI.start (n := n.toNat) hG)
  obtain ⟨hs, m2, m9, hpm, hmp, mg, mh, hlg, hlh, hg9, hh9, hf9, hlf, hf1, hfb, hg1, hh1, hc⟩ := hG
  have hp := smallP_bd hs
  have HR := hid hr
  have HM := hid hM
  have H1 := hid h1
  have O2 := hid h2
  have O3 := hid h3
  have N2 := hid n2
  have N3 := hid n3
  have Mg := hid mg
  have Mh := hid mh
  have Hc := hid hc
  have Hfb := hid hfb
  obtain ⟨a1, c1, e1, _, _⟩ := id h1
  subst e1
  clear h1 h2 h3 n2 n3 hr hM mg mh hc hfb hf1 hg1 hh1 hmp
  go_enter Try.func16, Try.ntmps16
  go_wp2_with fail
  refine wp_region_calm (by kernel_rfl) (by kernel_rfl) ?_
  repeat (go_big_quiet_step (first | (go_at_call 37; exact calm (i_modulusE p n M _ HR.out HM.out))))
  refine wpQuiet_nil ?_; intro uq zq; try simp at zq
  go_wp2_with fail
  refine viaI (g := id) (i_cofactor p _ _ h g _ ((O3.out.alloc _).aft _).rd ((O2.out.alloc _).aft _).rd hs Mh.out Mg.out hlg hg9 hh9 Hc.out) ?_
  intro r12 u12 z12 o12
  have HT := hid o12.rd
  have MT := hid (isMod_cof (p := p) (by omega) h g)
  have hT9 : (cofP p h g).length ≤ 100 := by have := cof_len hs Mg.out Mh.out hlg Hc.out; omega
  obtain ⟨W0, hW0⟩ : ∃ W, W = aft (aft (w.alloc (Obj.cells #[Value.int IntKind.i64 p, Value.int IntKind.i64 n] 25)) uq) u12 := ⟨_, rfl⟩
  have E0 : Hid (Ext w.heap.size w W0) := hid (by rw [hW0]; exact (((Ext.refl w).alloc _).aft _).aft _)
  rw [← hW0] at HT ⊢
  clear o12 z12 hW0 HR
  go_wp2_with fail
  go_loopw [2, 3, 13] (fun a b q wr => ∃ (A B : List Int) (Q : Int) (uu : World), wr = aft w uu ∧ q = .int .i64 Q ∧ Hid (ownR B0 wr a A) ∧ Hid (ownR B0 wr b B) ∧ Hid (rowNe a b.ownBlock) ∧ Hid (rowNe b a.ownBlock) ∧ Hid (rdI wr r12 (cofP p h g)) ∧ Hid (liftI p M n.toNat f g h Q A B)) (fun _ _ q _ => (M - intOf q).toNat)
  case atStart =>
    obtain ⟨u0, hu0⟩ := aft_ex E0.out.1
    exact ⟨g, h, p, u0, hu0, rfl, hid (O2.out.below E0.out.1), hid (O3.out.below E0.out.1), N2, N3, HT, HSt⟩
  case round =>
    obtain ⟨A, B, Q, uu, rfl, rfl, OA, OB, NA, NB, HT, HI⟩ := hrel
    clear E0
    have zs := size_aft w uu
    obtain ⟨a2, c2, e2⟩ := own_len OA.out
    subst e2
    obtain ⟨a3, c3, e3⟩ := own_len OB.out
    subst e3
    have hQ1 := HI.out.pos (by omega)
    by_cases hQ : Q < M
    · have hI2 := HI.out.next HG.out HM.out hQ
      obtain ⟨ka, kb⟩ := HI.out.both
      have hQp : Q * p ≤ 1000000000 * 97 := Int.mul_le_mul (by omega) (by omega) (by omega) (by omega)
      have hQp0 : 0 ≤ Q * p := Int.mul_nonneg (by omega) (by omega)
      have hQp1 : Q + 1 ≤ Q * p := by have := Int.mul_le_mul_of_nonneg_left hp.1 (show 0 ≤ Q by omega); omega
      obtain ⟨st1, st2⟩ := pair_step (q := Q) HG.out ka kb
      obtain ⟨ml, mm⟩ := pair_mis (q := Q) HG.out ka kb
      have hA9 : A.length ≤ 9 := by rw [ka.2.1]; exact hg9
      have hB9 : B.length ≤ 9 := by rw [kb.2.1]; exact hh9
      have HI2 := hid hI2
      have St1 := hid st1
      have St2 := hid st2
      have MM := hid mm
      have Ka := hid ka
      have Kb := hid kb
      have Hprod := hid (ring_prods (M := M) (by omega) ka.1 kb.1)
      have Hpb := hid (prodF_bd (by omega) Hprod.out)
      have hFb := hid (small64 (f := f) (M := M - 1) (by omega) Hfb.out)
      have hpl := prodF_len A B
      clear hI2 st1 st2 mm ka kb HI
      go_wp2_with fail
      refine viaI (g := id) (i_product _ _ A B _ OA.out.rd OB.out.rd hA9 (by omega) Hprod.out) ?_
      intro v1 u1 z1 o1
      have HP := hid o1.rd
      clear o1
      obtain ⟨Pr, hPr⟩ : ∃ Pr, Pr = prodF A B := ⟨_, rfl⟩
      have HPr := hid hPr
      rw [← hPr] at HP hpl Hpb
      clear hPr
      go_wp2_with fail
      refine viaI (g := id) (i_minus _ _ f Pr _ ((H1.out.aft _).aft _) HP.out (by omega) (by omega) (fun j => by have := hFb.out j; unfold i64B; omega) (fun j => by have := Hpb.out j; omega) (fun j => by have := hFb.out j; have := Hpb.out j; unfold i64B; omega)) ?_
      intro v2 u2 z2 o2
      have HD := hid o2.rd
      have hDl := addK_len (-1) f Pr
      clear o2
      go_wp2_with fail
      refine viaI (g := id) (i_reduce M _ (addK (-1) f Pr) _ HD.out (by omega) (by omega)) ?_
      intro v3 u3 z3 o3
      have HX3 : Hid (rdI (aft (aft (aft (aft w uu) u1) u2) u3) v3 (dif M f A B)) := hid (by unfold dif; rw [← HPr.out]; exact o3.rd)
      have hD9 : (dif M f A B).length ≤ 100 := by have := red_len M (addK (-1) f Pr); unfold dif; rw [← HPr.out]; omega
      have hDb : Hid (∀ x ∈ dif M f A B, 0 ≤ x ∧ x ≤ M - 1) := hid fun x hx => modL_mem (by omega) x (trimF_mem hx)
      clear o3 HD HP
      obtain ⟨X, hX⟩ : ∃ X, X = aft (aft (aft (aft w uu) u1) u2) u3 := ⟨_, rfl⟩
      have EX : Hid (Ext w.heap.size w X) := hid (by rw [hX]; exact ((((Ext.refl w).aft _).aft _).aft _).aft _)
      have XA : Hid (ownR B0 X (.slice a2 A.length c2) A) := hid (by rw [hX]; exact ((OA.out.aft _).aft _).aft _)
      have XB : Hid (ownR B0 X (.slice a3 B.length c3) B) := hid (by rw [hX]; exact ((OB.out.aft _).aft _).aft _)
      have XT : Hid (rdI X r12 (cofP p h g)) := hid (by rw [hX]; exact ((HT.out.aft _).aft _).aft _)
      rw [← hX] at HX3 ⊢
      clear hX z1 z2 z3 OA OB HT
      obtain ⟨D, hD⟩ : ∃ D, D = dif M f A B := ⟨_, rfl⟩
      have HDE := hid hD
      rw [← hD] at HX3 hD9 hDb
      clear hD
      obtain ⟨a8, c8, e8, hm8, hc8⟩ := HX3.out
      subst e8
      have Hc8 := hid hc8
      have hzX := EX.out.2
      clear hc8 hm8
      go_wp2_with fail
      go_loopw [14, 16, 43] (fun r _ i_ wr => ∃ (k : Nat) (u7 : World), wr = aft X u7 ∧ k ≤ D.length ∧ i_ = .int .i64 k ∧ Hid (ownR X.heap.size wr r (quoK Q D k))) (fun r _ i_ _ => (D.length - intOf i_).toNat)
      case atStart => exact ⟨0, X, (aft_of (Below.refl _ _)).symm, by omega, rfl, hid (ownR.nil _ _)⟩
      case round =>
        obtain ⟨k, u7, rfl, hk, rfl, HO⟩ := hrel
        have zs7 := size_aft X u7
        by_cases hlt : k < D.length
        · have hltz : (k : Int) < (D.length : Int) := by omega
          obtain ⟨b, o, rfl, hcell⟩ := Hc8.out (by intro e; rw [e] at hlt; simp at hlt)
          have h1 := hcell k hlt
          have hb := World.block_lt_of_cell? X _ h1
          have hcb := hDb.out D[k] (List.getElem_mem hlt)
          obtain ⟨c, hcx⟩ : ∃ c, c = D[k] := ⟨_, rfl⟩
          rw [← hcx] at h1 hcb
          have HX := hid hcx
          clear hcx hcell
          have hown := HO.out
          have hml : (quoK Q D k).length = k := quoK_len hk
          have hq0 : (Q == 0) = false := by simp; omega
          have hqn : Q ≠ 0 := by omega
          have htd : c.tdiv Q = c / Q := Int.tdiv_eq_ediv_of_nonneg hcb.1
          have hcq : 0 ≤ c.tdiv Q ∧ c.tdiv Q ≤ 1000000000 := by
            rw [htd]
            exact ⟨Int.ediv_nonneg hcb.1 (by omega), by have := Int.ediv_le_self Q hcb.1; omega⟩
          go_wp2_with (at_builtin; refine wpList_append_own _ rfl _ _ 26 rfl (X.heap.size) 2 i0 (.int .i64 0) 1 8 Try.underlying26 hi hz0 hz1 hz2 rfl (by decide) _ _ _ rfl (((hown).alloc _)) ⟨_, 0, none⟩ 1 1 [.int .i64 (c.tdiv Q)] rfl rfl ?c1 ?c2 ?c3 ?c4 ?c5 ?_)
          case c2 => first | rfl | (intro u hu; simp at hu; subst hu; rfl)
          case c3 => first | (rw [hml]; unfold maxLen; omega) | (unfold maxLen; omega)
          case c4 => first | (rw [hml]; omega) | omega
          case c5 => first | omega | (simp; omega)
          intro v' w1 hown' hgrow _
          obtain ⟨u', rfl⟩ := grown_aft (W := X) (by repeat (with_reducible first | exact Ext.refl _ | apply Ext.alloc | apply Ext.aft | apply Ext.drew | apply Ext.drewN | apply Ext.setCell | exact Nat.le_add_right _ _ | exact Nat.le_refl _ | (simp; done) | omega)) hgrow (own_row_ge hown)
          have HO' := hid hown'
          clear hown' hgrow hown
          go_wp2_with fail
          go_roundw
          case rel => exact ⟨k + 1, u', rfl, by omega, by go_num, hid (by rw [quoK_succ hlt, ← HX.out]; exact ownR.snocK hml HO'.out)⟩
          case measure => simp only [intOf]; omega
        · obtain rfl : k = D.length := by omega
          have hltz : ¬ (D.length : Int) < (D.length : Int) := by omega
          have hml : (quoK Q D D.length).length = D.length := quoK_len (Nat.le_refl _)
          go_wp2_with fail
          refine viaI (g := id) (i_reduce p _ (quoK Q D D.length) _ HO.out.rd (by omega) (by omega)) ?_
          intro v8 u8 z8 o8
          have HC : Hid (rdI (aft (aft X u7) u8) v8 (misP p M Q f A B)) := hid (by unfold misP; rw [← HDE.out, ← quoK_all]; exact o8.rd)
          obtain ⟨cc, hcc⟩ : ∃ cc, cc = misP p M Q f A B := ⟨_, rfl⟩
          rw [← hcc] at HC St1 St2 MM ml HI2
          clear hcc o8 HDE
          have hz8 : X.heap.size ≤ (aft (aft X u7) u8).heap.size := by have := size_aft (aft X u7) u8; omega
          obtain ⟨Y, hY⟩ : ∃ Y, Y = aft (aft X u7) u8 := ⟨_, rfl⟩
          have EY : Hid (Ext w.heap.size w Y) := hid (by rw [hY]; exact (EX.out.aft _).aft _)
          have YA : Hid (ownR B0 Y (.slice a2 A.length c2) A) := hid (by rw [hY]; exact (XA.out.aft _).aft _)
          have YB : Hid (ownR B0 Y (.slice a3 B.length c3) B) := hid (by rw [hY]; exact (XB.out.aft _).aft _)
          have YT : Hid (rdI Y r12 (cofP p h g)) := hid (by rw [hY]; exact (XT.out.aft _).aft _)
          rw [← hY] at HC ⊢
          clear hY EX XA XB XT HO HX3 Hc8 z8 hz8
          go_wp2_with fail
          refine viaI (g := id) (i_times p _ _ cc (cofP p h g) _ HC.out YT.out hp MM.out.1 MT.out.1 (by omega) (by omega)) ?_
          intro t1 y1 q1 o1
          have Y1 := hid o1.rd
          have l1 := timesP_len p cc (cofP p h g)
          have m1 := hid (timesP_mod (p := p) (by omega) cc (cofP p h g))
          clear o1
          go_wp2_with fail
          refine viaI (g := id) (i_reduce p _ A _ (YA.out.aft _).rd (by omega) (by omega)) ?_
          intro t2 y2 q2 o2
          have Y2 := hid o2.rd
          have l2 := red_len p A
          have m2' := hid (isMod_red (p := p) (by omega) A)
          have l2' : 1 ≤ (redF p A).length := by rw [(Ka.out).red (by omega) Mg.out]; omega
          clear o2
          go_wp2_with fail
          refine viaI (g := id) (i_remainder _ _ (timesP p cc (cofP p h g)) (redF p A) p _ (Y1.out.aft _) Y2.out hs m1.out.1 m2'.out.1 (by omega) (by omega)) ?_
          intro t3 y3 q3 o3
          have Y3 := hid o3.rd
          rw [St1.out] at Y3
          clear o3 Y1 m1
          obtain ⟨xx, hxx⟩ : ∃ xx, xx = stX p cc (invP p h g) g := ⟨_, rfl⟩
          have mx : Hid (isMod p xx) := hid (by rw [hxx]; exact stX_mod hs)
          have lx : xx.length < g.length := by rw [hxx]; exact stX_len hs Mg.out (by omega)
          rw [← hxx] at Y3 St2 HI2
          clear hxx
          go_wp2_with fail
          refine viaI (g := id) (i_reduce p _ B _ (((YB.out.aft _).aft _).aft _).rd (by omega) (by omega)) ?_
          intro t4 y4 q4 o4
          have Y4 := hid o4.rd
          have l4 := red_len p B
          have m4 := hid (isMod_red (p := p) (by omega) B)
          clear o4 Y2
          go_wp2_with fail
          refine viaI (g := id) (i_times p _ _ xx (redF p B) _ (Y3.out.aft _) Y4.out hp mx.out.1 m4.out.1 (by omega) (by omega)) ?_
          intro t5 y5 q5 o5
          have Y5 := hid o5.rd
          have l5 := timesP_len p xx (redF p B)
          have m5 := hid (timesP_mod (p := p) (by omega) xx (redF p B))
          obtain ⟨xb, hxb⟩ : ∃ xb, xb = timesP p xx (redF p B) := ⟨_, rfl⟩
          rw [← hxb] at Y5 l5 m5 St2
          clear o5 Y4 hxb
          have b5 := hid (small64 (f := cc) (M := p - 1) (by omega) MM.out.1)
          have b6 := hid (small64 (f := xb) (M := p - 1) (by omega) m5.out.1)
          go_wp2_with fail
          refine viaI (g := id) (i_minus _ _ cc xb _ (((((HC.out.aft _).aft _).aft _).aft _).aft _) Y5.out (by omega) (by omega) (fun j => by have := b5.out j; unfold i64B; omega) (fun j => by have := b6.out j; omega) (fun j => by have := b5.out j; have := b6.out j; unfold i64B; omega)) ?_
          intro t6 y6 q6 o6
          have Y6 := hid o6.rd
          have l6 := addK_len (-1) cc xb
          clear o6 Y5
          go_wp2_with fail
          refine viaI (g := id) (i_reduce p _ (addK (-1) cc xb) _ Y6.out (by omega) (by omega)) ?_
          intro t7 y7 q7 o7
          have Y7 := hid o7.rd
          have l7 := red_len p (addK (-1) cc xb)
          have m7 := hid (isMod_red (p := p) (by omega) (addK (-1) cc xb))
          obtain ⟨wx, hwx⟩ : ∃ wx, wx = redF p (addK (-1) cc xb) := ⟨_, rfl⟩
          rw [← hwx] at Y7 l7 m7 St2
          clear o7 Y6 hwx
          go_wp2_with fail
          refine viaI (g := id) (i_reduce p _ A _ (((((((YA.out.aft _).aft _).aft _).aft _).aft _).aft _).aft _).rd (by omega) (by omega)) ?_
          intro t8 y8 q8 o8
          have Y8 := hid o8.rd
          clear o8
          go_wp2_with fail
          refine viaI2 (g := fun r q => .tuple #[r, q]) (i_divide _ _ wx (redF p A) p _ (Y7.out.aft _) Y8.out hs m7.out.1 m2'.out.1 (by omega) (by omega)) ?_
          intro t9 t0 y9 q9 o9 o0 n9 n0
          have Y9 := hid o9.rd
          rw [St2.out] at Y9
          clear o9 o0 n9 n0 Y7 Y8
          obtain ⟨yy, hyy⟩ : ∃ yy, yy = stX p cc (invP p g h) h := ⟨_, rfl⟩
          have my : Hid (isMod p yy) := hid (by rw [hyy]; exact stX_mod hs)
          have ly : yy.length < h.length := by rw [hyy]; exact stX_len hs Mh.out (by omega)
          rw [← hyy] at Y9 HI2
          clear hyy
          obtain ⟨Z, hZ⟩ : ∃ Z, Z = aft (aft (aft (aft (aft (aft (aft (aft (aft Y y1) y2) y3) y4) y5) y6) y7) y8) y9 := ⟨_, rfl⟩
          have EZ : Hid (Ext w.heap.size w Z) := hid (by rw [hZ]; exact ((((((((EY.out.aft _).aft _).aft _).aft _).aft _).aft _).aft _).aft _).aft _)
          have ZA : Hid (ownR B0 Z (.slice a2 A.length c2) A) := hid (by rw [hZ]; exact ((((((((YA.out.aft _).aft _).aft _).aft _).aft _).aft _).aft _).aft _).aft _)
          have ZB : Hid (ownR B0 Z (.slice a3 B.length c3) B) := hid (by rw [hZ]; exact ((((((((YB.out.aft _).aft _).aft _).aft _).aft _).aft _).aft _).aft _).aft _)
          have ZT : Hid (rdI Z r12 (cofP p h g)) := hid (by rw [hZ]; exact ((((((((YT.out.aft _).aft _).aft _).aft _).aft _).aft _).aft _).aft _).aft _)
          have ZX : Hid (rdI Z t3 xx) := hid (by rw [hZ]; exact (((((Y3.out.aft _).aft _).aft _).aft _).aft _).aft _)
          rw [← hZ] at Y9 ⊢
          clear hZ q1 q2 q3 q4 q5 q6 q7 q8 q9 YA YB YT Y3 EY HC
          have hcX : Hid (∀ c ∈ xx, 0 ≤ c * Q ∧ c * Q ≤ 1000000000000000000) := hid fun c hc => by
            have := mx.out.1 c hc
            exact ⟨Int.mul_nonneg this.1 (by omega), by have := Int.mul_le_mul this.2 (show Q ≤ 1000000000 by omega) (by omega) (by omega); have := Int.mul_le_mul_of_nonneg_right (show p - 1 ≤ 100 by omega) (show (0 : Int) ≤ 1000000000 by omega); omega⟩
          have hcY : Hid (∀ c ∈ yy, 0 ≤ c * Q ∧ c * Q ≤ 1000000000000000000) := hid fun c hc => by
            have := my.out.1 c hc
            exact ⟨Int.mul_nonneg this.1 (by omega), by have := Int.mul_le_mul this.2 (show Q ≤ 1000000000 by omega) (by omega) (by omega); have := Int.mul_le_mul_of_nonneg_right (show p - 1 ≤ 100 by omega) (show (0 : Int) ≤ 1000000000 by omega); omega⟩
          have bX : Hid (∀ j, 0 ≤ (prodF xx [Q]).getD j 0 ∧ (prodF xx [Q]).getD j 0 ≤ 1000000000000000000 * xx.length) := hid (prodF_bd (by omega) (fun c hc d hd => by rw [show d = Q by simpa using hd]; exact hcX.out c hc))
          have bY : Hid (∀ j, 0 ≤ (prodF yy [Q]).getD j 0 ∧ (prodF yy [Q]).getD j 0 ≤ 1000000000000000000 * yy.length) := hid (prodF_bd (by omega) (fun c hc d hd => by rw [show d = Q by simpa using hd]; exact hcY.out c hc))
          have bA := hid (small64 (f := A) (M := M - 1) (by omega) Ka.out.1)
          have bB := hid (small64 (f := B) (M := M - 1) (by omega) Kb.out.1)
          have lpX := prodF_len xx [Q]
          have lpY := prodF_len yy [Q]
          rw [List.length_singleton] at lpX lpY
          go_wp2_with fail
          refine viaI (g := id) (i_scaled _ xx Q _ ZX.out (by omega) hcX.out) ?_
          intro s1 v1 q1 o1
          have S1 := hid o1.rd
          clear o1
          go_wp2_with fail
          refine viaI (g := id) (i_sum _ _ A (prodF xx [Q]) _ (ZA.out.aft _).rd S1.out (by omega) (by omega) (fun j => by have := bA.out j; unfold i64B; omega) (fun j => by have := bA.out j; have := bX.out j; unfold i64B; omega)) ?_
          intro s2 v2 q2 o2
          have S2 := hid o2.rd
          have lS2 := addK_len 1 A (prodF xx [Q])
          clear o2 S1
          go_wp2_with fail
          refine viaI (g := id) (i_reduce M _ (addK 1 A (prodF xx [Q])) _ S2.out (by omega) (by omega)) ?_
          intro s3 v3 q3 o3
          rw [scal_eq] at o3
          have S3 := hid o3
          clear o3 S2
          go_wp2_with fail
          refine viaI (g := id) (i_scaled _ yy Q _ (((Y9.out.aft _).aft _).aft _) (by omega) hcY.out) ?_
          intro s4 v4 q4 o4
          have S4 := hid o4.rd
          clear o4
          go_wp2_with fail
          refine viaI (g := id) (i_sum _ _ B (prodF yy [Q]) _ ((((ZB.out.aft _).aft _).aft _).aft _).rd S4.out (by omega) (by omega) (fun j => by have := bB.out j; unfold i64B; omega) (fun j => by have := bB.out j; have := bY.out j; unfold i64B; omega)) ?_
          intro s5 v5 q5 o5
          have S5 := hid o5.rd
          have lS5 := addK_len 1 B (prodF yy [Q])
          clear o5 S4
          go_wp2_with fail
          refine viaI (g := id) (i_reduce M _ (addK 1 B (prodF yy [Q])) _ S5.out (by omega) (by omega)) ?_
          intro s6 v6 q6 o6
          rw [scal_eq] at o6
          have S6 := hid o6
          have nS1 : Hid (rowNe s3 s6.ownBlock) := hid (rowNe_lt S3.out.rowLt (own_row_ge o6) (by omega))
          have nS2 : Hid (rowNe s6 s3.ownBlock) := hid (rowNe_gt S3.out.rowLt (own_row_ge o6) (by omega))
          clear o6 S5
          have hzZ := EZ.out.2
          go_wp2_with fail
          go_roundw
          case rel =>
            obtain ⟨uf, huf⟩ := aft_ex ((((((EZ.out.aft v1).aft v2).aft v3).aft v4).aft v5).aft v6).1
            exact ⟨_, _, Q * p, uf, huf, rfl, hid ((((S3.out.aft _).aft _).aft _).mono (by omega)), hid (S6.out.mono (by omega)), nS1, nS2, hid ((((((ZT.out.aft _).aft _).aft _).aft _).aft _).aft _), HI2⟩
          case measure => simp only [intOf]; omega
    · have hAB := HI.out.stop hQ
      have HAB := hid hAB
      clear hAB
      go_wp2_with fail
      go_ret2
      exact ⟨_, _, rfl, by rw [← HAB.out]; exact OA.out, by rw [← HAB.out]; exact OB.out, NA.out, NB.out, (by refine Ext.bel ?_; repeat (with_reducible first | exact Ext.refl _ | apply Ext.alloc | apply Ext.aft | apply Ext.drew | apply Ext.drewN | apply Ext.setCell | exact Nat.le_add_right _ _ | exact Nat.le_refl _ | (simp; done) | omega))⟩
end Go.Proofs.Ytflmoopiajhadaa
