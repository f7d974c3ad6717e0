/- All roots in a ring: the statement's recursion. -/
import Derived.Test.YtdhnpmjoajaeiaaSD
import Derived.Test.YtdhnpmjoajaeiaaSF
namespace Go.Proofs.Ytdhnpmjoajaeiaa
open Go Go.RowKit

theorem s_modN (p n M : Int) (w : World) (hr : ringB p n = true) (hp : 2 ≤ p ∧ p ≤ 97) (hn : 1 ≤ n ∧ n ≤ 40) (hM : p ^ n.toNat = M) :
    Calls Try.prog 38 #[.int .i64 p, .int .i64 n] w fun e w' => e = .returned (.int .i64 M) ∧ w = w' := by
  have h := s_modulus p n w (by omega) (by omega) (by omega)
  rw [modu_ring hr, hM] at h
  exact h
theorem pow_leN {p : Int} (hp : 1 ≤ p) {i n : Nat} (h : n ≤ i) : p ^ n ≤ p ^ i := by
  induction i with
  | zero => obtain rfl : n = 0 := by omega
            exact Int.le_refl _
  | succ i ih =>
    by_cases e : n = i + 1
    · subst e; exact Int.le_refl _
    · have h1 := ih (by omega)
      have h2 : 0 < p ^ i := Int.pow_pos (by omega)
      rw [Int.pow_succ]
      have := Int.mul_le_mul_of_nonneg_left hp (show 0 ≤ p ^ i by omega)
      omega
theorem deepL_done {rec : Int → List Int × Bool} {test : Int → Bool} {y : Nat → Int} {d : Nat} {out : List Int} : deepL rec test y 0 d out = (out, true) := rfl
theorem deepL_skip {rec : Int → List Int × Bool} {test : Int → Bool} {y : Nat → Int} {s d : Nat} {out : List Int} (h : test (y d) = false) : deepL rec test y (s + 1) d out = deepL rec test y s (d + 1) out := by
  rw [deepL, if_neg (by simp [h])]
theorem deepL_bad {rec : Int → List Int × Bool} {test : Int → Bool} {y : Nat → Int} {s d : Nat} {out : List Int} (h : test (y d) = true) (hb : (rec (y d)).2 = false ∨ 60 < (out ++ (rec (y d)).1).length) : deepL rec test y (s + 1) d out = (out ++ (rec (y d)).1, false) := by
  rw [deepL, if_pos h, if_pos hb]
theorem deepL_next {rec : Int → List Int × Bool} {test : Int → Bool} {y : Nat → Int} {s d : Nat} {out : List Int} (h : test (y d) = true) (hb : ¬ ((rec (y d)).2 = false ∨ 60 < (out ++ (rec (y d)).1).length)) : deepL rec test y (s + 1) d out = deepL rec test y s (d + 1) (out ++ (rec (y d)).1) := by
  rw [deepL, if_pos h, if_neg hb]
set_option maxRecDepth 20000 in
set_option maxHeartbeats 8000000 in
theorem s_deeper (p n : Int) (f : List Int) (hr : ringB p n = true) (hp : 2 ≤ p ∧ p ≤ 97) (hn : 1 ≤ n ∧ n ≤ 40) (hM : p ^ n.toNat ≤ 1000000000) (hfb : ∀ c ∈ f, -1000000000 ≤ c ∧ c ≤ 1000000000) : ∀ (t : Nat) (x q k : Int) (r : Value) (w : World), rdI w r f → t ≤ n.toNat → (0 ≤ x ∧ x < q) → q = p ^ (n.toNat - t) → k = ((n.toNat - t : Nat) : Int) →
    Calls Try.prog 53 #[(.agg #[.int .i64 p, .int .i64 n]), r, .int .i64 x, .int .i64 q, .int .i64 k] w fun e w' => ∃ v, e = .returned (.tuple #[v, .bool (deepF p n.toNat f t x).2]) ∧ ownR w.heap.size w' v (deepF p n.toNat f t x).1 ∧ Below w.heap.size w w' := by
  obtain ⟨i0, hi, hz0, hz1, hz2⟩ := info_parts infoI
  have Hfb := hid hfb
  have HR := hid hr
  clear hfb hr
  intro t
  induction t with
  | zero =>
    intro x q k r w hrd _ hx hq hk
    have hN : ((n.toNat : Nat) : Int) = n := by omega
    rw [Nat.sub_zero] at hq hk
    rw [hN] at hk
    rw [hk]
    clear hk k
    obtain ⟨M, hMe⟩ : ∃ M, M = p ^ n.toNat := ⟨_, rfl⟩
    have HME := hid hMe.symm
    rw [← hMe] at hM hq
    rw [← hq] at HME hM hMe
    clear hq M
    have hM1 : 1 ≤ q ∧ q ≤ 1000000000 := by omega
    have hx9 : 0 ≤ x ∧ x ≤ 1000000000 := by omega
    have HF : Hid (deepF p n.toNat f 0 x = (if valF q x f = 0 then [x] else [], true)) := hid (by rw [hMe]; rfl)
    obtain ⟨F, hF⟩ : ∃ F, F = deepF p n.toNat f 0 x := ⟨_, rfl⟩
    rw [← hF] at HF ⊢
    clear hF hMe
    by_cases hv : valF q x f = 0
    · have hF2 := HF.out
      rw [if_pos hv] at hF2
      rw [hF2]
      have HV := hid hv
      clear hv hF2 HF
      go_enter Try.func53, Try.ntmps53
      go_wp2_with fail
      refine pur (s_modN p n q _ HR.out hp hn HME.out) ?_
      go_wp2_with fail
      refine pur (s_value q r f x _ (hrd.alloc _) hM1 hx9 Hfb.out) ?_
      rw [HV.out]
      go_wp2_with fail
      go_ret2
      exact ⟨_, rfl, ownR.mono (B' := w.heap.size) (own_cells1K (w := w.alloc (Obj.cells #[.int .i64 p, .int .i64 n] 27)) (x := x) (by simp)) (by simp), (by refine Ext.bel ?_; repeat (with_reducible first | exact Ext.refl _ | apply Ext.alloc | apply Ext.aft | apply Ext.drew | apply Ext.drewN | apply Ext.setCell | exact Nat.le_add_right _ _ | exact Nat.le_refl _ | (simp; done) | omega))⟩
    · have hF2 := HF.out
      rw [if_neg hv] at hF2
      rw [hF2]
      obtain ⟨V, hV⟩ : ∃ V, V = valF q x f := ⟨_, rfl⟩
      rw [← hV] at hv
      have HV := hid hV.symm
      have hv1 : (V == 0) = false := by simpa using hv
      clear hv hF2 HF hV
      go_enter Try.func53, Try.ntmps53
      go_wp2_with fail
      refine pur (s_modN p n q _ HR.out hp hn HME.out) ?_
      go_wp2_with fail
      refine pur (s_value q r f x _ (hrd.alloc _) hM1 hx9 Hfb.out) ?_
      rw [HV.out]
      go_wp2_with fail
      go_ret2
      exact ⟨_, rfl, ownR.mono (B' := w.heap.size) (own_madeK (w := w.alloc (Obj.cells #[.int .i64 p, .int .i64 n] 27)) (by simp)) (by simp), (by refine Ext.bel ?_; repeat (with_reducible first | exact Ext.refl _ | apply Ext.alloc | apply Ext.aft | apply Ext.drew | apply Ext.drewN | apply Ext.setCell | exact Nat.le_add_right _ _ | exact Nat.le_refl _ | (simp; done) | omega))⟩
  | succ t ih =>
    intro x q k r w hrd ht hx hq hk
    obtain ⟨s, hs⟩ : ∃ s, s = n.toNat - (t + 1) := ⟨_, rfl⟩
    have hs1 : n.toNat - t = s + 1 := by omega
    rw [← hs] at hq hk
    have hqp : q * p = p ^ (n.toNat - t) := by rw [hs1, Int.pow_succ, hq]
    have hqM : q * p ≤ 1000000000 := by rw [hqp]; have := pow_leN (p := p) (by omega) (show n.toNat - t ≤ n.toNat by omega); omega
    have hq1 : 1 ≤ q := by rw [hq]; have : 0 < p ^ s := Int.pow_pos (by omega); omega
    have hq9 : q ≤ 1000000000 := by have := Int.mul_le_mul_of_nonneg_left (show 1 ≤ p by omega) (show 0 ≤ q by omega); omega
    have hkn : (k == n) = false := by simp; omega
    have hk40 : 0 ≤ k ∧ k ≤ 40 := by omega
    obtain ⟨P, hP0⟩ : ∃ P : Nat, P = p.toNat := ⟨_, rfl⟩
    have hP1 : (P : Int) ≤ p := by omega
    have hP2 : p ≤ (P : Int) := by omega
    have HK1 := hid (show k + 1 = ((s + 1 : Nat) : Int) by omega)
    obtain ⟨M, hMe⟩ : ∃ M, M = p ^ n.toNat := ⟨_, rfl⟩
    have HME := hid hMe.symm
    -- the loop's functions
    obtain ⟨rec, hrec⟩ : ∃ rec, rec = deepF p n.toNat f t := ⟨_, rfl⟩
    obtain ⟨test, htest⟩ : ∃ test : Int → Bool, test = fun y => valF (q * p) y f == 0 := ⟨_, rfl⟩
    obtain ⟨y, hy⟩ : ∃ y : Nat → Int, y = fun (d : Nat) => x + (d : Int) * q := ⟨_, rfl⟩
    have HF : Hid (deepF p n.toNat f (t + 1) x = deepL rec test y P 0 []) := hid (by
      rw [hP0, hrec, htest, hy, hqp, hq, hs]
      rfl)
    obtain ⟨F, hF⟩ : ∃ F, F = deepF p n.toNat f (t + 1) x := ⟨_, rfl⟩
    rw [← hF] at HF ⊢
    have HT := hid (show ∀ z, test z = (valF (q * p) z f == 0) from fun z => by rw [htest])
    have HY := hid (show ∀ d : Nat, y d = x + (d : Int) * q from fun d => by rw [hy])
    have hlen := deep_spec (p := p) (N := n.toNat) f t
    rw [← hrec] at hlen
    have HLen := hid (fun x => (hlen x).2.2)
    have IH : Hid (∀ (x k : Int) (r : Value) (w : World), rdI w r f → (0 ≤ x ∧ x < q * p) → k = ((s + 1 : Nat) : Int) → Calls Try.prog 53 #[(.agg #[.int .i64 p, .int .i64 n]), r, .int .i64 x, .int .i64 (q * p), .int .i64 k] w fun e w' => ∃ v, e = .returned (.tuple #[v, .bool (rec x).2]) ∧ ownR w.heap.size w' v (rec x).1 ∧ Below w.heap.size w w') := hid fun x k r w h1 h2 h3 => by
      rw [hrec]
      exact ih x (q * p) k r w h1 (by omega) h2 hqp (by rw [hs1]; exact h3)
    have HRD := hid hrd
    have ht40 : t ≤ 40 := by omega
    have HST := hid hs1
    clear hF hrec htest hy ih hlen hMe hrd hqp hs1 hs hq hk hP0
    go_enter Try.func53, Try.ntmps53
    go_wp2_with fail
    refine pur (s_modN p n M _ HR.out hp hn HME.out) ?_
    go_wp2_with fail
    obtain ⟨X, hX⟩ : ∃ X, X = w.alloc (Obj.cells #[.int .i64 p, .int .i64 n] 27) := ⟨_, rfl⟩
    have c0 : ∀ o, X.cell? ⟨w.heap.size, o, none⟩ = #[Value.int .i64 p, .int .i64 n][o]? := fun o => by rw [hX]; rw [alloc_cell, if_pos rfl]
    have E0 : Hid (Ext w.heap.size w X) := hid (by rw [hX]; exact (Ext.refl w).alloc _)
    have hsz : w.heap.size + 1 = X.heap.size := by rw [hX]; simp
    have l0 : w.heap.size < X.heap.size := by omega
    have hB0 : w.heap.size ≤ X.heap.size := by omega
    rw [hsz, ← hX]
    clear hX hsz
    go_loopw [13, 14] (fun o d wr => ∃ (D : Nat) (OUT : List Int) (uu : World), wr = aft X uu ∧ D ≤ P ∧ d = .int .i64 D ∧ OUT.length ≤ 60 ∧ Hid (ownR X.heap.size wr o OUT) ∧ Hid (deepL rec test y (P - D) D OUT = F)) (fun _ d _ => P - (intOf d).toNat)
    case atStart => exact ⟨0, [], _, (aft_of ((Ext.refl X).alloc _).1).symm, by omega, rfl, by simp, hid (own_made X), hid HF.out.symm⟩
    case round =>
      obtain ⟨D, OUT, uu, rfl, hD, rfl, hO60, HO, HL⟩ := hrel
      have zs := size_aft X uu
      have c1 : ∀ o, (aft X uu).cell? ⟨w.heap.size, o, none⟩ = #[Value.int .i64 p, .int .i64 n][o]? := fun o => by rw [aft_cell, if_pos l0]; exact c0 o
      by_cases hlt : D < P
      · have hltz : (D : Int) < p := by omega
        have hDq : 0 ≤ (D : Int) * q ∧ (D : Int) * q ≤ q * p - q := by
          have h1 := Int.mul_le_mul_of_nonneg_right (show (D : Int) ≤ p - 1 by omega) (show 0 ≤ q by omega)
          have h2 : (p - 1) * q = q * p - q := by grind
          exact ⟨Int.mul_nonneg (by omega) (by omega), by omega⟩
        have hyD := HY.out D
        obtain ⟨z, hz⟩ : ∃ z, z = x + (D : Int) * q := ⟨_, rfl⟩
        rw [← hz] at hyD
        have hzw : IntKind.i64.wrap (x + (D : Int) * q) = z := by rw [← hz]; exact IntWalk.i64_in _ (by omega)
        have hqw : IntKind.i64.wrap (q * p) = q * p := IntWalk.i64_in _ (by omega)
        have hdw : IntKind.i64.wrap ((D : Int) * q) = (D : Int) * q := IntWalk.i64_in _ (by omega)
        have hz9 : 0 ≤ z ∧ z < q * p := by omega
        have hz10 : 0 ≤ z ∧ z ≤ 1000000000 := by omega
        have hqp9 : 1 ≤ q * p ∧ q * p ≤ 1000000000 := by omega
        have hrem : P - D = (P - (D + 1)) + 1 := by omega
        have htz := HT.out z
        obtain ⟨V, hV⟩ : ∃ V, V = valF (q * p) z f := ⟨_, rfl⟩
        rw [← hV] at htz
        have HV := hid hV.symm
        have HZ := hid hz.symm
        have HyD := hid hyD
        clear hV hyD hz
        by_cases hv : V = 0
        · have ht1 : test (y D) = true := by rw [HyD.out, htz]; simpa using hv
          have HT1 := hid ht1
          subst hv
          clear ht1 htz
          go_wp2_with fail
          refine pur (s_value (q * p) r f z _ ((HRD.out.below E0.out.1).aft _) hqp9 hz10 Hfb.out) ?_
          rw [HV.out]
          go_wp2_with fail
          refine viaI (g := fun v => .tuple #[v, .bool (rec z).2]) (IH.out z (k + 1) r _ ((HRD.out.below E0.out.1).aft _) hz9 HK1.out) ?_
          intro r16 u16 z16 o16
          have O16 := hid o16
          have hl16 := HLen.out z
          clear o16
          obtain ⟨LL, hLL⟩ : ∃ LL, LL = (rec z).1 := ⟨_, rfl⟩
          obtain ⟨ok, hok⟩ : ∃ ok, ok = (rec z).2 := ⟨_, rfl⟩
          have HLL := hid hLL
          have HOK := hid hok
          rw [← hLL] at O16 hl16
          rw [← hok]
          clear hLL hok
          have hown := HO.out.aft u16
          go_wp2_with (at_builtin; refine wpList_append_rows rfl _ _ 24 rfl X.heap.size 2 i0 (.int .i64 0) 1 8 Try.underlying24 hi hz0 hz1 hz2 rfl (by decide) _ _ _ rfl hown _ _ _ (vI LL) rfl O16.out (vI_one LL) (by unfold maxLen; omega) (by omega) (by omega) ?_)
          intro v' w1 hown' hgrow
          obtain ⟨u', rfl⟩ := grown_aft (W := X) (by repeat (with_reducible first | exact Ext.refl _ | apply Ext.alloc | apply Ext.aft | apply Ext.drew | apply Ext.drewN | apply Ext.setCell | exact Nat.le_add_right _ _ | exact Nat.le_refl _ | (simp; done) | omega)) hgrow (own_row_ge hown)
          have HO' : Hid (ownR X.heap.size (aft X u') v' (OUT ++ LL)) := hid (by
            unfold ownR
            have h4 := hown'
            unfold vI at h4 ⊢
            rw [List.map_append, List.length_append]; exact h4)
          have zs' := size_aft X u'
          have c2 : ∀ o, (aft X u').cell? ⟨w.heap.size, o, none⟩ = #[Value.int .i64 p, .int .i64 n][o]? := fun o => by rw [aft_cell, if_pos l0]; exact c0 o
          have HL2 := hid (show deepL rec test y ((P - (D + 1)) + 1) D OUT = F by have := HL.out; rwa [hrem] at this)
          have HB : Hid (∀ h : (ok = false ∨ 60 < (OUT ++ LL).length), (OUT ++ LL, false) = F) := hid fun h => by
            rw [← HL2.out, deepL_bad HT1.out (by rw [HyD.out, ← HOK.out, ← HLL.out]; exact h), HyD.out, ← HLL.out]
          have HG : Hid (∀ h : ¬ (ok = false ∨ 60 < (OUT ++ LL).length), deepL rec test y (P - (D + 1)) (D + 1) (OUT ++ LL) = F) := hid fun h => by
            rw [← HL2.out, deepL_next HT1.out (by rw [HyD.out, ← HOK.out, ← HLL.out]; exact h), HyD.out, ← HLL.out]
          obtain ⟨OL, hOL⟩ : ∃ OL, OL = OUT ++ LL := ⟨_, rfl⟩
          rw [← hOL] at HO' HB HG
          clear hOL
          obtain ⟨a', c', e'⟩ := own_len HO'.out
          subst e'
          clear hown' hgrow hown HO O16 HL HL2
          cases ok with
          | false =>
            have HF2 := hid (HB.out (.inl rfl))
            go_wp2_with fail
            go_ret2
            exact ⟨_, by rw [← HF2.out]; rfl, by rw [← HF2.out]; exact HO'.out.mono hB0, Ext.bel (E0.out.aft _)⟩
          | true =>
            by_cases hl60 : 60 < OL.length
            · have HF2 := hid (HB.out (.inr hl60))
              have hl60z : (60 : Int) < (OL.length : Int) := by omega
              go_wp2_with fail
              go_ret2
              exact ⟨_, by rw [← HF2.out]; rfl, by rw [← HF2.out]; exact HO'.out.mono hB0, Ext.bel (E0.out.aft _)⟩
            · have HG2 := hid (HG.out (fun h => h.elim (fun h => Bool.noConfusion h) hl60))
              have hl60z : ¬ (60 : Int) < (OL.length : Int) := by omega
              have hO2 : OL.length ≤ 60 := by omega
              go_wp2_with fail
              go_roundw
              case rel => exact ⟨D + 1, OL, u', rfl, by omega, by go_num, hO2, HO', HG2⟩
              case measure => simp only [intOf]; omega
        · have ht1 : test (y D) = false := by rw [HyD.out, htz]; simpa using hv
          have HN := hid (by have := HL.out; rwa [hrem, deepL_skip ht1] at this)
          have hv1 : (V != 0) = true := by simpa using hv
          clear ht1 htz
          go_wp2_with fail
          refine pur (s_value (q * p) r f z _ ((HRD.out.below E0.out.1).aft _) hqp9 hz10 Hfb.out) ?_
          rw [HV.out]
          go_wp2_with fail
          go_roundw
          case rel => exact ⟨D + 1, OUT, uu, rfl, by omega, by go_num, hO60, HO, HN⟩
          case measure => simp only [intOf]; omega
      · have hDP : D = P := by omega
        have HF2 := hid (by have := HL.out; rwa [hDP, Nat.sub_self, deepL_done] at this)
        have hltz : ¬ (D : Int) < p := by omega
        clear hDP
        go_wp2_with fail
        go_ret2
        exact ⟨_, by rw [← HF2.out]; rfl, by rw [← HF2.out]; exact HO.out.mono hB0, Ext.bel (E0.out.aft _)⟩
end Go.Proofs.Ytdhnpmjoajaeiaa
