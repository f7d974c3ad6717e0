/- FromDigits: the statement's text, the law. -/
import Derived.Test.YtdnfefkkbckmgaaGreatDoorF1
import Derived.Test.YtdnfefkkbckmgaaGreatDoorB8
import Derived.Test.YtdnfefkkbckmgaaGreatDoorB9
import Derived.Test.YtdnfefkkbckmgaaGreatDoorC1
namespace Go.Proofs.YtdnfefkkbckmgaaGreatDoor
open Go Go.RowKit

/-- Whether all is well so far. -/
def fdOk (p v : Int) (xs : List Int) : Bool := inB v (-60) 60 && !(xs.any (noDigit p))
theorem fdOk_step {p v : Int} {xs : List Int} {k : Nat} (h : k < xs.length) : fdOk p v (xs.take (k + 1)) = (fdOk p v (xs.take k) && inB xs[k] 0 (p - 1)) := by
  unfold fdOk
  rw [take_snocI _ _ h, List.any_append]
  cases inB v (-60) 60 <;> cases (xs.take k).any (noDigit p) <;> simp [noDigit]
set_option maxHeartbeats 4000000 in
theorem s_FromDigits (p v : Int) (r : Value) (xs : List Int) (w : World) (h : rdI w r xs) :
    Calls Tryz.prog 17 #[.int .i64 p, .int .i64 v, r] w fun e w' => e = .returned (.tuple #[.agg #[.int .i64 (fdF p v xs).1.p, .int .i64 (fdF p v xs).1.v, .int .i64 (fdF p v xs).1.u, .int .i64 (fdF p v xs).1.n], .int .i64 (fdF p v xs).2]) ∧ Below w.heap.size w w' := by
  cases h1 : smallP p
  · have e : (fdF p v xs) = (⟨0, 0, 0, 0⟩, 1) := by simp [fdF, h1]
    rw [e]; clear e
    go_enter Tryz.func17, Tryz.ntmps17
    go_wp2_with (first | (go_at_call 33; refine pur (s_small _ _) ?_))
    exact bodyPost_ret (v := .tuple #[(.agg #[.int .i64 0, .int .i64 0, .int .i64 0, .int .i64 0]), .int .i64 1]) (by first | (simp [results, go_sem]; done) | simp [results, go_sem, ↓IntWalk.iteOmega]) rfl ⟨rfl, (by refine Ext.bel ?_; repeat (with_reducible first | exact Ext.refl _ | apply Ext.alloc | apply Ext.aft | apply Ext.drew | apply Ext.drewN | apply Ext.setCell | exact Nat.le_add_right _ _ | exact Nat.le_refl _ | (simp; done) | omega))⟩
  have hp := smallP_bd h1
  have hlen : xs.length ≤ maxLen := by obtain ⟨a, cap, _, hm, _⟩ := h; exact hm
  unfold maxLen at hlen
  have hR := h.alloc (.cells #[.int .i64 0, .int .i64 0, .int .i64 0, .int .i64 0] 23)
  obtain ⟨a, cap, rfl, _, _⟩ := h
  obtain ⟨a', cap', he, _, hc⟩ := hR
  cases he
  have Hc := hid hc
  have H1 := hid h1
  obtain ⟨F0, hF0⟩ : ∃ F0, F0 = (fdF p v xs) := ⟨_, rfl⟩
  rw [← hF0]
  have HF := hid hF0
  clear hF0
  have Hok := hid (show inB v (-60) 60 = fdOk p v (xs.take 0) by simp [fdOk])
  clear hc
  go_enter Tryz.func17, Tryz.ntmps17
  go_wp2_with (first | (go_at_call 33; refine pur (s_small _ _) ?_) | (go_at_call 34; refine pur (s_in _ _ _ _) ?_))
  go_loop [8, 9] (fun o i => ∃ k : Nat, k ≤ xs.length ∧ i = .int .i64 k ∧ o = .bool (fdOk p v (xs.take k))) (fun _ i => xs.length - (intOf i).toNat)
  case atStart => exact ⟨0, by omega, rfl, by rw [Hok.out]⟩
  case round =>
    obtain ⟨k, hk, rfl, rfl⟩ := hrel
    by_cases hlt : k < xs.length
    · obtain ⟨b, o, rfl, hcell⟩ := Hc.out (by intro e; subst e; simp at hlt)
      have h2 := hcell k hlt
      have HS := hid (fdOk_step (p := p) (v := v) hlt)
      obtain ⟨x, hx⟩ : ∃ x, x = xs[k] := ⟨_, rfl⟩
      rw [← hx] at h2 HS
      clear hx hcell
      cases hb : fdOk p v (xs.take k)
      all_goals
        rw [hb] at HS
        go_wp2_with (first | (go_at_call 34; refine pur (s_in _ _ _ _) ?_))
        go_round
        case rel => exact ⟨k + 1, by omega, by go_num, by rw [HS.out]; simp⟩
        case measure => simp only [intOf]; omega
    · obtain rfl : k = xs.length := by omega
      rw [List.take_length]
      obtain ⟨ok, hok⟩ : ∃ ok, ok = fdOk p v xs := ⟨_, rfl⟩
      rw [← hok]
      have HK := hid hok.symm
      cases ok
      · have e : (fdF p v xs) = (⟨0, 0, 0, 0⟩, 2) := by
          have hn : ¬ (inB v (-60) 60 = true ∧ xs.any (noDigit p) = false) := by
            rintro ⟨ha, hb⟩
            have := HK.out
            unfold fdOk at this; rw [ha, hb] at this; simp at this
          unfold fdF; rw [if_pos H1.out, if_neg hn]
        have E := hid (HF.out.trans e)
        clear e hok
        go_wp2_with fail
        exact bodyPost_ret (v := .tuple #[(.agg #[.int .i64 0, .int .i64 0, .int .i64 0, .int .i64 0]), .int .i64 2]) (by first | (simp [results, go_sem]; done) | simp [results, go_sem, ↓IntWalk.iteOmega]) rfl ⟨by rw [E.out], (by refine Ext.bel ?_; repeat (with_reducible first | exact Ext.refl _ | apply Ext.alloc | apply Ext.aft | apply Ext.drew | apply Ext.drewN | apply Ext.setCell | exact Nat.le_add_right _ _ | exact Nat.le_refl _ | (simp; done) | omega))⟩
      · have ha : inB v (-60) 60 = true ∧ xs.any (noDigit p) = false := by
          have := HK.out
          unfold fdOk at this
          revert this
          cases inB v (-60) 60 <;> cases xs.any (noDigit p) <;> simp
        have hv := inB_iff.1 ha.1
        have Hd := hid (fd_digit ha.2)
        by_cases h4 : xs = [] ∨ ringB p xs.length = true
        · obtain ⟨hl, hb⟩ := fd_bound h4
          have e : (fdF p v xs) = (limF (makeF p v (dval p xs) (v + xs.length))) := by unfold fdF; rw [if_pos H1.out, if_pos ha, if_pos h4, make_dval hp.1 Hd.out]
          have E := hid (HF.out.trans e)
          clear e hok ha
          have hM : modu p xs.length = p ^ xs.length := by
            unfold modu; rw [if_pos (by simpa using hb)]; simp
          have hM1 := pow_pos' (show 1 ≤ p by omega) xs.length
          rw [← hM] at hM1
          have Hs := hid (dval_drop_bd hp Hd.out hb)
          have Hm : Hid (v < v + (xs.length : Int) → p ^ (v + (xs.length : Int) - v).toNat ≤ 1000000000) := hid fun _ => by
            rw [show (v + (xs.length : Int) - v).toNat = xs.length by omega]; exact hb
          have hne : (modu p xs.length == 0) = false := by simp; omega
          have hl40 : (xs.length : Int) ≤ 40 := by omega
          clear h4 hb hM
          go_wp2_with (first | (go_at_call 35; refine pur (s_modulus _ _ _ (by omega) (by omega) (by omega)) ?_))
          go_loop [10, 11] (fun s i => ∃ k : Nat, k ≤ xs.length ∧ i = .int .i64 ((k : Int) - 1) ∧ s = .int .i64 (dval p (xs.drop k))) (fun _ i => (intOf i + 1).toNat)
          case atStart => exact ⟨xs.length, by omega, rfl, by simp [dval]⟩
          case round =>
            obtain ⟨k, hk, rfl, rfl⟩ := hrel
            rcases Nat.eq_zero_or_pos k with rfl | hpos
            · have h2 := Hs.out 0
              simp only [List.drop_zero] at h2 ⊢
              go_wp2_with (first | (go_at_call 37; refine via (s_make _ _ _ _ _ hp (by omega) (by omega) (by omega) Hm.out) ?_; intro uu zz; try simp at zz) | (go_at_call 36; refine via (s_result _ _ _ _ _) ?_; intro uu zz; try simp at zz))
              exact bodyPost_ret (v := (.tuple #[.agg #[.int .i64 (limF (makeF p v (dval p xs) (v + xs.length))).1.p, .int .i64 (limF (makeF p v (dval p xs) (v + xs.length))).1.v, .int .i64 (limF (makeF p v (dval p xs) (v + xs.length))).1.u, .int .i64 (limF (makeF p v (dval p xs) (v + xs.length))).1.n], .int .i64 (limF (makeF p v (dval p xs) (v + xs.length))).2])) (by first | (simp [results, go_sem]; done) | simp [results, go_sem, ↓IntWalk.iteOmega]) rfl ⟨by rw [E.out], (by refine Ext.bel ?_; repeat (with_reducible first | exact Ext.refl _ | apply Ext.alloc | apply Ext.aft | apply Ext.drew | apply Ext.drewN | apply Ext.setCell | exact Nat.le_add_right _ _ | exact Nat.le_refl _ | (simp; done) | omega))⟩
            · obtain ⟨j, rfl⟩ : ∃ j, k = j + 1 := ⟨k - 1, by omega⟩
              have hj : j < xs.length := by omega
              obtain ⟨b, o, rfl, hcell⟩ := Hc.out (by intro e; subst e; simp at hj)
              have h1 := hcell j hj
              have h2 := Hs.out (j + 1)
              have h3 := Hd.out xs[j] (List.getElem_mem hj)
              obtain ⟨x, hx⟩ : ∃ x, x = xs[j] := ⟨_, rfl⟩
              rw [← hx] at h1 h3
              have HX := hid hx
              clear hx hcell
              rw [show (((j + 1 : Nat) : Int) - 1) = (j : Int) by omega]
              go_wp2
              go_round
              case rel => exact ⟨j, by omega, by go_num, by rw [dval_drop hj, ← HX.out]⟩
              case measure => first | (simp [intOf]; done) | (simp [intOf]; omega)
        · have e : (fdF p v xs) = (⟨0, 0, 0, 0⟩, 3) := by unfold fdF; rw [if_pos H1.out, if_pos ha, if_neg h4]
          have E := hid (HF.out.trans e)
          clear e hok ha
          by_cases hl : xs.length ≤ 40
          · have hne : xs ≠ [] := fun e => h4 (.inl e)
            have hpos : 1 ≤ xs.length := by
              rcases Nat.eq_zero_or_pos xs.length with h0 | h0
              · exact absurd (List.eq_nil_of_length_eq_zero h0) hne
              · exact h0
            have hM : modu p xs.length = 0 := by
              unfold modu
              rw [if_neg]
              intro hb
              exact h4 (.inr (ringB_iff.2 ⟨H1.out, by omega, by omega, hb⟩))
            have hl40 : (xs.length : Int) ≤ 40 := by omega
            clear h4
            go_wp2_with (first | (go_at_call 35; refine pur (s_modulus _ _ _ (by omega) (by omega) (by omega)) ?_; rw [hM]))
            exact bodyPost_ret (v := .tuple #[(.agg #[.int .i64 0, .int .i64 0, .int .i64 0, .int .i64 0]), .int .i64 3]) (by first | (simp [results, go_sem]; done) | simp [results, go_sem, ↓IntWalk.iteOmega]) rfl ⟨by rw [E.out], (by refine Ext.bel ?_; repeat (with_reducible first | exact Ext.refl _ | apply Ext.alloc | apply Ext.aft | apply Ext.drew | apply Ext.drewN | apply Ext.setCell | exact Nat.le_add_right _ _ | exact Nat.le_refl _ | (simp; done) | omega))⟩
          · have hl40 : ¬ (xs.length : Int) ≤ 40 := by omega
            clear h4
            go_wp2_with fail
            exact bodyPost_ret (v := .tuple #[(.agg #[.int .i64 0, .int .i64 0, .int .i64 0, .int .i64 0]), .int .i64 3]) (by first | (simp [results, go_sem]; done) | simp [results, go_sem, ↓IntWalk.iteOmega]) rfl ⟨by rw [E.out], (by refine Ext.bel ?_; repeat (with_reducible first | exact Ext.refl _ | apply Ext.alloc | apply Ext.aft | apply Ext.drew | apply Ext.drewN | apply Ext.setCell | exact Nat.le_add_right _ _ | exact Nat.le_refl _ | (simp; done) | omega))⟩
end Go.Proofs.YtdnfefkkbckmgaaGreatDoor
