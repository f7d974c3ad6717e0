/- Polynomials with valid coefficients: the statement's text; values by a modulus: both texts. -/
import Derived.Test.YtdhnpmjoajaeiaaG1
import Derived.Test.YtdhnpmjoajaeiaaC2
namespace Go.Proofs.Ytdhnpmjoajaeiaa
open Go Go.RowKit

set_option maxHeartbeats 2000000 in
theorem s_IsPolynomial (r : Value) (xs : List Int) (w : World) (h : rdI w r xs) :
    Calls Try.prog 37 #[r] w fun e w' => e = .returned (.bool (polyB xs)) ∧ w = w' := by
  obtain ⟨a, cap, rfl, hm, hc⟩ := h
  have Hc := hid hc
  unfold maxLen at hm
  obtain ⟨P, hP⟩ : ∃ P, P = polyB xs := ⟨_, rfl⟩
  rw [← hP]
  have HP := hid hP
  clear hc hP
  go_enter Try.func37, Try.ntmps37
  go_wp2_with fail
  go_loop [3] (fun i => ∃ k : Nat, k ≤ xs.length ∧ i = .int .i64 k ∧ Hid ((xs.take k).any noCoef = false)) (fun i => xs.length - (intOf i).toNat)
  case atStart => exact ⟨0, by omega, rfl, hid (by simp)⟩
  case round =>
    obtain ⟨k, hk, rfl, HA⟩ := hrel
    by_cases hlt : k < xs.length
    · obtain ⟨b, o, rfl, hcell⟩ := Hc.out (by intro e; subst e; simp at hlt)
      have h1 := hcell k hlt
      obtain ⟨x, hx⟩ : ∃ x, x = xs[k] := ⟨_, rfl⟩
      rw [← hx] at h1
      have HX := hid hx
      clear hx hcell
      cases hq : inB x (-1000000) 1000000
      · have HQ := hid hq
        have e : Hid (P = false) := hid (by
          rw [HP.out]
          unfold polyB
          rw [any_hit hlt (by rw [← HX.out]; simp [noCoef, HQ.out])]
          simp)
        go_wp2_with (go_at_call 52; refine pur (s_in _ _ _ _) ?_)
        go_ret
        exact ⟨ret_b (by rw [e.out]), rfl⟩
      · have HQ := hid hq
        go_wp2_with (go_at_call 52; refine pur (s_in _ _ _ _) ?_)
        go_round
        case rel => exact ⟨k + 1, by omega, by go_num, hid (any_take_f hlt HA.out (by rw [← HX.out]; simp [noCoef, HQ.out]))⟩
        case measure => simp only [intOf]; omega
    · obtain rfl : k = xs.length := by omega
      have HN := hid (show P = (decide (xs.length ≤ 9) && lastNZ xs) by
        have := HA.out
        rw [List.take_length] at this
        rw [HP.out]; unfold polyB; rw [this]; simp)
      rcases Nat.eq_zero_or_pos xs.length with h0 | h0
      · obtain rfl : xs = [] := List.eq_nil_of_length_eq_zero h0
        simp only [List.length_nil] at *
        go_wp2_with fail
        go_ret
        exact ⟨ret_b (by rw [HN.out]; rfl), rfl⟩
      · obtain ⟨k, hk⟩ : ∃ k, xs.length = k + 1 := ⟨xs.length - 1, by omega⟩
        rw [lastNZ_at hk] at HN
        obtain ⟨b, o, rfl, hcell⟩ := Hc.out (by intro e; subst e; simp at h0)
        have h1 := hcell k (by omega)
        obtain ⟨x, hx⟩ : ∃ x, x = xs[k] := ⟨_, rfl⟩
        rw [← hx] at h1 HN
        clear hx hcell Hc HA
        rw [hk] at HN ⊢
        by_cases h9 : k + 1 ≤ 9
        · have hk9 : (k : Int) + 1 ≤ 9 := by omega
          have hk0 : 0 ≤ (k : Int) := by omega
          have hn : Hid (P = (x != 0)) := hid (by rw [HN.out]; simp [h9])
          clear h0 hk hlt hm
          go_wp2_with fail
          go_ret
          exact ⟨ret_b (by rw [hn.out]; first | (simp; done) | (simp; intros; omega)), rfl⟩
        · have hk9 : ¬ (k : Int) + 1 ≤ 9 := by omega
          have hk0 : 0 ≤ (k : Int) := by omega
          have hn : Hid (P = false) := hid (by rw [HN.out]; simp [h9])
          clear h0 hk hlt hm
          go_wp2_with fail
          go_ret
          exact ⟨ret_b (by rw [hn.out]), rfl⟩

/-- The value at x by a modulus. -/
def valF (m x : Int) : List Int → Int
  | [] => 0
  | c :: r => (valF m x r * x + c) % m
theorem valF_drop {m x : Int} {xs : List Int} {k : Nat} (h : k < xs.length) : valF m x (xs.drop k) = (valF m x (xs.drop (k + 1)) * x + xs[k]) % m := by
  rw [List.drop_eq_getElem_cons h]; rfl
theorem valF_bd {m x : Int} (hm : 1 ≤ m) (xs : List Int) : 0 ≤ valF m x xs ∧ valF m x xs ≤ m - 1 := by
  cases xs with
  | nil => simp [valF]; omega
  | cons c r => exact ⟨Int.emod_nonneg _ (by omega), by have := Int.emod_lt_of_pos (valF m x r * x + c) (show 0 < m by omega); simp only [valF]; omega⟩
theorem valF_fits {m x : Int} (hm : 1 ≤ m ∧ m ≤ 1000000000) (hx : 0 ≤ x ∧ x ≤ 1000000000) (xs : List Int) : 0 ≤ valF m x xs ∧ valF m x xs ≤ 1000000000 ∧ 0 ≤ valF m x xs * x ∧ valF m x xs * x ≤ 1000000000000000000 := by
  have h := valF_bd (x := x) hm.1 xs
  have h1 := Int.mul_nonneg h.1 hx.1
  have h2 : valF m x xs * x ≤ 1000000000 * 1000000000 := Int.mul_le_mul (by omega) hx.2 hx.1 (by omega)
  exact ⟨h.1, by omega, h1, by omega⟩
theorem mod_add_mod2 {a c m : Int} : (a + c % m) % m = (a + c) % m := by
  rw [Int.add_emod, Int.emod_emod, ← Int.add_emod]

set_option maxHeartbeats 1000000 in
theorem i_valueBy (m : Int) (r : Value) (xs : List Int) (x : Int) (w : World) (h : rdI w r xs) (hm : 1 ≤ m ∧ m ≤ 1000000000) (hx : 0 ≤ x ∧ x ≤ 1000000000) (hxs : ∀ c ∈ xs, -1000000000 ≤ c ∧ c ≤ 1000000000) :
    Calls Try.prog 47 #[.int .i64 m, r, .int .i64 x] w fun e w' => e = .returned (.int .i64 (valF m x xs)) ∧ w = w' := by
  obtain ⟨a, cap, rfl, hm0, hc⟩ := h
  have Hc := hid hc
  have Hx := hid hxs
  have Hf := hid (valF_fits hm hx)
  unfold maxLen at hm0
  clear hc hxs
  go_enter Try.func47, Try.ntmps47
  go_wp2_with fail
  go_loop [7, 8] (fun s i => ∃ k : Nat, k ≤ xs.length ∧ i = .int .i64 ((k : Int) - 1) ∧ s = .int .i64 (valF m x (xs.drop k))) (fun _ i => (intOf i + 1).toNat)
  case atStart => exact ⟨xs.length, by omega, rfl, by simp [valF]⟩
  case round =>
    obtain ⟨k, hk, rfl, rfl⟩ := hrel
    rcases Nat.eq_zero_or_pos k with rfl | hpos
    · simp only [List.drop_zero]
      go_wp2_with fail
      go_ret
      exact ⟨rfl, rfl⟩
    · obtain ⟨j, rfl⟩ : ∃ j, k = j + 1 := ⟨k - 1, by omega⟩
      have hj : j < xs.length := by omega
      obtain ⟨b, o, rfl, hcell⟩ := Hc.out (by intro e; subst e; simp at hj)
      have h1 := hcell j hj
      have h2 := Hf.out (xs.drop (j + 1))
      have h3 := Hx.out xs[j] (List.getElem_mem hj)
      have HS := hid (valF_drop (m := m) (x := x) hj)
      obtain ⟨y, hy⟩ : ∃ y, y = valF m x (xs.drop (j + 1)) := ⟨_, rfl⟩
      rw [← hy] at h2 HS ⊢
      obtain ⟨c, hcx⟩ : ∃ c, c = xs[j] := ⟨_, rfl⟩
      rw [← hcx] at h1 h3 HS
      have hcm : 0 ≤ c % m ∧ c % m ≤ 1000000000 := ⟨Int.emod_nonneg _ (by omega), by have := Int.emod_lt_of_pos c (show 0 < m by omega); omega⟩
      clear hcx hcell hy
      rw [show (((j + 1 : Nat) : Int) - 1) = (j : Int) by omega]
      go_wp2_with (go_at_call 64; refine pur (i_mod _ _ _ (by omega) (by omega)) ?_)
      go_round
      case rel => exact ⟨j, by omega, by go_num, by first | rw [HS.out] | rw [HS.out, mod_add_mod2]⟩
      case measure => first | (simp [intOf]; done) | (simp [intOf]; omega)

set_option maxHeartbeats 1000000 in
theorem s_value (m : Int) (r : Value) (xs : List Int) (x : Int) (w : World) (h : rdI w r xs) (hm : 1 ≤ m ∧ m ≤ 1000000000) (hx : 0 ≤ x ∧ x ≤ 1000000000) (hxs : ∀ c ∈ xs, -1000000000 ≤ c ∧ c ≤ 1000000000) :
    Calls Try.prog 42 #[r, .int .i64 x, .int .i64 m] w fun e w' => e = .returned (.int .i64 (valF m x xs)) ∧ w = w' := by
  obtain ⟨a, cap, rfl, hm0, hc⟩ := h
  have Hc := hid hc
  have Hx := hid hxs
  have Hf := hid (valF_fits hm hx)
  unfold maxLen at hm0
  clear hc hxs
  go_enter Try.func42, Try.ntmps42
  go_wp2_with fail
  go_loop [7, 8] (fun s i => ∃ k : Nat, k ≤ xs.length ∧ i = .int .i64 ((k : Int) - 1) ∧ s = .int .i64 (valF m x (xs.drop k))) (fun _ i => (intOf i + 1).toNat)
  case atStart => exact ⟨xs.length, by omega, rfl, by simp [valF]⟩
  case round =>
    obtain ⟨k, hk, rfl, rfl⟩ := hrel
    rcases Nat.eq_zero_or_pos k with rfl | hpos
    · simp only [List.drop_zero]
      go_wp2_with fail
      go_ret
      exact ⟨rfl, rfl⟩
    · obtain ⟨j, rfl⟩ : ∃ j, k = j + 1 := ⟨k - 1, by omega⟩
      have hj : j < xs.length := by omega
      obtain ⟨b, o, rfl, hcell⟩ := Hc.out (by intro e; subst e; simp at hj)
      have h1 := hcell j hj
      have h2 := Hf.out (xs.drop (j + 1))
      have h3 := Hx.out xs[j] (List.getElem_mem hj)
      have HS := hid (valF_drop (m := m) (x := x) hj)
      obtain ⟨y, hy⟩ : ∃ y, y = valF m x (xs.drop (j + 1)) := ⟨_, rfl⟩
      rw [← hy] at h2 HS ⊢
      obtain ⟨c, hcx⟩ : ∃ c, c = xs[j] := ⟨_, rfl⟩
      rw [← hcx] at h1 h3 HS
      clear hcx hcell hy
      rw [show (((j + 1 : Nat) : Int) - 1) = (j : Int) by omega]
      go_wp2_with (go_at_call 66; refine pur (s_mod _ _ _ (by omega) (by omega)) ?_)
      go_round
      case rel => exact ⟨j, by omega, by go_num, by rw [HS.out]⟩
      case measure => first | (simp [intOf]; done) | (simp [intOf]; omega)

theorem i_valueByE (m : Int) (r : Value) (xs : List Int) (x T : Int) (w : World) (h : rdI w r xs) (hm : 1 ≤ m ∧ m ≤ 1000000000) (hx : 0 ≤ x ∧ x ≤ 1000000000) (hxs : ∀ c ∈ xs, -1000000000 ≤ c ∧ c ≤ 1000000000) (hT : valF m x xs = T) :
    Calls Try.prog 47 #[.int .i64 m, r, .int .i64 x] w fun e w' => e = .returned (.int .i64 T) ∧ w = w' := by
  subst hT; exact i_valueBy m r xs x w h hm hx hxs
theorem s_valueE (m : Int) (r : Value) (xs : List Int) (x T : Int) (w : World) (h : rdI w r xs) (hm : 1 ≤ m ∧ m ≤ 1000000000) (hx : 0 ≤ x ∧ x ≤ 1000000000) (hxs : ∀ c ∈ xs, -1000000000 ≤ c ∧ c ≤ 1000000000) (hT : valF m x xs = T) :
    Calls Try.prog 42 #[r, .int .i64 x, .int .i64 m] w fun e w' => e = .returned (.int .i64 T) ∧ w = w' := by
  subst hT; exact s_value m r xs x w h hm hx hxs
end Go.Proofs.Ytdhnpmjoajaeiaa
