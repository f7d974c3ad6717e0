/- Polynomials by a prime: tests, comparisons, products: both texts. -/
import Derived.Test.YtaninbfcoifedaaH15
namespace Go.Proofs.Ytaninbfcoifedaa
open Go Go.RowKit

/-- A number that is no residue by a prime. -/
def noDig (p : Int) : Int → Bool := fun c => !inB c 0 (p - 1)
/-- A polynomial by a prime. -/
def modB (p : Int) (xs : List Int) : Bool := smallP p && decide (xs.length ≤ 9) && !(xs.any (noDig p)) && lastNZ xs
theorem mod_facts {p : Int} {xs : List Int} (h : modB p xs = true) : smallP p = true ∧ xs.length ≤ 9 ∧ isMod p xs := by
  simp [modB, and_assoc] at h
  obtain ⟨h1, h2, h3, h4⟩ := h
  refine ⟨h1, h2, fun c hc => ?_, h4⟩
  have := h3 c hc
  simp [noDig] at this
  exact inB_iff.1 this

set_option maxHeartbeats 400000 in
theorem pred_mod (p : Int) (B : Nat) (w : World) (hp : 2 ≤ p ∧ p ≤ 97) (hB : B < w.heap.size) (hc : w.cell? ⟨B, 0, none⟩ = some (.int .i64 p)) :
    predC 78 #[.pointer (some ⟨B, 0, none⟩)] (noDig p) w := fun W x hb => by
  have hc' := (hb.cell (p := ⟨B, 0, none⟩) hB).trans hc
  have HB := hid hb
  unfold noDig
  clear hb hc
  show Calls Try.prog 78 #[.int .i64 x, .pointer (some ⟨B, 0, none⟩)] W _
  cases h : inB x 0 (p - 1)
  all_goals
    go_enter Try.func78, Try.ntmps78
    go_wp2_with (go_at_call 79; refine pur (i_within _ _ _ _) ?_)
    go_ret
    exact ⟨rfl, HB.out⟩

set_option maxHeartbeats 2000000 in
theorem i_IsModular (p : Int) (r : Value) (xs : List Int) (w : World) (h : rdI w r xs) :
    Calls Try.prog 44 #[.int .i64 p, r] w fun e w' => e = .returned (.bool (modB p xs)) ∧ Below w.heap.size w w' := by
  have eg : ∀ args w, (callFunc 78 args).run Try.prog w = .ok (.enter 78 args) w := entersT Try.func78 (by kernel_rfl) rfl
  have hlen : xs.length ≤ maxLen := by obtain ⟨a, cap, _, hm, _⟩ := h; exact hm
  unfold maxLen at hlen
  cases h1 : smallP p
  · have e : modB p xs = false := by simp [modB, h1]
    rw [e]; clear e
    go_enter Try.func44, Try.ntmps44
    go_wp2_with (first | (go_at_call 77; refine pur (i_small _ _) ?_))
    go_ret
    exact ⟨rfl, (by refine Ext.bel ?_; repeat (with_reducible first | exact Ext.refl _ | apply Ext.alloc | apply Ext.aft | apply Ext.drew | apply Ext.drewN | apply Ext.setCell | exact Nat.le_add_right _ _ | exact Nat.le_refl _ | (simp; done) | omega))⟩
  have H1 := hid h1
  have hp97 := smallP_bd h1
  by_cases hl : xs.length ≤ 9
  · obtain ⟨B, hB⟩ : ∃ B, B = xs.any (noDig p) := ⟨_, rfl⟩
    have H3 := hid hB.symm
    cases B
    · have e : modB p xs = lastNZ xs := by unfold modB; rw [← hB]; simp [hl, h1]
      rw [e]; clear e hB
      rcases Nat.eq_zero_or_pos xs.length with h0 | h0
      · obtain rfl : xs = [] := List.eq_nil_of_length_eq_zero h0
        rw [lastNZ_nil]
        obtain ⟨a, cap, rfl, _, _⟩ := id h
        change rdI w (.slice a 0 cap) [] at h
        go_enter Try.func44, Try.ntmps44
        go_wp2_with (first | (go_at_call 77; refine pur (i_small _ _) ?_) | (go_at_call 64; refine via (lib_containsB _ _ _ eg _ _ _ (by repeat (with_reducible first | assumption | apply rdI.aft | apply rdI.alloc | apply rdI.drew | apply rdI.drewN)) (pred_mod p _ _ hp97 (by first | omega | (simp; done) | (simp; omega)) (by simp [go_sem]; try omega)) _ H3.out) ?_; intro uu zz; try simp at zz))
        go_ret
        exact ⟨rfl, (by refine Ext.bel ?_; repeat (with_reducible first | exact Ext.refl _ | apply Ext.alloc | apply Ext.aft | apply Ext.drew | apply Ext.drewN | apply Ext.setCell | exact Nat.le_add_right _ _ | exact Nat.le_refl _ | (simp; done) | omega))⟩
      · obtain ⟨k, hk⟩ : ∃ k, xs.length = k + 1 := ⟨xs.length - 1, by omega⟩
        rw [lastNZ_at hk]
        obtain ⟨a, cap, rfl, _, hc⟩ := id h
        obtain ⟨b, o, rfl, hcell⟩ := hc (by intro e; subst e; simp at h0)
        have h1 := hcell k (by omega)
        have h1b := World.block_lt_of_cell? w _ h1
        obtain ⟨x, hx⟩ : ∃ x, x = xs[k] := ⟨_, rfl⟩
        rw [← hx] at h1 ⊢
        clear hx hcell hc
        rw [hk] at h ⊢
        have hl2 : k + 1 ≤ 9 := by omega
        have hk9 : (k : Int) + 1 ≤ 9 := by omega
        have hk0 : 0 ≤ (k : Int) := by omega
        clear hl hlen h0
        cases hx0 : (x == 0)
        all_goals
          go_enter Try.func44, Try.ntmps44
          go_wp2_with (first | (go_at_call 77; refine pur (i_small _ _) ?_) | (go_at_call 64; refine via (lib_containsB _ _ _ eg _ _ _ (by repeat (with_reducible first | assumption | apply rdI.aft | apply rdI.alloc | apply rdI.drew | apply rdI.drewN)) (pred_mod p _ _ hp97 (by first | omega | (simp; done) | (simp; omega)) (by simp [go_sem]; try omega)) _ H3.out) ?_; intro uu zz; try simp at zz))
          go_ret
          exact ⟨by simp [bne, hx0]; try omega, (by refine Ext.bel ?_; repeat (with_reducible first | exact Ext.refl _ | apply Ext.alloc | apply Ext.aft | apply Ext.drew | apply Ext.drewN | apply Ext.setCell | exact Nat.le_add_right _ _ | exact Nat.le_refl _ | (simp; done) | omega))⟩
    · have e : modB p xs = false := by unfold modB; rw [← hB]; simp
      rw [e]; clear e hB
      obtain ⟨a, cap, rfl, _, _⟩ := id h
      go_enter Try.func44, Try.ntmps44
      go_wp2_with (first | (go_at_call 77; refine pur (i_small _ _) ?_) | (go_at_call 64; refine via (lib_containsB _ _ _ eg _ _ _ (by repeat (with_reducible first | assumption | apply rdI.aft | apply rdI.alloc | apply rdI.drew | apply rdI.drewN)) (pred_mod p _ _ hp97 (by first | omega | (simp; done) | (simp; omega)) (by simp [go_sem]; try omega)) _ H3.out) ?_; intro uu zz; try simp at zz))
      go_ret
      exact ⟨rfl, (by refine Ext.bel ?_; repeat (with_reducible first | exact Ext.refl _ | apply Ext.alloc | apply Ext.aft | apply Ext.drew | apply Ext.drewN | apply Ext.setCell | exact Nat.le_add_right _ _ | exact Nat.le_refl _ | (simp; done) | omega))⟩
  · have e : modB p xs = false := by unfold modB; simp [hl]
    rw [e]; clear e
    obtain ⟨a, cap, rfl, _, _⟩ := id h
    have hl' : ¬ (xs.length : Int) ≤ 9 := by omega
    go_enter Try.func44, Try.ntmps44
    go_wp2_with (first | (go_at_call 77; refine pur (i_small _ _) ?_))
    go_ret
    exact ⟨rfl, (by refine Ext.bel ?_; repeat (with_reducible first | exact Ext.refl _ | apply Ext.alloc | apply Ext.aft | apply Ext.drew | apply Ext.drewN | apply Ext.setCell | exact Nat.le_add_right _ _ | exact Nat.le_refl _ | (simp; done) | omega))⟩

set_option maxHeartbeats 2000000 in
theorem s_IsModular (p : Int) (r : Value) (xs : List Int) (w : World) (h : rdI w r xs) :
    Calls Try.prog 31 #[.int .i64 p, r] w fun e w' => e = .returned (.bool (modB p xs)) ∧ w = w' := by
  have hlen : xs.length ≤ maxLen := by obtain ⟨a, cap, _, hm, _⟩ := h; exact hm
  unfold maxLen at hlen
  cases h1 : smallP p
  · have e : modB p xs = false := by simp [modB, h1]
    rw [e]; clear e
    go_enter Try.func31, Try.ntmps31
    go_wp2_with (first | (go_at_call 71; refine pur (s_small _ _) ?_))
    go_ret
    exact ⟨rfl, rfl⟩
  by_cases hl : xs.length ≤ 9
  · have hp := smallP_bd h1
    have e : modB p xs = (!(xs.any fun c => !inB c 0 (p - 1)) && lastNZ xs) := by
      unfold modB noDig; simp [hl, h1]
    obtain ⟨P, hP⟩ : ∃ P, P = modB p xs := ⟨_, rfl⟩
    rw [← hP]
    have HP := hid (hP.trans e)
    obtain ⟨a, cap, rfl, _, hc⟩ := h
    have Hc := hid hc
    clear hc hP e
    go_enter Try.func31, Try.ntmps31
    go_wp2_with (first | (go_at_call 71; refine pur (s_small _ _) ?_))
    go_loop [5] (fun i => ∃ k : Nat, k ≤ xs.length ∧ i = .int .i64 k ∧ Hid ((xs.take k).any (fun c => !inB c 0 (p - 1)) = false)) (fun i => xs.length - (intOf i).toNat)
    case atStart => exact ⟨0, by omega, rfl, hid (by simp)⟩
    case round =>
      obtain ⟨k, hk, rfl, HA⟩ := hrel
      by_cases hlt : k < xs.length
      · obtain ⟨b, o, rfl, hcell⟩ := Hc.out (by intro e; subst e; simp at hlt)
        have h1 := hcell k hlt
        obtain ⟨x, hx⟩ : ∃ x, x = xs[k] := ⟨_, rfl⟩
        rw [← hx] at h1
        have HX := hid hx
        clear hx hcell
        cases hq : inB x 0 (p - 1)
        · have HQ := hid hq
          have e : Hid (P = false) := hid (by
            rw [HP.out, any_hit hlt (by rw [← HX.out]; simp [HQ.out])]; simp)
          go_wp2_with (go_at_call 70; refine pur (s_in _ _ _ _) ?_)
          go_ret
          exact ⟨ret_b (by rw [e.out]), rfl⟩
        · have HQ := hid hq
          go_wp2_with (go_at_call 70; refine pur (s_in _ _ _ _) ?_)
          go_round
          case rel => exact ⟨k + 1, by omega, by go_num, hid (any_take_f hlt HA.out (by rw [← HX.out]; simp [HQ.out]))⟩
          case measure => simp only [intOf]; omega
      · obtain rfl : k = xs.length := by omega
        have HN := hid (show P = lastNZ xs by
          have := HA.out
          rw [List.take_length] at this
          rw [HP.out, this]; simp)
        rcases Nat.eq_zero_or_pos xs.length with h0 | h0
        · obtain rfl : xs = [] := List.eq_nil_of_length_eq_zero h0
          simp only [List.length_nil] at *
          go_wp2_with fail
          go_ret
          exact ⟨ret_b (by rw [HN.out]; rfl), rfl⟩
        · obtain ⟨k, hk⟩ : ∃ k, xs.length = k + 1 := ⟨xs.length - 1, by omega⟩
          rw [lastNZ_at hk] at HN
          obtain ⟨b, o, rfl, hcell⟩ := Hc.out (by intro e; subst e; simp at h0)
          have h1 := hcell k (by omega)
          obtain ⟨x, hx⟩ : ∃ x, x = xs[k] := ⟨_, rfl⟩
          rw [← hx] at h1 HN
          clear hx hcell Hc HA
          rw [hk]
          have hk9 : (k : Int) + 1 ≤ 9 := by omega
          have hk0 : 0 ≤ (k : Int) := by omega
          clear h0 hk hlt hl hlen
          go_wp2_with fail
          go_ret
          exact ⟨ret_b (by rw [HN.out]; first | (simp; done) | (simp; intros; omega)), rfl⟩
  · have e : modB p xs = false := by unfold modB; simp [hl]
    rw [e]; clear e
    obtain ⟨a, cap, rfl, _, _⟩ := h
    have hl' : ¬ (xs.length : Int) ≤ 9 := by omega
    go_enter Try.func31, Try.ntmps31
    go_wp2_with (first | (go_at_call 71; refine pur (s_small _ _) ?_))
    go_ret
    exact ⟨rfl, rfl⟩

set_option maxHeartbeats 4000000 in
theorem i_same (r1 r2 : Value) (xs ys : List Int) (w : World) (h1 : rdI w r1 xs) (h2 : rdI w r2 ys) :
    Calls Try.prog 46 #[r1, r2] w fun e w' => e = .returned (.bool (decide (xs = ys))) ∧ Below w.heap.size w w' := by
  obtain ⟨a1, cap1, rfl, hm1, _⟩ := id h1
  obtain ⟨a2, cap2, rfl, hm2, _⟩ := id h2
  unfold maxLen at hm1 hm2
  have H1 := hid h1
  have H2 := hid h2
  obtain ⟨P, hP⟩ : ∃ P, P = decide (xs = ys) := ⟨_, rfl⟩
  rw [← hP]
  have HP := hid hP
  clear h1 h2 hP
  by_cases hl : xs.length = ys.length
  · have hlz : ((xs.length : Int) != (ys.length : Int)) = false := by simp [hl]
    have hlb : (xs.length != ys.length) = false := by simp [hl]
    have HL := hid hl
    clear hl
    go_enter Try.func46, Try.ntmps46
    go_wp2_with fail
    go_loopw [13] (fun i wr => ∃ (k : Nat) (uu : World), wr = aft w uu ∧ k ≤ xs.length ∧ i = .int .i64 k ∧ Hid (xs.take k = ys.take k)) (fun i _ => xs.length - (intOf i).toNat)
    case atStart => exact ⟨0, w, (aft_of (Below.refl _ _)).symm, by omega, rfl, hid (by simp)⟩
    case round =>
      obtain ⟨k, uu, rfl, hk, rfl, HT⟩ := hrel
      have zs := size_aft w uu
      by_cases hlt : k < xs.length
      · have hlt2 : k < ys.length := by have := HL.out; omega
        obtain ⟨b1, o1, e1⟩ := rd_head H1.out (by intro e; subst e; simp at hlt)
        obtain ⟨b2, o2, e2⟩ := rd_head H2.out (by intro e; subst e; simp at hlt2)
        subst e1; subst e2
        have c1 := rd_at H1.out hlt
        have c2 := rd_at H2.out hlt2
        have k1 := World.block_lt_of_cell? w _ c1
        have k2 := World.block_lt_of_cell? w _ c2
        obtain ⟨x, hx⟩ : ∃ x, x = xs.getD k 0 := ⟨_, rfl⟩
        obtain ⟨y, hy⟩ : ∃ y, y = ys.getD k 0 := ⟨_, rfl⟩
        rw [← hx] at c1
        rw [← hy] at c2
        have HX := hid hx
        have HY := hid hy
        have hz : ((k : Int) : Int) < (xs.length : Int) := by omega
        have hz2 : ((k : Int) : Int) < (ys.length : Int) := by omega
        have hz0 : (0 : Int) ≤ (k : Int) := by omega
        clear hx hy
        cases hxy : (x != y)
        · have HE : Hid (x = y) := hid (by simpa using hxy)
          go_wp2_with fail
          refine wp_region_calm (by kernel_rfl) (by kernel_rfl) ?_
          repeat (go_big_quiet_step (fail))
          refine wpQuiet_nil ?_; intro uq zq; try simp at zq
          go_wp2_with fail
          go_roundw
          case rel => exact ⟨k + 1, _, (aft_of ((below_aft w uu).trans ((below_aft _ _).mono (size_aft w uu)))).symm, by omega, by go_num, hid (by rw [take_snocI _ _ hlt, take_snocI _ _ hlt2, HT.out, ← getD_lt hlt, ← getD_lt hlt2, ← HX.out, ← HY.out, HE.out])⟩
          case measure => simp [intOf]; omega
        · have HE : Hid (P = false) := hid (by
            rw [HP.out, decide_eq_false_iff_not]
            intro e
            have : x = y := by rw [HX.out, HY.out, e]
            rw [this] at hxy; simp at hxy)
          go_wp2_with fail
          refine wp_region_calm (by kernel_rfl) (by kernel_rfl) ?_
          repeat (go_big_quiet_step (fail))
          refine wpQuiet_nil ?_; intro uq zq; try simp at zq
          go_wp2_with fail
          go_ret
          exact ⟨ret_b (by rw [HE.out]), (by refine Ext.bel ?_; repeat (with_reducible first | exact Ext.refl _ | apply Ext.alloc | apply Ext.aft | apply Ext.drew | apply Ext.drewN | apply Ext.setCell | exact Nat.le_add_right _ _ | exact Nat.le_refl _ | (simp; done) | omega))⟩
      · obtain rfl : k = xs.length := by omega
        have HE : Hid (P = true) := hid (by
          rw [HP.out, decide_eq_true_iff]
          have := HT.out
          rw [List.take_length, HL.out, List.take_length] at this
          exact this)
        have hnz : ¬ (xs.length : Int) < (xs.length : Int) := by omega
        go_wp2_with fail
        go_ret
        exact ⟨ret_b (by rw [HE.out]), (by refine Ext.bel ?_; repeat (with_reducible first | exact Ext.refl _ | apply Ext.alloc | apply Ext.aft | apply Ext.drew | apply Ext.drewN | apply Ext.setCell | exact Nat.le_add_right _ _ | exact Nat.le_refl _ | (simp; done) | omega))⟩
  · have hlz : ((xs.length : Int) != (ys.length : Int)) = true := by simp; omega
    have hlb : (xs.length != ys.length) = true := by simp [hl]
    have HE : Hid (P = false) := hid (by rw [HP.out, decide_eq_false_iff_not]; intro e; exact hl (by rw [e]))
    clear hl
    go_enter Try.func46, Try.ntmps46
    go_wp2_with fail
    go_ret
    exact ⟨ret_b (by rw [HE.out]), (by refine Ext.bel ?_; repeat (with_reducible first | exact Ext.refl _ | apply Ext.alloc | apply Ext.aft | apply Ext.drew | apply Ext.drewN | apply Ext.setCell | exact Nat.le_add_right _ _ | exact Nat.le_refl _ | (simp; done) | omega))⟩

set_option maxHeartbeats 4000000 in
theorem s_same (r1 r2 : Value) (xs ys : List Int) (w : World) (h1 : rdI w r1 xs) (h2 : rdI w r2 ys) :
    Calls Try.prog 33 #[r1, r2] w fun e w' => e = .returned (.bool (decide (xs = ys))) ∧ Below w.heap.size w w' := by
  obtain ⟨a1, cap1, rfl, hm1, _⟩ := id h1
  obtain ⟨a2, cap2, rfl, hm2, _⟩ := id h2
  unfold maxLen at hm1 hm2
  have H1 := hid h1
  have H2 := hid h2
  obtain ⟨P, hP⟩ : ∃ P, P = decide (xs = ys) := ⟨_, rfl⟩
  rw [← hP]
  have HP := hid hP
  clear h1 h2 hP
  by_cases hl : xs.length = ys.length
  · have hlz : ((xs.length : Int) != (ys.length : Int)) = false := by simp [hl]
    have hlb : (xs.length != ys.length) = false := by simp [hl]
    have HL := hid hl
    clear hl
    go_enter Try.func33, Try.ntmps33
    go_wp2_with fail
    go_loopw [5] (fun i wr => ∃ (k : Nat) (uu : World), wr = aft w uu ∧ k ≤ xs.length ∧ i = .int .i64 k ∧ Hid (xs.take k = ys.take k)) (fun i _ => xs.length - (intOf i).toNat)
    case atStart => exact ⟨0, w, (aft_of (Below.refl _ _)).symm, by omega, rfl, hid (by simp)⟩
    case round =>
      obtain ⟨k, uu, rfl, hk, rfl, HT⟩ := hrel
      have zs := size_aft w uu
      by_cases hlt : k < xs.length
      · have hlt2 : k < ys.length := by have := HL.out; omega
        obtain ⟨b1, o1, e1⟩ := rd_head H1.out (by intro e; subst e; simp at hlt)
        obtain ⟨b2, o2, e2⟩ := rd_head H2.out (by intro e; subst e; simp at hlt2)
        subst e1; subst e2
        have c1 := rd_at H1.out hlt
        have c2 := rd_at H2.out hlt2
        have k1 := World.block_lt_of_cell? w _ c1
        have k2 := World.block_lt_of_cell? w _ c2
        obtain ⟨x, hx⟩ : ∃ x, x = xs.getD k 0 := ⟨_, rfl⟩
        obtain ⟨y, hy⟩ : ∃ y, y = ys.getD k 0 := ⟨_, rfl⟩
        rw [← hx] at c1
        rw [← hy] at c2
        have HX := hid hx
        have HY := hid hy
        have hz : ((k : Int) : Int) < (xs.length : Int) := by omega
        have hz2 : ((k : Int) : Int) < (ys.length : Int) := by omega
        have hz0 : (0 : Int) ≤ (k : Int) := by omega
        clear hx hy
        cases hxy : (x != y)
        · have HE : Hid (x = y) := hid (by simpa using hxy)
          go_wp2_with fail
          refine wp_region_calm (by kernel_rfl) (by kernel_rfl) ?_
          repeat (go_big_quiet_step (fail))
          refine wpQuiet_nil ?_; intro uq zq; try simp at zq
          go_wp2_with fail
          go_roundw
          case rel => exact ⟨k + 1, _, (aft_of ((below_aft w uu).trans ((below_aft _ _).mono (size_aft w uu)))).symm, by omega, by go_num, hid (by rw [take_snocI _ _ hlt, take_snocI _ _ hlt2, HT.out, ← getD_lt hlt, ← getD_lt hlt2, ← HX.out, ← HY.out, HE.out])⟩
          case measure => simp [intOf]; omega
        · have HE : Hid (P = false) := hid (by
            rw [HP.out, decide_eq_false_iff_not]
            intro e
            have : x = y := by rw [HX.out, HY.out, e]
            rw [this] at hxy; simp at hxy)
          go_wp2_with fail
          refine wp_region_calm (by kernel_rfl) (by kernel_rfl) ?_
          repeat (go_big_quiet_step (fail))
          refine wpQuiet_nil ?_; intro uq zq; try simp at zq
          go_wp2_with fail
          go_ret
          exact ⟨ret_b (by rw [HE.out]), (by refine Ext.bel ?_; repeat (with_reducible first | exact Ext.refl _ | apply Ext.alloc | apply Ext.aft | apply Ext.drew | apply Ext.drewN | apply Ext.setCell | exact Nat.le_add_right _ _ | exact Nat.le_refl _ | (simp; done) | omega))⟩
      · obtain rfl : k = xs.length := by omega
        have HE : Hid (P = true) := hid (by
          rw [HP.out, decide_eq_true_iff]
          have := HT.out
          rw [List.take_length, HL.out, List.take_length] at this
          exact this)
        have hnz : ¬ (xs.length : Int) < (xs.length : Int) := by omega
        go_wp2_with fail
        go_ret
        exact ⟨ret_b (by rw [HE.out]), (by refine Ext.bel ?_; repeat (with_reducible first | exact Ext.refl _ | apply Ext.alloc | apply Ext.aft | apply Ext.drew | apply Ext.drewN | apply Ext.setCell | exact Nat.le_add_right _ _ | exact Nat.le_refl _ | (simp; done) | omega))⟩
  · have hlz : ((xs.length : Int) != (ys.length : Int)) = true := by simp; omega
    have hlb : (xs.length != ys.length) = true := by simp [hl]
    have HE : Hid (P = false) := hid (by rw [HP.out, decide_eq_false_iff_not]; intro e; exact hl (by rw [e]))
    clear hl
    go_enter Try.func33, Try.ntmps33
    go_wp2_with fail
    go_ret
    exact ⟨ret_b (by rw [HE.out]), (by refine Ext.bel ?_; repeat (with_reducible first | exact Ext.refl _ | apply Ext.alloc | apply Ext.aft | apply Ext.drew | apply Ext.drewN | apply Ext.setCell | exact Nat.le_add_right _ _ | exact Nat.le_refl _ | (simp; done) | omega))⟩

set_option maxRecDepth 20000 in
set_option maxHeartbeats 8000000 in
theorem s_product (r1 r2 : Value) (xs ys : List Int) (w : World) (h1 : rdI w r1 xs) (h2 : rdI w r2 ys) (hl1 : xs.length ≤ 9) (hl2 : ys.length ≤ 1000) (hc : ∀ c ∈ xs, ∀ d ∈ ys, 0 ≤ c * d ∧ c * d ≤ 1000000000000000000) :
    Calls Try.prog 72 #[r1, r2] w fun e w' => ∃ v, e = .returned v ∧ ownR w.heap.size w' v (prodF xs ys) ∧ Below w.heap.size w w' := by
  obtain ⟨i0, hi, hz0, hz1, hz2⟩ := info_parts infoI
  obtain ⟨a1, cap1, rfl, _, _⟩ := id h1
  obtain ⟨a2, cap2, rfl, _, _⟩ := id h2
  by_cases hx : xs = []
  · have e : prodF xs ys = [] := by unfold prodF; rw [if_pos (.inl hx)]
    rw [e]; clear e
    subst hx
    simp only [List.length_nil]
    go_enter Try.func72, Try.ntmps72
    go_wp2_with fail
    go_ret
    exact ⟨_, rfl, own_made w, (by refine Ext.bel ?_; repeat (with_reducible first | exact Ext.refl _ | apply Ext.alloc | apply Ext.aft | apply Ext.drew | apply Ext.drewN | apply Ext.setCell | exact Nat.le_add_right _ _ | exact Nat.le_refl _ | (simp; done) | omega))⟩
  have hx1 : 1 ≤ xs.length := by
    rcases Nat.eq_zero_or_pos xs.length with h0 | h0
    · exact absurd (List.eq_nil_of_length_eq_zero h0) hx
    · exact h0
  by_cases hy : ys = []
  · have e : prodF xs ys = [] := by unfold prodF; rw [if_pos (.inr hy)]
    rw [e]; clear e
    subst hy
    simp only [List.length_nil]
    have hn0 : (xs.length == 0) = false := by simp; omega
    have hn1 : ((xs.length : Int) == 0) = false := by simp; omega
    go_enter Try.func72, Try.ntmps72
    go_wp2_with fail
    go_ret
    exact ⟨_, rfl, own_made w, (by refine Ext.bel ?_; repeat (with_reducible first | exact Ext.refl _ | apply Ext.alloc | apply Ext.aft | apply Ext.drew | apply Ext.drewN | apply Ext.setCell | exact Nat.le_add_right _ _ | exact Nat.le_refl _ | (simp; done) | omega))⟩
  have hy1 : 1 ≤ ys.length := by
    rcases Nat.eq_zero_or_pos ys.length with h0 | h0
    · exact absurd (List.eq_nil_of_length_eq_zero h0) hy
    · exact h0
  have e : prodF xs ys = trimF (prodS xs ys xs.length) := by unfold prodF; rw [if_neg (by simp [hx, hy])]
  rw [e]; clear e
  obtain ⟨b1, o1, rfl⟩ := rd_head h1 hx
  obtain ⟨b2, o2, rfl⟩ := rd_head h2 hy
  have H1 := hid h1
  have H2 := hid h2
  have Hc := hid hc
  obtain ⟨L, hL⟩ : ∃ L, L = xs.length + ys.length - 1 := ⟨_, rfl⟩
  have hLi : (xs.length : Int) + ys.length - 1 = L := by omega
  have HL := hid hL
  have hx2 : ((xs.length : Int) == 0) = false := by simp; omega
  have hy2 : ((ys.length : Int) == 0) = false := by simp; omega
  have hL9 : L ≤ 2000 := by omega
  clear h1 h2 hc hx hy hL
  go_enter Try.func72, Try.ntmps72
  go_wp2_with (at_make; refine wpList_make_full _ rfl _ _ 24 rfl w.heap.size 2 i0 (.int .i64 0) 1 Try.underlying24 hi hz0 hz1 _ _ _ _ L rfl rfl (by omega) (by omega) (by rw [hz2]; omega) (by unfold maxLen; omega) (Nat.le_refl _) ?_)
  intro w1 hown0 hgr
  have hown : w1.ownsRow w.heap.size 2 1 (.slice (some ⟨w.heap.size, 0, none⟩) L L) L (vI (prodS xs ys 0)) := by
    have e : prodS xs ys 0 = List.replicate L 0 := by rw [HL.out]; rfl
    rw [e, ← vI_zeros]; exact hown0
  have HB : Hid (Below w.heap.size w w1) := hid (Below.grown (Below.refl _ _) hgr (Nat.le_refl _) (fun k hk => by cases hk))
  have HO := hid hown
  clear hown0 hown hgr
  go_wp2_with fail
  go_loopw [6] (fun s wr => ∃ i : Nat, i ≤ xs.length ∧ s = .int .i64 i ∧ Hid (wr.ownsRow w.heap.size 2 1 (.slice (some ⟨w.heap.size, 0, none⟩) L L) L (vI (prodS xs ys i))) ∧ Hid (Below w.heap.size w wr)) (fun s _ => xs.length - (intOf s).toNat)
  case atStart => exact ⟨0, by omega, rfl, HO, HB⟩
  case round =>
    obtain ⟨i, hi9, rfl, HO, HB⟩ := hrel
    obtain ⟨wo, rfl⟩ : ∃ wo : World, wo = wr := ⟨_, rfl⟩
    by_cases hlt : i < xs.length
    · have hltz : (i : Int) < (xs.length : Int) := by omega
      obtain ⟨c, hcx⟩ : ∃ c, c = xs.getD i 0 := ⟨_, rfl⟩
      have HC := hid hcx
      clear hcx
      go_wp2_with fail
      go_loopw [7] (fun s wr => ∃ k : Nat, k ≤ ys.length ∧ s = .int .i64 k ∧ Hid (wr.ownsRow w.heap.size 2 1 (.slice (some ⟨w.heap.size, 0, none⟩) L L) L (vI (rowS (prodS xs ys i) i c ys k))) ∧ Hid (Below w.heap.size w wr)) (fun s _ => ys.length - (intOf s).toNat)
      case atStart => exact ⟨0, by omega, rfl, HO, HB⟩
      case round =>
        obtain ⟨k, hk9, rfl, HO', HB'⟩ := hrel
        by_cases hlt2 : k < ys.length
        · have hltz2 : (k : Int) < (ys.length : Int) := by omega
          have hf := HB'.out.cell (p := ⟨b1, o1 + i, none⟩) (World.block_lt_of_cell? w _ (rd_at H1.out hlt))
          rw [rd_at H1.out hlt, ← HC.out] at hf
          have hfb := World.block_lt_of_cell? _ _ hf
          have hg := HB'.out.cell (p := ⟨b2, o2 + k, none⟩) (World.block_lt_of_cell? w _ (rd_at H2.out hlt2))
          rw [rd_at H2.out hlt2] at hg
          have hgb := World.block_lt_of_cell? _ _ hg
          have hlen : (rowS (prodS xs ys i) i c ys k).length = L := by rw [rowS_len, prodS_len, HL.out]
          have hik : i + k < L := by have := HL.out; omega
          have hcl := HO'.out.cellAt (i + k) (by omega)
          rw [vI_at (by omega)] at hcl
          have hcb := World.block_lt_of_cell? _ _ hcl
          have hfr := HO'.out.frozenAt (i + k)
          have hcd := prods_of (by omega) Hc.out i k
          rw [← HC.out] at hcd
          obtain ⟨X, hX⟩ : ∃ X, X = (rowS (prodS xs ys i) i c ys k).getD (i + k) 0 := ⟨_, rfl⟩
          have hbd := round_bd (k := k) (by omega) Hc.out hlt
          rw [← HC.out, ← hX] at hbd
          rw [← hX] at hcl
          obtain ⟨d, hd⟩ : ∃ d, d = ys.getD k 0 := ⟨_, rfl⟩
          rw [← hd] at hg hcd
          have HX := hid hX
          have HD := hid hd
          have hikz : (i : Int) + k < (L : Int) := by omega
          clear hX hd hlen
          go_wp2_with fail
          refine wp_region_calm_tail 21 (by kernel_rfl) (by kernel_rfl) ?_
          simp only [List.take_succ_cons, List.take_zero, List.drop_succ_cons, List.drop_zero]
          repeat (go_big_quiet_step (fail))
          refine wpQuiet_nil ?_; intro uq zq; try simp at zq
          have hst := (rawAft HO'.out uq).stored (i + k) (.int .i64 (X + c * d))
          rw [HX.out, HD.out, addAt_set, ← rowS_succ, ← HX.out, ← HD.out] at hst
          have HS := hid hst
          have HBq : Hid (Below w.heap.size w (aft wr uq)) := hid (HB'.out.trans ((below_aft wr uq).mono HB'.out.size))
          clear hst
          go_wp2_with fail
          go_roundw
          case rel => exact ⟨k + 1, by omega, by go_num, hid HS.out.1, hid (Below.grown HBq.out HS.out.2 HBq.out.size (fun k hk => by injection hk with hk; omega))⟩
          case measure => simp only [intOf]; omega
        · obtain rfl : k = ys.length := by omega
          have hltz2 : ¬ (ys.length : Int) < (ys.length : Int) := by omega
          go_wp2_with fail
          go_roundw
          case rel => exact ⟨i + 1, by omega, by go_num, hid (by rw [prodS_succ, ← HC.out]; exact HO'.out), HB'⟩
          case measure => simp only [intOf]; omega
    · obtain rfl : i = xs.length := by omega
      have hltz : ¬ (xs.length : Int) < (xs.length : Int) := by omega
      have hown : ownR w.heap.size wo (.slice (some ⟨w.heap.size, 0, none⟩) L L) (prodS xs ys xs.length) := by
        unfold ownR; rw [prodS_len, ← HL.out]; exact HO.out
      have HW := hid hown
      clear hown HO
      go_wp2_with (go_at_call 42; refine viaI (g := id) (s_trim w.heap.size _ _ _ HW.out (by rw [prodS_len]; omega)) ?_; intro rr ur zr hown2; (try simp at zr))
      go_ret
      exact ⟨_, rfl, hown2.mono HB.out.size, HB.out.trans (Below.mono (by refine Ext.bel ?_; repeat (with_reducible first | exact Ext.refl _ | apply Ext.alloc | apply Ext.aft | apply Ext.drew | apply Ext.drewN | apply Ext.setCell | exact Nat.le_add_right _ _ | exact Nat.le_refl _ | (simp; done) | omega)) HB.out.size)⟩
end Go.Proofs.Ytaninbfcoifedaa
