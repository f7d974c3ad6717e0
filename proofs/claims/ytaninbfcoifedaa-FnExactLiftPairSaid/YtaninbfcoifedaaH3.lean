/- Polynomials in a ring; images: both texts. -/
import Derived.Test.YtaninbfcoifedaaH2
import Derived.Test.YtaninbfcoifedaaG4
namespace Go.Proofs.Ytaninbfcoifedaa
open Go Go.RowKit

/-- A number that is no residue. -/
def noRes (p n : Int) : Int → Bool := fun c => !inB c 0 (p ^ n.toNat - 1)
/-- A polynomial in a ring. -/
def inRingB (p n : Int) (xs : List Int) : Bool := ringB p n && decide (xs.length ≤ 9) && !(xs.any (noRes p n)) && lastNZ xs
theorem inRing_facts {p n : Int} {xs : List Int} (h : inRingB p n xs = true) : ringB p n = true ∧ xs.length ≤ 9 ∧ (∀ c ∈ xs, 0 ≤ c ∧ c ≤ p ^ n.toNat - 1) ∧ lastNZ xs = true := by
  simp [inRingB, and_assoc] at h
  obtain ⟨h1, h2, h3, h4⟩ := h
  refine ⟨h1, h2, fun c hc => ?_, h4⟩
  have := h3 c hc
  simp [noRes] at this
  exact inB_iff.1 this

set_option maxHeartbeats 400000 in
theorem pred_ring (p n : Int) (B : Nat) (w : World) (hr : ringB p n = true) (hB : B < w.heap.size) (hc0 : w.cell? ⟨B, 0, none⟩ = some (.int .i64 p)) (hc1 : w.cell? ⟨B, 1, none⟩ = some (.int .i64 n)) :
    predC 65 #[.pointer (some ⟨B, 0, none⟩)] (noRes p n) w := fun W x hb => by
  have c0 := (hb.cell (p := ⟨B, 0, none⟩) hB).trans hc0
  have c1 := (hb.cell (p := ⟨B, 1, none⟩) hB).trans hc1
  have HB := hid hb
  have HR := hid hr
  unfold noRes
  clear hb hc0 hc1 hr
  show Calls Try.prog 65 #[.int .i64 x, .pointer (some ⟨B, 0, none⟩)] W _
  cases h : inB x 0 (p ^ n.toNat - 1)
  all_goals
    go_enter Try.func65, Try.ntmps65
    go_wp2_with (go_at_call 66; refine via (i_has _ _ _ _ HR.out) ?_; intro uu zz; try simp at zz)
    go_ret
    exact ⟨rfl, (HB.out).trans (Below.mono (by refine Ext.bel ?_; repeat (with_reducible first | exact Ext.refl _ | apply Ext.alloc | apply Ext.aft | apply Ext.drew | apply Ext.drewN | apply Ext.setCell | exact Nat.le_add_right _ _ | exact Nat.le_refl _ | (simp; done) | omega)) HB.out.size)⟩

set_option maxHeartbeats 2000000 in
theorem i_IsInRing (p n : Int) (r : Value) (xs : List Int) (w : World) (h : rdI w r xs) :
    Calls Try.prog 27 #[(.agg #[.int .i64 p, .int .i64 n]), r] w fun e w' => e = .returned (.bool (inRingB p n xs)) ∧ Below w.heap.size w w' := by
  have eg : ∀ args w, (callFunc 65 args).run Try.prog w = .ok (.enter 65 args) w := entersT Try.func65 (by kernel_rfl) rfl
  have hlen : xs.length ≤ maxLen := by obtain ⟨a, cap, _, hm, _⟩ := h; exact hm
  unfold maxLen at hlen
  cases h1 : ringB p n
  · have e : inRingB p n xs = false := by simp [inRingB, h1]
    rw [e]; clear e
    go_enter Try.func27, Try.ntmps27
    go_wp2_with (first | (go_at_call 63; refine via (i_IsRing _ _ _) ?_; intro uu zz; try simp at zz))
    go_ret
    exact ⟨rfl, (by refine Ext.bel ?_; repeat (with_reducible first | exact Ext.refl _ | apply Ext.alloc | apply Ext.aft | apply Ext.drew | apply Ext.drewN | apply Ext.setCell | exact Nat.le_add_right _ _ | exact Nat.le_refl _ | (simp; done) | omega))⟩
  have H1 := hid h1
  by_cases hl : xs.length ≤ 9
  · obtain ⟨B, hB⟩ : ∃ B, B = xs.any (noRes p n) := ⟨_, rfl⟩
    have H3 := hid hB.symm
    cases B
    · have e : inRingB p n xs = lastNZ xs := by unfold inRingB; rw [← hB]; simp [hl, h1]
      rw [e]; clear e hB
      rcases Nat.eq_zero_or_pos xs.length with h0 | h0
      · obtain rfl : xs = [] := List.eq_nil_of_length_eq_zero h0
        rw [lastNZ_nil]
        obtain ⟨a, cap, rfl, _, _⟩ := id h
        change rdI w (.slice a 0 cap) [] at h
        go_enter Try.func27, Try.ntmps27
        go_wp2_with (first | (go_at_call 63; refine via (i_IsRing _ _ _) ?_; intro uu zz; try simp at zz) | (go_at_call 64; refine via (lib_containsB _ _ _ eg _ _ _ (by repeat (with_reducible first | assumption | apply rdI.aft | apply rdI.alloc | apply rdI.drew | apply rdI.drewN)) (pred_ring p n _ _ H1.out (by first | omega | (simp; done) | (simp; omega)) (by simp [go_sem]; try omega) (by simp [go_sem]; try omega)) _ H3.out) ?_; intro uu zz; try simp at zz))
        go_ret
        exact ⟨rfl, (by refine Ext.bel ?_; repeat (with_reducible first | exact Ext.refl _ | apply Ext.alloc | apply Ext.aft | apply Ext.drew | apply Ext.drewN | apply Ext.setCell | exact Nat.le_add_right _ _ | exact Nat.le_refl _ | (simp; done) | omega))⟩
      · obtain ⟨k, hk⟩ : ∃ k, xs.length = k + 1 := ⟨xs.length - 1, by omega⟩
        rw [lastNZ_at hk]
        obtain ⟨a, cap, rfl, _, hc⟩ := id h
        obtain ⟨b, o, rfl, hcell⟩ := hc (by intro e; subst e; simp at h0)
        have h1 := hcell k (by omega)
        have h1b := World.block_lt_of_cell? w _ h1
        obtain ⟨x, hx⟩ : ∃ x, x = xs[k] := ⟨_, rfl⟩
        rw [← hx] at h1 ⊢
        clear hx hcell hc
        rw [hk] at h ⊢
        have hl2 : k + 1 ≤ 9 := by omega
        have hk9 : (k : Int) + 1 ≤ 9 := by omega
        have hk0 : 0 ≤ (k : Int) := by omega
        clear hl hlen h0
        cases hx0 : (x == 0)
        all_goals
          go_enter Try.func27, Try.ntmps27
          go_wp2_with (first | (go_at_call 63; refine via (i_IsRing _ _ _) ?_; intro uu zz; try simp at zz) | (go_at_call 64; refine via (lib_containsB _ _ _ eg _ _ _ (by repeat (with_reducible first | assumption | apply rdI.aft | apply rdI.alloc | apply rdI.drew | apply rdI.drewN)) (pred_ring p n _ _ H1.out (by first | omega | (simp; done) | (simp; omega)) (by simp [go_sem]; try omega) (by simp [go_sem]; try omega)) _ H3.out) ?_; intro uu zz; try simp at zz))
          go_ret
          exact ⟨by simp [bne, hx0]; try omega, (by refine Ext.bel ?_; repeat (with_reducible first | exact Ext.refl _ | apply Ext.alloc | apply Ext.aft | apply Ext.drew | apply Ext.drewN | apply Ext.setCell | exact Nat.le_add_right _ _ | exact Nat.le_refl _ | (simp; done) | omega))⟩
    · have e : inRingB p n xs = false := by unfold inRingB; rw [← hB]; simp
      rw [e]; clear e hB
      obtain ⟨a, cap, rfl, _, _⟩ := id h
      go_enter Try.func27, Try.ntmps27
      go_wp2_with (first | (go_at_call 63; refine via (i_IsRing _ _ _) ?_; intro uu zz; try simp at zz) | (go_at_call 64; refine via (lib_containsB _ _ _ eg _ _ _ (by repeat (with_reducible first | assumption | apply rdI.aft | apply rdI.alloc | apply rdI.drew | apply rdI.drewN)) (pred_ring p n _ _ H1.out (by first | omega | (simp; done) | (simp; omega)) (by simp [go_sem]; try omega) (by simp [go_sem]; try omega)) _ H3.out) ?_; intro uu zz; try simp at zz))
      go_ret
      exact ⟨rfl, (by refine Ext.bel ?_; repeat (with_reducible first | exact Ext.refl _ | apply Ext.alloc | apply Ext.aft | apply Ext.drew | apply Ext.drewN | apply Ext.setCell | exact Nat.le_add_right _ _ | exact Nat.le_refl _ | (simp; done) | omega))⟩
  · have e : inRingB p n xs = false := by unfold inRingB; simp [hl]
    rw [e]; clear e
    obtain ⟨a, cap, rfl, _, _⟩ := id h
    have hl' : ¬ (xs.length : Int) ≤ 9 := by omega
    go_enter Try.func27, Try.ntmps27
    go_wp2_with (first | (go_at_call 63; refine via (i_IsRing _ _ _) ?_; intro uu zz; try simp at zz))
    go_ret
    exact ⟨rfl, (by refine Ext.bel ?_; repeat (with_reducible first | exact Ext.refl _ | apply Ext.alloc | apply Ext.aft | apply Ext.drew | apply Ext.drewN | apply Ext.setCell | exact Nat.le_add_right _ _ | exact Nat.le_refl _ | (simp; done) | omega))⟩

set_option maxHeartbeats 2000000 in
theorem s_IsInRing (p n : Int) (r : Value) (xs : List Int) (w : World) (h : rdI w r xs) :
    Calls Try.prog 30 #[(.agg #[.int .i64 p, .int .i64 n]), r] w fun e w' => e = .returned (.bool (inRingB p n xs)) ∧ Below w.heap.size w w' := by
  have hlen : xs.length ≤ maxLen := by obtain ⟨a, cap, _, hm, _⟩ := h; exact hm
  unfold maxLen at hlen
  cases h1 : ringB p n
  · have e : inRingB p n xs = false := by simp [inRingB, h1]
    rw [e]; clear e
    go_enter Try.func30, Try.ntmps30
    go_wp2_with (first | (go_at_call 69; refine via (s_IsRing _ _ _) ?_; intro uu zz; try simp at zz))
    go_ret
    exact ⟨rfl, (by refine Ext.bel ?_; repeat (with_reducible first | exact Ext.refl _ | apply Ext.alloc | apply Ext.aft | apply Ext.drew | apply Ext.drewN | apply Ext.setCell | exact Nat.le_add_right _ _ | exact Nat.le_refl _ | (simp; done) | omega))⟩
  by_cases hl : xs.length ≤ 9
  · have hr := ringB_iff.1 h1
    have hp := smallP_bd hr.1
    have hn := hr.2.1
    have hn2 := hr.2.2.1
    have hq := pow_pos' (show 1 ≤ p by omega) n.toNat
    obtain ⟨M, hM⟩ : ∃ M, M = p ^ n.toNat := ⟨_, rfl⟩
    have HM : Hid (modu p n = M) := hid (by rw [modu_ring h1, hM])
    have hM1 : 1 ≤ M ∧ M ≤ 1000000000 := by omega
    have e : inRingB p n xs = (!(xs.any fun c => !inB c 0 (M - 1)) && lastNZ xs) := by
      unfold inRingB noRes; rw [hM]; simp [hl, h1]
    obtain ⟨P, hP⟩ : ∃ P, P = inRingB p n xs := ⟨_, rfl⟩
    rw [← hP]
    have HP := hid (hP.trans e)
    obtain ⟨a, cap, rfl, _, hc⟩ := h
    have Hc := hid hc
    clear hc hP e hM hr hq
    go_enter Try.func30, Try.ntmps30
    go_wp2_with (first | (go_at_call 69; refine via (s_IsRing _ _ _) ?_; intro uu zz; try simp at zz) | (go_at_call 37; refine pur (s_modulus _ _ _ (by omega) (by omega) (by omega)) ?_; rw [HM.out]))
    obtain ⟨W, hW⟩ : ∃ W, W = (aft (w.alloc (Obj.cells #[.int .i64 p, .int .i64 n] 27)) uu) := ⟨_, rfl⟩
    have Hc' : Hid (xs ≠ [] → ∃ b o, a = some ⟨b, o, none⟩ ∧ ∀ i, (h : i < xs.length) → W.cell? ⟨b, o + i, none⟩ = some (.int .i64 xs[i])) := hid fun hne => by
      obtain ⟨b, o, e, hcell⟩ := Hc.out hne
      refine ⟨b, o, e, fun i hi => ?_⟩
      have h1 := hcell i hi
      have h2 := World.block_lt_of_cell? w _ h1
      rw [hW]
      simp only [aft_cell, alloc_cell]
      rw [if_pos (by simp; exact Nat.lt_succ_of_lt h2), if_neg (by intro e; simp at h2; omega)]
      exact h1
    have hE : Hid (Below w.heap.size w W) := hid (by rw [hW]; exact (by refine Ext.bel ?_; repeat (with_reducible first | exact Ext.refl _ | apply Ext.alloc | apply Ext.aft | apply Ext.drew | apply Ext.drewN | apply Ext.setCell | exact Nat.le_add_right _ _ | exact Nat.le_refl _ | (simp; done) | omega)))
    rw [← hW]
    clear hW zz Hc
    go_loop [6] (fun i => ∃ k : Nat, k ≤ xs.length ∧ i = .int .i64 k ∧ Hid ((xs.take k).any (fun c => !inB c 0 (M - 1)) = false)) (fun i => xs.length - (intOf i).toNat)
    case atStart => exact ⟨0, by omega, rfl, hid (by simp)⟩
    case round =>
      obtain ⟨k, hk, rfl, HA⟩ := hrel
      by_cases hlt : k < xs.length
      · obtain ⟨b, o, rfl, hcell⟩ := Hc'.out (by intro e; subst e; simp at hlt)
        have h1 := hcell k hlt
        obtain ⟨x, hx⟩ : ∃ x, x = xs[k] := ⟨_, rfl⟩
        rw [← hx] at h1
        have HX := hid hx
        clear hx hcell
        cases hq : inB x 0 (M - 1)
        · have HQ := hid hq
          have e : Hid (P = false) := hid (by
            rw [HP.out, any_hit hlt (by rw [← HX.out]; simp [HQ.out])]; simp)
          go_wp2_with (go_at_call 70; refine pur (s_in _ _ _ _) ?_)
          go_ret
          exact ⟨ret_b (by rw [e.out]), hE.out⟩
        · have HQ := hid hq
          go_wp2_with (go_at_call 70; refine pur (s_in _ _ _ _) ?_)
          go_round
          case rel => exact ⟨k + 1, by omega, by go_num, hid (any_take_f hlt HA.out (by rw [← HX.out]; simp [HQ.out]))⟩
          case measure => simp only [intOf]; omega
      · obtain rfl : k = xs.length := by omega
        have HN := hid (show P = lastNZ xs by
          have := HA.out
          rw [List.take_length] at this
          rw [HP.out, this]; simp)
        rcases Nat.eq_zero_or_pos xs.length with h0 | h0
        · obtain rfl : xs = [] := List.eq_nil_of_length_eq_zero h0
          simp only [List.length_nil] at *
          go_wp2_with fail
          go_ret
          exact ⟨ret_b (by rw [HN.out]; rfl), hE.out⟩
        · obtain ⟨k, hk⟩ : ∃ k, xs.length = k + 1 := ⟨xs.length - 1, by omega⟩
          rw [lastNZ_at hk] at HN
          obtain ⟨b, o, rfl, hcell⟩ := Hc'.out (by intro e; subst e; simp at h0)
          have h1 := hcell k (by omega)
          obtain ⟨x, hx⟩ : ∃ x, x = xs[k] := ⟨_, rfl⟩
          rw [← hx] at h1 HN
          clear hx hcell Hc' HA
          rw [hk]
          have hk9 : (k : Int) + 1 ≤ 9 := by omega
          have hk0 : 0 ≤ (k : Int) := by omega
          clear h0 hk hlt hl hlen
          go_wp2_with fail
          go_ret
          exact ⟨ret_b (by rw [HN.out]; first | (simp; done) | (simp; intros; omega)), hE.out⟩
  · have e : inRingB p n xs = false := by unfold inRingB; simp [hl]
    rw [e]; clear e
    obtain ⟨a, cap, rfl, _, _⟩ := h
    have hl' : ¬ (xs.length : Int) ≤ 9 := by omega
    go_enter Try.func30, Try.ntmps30
    go_wp2_with (first | (go_at_call 69; refine via (s_IsRing _ _ _) ?_; intro uu zz; try simp at zz))
    go_ret
    exact ⟨rfl, (by refine Ext.bel ?_; repeat (with_reducible first | exact Ext.refl _ | apply Ext.alloc | apply Ext.aft | apply Ext.drew | apply Ext.drewN | apply Ext.setCell | exact Nat.le_add_right _ _ | exact Nat.le_refl _ | (simp; done) | omega))⟩
end Go.Proofs.Ytaninbfcoifedaa
