/- Hensel's condition: both texts, the law. -/
import Derived.Test.YtdhnpmjoajaeiaaMA
namespace Go.Proofs.Ytdhnpmjoajaeiaa
open Go Go.RowKit

/-- The exponent of the greatest power of p, up to the modulus, that divides a residue. -/
def partF (p n a : Int) : Nat := if a = 0 then n.toNat else vl a p
theorem partF_le {p n a : Int} (hp : 2 ≤ p) (ha : 0 ≤ a ∧ a ≤ p ^ n.toNat - 1) : p ^ partF p n a ≤ p ^ n.toNat := by
  unfold partF
  split
  · exact Int.le_refl _
  · rename_i h0
    obtain ⟨c, h1, h2, h3⟩ := vl_spec hp h0
    have h4 := pow_pos' (show 1 ≤ p by omega) (vl a p)
    have hc : 1 ≤ c := by
      rcases Int.lt_or_le c 1 with h | h
      · have : c * p ^ vl a p ≤ 0 * p ^ vl a p := Int.mul_le_mul_of_nonneg_right (by omega) (by omega)
        omega
      · exact h
    have h5 : 1 * p ^ vl a p ≤ c * p ^ vl a p := Int.mul_le_mul_of_nonneg_right hc (by omega)
    omega
theorem pow_lt_iff {p : Int} (hp : 2 ≤ p) (a b : Nat) : p ^ a < p ^ b ↔ a < b := by
  constructor
  · intro h
    rcases Nat.lt_or_ge a b with h1 | h1
    · exact h1
    · have := pow_mono (show 1 ≤ p by omega) h1; omega
  · intro h
    have h1 := pow_mono (show 1 ≤ p by omega) (show a + 1 ≤ b from h)
    have h2 := pow_pos' (show 1 ≤ p by omega) a
    rw [Int.pow_succ] at h1
    have h3 : p ^ a * 2 ≤ p ^ a * p := Int.mul_le_mul_of_nonneg_left hp (by omega)
    omega
theorem sq_part {p : Int} (b : Nat) : p ^ b * p ^ b = p ^ (2 * b) := by rw [← Int.pow_add]; congr 1; omega

set_option maxHeartbeats 1000000 in
theorem i_dividing (p n a : Int) (w : World) (h : ringB p n = true) (ha : 0 ≤ a ∧ a ≤ p ^ n.toNat - 1) :
    Calls Try.prog 46 #[(.agg #[.int .i64 p, .int .i64 n]), .int .i64 a] w fun e w' => e = .returned (.int .i64 (p ^ partF p n a)) ∧ Below w.heap.size w w' := by
  have H := hid h
  have hr := ringB_iff.1 h
  have hp := smallP_bd hr.1
  have hle := partF_le (n := n) hp.1 ha
  by_cases h0 : a = 0
  · have e : partF p n a = n.toNat := by unfold partF; rw [if_pos h0]
    rw [e]; clear e hle
    subst h0
    clear h hr
    go_enter Try.func46, Try.ntmps46
    go_wp2_with (first | (go_at_call 40; refine via (i_modulus _ _ _ H.out) ?_; intro uu zz; try simp at zz))
    go_ret
    exact ⟨rfl, (by refine Ext.bel ?_; repeat (with_reducible first | exact Ext.refl _ | apply Ext.alloc | apply Ext.aft | apply Ext.drew | apply Ext.drewN | apply Ext.setCell | exact Nat.le_add_right _ _ | exact Nat.le_refl _ | (simp; done) | omega))⟩
  · have e : partF p n a = vl a p := by unfold partF; rw [if_neg h0]
    rw [e] at hle ⊢; clear e
    have hb := pow_gt p hp.1 (vl a p)
    have H0 := hid h0
    have h7 : (a == 0) = false := by simp [h0]
    have hv : (vl a p : Int) ≤ 1000000000 := by omega
    have ha2 : -4000000000000000000 ≤ a ∧ a ≤ 4000000000000000000 := by omega
    have Hb := hid (show p ^ ((vl a p : Int)).toNat ≤ 4000000000000000000 by rw [Int.toNat_natCast]; omega)
    clear h hr h0 hle hb
    go_enter Try.func46, Try.ntmps46
    go_wp2_with fail
    refine wp_region_calm (by kernel_rfl) (by kernel_rfl) ?_
    repeat (go_big_quiet_step (first | (go_at_call 70; exact calmp (i_val _ _ _ (by omega) (by omega) H0.out ha2)) | (go_at_call 57; exact calmp (i_power _ _ _ (by omega) (by omega) Hb.out))))
    refine wpQuiet_nil ?_; intro uq zq; try simp at zq
    go_wp2
    go_ret
    exact ⟨rfl, (by refine Ext.bel ?_; repeat (with_reducible first | exact Ext.refl _ | apply Ext.alloc | apply Ext.aft | apply Ext.drew | apply Ext.drewN | apply Ext.setCell | exact Nat.le_add_right _ _ | exact Nat.le_refl _ | (simp; done) | omega))⟩

theorem i_dividingE (p n a T : Int) (w : World) (h : ringB p n = true) (ha : 0 ≤ a ∧ a ≤ p ^ n.toNat - 1) (hT : p ^ partF p n a = T) :
    Calls Try.prog 46 #[(.agg #[.int .i64 p, .int .i64 n]), .int .i64 a] w fun e w' => e = .returned (.int .i64 T) ∧ Below w.heap.size w w' := by
  subst hT; exact i_dividing p n a w h ha

theorem s_modulusE (p n M : Int) (w : World) (hp : 2 ≤ p) (hp2 : p ≤ 1000000) (hn : -4000000000000000000 ≤ n ∧ n ≤ 4000000000000000000) (hM : modu p n = M) :
    Calls Try.prog 38 #[.int .i64 p, .int .i64 n] w fun e w' => e = .returned (.int .i64 M) ∧ w = w' := by
  subst hM; exact s_modulus p n w hp hp2 hn

set_option maxHeartbeats 1000000 in
theorem s_part (p n a : Int) (w : World) (h : ringB p n = true) (ha : 0 ≤ a ∧ a ≤ p ^ n.toNat - 1) :
    Calls Try.prog 50 #[(.agg #[.int .i64 p, .int .i64 n]), .int .i64 a] w fun e w' => e = .returned (.int .i64 (partF p n a)) ∧ Below w.heap.size w w' := by
  have hr := ringB_iff.1 h
  have hp := smallP_bd hr.1
  by_cases h0 : a = 0
  · have e : (partF p n a : Int) = n := by unfold partF; rw [if_pos h0]; omega
    rw [e]; clear e
    subst h0
    clear h hr
    go_enter Try.func50, Try.ntmps50
    go_wp2_with fail
    go_ret
    exact ⟨rfl, (by refine Ext.bel ?_; repeat (with_reducible first | exact Ext.refl _ | apply Ext.alloc | apply Ext.aft | apply Ext.drew | apply Ext.drewN | apply Ext.setCell | exact Nat.le_add_right _ _ | exact Nat.le_refl _ | (simp; done) | omega))⟩
  · have e : partF p n a = vl a p := by unfold partF; rw [if_neg h0]
    rw [e]; clear e
    have H0 := hid h0
    have h7 : (a == 0) = false := by simp [h0]
    have ha2 : -4000000000000000000 ≤ a ∧ a ≤ 4000000000000000000 := by omega
    clear h hr h0
    go_enter Try.func50, Try.ntmps50
    go_wp2_with (first | (go_at_call 71; refine pur (s_val _ _ _ (by omega) (by omega) H0.out ha2) ?_))
    go_ret
    exact ⟨rfl, (by refine Ext.bel ?_; repeat (with_reducible first | exact Ext.refl _ | apply Ext.alloc | apply Ext.aft | apply Ext.drew | apply Ext.drewN | apply Ext.setCell | exact Nat.le_add_right _ _ | exact Nat.le_refl _ | (simp; done) | omega))⟩

theorem s_partE (p n a M : Int) (T : Nat) (w : World) (h : ringB p n = true) (hM : p ^ n.toNat = M) (ha : 0 ≤ a ∧ a ≤ M - 1) (hT : partF p n a = T) :
    Calls Try.prog 50 #[(.agg #[.int .i64 p, .int .i64 n]), .int .i64 a] w fun e w' => e = .returned (.int .i64 T) ∧ Below w.heap.size w w' := by
  subst hT; subst hM; exact s_part p n a w h ha

/-- Hensel's condition, with its error. -/
def stabF (p n : Int) (xs : List Int) (x : Int) : Bool × Int :=
  if ringedF p n xs x = 0 then (decide (2 * partF p n (valF (p ^ n.toNat) x (derF xs)) < partF p n (valF (p ^ n.toNat) x xs)), 0) else (false, ringedF p n xs x)

set_option maxHeartbeats 4000000 in
theorem i_StableRoot (p n : Int) (r : Value) (xs : List Int) (x : Int) (w : World) (h : rdI w r xs) :
    Calls Try.prog 20 #[(.agg #[.int .i64 p, .int .i64 n]), r, .int .i64 x] w fun e w' => e = .returned (.tuple #[.bool (stabF p n xs x).1, .int .i64 (stabF p n xs x).2]) ∧ Below w.heap.size w w' := by
  by_cases h0 : ringedF p n xs x = 0
  · obtain ⟨hp, hn, hm, hx, hc, hl, _⟩ := ringed_facts h0
    have H1 := hid (ringedF_0 h0).1
    have Hc1 := hid hc
    have Hc := hid (widen hc)
    have Hd := hid (derF_bd hl hc)
    have v1 := valF_bd (x := x) hm.1 xs
    have v2 := valF_bd (x := x) hm.1 (derF xs)
    have Hl := hid hl
    have k1 := partF_le (n := n) hp.1 v1
    have k2 := partF_le (n := n) hp.1 v2
    have q1 := pow_pos' (show 1 ≤ p by omega) (partF p n (valF (p ^ n.toNat) x xs))
    have q2 := pow_pos' (show 1 ≤ p by omega) (partF p n (valF (p ^ n.toNat) x (derF xs)))
    have HF : Hid ((stabF p n xs x) = (decide (p ^ partF p n (valF (p ^ n.toNat) x (derF xs)) * p ^ partF p n (valF (p ^ n.toNat) x (derF xs)) < p ^ partF p n (valF (p ^ n.toNat) x xs)), 0)) := hid (by
      unfold stabF; rw [if_pos h0, sq_part]; simp only [pow_lt_iff hp.1])
    obtain ⟨S, hS⟩ : ∃ S, S = p ^ partF p n (valF (p ^ n.toNat) x (derF xs)) := ⟨_, rfl⟩
    obtain ⟨T, hT⟩ : ∃ T, T = p ^ partF p n (valF (p ^ n.toNat) x xs) := ⟨_, rfl⟩
    rw [← hS] at k2 q2 HF
    rw [← hT] at k1 q1 HF
    have HS := hid hS
    have HT := hid hT
    have hsq : 0 ≤ S * S ∧ S * S ≤ 1000000000000000000 := by
      have a := Int.mul_nonneg (show 0 ≤ S by omega) (show 0 ≤ S by omega)
      have b : S * S ≤ 1000000000 * 1000000000 := Int.mul_le_mul (by omega) (by omega) (by omega) (by omega)
      omega
    have Hm := hid hm
    have V1 := hid v1
    have V2 := hid v2
    rw [HF.out]
    clear hc hl hS hT v1 v2
    go_enter Try.func20, Try.ntmps20
    go_wp2_with (first | (go_at_call 45; refine via (i_ringed _ _ _ _ _ _ (by repeat (with_reducible first | assumption | apply rdI.aft | apply rdI.alloc | apply rdI.drew | apply rdI.drewN))) ?_; intro uu zz; try simp at zz))
    obtain ⟨W, hW⟩ : ∃ W, W = (aft (w.alloc (Obj.cells #[.int .i64 p, .int .i64 n] 27)) uu) := ⟨_, rfl⟩
    have c0 : ∀ o, W.cell? ⟨w.heap.size, o, none⟩ = #[Value.int .i64 p, .int .i64 n][o]? := fun o => by rw [hW]; simp [go_sem]
    have hE : Ext w.heap.size w W := by rw [hW]; exact ((Ext.refl _).alloc _).aft _
    have l0 : w.heap.size < W.heap.size := by rw [hW]; omega
    have rW : rdI W r xs := by rw [hW]; exact (h.alloc _).aft _
    rw [← hW]
    have HE := hid hE
    clear hW hE zz h
    go_region_held3 (fun w' => (∀ b o, b < W.heap.size → w'.cell? ⟨b, o, none⟩ = W.cell? ⟨b, o, none⟩) ∧ W.heap.size ≤ w'.heap.size) ((repeat (with_reducible first | exact held_refl | apply held_drew | apply held_aft | apply held_alloc | apply held_set | exact Nat.le_refl _ | apply le_aft | apply le_alloc | apply le_set | apply le_drew))) (first | (go_at_call 40; refine via (i_modulus _ _ _ H1.out) ?_; intro uu zz; try simp at zz) | (go_at_call 48; refine viaI (g := id) (i_derivative _ _ _ (by repeat (with_reducible first | assumption | apply rdI.aft | apply rdI.alloc | apply rdI.drew | apply rdI.drewN)) Hl.out Hc1.out) ?_; intro rr ur zr hown; (try simp at zr); have hrd := hown.rd) | (go_at_call 47; refine pur (i_valueBy _ _ _ _ _ (by repeat (with_reducible first | assumption | apply rdI.aft | apply rdI.alloc | apply rdI.drew | apply rdI.drewN)) Hm.out hx Hd.out) ?_) | (go_at_call 46; refine via (i_dividingE _ _ _ _ _ H1.out V2.out HS.out.symm) ?_; intro uu zz; try simp at zz))
    go_wp2_with fail
    refine wp_region_calm (by kernel_rfl) (by kernel_rfl) ?_
    repeat (go_big_quiet_step (first | (go_at_call 40; exact calm (i_modulus _ _ _ H1.out)) | (go_at_call 47; exact calmp (i_valueBy _ _ _ _ _ (by repeat (with_reducible first | assumption | apply rdI.aft | apply rdI.alloc | apply rdI.drew | apply rdI.drewN)) Hm.out hx Hc.out)) | (go_at_call 46; exact calm (i_dividingE _ _ _ _ _ H1.out V1.out HT.out.symm))))
    refine wpQuiet_nil ?_; intro uq zq; try simp at zq
    go_wp2_with fail
    go_ret2
    exact ⟨rfl, Ext.bel (Ext.of HE.out (by repeat (with_reducible first | exact Ext.refl _ | apply Ext.alloc | apply Ext.aft | apply Ext.drew | apply Ext.drewN | apply Ext.setCell | exact Nat.le_add_right _ _ | exact Nat.le_refl _ | (simp; done) | omega)))⟩
  · have e : (stabF p n xs x) = (false, ringedF p n xs x) := by unfold stabF; rw [if_neg h0]
    rw [e]; clear e
    have h0' : (ringedF p n xs x != 0) = true := by simpa using h0
    clear h0
    go_enter Try.func20, Try.ntmps20
    go_wp2_with (first | (go_at_call 45; refine via (i_ringed _ _ _ _ _ _ (by repeat (with_reducible first | assumption | apply rdI.aft | apply rdI.alloc | apply rdI.drew | apply rdI.drewN))) ?_; intro uu zz; try simp at zz))
    go_ret2
    exact ⟨rfl, (by refine Ext.bel ?_; repeat (with_reducible first | exact Ext.refl _ | apply Ext.alloc | apply Ext.aft | apply Ext.drew | apply Ext.drewN | apply Ext.setCell | exact Nat.le_add_right _ _ | exact Nat.le_refl _ | (simp; done) | omega))⟩

set_option maxHeartbeats 4000000 in
theorem s_StableRoot (p n : Int) (r : Value) (xs : List Int) (x : Int) (w : World) (h : rdI w r xs) :
    Calls Try.prog 21 #[(.agg #[.int .i64 p, .int .i64 n]), r, .int .i64 x] w fun e w' => e = .returned (.tuple #[.bool (stabF p n xs x).1, .int .i64 (stabF p n xs x).2]) ∧ Below w.heap.size w w' := by
  by_cases h0 : ringedF p n xs x = 0
  · obtain ⟨hp, hn, hm, hx, hc, hl, _⟩ := ringed_facts h0
    have hr := (ringedF_0 h0).1
    have H1 := hid hr
    have Hc1 := hid hc
    have Hc := hid (widen hc)
    have Hd := hid (derF_bd hl hc)
    have V1 := hid (valF_bd (x := x) hm.1 xs)
    have V2 := hid (valF_bd (x := x) hm.1 (derF xs))
    have Hl := hid hl
    have HF : Hid ((stabF p n xs x) = (decide (2 * partF p n (valF (p ^ n.toNat) x (derF xs)) < partF p n (valF (p ^ n.toNat) x xs)), 0)) := hid (by unfold stabF; rw [if_pos h0])
    have k1 := partF_le (n := n) hp.1 V1.out
    have k2 := partF_le (n := n) hp.1 V2.out
    have q1 := pow_gt p hp.1 (partF p n (valF (p ^ n.toNat) x xs))
    have q2 := pow_gt p hp.1 (partF p n (valF (p ^ n.toNat) x (derF xs)))
    obtain ⟨M, hM⟩ : ∃ M, M = p ^ n.toNat := ⟨_, rfl⟩
    have HM : Hid (modu p n = M) := hid (by rw [modu_ring hr, hM])
    have HM2 := hid hM.symm
    rw [← hM] at hm k1 k2 q1 q2 V1 V2 HF
    obtain ⟨S, hS⟩ : ∃ S, S = partF p n (valF M x (derF xs)) := ⟨_, rfl⟩
    obtain ⟨T, hT⟩ : ∃ T, T = partF p n (valF M x xs) := ⟨_, rfl⟩
    rw [← hS] at k2 q2 HF
    rw [← hT] at k1 q1 HF
    have HS := hid hS
    have HT := hid hT
    have hS9 : (S : Int) ≤ 1000000000 := by omega
    have hT9 : (T : Int) ≤ 1000000000 := by omega
    have Hm := hid hm
    have hw : IntKind.i64.wrap (2 * (S : Int)) = 2 * S := by rw [IntKind.wrap_i64]; omega
    have HD : Hid (decide (2 * (S : Int) < (T : Int)) = decide (2 * S < T)) := hid (decide_eq_decide.2 (by omega))
    rw [HF.out]
    clear hc hl hS hT hM hr k1 k2 q1 q2
    have h0' := h
    go_enter Try.func21, Try.ntmps21
    go_wp2_with (first | (go_at_call 49; refine via (s_ringed _ _ _ _ _ _ (by repeat (with_reducible first | assumption | apply rdI.aft | apply rdI.alloc | apply rdI.drew | apply rdI.drewN))) ?_; intro uu zz; try simp at zz) | (go_at_call 38; refine pur (s_modulusE _ _ _ _ (by omega) (by omega) (by omega) HM.out) ?_))
    obtain ⟨W, hW⟩ : ∃ W, W = (aft (w.alloc (Obj.cells #[.int .i64 p, .int .i64 n] 27)) uu) := ⟨_, rfl⟩
    have c0 : ∀ o, W.cell? ⟨w.heap.size, o, none⟩ = #[Value.int .i64 p, .int .i64 n][o]? := fun o => by rw [hW]; simp [go_sem]
    have hE : Ext w.heap.size w W := by rw [hW]; exact ((Ext.refl _).alloc _).aft _
    have l0 : w.heap.size < W.heap.size := by rw [hW]; omega
    have rW : rdI W r xs := by rw [hW]; exact (h0'.alloc _).aft _
    rw [← hW]
    have HE := hid hE
    clear hW hE zz h h0'
    go_region_held3 (fun w' => (∀ b o, b < W.heap.size → w'.cell? ⟨b, o, none⟩ = W.cell? ⟨b, o, none⟩) ∧ W.heap.size ≤ w'.heap.size) ((repeat (with_reducible first | exact held_refl | apply held_drew | apply held_aft | apply held_alloc | apply held_set | exact Nat.le_refl _ | apply le_aft | apply le_alloc | apply le_set | apply le_drew))) (first | (go_at_call 51; refine viaI (g := id) (s_derivative _ _ _ (by repeat (with_reducible first | assumption | apply rdI.aft | apply rdI.alloc | apply rdI.drew | apply rdI.drewN)) Hl.out Hc1.out) ?_; intro rr ur zr hown; (try simp at zr); have hrd := hown.rd) | (go_at_call 42; first | refine pur (s_value _ rr (derF xs) _ _ (by repeat (with_reducible first | assumption | apply rdI.aft | apply rdI.alloc | apply rdI.drew | apply rdI.drewN)) Hm.out hx Hd.out) ?_ | refine pur (s_value _ r xs _ _ (by repeat (with_reducible first | assumption | apply rdI.aft | apply rdI.alloc | apply rdI.drew | apply rdI.drewN)) Hm.out hx Hc.out) ?_) | (go_at_call 50; first | (refine via (s_partE _ _ _ _ _ _ H1.out HM2.out V1.out HT.out.symm) ?_; intro ud zd; try simp at zd) | (refine via (s_partE _ _ _ _ _ _ H1.out HM2.out V2.out HS.out.symm) ?_; intro ud zd; try simp at zd)))
    go_wp2_with fail
    go_ret2
    exact ⟨by first | rfl | (rw [HD.out]; rfl), Ext.bel (Ext.of HE.out (by repeat (with_reducible first | exact Ext.refl _ | apply Ext.alloc | apply Ext.aft | apply Ext.drew | apply Ext.drewN | apply Ext.setCell | exact Nat.le_add_right _ _ | exact Nat.le_refl _ | (simp; done) | omega)))⟩
  · have e : (stabF p n xs x) = (false, ringedF p n xs x) := by unfold stabF; rw [if_neg h0]
    rw [e]; clear e
    have h0' : (ringedF p n xs x != 0) = true := by simpa using h0
    clear h0
    go_enter Try.func21, Try.ntmps21
    go_wp2_with (first | (go_at_call 49; refine via (s_ringed _ _ _ _ _ _ (by repeat (with_reducible first | assumption | apply rdI.aft | apply rdI.alloc | apply rdI.drew | apply rdI.drewN))) ?_; intro uu zz; try simp at zz))
    go_ret2
    exact ⟨rfl, (by refine Ext.bel ?_; repeat (with_reducible first | exact Ext.refl _ | apply Ext.alloc | apply Ext.aft | apply Ext.drew | apply Ext.drewN | apply Ext.setCell | exact Nat.le_add_right _ _ | exact Nat.le_refl _ | (simp; done) | omega))⟩

end Go.Proofs.Ytdhnpmjoajaeiaa
