/- One step of Newton: both texts, the law. -/
import Derived.Test.YtganmeiaflkkoaaG5
namespace Go.Proofs.Ytganmeiaflkkoaa
open Go Go.RowKit

theorem valF_mod {p M x : Int} (hd : p ∣ M) : ∀ xs : List Int, valF p x xs = valF M x xs % p := by
  intro xs
  induction xs with
  | nil => simp [valF]
  | cons c r ih =>
    simp only [valF]
    rw [ih, Int.emod_emod_of_dvd _ hd, Int.add_emod, Int.mul_emod, Int.emod_emod, ← Int.mul_emod, ← Int.add_emod]
theorem inv_bd {a m : Int} (hm : 1 ≤ m) : 0 ≤ inv a m ∧ inv a m ≤ m - 1 := by
  unfold inv
  exact ⟨Int.emod_nonneg _ (by omega), by have := Int.emod_lt_of_pos (bx (m.toNat + 1) a 1 m 0) (show 0 < m by omega); omega⟩
theorem dvd_pow {p : Int} {k : Nat} (h : 1 ≤ k) : p ∣ p ^ k := by
  obtain ⟨j, rfl⟩ : ∃ j, k = j + 1 := ⟨k - 1, by omega⟩
  exact ⟨p ^ j, by rw [Int.pow_succ, Int.mul_comm]⟩
theorem prod_fits {a b x : Int} (ha : 0 ≤ a ∧ a ≤ 1000000000) (hb : 0 ≤ b ∧ b ≤ 1000000000) (hx : 0 ≤ x ∧ x ≤ 1000000000) : 0 ≤ a * b ∧ a * b ≤ 1000000000000000000 ∧ -1000000000000000000 ≤ x - a * b ∧ x - a * b ≤ 1000000000 := by
  have h1 := Int.mul_nonneg ha.1 hb.1
  have h2 : a * b ≤ 1000000000 * 1000000000 := Int.mul_le_mul ha.2 hb.2 hb.1 (by omega)
  omega

/-- The residue after a step. -/
def stepF (m : Int) (xs : List Int) (x : Int) : Int := (x - valF m x xs * inv (valF m x (derF xs)) m) % m
def newtF (p n : Int) (xs : List Int) (x : Int) : Int × Int :=
  if ringedF p n xs x = 0 then (if valF (p ^ n.toNat) x (derF xs) % p = 0 then (0, 5) else (stepF (p ^ n.toNat) xs x, 0)) else (0, ringedF p n xs x)

set_option maxHeartbeats 4000000 in
theorem i_newton (p n : Int) (r : Value) (xs : List Int) (x : Int) (w : World) (h : rdI w r xs) (h0 : ringedF p n xs x = 0) :
    Calls Try.prog 67 #[(.agg #[.int .i64 p, .int .i64 n]), r, .int .i64 x] w fun e w' => e = .returned (if valF (p ^ n.toNat) x (derF xs) % p = 0 then .tuple #[.int .i64 0, .bool false] else .tuple #[.int .i64 (stepF (p ^ n.toNat) xs x), .bool true]) ∧ Below w.heap.size w w' := by
  obtain ⟨hp, hn, hm, hx, hc, hl, _⟩ := ringed_facts h0
  have H1 := hid (ringedF_0 h0).1
  have Hc1 := hid hc
  have Hc := hid (widen hc)
  have Hd := hid (derF_bd hl hc)
  have v1 := valF_bd (x := x) hm.1 xs
  have v2 := valF_bd (x := x) hm.1 (derF xs)
  have Hl := hid hl
  have Hm := hid hm
  unfold stepF
  obtain ⟨S, hS⟩ : ∃ S, S = valF (p ^ n.toNat) x (derF xs) := ⟨_, rfl⟩
  obtain ⟨T, hT⟩ : ∃ T, T = valF (p ^ n.toNat) x xs := ⟨_, rfl⟩
  have v3 := inv_bd (a := S) hm.1
  rw [← hS] at v2 ⊢
  rw [← hT] at v1 ⊢
  have HS := hid hS.symm
  have HT := hid hT.symm
  have hS9 : 0 ≤ S ∧ S ≤ 1000000000000 := by omega
  have hS8 : 0 ≤ S ∧ S ≤ 1000000000 := by omega
  have hf := prod_fits (a := T) (b := inv S (p ^ n.toNat)) (x := x) (by omega) (by omega) hx
  by_cases hz : S % p = 0
  · rw [if_pos hz]
    have hz' : (S % p == 0) = true := by simp [hz]
    have hzt : S % p = 0 := hz
    clear hc hl hS hT h0 v3 hf hz
    go_enter Try.func67, Try.ntmps67
    go_wp2_with (first | (go_at_call 37; refine via (i_modulus _ _ _ H1.out) ?_; intro uu zz; try simp at zz) | (go_at_call 87; refine viaI (g := id) (i_derivative _ _ _ (by repeat (with_reducible first | assumption | apply rdI.aft | apply rdI.alloc | apply rdI.drew | apply rdI.drewN)) Hl.out Hc1.out) ?_; intro rr ur zr hown; (try simp at zr); have hrd := hown.rd) | (go_at_call 72; refine pur (i_valueBy _ _ _ _ _ (by repeat (with_reducible first | assumption | apply rdI.aft | apply rdI.alloc | apply rdI.drew | apply rdI.drewN)) Hm.out hx Hd.out) ?_; rw [HS.out]))
    go_ret2
    exact ⟨rfl, (by refine Ext.bel ?_; repeat (with_reducible first | exact Ext.refl _ | apply Ext.alloc | apply Ext.aft | apply Ext.drew | apply Ext.drewN | apply Ext.setCell | exact Nat.le_add_right _ _ | exact Nat.le_refl _ | (simp; done) | omega))⟩
  · rw [if_neg hz]
    have hz' : (S % p == 0) = false := by simp [hz]
    clear hc hl hS hT h0 hz
    go_enter Try.func67, Try.ntmps67
    go_wp2_with (first | (go_at_call 37; refine via (i_modulus _ _ _ H1.out) ?_; intro uu zz; try simp at zz) | (go_at_call 87; refine viaI (g := id) (i_derivative _ _ _ (by repeat (with_reducible first | assumption | apply rdI.aft | apply rdI.alloc | apply rdI.drew | apply rdI.drewN)) Hl.out Hc1.out) ?_; intro rr ur zr hown; (try simp at zr); have hrd := hown.rd) | (go_at_call 72; refine pur (i_valueBy _ _ _ _ _ (by repeat (with_reducible first | assumption | apply rdI.aft | apply rdI.alloc | apply rdI.drew | apply rdI.drewN)) Hm.out hx Hd.out) ?_; rw [HS.out]))
    refine wp_region_calm (by kernel_rfl) (by kernel_rfl) ?_
    repeat (go_big_quiet_step (first | (go_at_call 72; exact calmp (i_valueByE _ _ _ _ _ _ (by repeat (with_reducible first | assumption | apply rdI.aft | apply rdI.alloc | apply rdI.drew | apply rdI.drewN)) Hm.out hx Hc.out HT.out)) | (go_at_call 89; exact calm (i_inverse _ _ _ _ H1.out hS9)) | (go_at_call 36; exact calmp (i_mod _ _ _ (by omega) (by omega)))))
    refine wpQuiet_nil ?_; intro uq zq; try simp at zq
    go_wp2_with fail
    go_ret2
    exact ⟨rfl, (by refine Ext.bel ?_; repeat (with_reducible first | exact Ext.refl _ | apply Ext.alloc | apply Ext.aft | apply Ext.drew | apply Ext.drewN | apply Ext.setCell | exact Nat.le_add_right _ _ | exact Nat.le_refl _ | (simp; done) | omega))⟩

set_option maxHeartbeats 2000000 in
theorem i_NewtonStep (p n : Int) (r : Value) (xs : List Int) (x : Int) (w : World) (h : rdI w r xs) :
    Calls Try.prog 29 #[(.agg #[.int .i64 p, .int .i64 n]), r, .int .i64 x] w fun e w' => e = .returned (.tuple #[.int .i64 (newtF p n xs x).1, .int .i64 (newtF p n xs x).2]) ∧ Below w.heap.size w w' := by
  by_cases h0 : ringedF p n xs x = 0
  · have H0 := hid h0
    by_cases hz : valF (p ^ n.toNat) x (derF xs) % p = 0
    · have e : (newtF p n xs x) = (0, 5) := by unfold newtF; rw [if_pos h0, if_pos hz]
      rw [e]; clear e
      have HZ := hid hz
      clear hz
      go_enter Try.func29, Try.ntmps29
      go_wp2_with (first | (go_at_call 66; refine via (i_ringed _ _ _ _ _ _ (by repeat (with_reducible first | assumption | apply rdI.aft | apply rdI.alloc | apply rdI.drew | apply rdI.drewN))) ?_; intro uu zz; try simp at zz) | (go_at_call 67; refine via (i_newton _ _ _ _ _ _ (by repeat (with_reducible first | assumption | apply rdI.aft | apply rdI.alloc | apply rdI.drew | apply rdI.drewN)) H0.out) ?_; rw [if_pos HZ.out]; intro uu zz; try simp at zz))
      go_ret2
      exact ⟨rfl, (by refine Ext.bel ?_; repeat (with_reducible first | exact Ext.refl _ | apply Ext.alloc | apply Ext.aft | apply Ext.drew | apply Ext.drewN | apply Ext.setCell | exact Nat.le_add_right _ _ | exact Nat.le_refl _ | (simp; done) | omega))⟩
    · have e : (newtF p n xs x) = (stepF (p ^ n.toNat) xs x, 0) := by unfold newtF; rw [if_pos h0, if_neg hz]
      rw [e]; clear e
      have HZ := hid hz
      clear hz
      go_enter Try.func29, Try.ntmps29
      go_wp2_with (first | (go_at_call 66; refine via (i_ringed _ _ _ _ _ _ (by repeat (with_reducible first | assumption | apply rdI.aft | apply rdI.alloc | apply rdI.drew | apply rdI.drewN))) ?_; intro uu zz; try simp at zz) | (go_at_call 67; refine via (i_newton _ _ _ _ _ _ (by repeat (with_reducible first | assumption | apply rdI.aft | apply rdI.alloc | apply rdI.drew | apply rdI.drewN)) H0.out) ?_; rw [if_neg HZ.out]; intro uu zz; try simp at zz))
      go_ret2
      exact ⟨rfl, (by refine Ext.bel ?_; repeat (with_reducible first | exact Ext.refl _ | apply Ext.alloc | apply Ext.aft | apply Ext.drew | apply Ext.drewN | apply Ext.setCell | exact Nat.le_add_right _ _ | exact Nat.le_refl _ | (simp; done) | omega))⟩
  · have e : (newtF p n xs x) = (0, ringedF p n xs x) := by unfold newtF; rw [if_neg h0]
    rw [e]; clear e
    have h0' : (ringedF p n xs x != 0) = true := by simpa using h0
    clear h0
    go_enter Try.func29, Try.ntmps29
    go_wp2_with (first | (go_at_call 66; refine via (i_ringed _ _ _ _ _ _ (by repeat (with_reducible first | assumption | apply rdI.aft | apply rdI.alloc | apply rdI.drew | apply rdI.drewN))) ?_; intro uu zz; try simp at zz))
    go_ret2
    exact ⟨rfl, (by refine Ext.bel ?_; repeat (with_reducible first | exact Ext.refl _ | apply Ext.alloc | apply Ext.aft | apply Ext.drew | apply Ext.drewN | apply Ext.setCell | exact Nat.le_add_right _ _ | exact Nat.le_refl _ | (simp; done) | omega))⟩

set_option maxHeartbeats 4000000 in
theorem s_step (m : Int) (r : Value) (xs : List Int) (x : Int) (w : World) (h : rdI w r xs) (hm : 1 ≤ m ∧ m ≤ 1000000000) (hx : 0 ≤ x ∧ x ≤ 1000000000) (hc : ∀ c ∈ xs, -1000000 ≤ c ∧ c ≤ 1000000) (hl : xs.length ≤ 9) :
    Calls Try.prog 71 #[r, .int .i64 x, .int .i64 m] w fun e w' => e = .returned (.int .i64 (stepF m xs x)) ∧ Below w.heap.size w w' := by
  have Hc1 := hid hc
  have Hc := hid (widen hc)
  have Hd := hid (derF_bd hl hc)
  have v1 := valF_bd (x := x) hm.1 xs
  have v2 := valF_bd (x := x) hm.1 (derF xs)
  have Hl := hid hl
  have Hm := hid hm
  unfold stepF
  obtain ⟨S, hS⟩ : ∃ S, S = valF m x (derF xs) := ⟨_, rfl⟩
  obtain ⟨T, hT⟩ : ∃ T, T = valF m x xs := ⟨_, rfl⟩
  have v3 := inv_bd (a := S) hm.1
  rw [← hS] at v2 ⊢
  rw [← hT] at v1 ⊢
  have HS := hid hS.symm
  have HT := hid hT.symm
  have hS9 : 0 ≤ S ∧ S ≤ 1000000000000 := by omega
  have hm9 : 1 ≤ m ∧ m ≤ 1000000000000 := by omega
  have hf := prod_fits (a := T) (b := inv S m) (x := x) (by omega) (by omega) hx
  clear hc hl hS hT
  go_enter Try.func71, Try.ntmps71
  go_wp2_with fail
  refine pur (s_valueE _ r xs _ _ _ (by repeat (with_reducible first | assumption | apply rdI.aft | apply rdI.alloc | apply rdI.drew | apply rdI.drewN)) Hm.out hx Hc.out HT.out) ?_
  go_wp2_with fail
  refine viaI (g := id) (s_derivative _ _ _ (by repeat (with_reducible first | assumption | apply rdI.aft | apply rdI.alloc | apply rdI.drew | apply rdI.drewN)) Hl.out Hc1.out) ?_
  intro rr ur zr hown; (try simp at zr); have hrd := hown.rd
  go_wp2_with fail
  refine pur (s_valueE _ rr (derF xs) _ _ _ (by repeat (with_reducible first | assumption | apply rdI.aft | apply rdI.alloc | apply rdI.drew | apply rdI.drewN)) Hm.out hx Hd.out HS.out) ?_
  go_wp2_with (first | (go_at_call 91; refine pur (s_inverse _ _ _ hS9 hm9) ?_) | (go_at_call 75; refine pur (s_mod _ _ _ (by omega) (by omega)) ?_))
  go_ret
  exact ⟨rfl, (by refine Ext.bel ?_; repeat (with_reducible first | exact Ext.refl _ | apply Ext.alloc | apply Ext.aft | apply Ext.drew | apply Ext.drewN | apply Ext.setCell | exact Nat.le_add_right _ _ | exact Nat.le_refl _ | (simp; done) | omega))⟩

set_option maxHeartbeats 4000000 in
theorem s_NewtonStep (p n : Int) (r : Value) (xs : List Int) (x : Int) (w : World) (h : rdI w r xs) :
    Calls Try.prog 30 #[(.agg #[.int .i64 p, .int .i64 n]), r, .int .i64 x] w fun e w' => e = .returned (.tuple #[.int .i64 (newtF p n xs x).1, .int .i64 (newtF p n xs x).2]) ∧ Below w.heap.size w w' := by
  by_cases h0 : ringedF p n xs x = 0
  · obtain ⟨hp, hn, hm, hx, hc, hl, _⟩ := ringed_facts h0
    have hr := (ringedF_0 h0).1
    have Hc1 := hid hc
    have Hd := hid (derF_bd hl hc)
    have Hl := hid hl
    have hp9 : 1 ≤ p ∧ p ≤ 1000000000 := by omega
    have v2 := valF_bd (x := x) hp9.1 (derF xs)
    obtain ⟨M, hM⟩ : ∃ M, M = p ^ n.toNat := ⟨_, rfl⟩
    have HM : Hid (modu p n = M) := hid (by rw [modu_ring hr, hM])
    rw [← hM] at hm
    have Hm := hid hm
    have hdv : p ∣ M := by rw [hM]; exact dvd_pow (by omega)
    have hvm := valF_mod (x := x) hdv (derF xs)
    obtain ⟨S, hS⟩ : ∃ S, S = valF p x (derF xs) := ⟨_, rfl⟩
    rw [← hS] at v2 hvm
    have HS := hid hS.symm
    obtain ⟨F0, hF0⟩ : ∃ F0, F0 = (newtF p n xs x) := ⟨_, rfl⟩
    have HF : Hid (F0 = if S = 0 then (0, 5) else (stepF M xs x, 0)) := hid (by rw [hF0]; unfold newtF; rw [if_pos h0, ← hM, hvm])
    rw [← hF0]
    clear hc hl hM hr hF0 hdv hvm hS
    by_cases hz : S = 0
    all_goals
      first
        | (have e : F0 = (0, 5) := by rw [HF.out, if_pos hz])
        | (have e : F0 = (stepF M xs x, 0) := by rw [HF.out, if_neg hz])
      rw [e]
      clear e HF
      first
        | (have hz' : (S == 0) = true := by simpa using hz)
        | (have hz' : (S == 0) = false := by simpa using hz)
      clear hz
      go_enter Try.func30, Try.ntmps30
      go_wp2_with (first | (go_at_call 68; refine via (s_ringed _ _ _ _ _ _ (by repeat (with_reducible first | assumption | apply rdI.aft | apply rdI.alloc | apply rdI.drew | apply rdI.drewN))) ?_; intro uu zz; try simp at zz))
      obtain ⟨W, hW⟩ : ∃ W, W = (aft (w.alloc (Obj.cells #[.int .i64 p, .int .i64 n] 25)) uu) := ⟨_, rfl⟩
      have c0 : ∀ o, W.cell? ⟨w.heap.size, o, none⟩ = #[Value.int .i64 p, .int .i64 n][o]? := fun o => by rw [hW]; simp [go_sem]
      have hE : Ext w.heap.size w W := by rw [hW]; exact ((Ext.refl _).alloc _).aft _
      have l0 : w.heap.size < W.heap.size := by rw [hW]; omega
      have rW : rdI W r xs := by rw [hW]; exact (h.alloc _).aft _
      rw [← hW]
      have HE := hid hE
      clear hW hE zz
      go_region_held3 (fun w' => (∀ b o, b < W.heap.size → w'.cell? ⟨b, o, none⟩ = W.cell? ⟨b, o, none⟩) ∧ W.heap.size ≤ w'.heap.size) ((repeat (with_reducible first | exact held_refl | apply held_drew | apply held_aft | apply held_alloc | apply held_set | exact Nat.le_refl _ | apply le_aft | apply le_alloc | apply le_set | apply le_drew))) (first | (go_at_call 70; refine viaI (g := id) (s_derivative _ _ _ (by repeat (with_reducible first | assumption | apply rdI.aft | apply rdI.alloc | apply rdI.drew | apply rdI.drewN)) Hl.out Hc1.out) ?_; intro rr ur zr hown; (try simp at zr); have hrd := hown.rd) | (go_at_call 69; refine pur (s_valueE _ rr (derF xs) _ _ _ (by repeat (with_reducible first | assumption | apply rdI.aft | apply rdI.alloc | apply rdI.drew | apply rdI.drewN)) hp9 hx Hd.out HS.out) ?_))
      all_goals
        go_wp2_with (first | (go_at_call 41; refine pur (s_modulusE _ _ _ _ (by omega) (by omega) (by omega) HM.out) ?_) | (go_at_call 71; refine via (s_step _ _ _ _ _ (by repeat (with_reducible first | assumption | apply rdI.aft | apply rdI.alloc | apply rdI.drew | apply rdI.drewN)) Hm.out hx Hc1.out Hl.out) ?_; intro uu zz; try simp at zz))
        go_ret2
        exact ⟨rfl, Ext.bel (Ext.of HE.out (by repeat (with_reducible first | exact Ext.refl _ | apply Ext.alloc | apply Ext.aft | apply Ext.drew | apply Ext.drewN | apply Ext.setCell | exact Nat.le_add_right _ _ | exact Nat.le_refl _ | (simp; done) | omega)))⟩
  · have e : (newtF p n xs x) = (0, ringedF p n xs x) := by unfold newtF; rw [if_neg h0]
    rw [e]; clear e
    have h0' : (ringedF p n xs x != 0) = true := by simpa using h0
    have h1' : (ringedF p n xs x == 0) = false := by simpa using h0
    clear h0
    go_enter Try.func30, Try.ntmps30
    go_wp2_with (first | (go_at_call 68; refine via (s_ringed _ _ _ _ _ _ (by repeat (with_reducible first | assumption | apply rdI.aft | apply rdI.alloc | apply rdI.drew | apply rdI.drewN))) ?_; intro uu zz; try simp at zz))
    refine wp_region_calm (by kernel_rfl) (by kernel_rfl) ?_
    repeat (go_big_quiet_step (fail))
    refine wpQuiet_nil ?_; intro uq zq; try simp at zq
    go_wp2_with fail
    go_ret2
    exact ⟨rfl, (by refine Ext.bel ?_; repeat (with_reducible first | exact Ext.refl _ | apply Ext.alloc | apply Ext.aft | apply Ext.drew | apply Ext.drewN | apply Ext.setCell | exact Nat.le_add_right _ _ | exact Nat.le_refl _ | (simp; done) | omega))⟩

end Go.Proofs.Ytganmeiaflkkoaa
