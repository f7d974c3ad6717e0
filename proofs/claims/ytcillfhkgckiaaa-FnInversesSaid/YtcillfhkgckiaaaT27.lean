/- Powers, Teichmueller residues, remainders: both texts. -/
import Derived.Test.YtcillfhkgckiaaaT26
import Derived.Test.YtcillfhkgckiaaaC2
namespace Go.Proofs.Ytcillfhkgckiaaa
open Go Go.RowKit

def powpF (p n a e : Int) : Int × Int := if ringB p n = true then (if inB a 0 (p ^ n.toNat - 1) = true ∧ inB e 0 1000000000000 = true then (powF a e (p ^ n.toNat), 0) else (0, 2)) else (0, 1)
def teipF (p n a : Int) : Int × Int := if ringB p n = true then (if inB a 0 (p ^ n.toNat - 1) = true then (powF a (p ^ (n.toNat - 1)) (p ^ n.toNat), 0) else (0, 2)) else (0, 1)
def redpF (p n x : Int) : Int × Int := if ringB p n = true then (if inB x (-1000000000000) 1000000000000 = true then (x % p ^ n.toNat, 0) else (0, 2)) else (0, 1)
def mdlF (p n : Int) : Int × Int := if ringB p n = true then (p ^ n.toNat, 0) else (0, 1)

theorem ring_facts2 {p n : Int} (h : ringB p n = true) : (2 ≤ p ∧ p ≤ 97) ∧ (1 ≤ n ∧ n ≤ 40) ∧ 2 ≤ p ^ n.toNat ∧ p ^ n.toNat ≤ 1000000000 ∧ p ^ n.toNat = p ^ (n.toNat - 1) * p ∧ 1 ≤ p ^ (n.toNat - 1) ∧ (p ^ n.toNat).tdiv p = p ^ (n.toNat - 1) := by
  obtain ⟨hs, h1, h2, h3⟩ := ringB_iff.1 h
  have hp := smallP_bd hs
  have q1 := pow_pos' (show 1 ≤ p by omega) (n.toNat - 1)
  have q2 : p ^ n.toNat = p ^ (n.toNat - 1) * p := by rw [← Int.pow_succ]; congr 1; omega
  have q3 := Int.mul_le_mul_of_nonneg_left (show (2 : Int) ≤ p by omega) (show 0 ≤ p ^ (n.toNat - 1) by omega)
  refine ⟨hp, ⟨h1, h2⟩, by omega, h3, q2, q1, ?_⟩
  rw [q2]
  exact Int.mul_tdiv_cancel _ (by omega)

set_option maxHeartbeats 2000000 in
theorem i_PowerOf (p n a e : Int) (w : World) :
    Calls Try.prog 11 #[(.agg #[.int .i64 p, .int .i64 n]), .int .i64 a, .int .i64 e] w fun x w' => x = .returned (.tuple #[.int .i64 (powpF p n a e).1, .int .i64 (powpF p n a e).2]) ∧ Below w.heap.size w w' := by
  cases h : ringB p n
  · have q : (powpF p n a e) = (0, 1) := by simp [powpF, h]
    rw [q]; clear q
    go_enter Try.func11, Try.ntmps11
    go_wp2_with (go_at_call 26; refine via (i_IsRing _ _ _) ?_; intro uu zz; try simp at zz)
    go_ret2
    exact ⟨rfl, (by refine Ext.bel ?_; repeat (with_reducible first | exact Ext.refl _ | apply Ext.alloc | apply Ext.aft | apply Ext.drew | apply Ext.drewN | apply Ext.setCell | exact Nat.le_add_right _ _ | exact Nat.le_refl _ | (simp; done) | omega))⟩
  have H := hid h
  obtain ⟨r1, r2, r3, r4, _, _, _⟩ := ring_facts2 h
  cases h2 : inB a 0 (p ^ n.toNat - 1)
  · have q : (powpF p n a e) = (0, 2) := by simp [powpF, h, h2]
    have HH : Hid (∀ W : World, Calls Try.prog 35 #[(.agg #[.int .i64 p, .int .i64 n]), .int .i64 a] W fun e w' => e = .returned (.bool false) ∧ Below W.heap.size W w') := hid fun W => by have := i_has p n a W h; rw [h2] at this; exact this
    rw [q]; clear q r3 r4 h2
    go_enter Try.func11, Try.ntmps11
    go_wp2_with (first | (go_at_call 26; refine via (i_IsRing _ _ _) ?_; intro uu zz; try simp at zz) | (go_at_call 35; refine via (HH.out _) ?_; intro uu zz; try simp at zz))
    go_ret2
    exact ⟨rfl, (by refine Ext.bel ?_; repeat (with_reducible first | exact Ext.refl _ | apply Ext.alloc | apply Ext.aft | apply Ext.drew | apply Ext.drewN | apply Ext.setCell | exact Nat.le_add_right _ _ | exact Nat.le_refl _ | (simp; done) | omega))⟩
  cases h3 : inB e 0 1000000000000
  · have q : (powpF p n a e) = (0, 2) := by simp [powpF, h, h2, h3]
    have HH : Hid (∀ W : World, Calls Try.prog 35 #[(.agg #[.int .i64 p, .int .i64 n]), .int .i64 a] W fun e w' => e = .returned (.bool true) ∧ Below W.heap.size W w') := hid fun W => by have := i_has p n a W h; rw [h2] at this; exact this
    rw [q]; clear q r3 r4 h2
    go_enter Try.func11, Try.ntmps11
    go_wp2_with (first | (go_at_call 26; refine via (i_IsRing _ _ _) ?_; intro uu zz; try simp at zz) | (go_at_call 35; refine via (HH.out _) ?_; intro uu zz; try simp at zz) | (go_at_call 36; refine pur (i_within _ _ _ _) ?_))
    go_ret2
    exact ⟨rfl, (by refine Ext.bel ?_; repeat (with_reducible first | exact Ext.refl _ | apply Ext.alloc | apply Ext.aft | apply Ext.drew | apply Ext.drewN | apply Ext.setCell | exact Nat.le_add_right _ _ | exact Nat.le_refl _ | (simp; done) | omega))⟩
  · have q : (powpF p n a e) = (powF a e (p ^ n.toNat), 0) := by simp [powpF, h, h2, h3]
    rw [q]; clear q
    have ha := inB_iff.1 h2
    have he := inB_iff.1 h3
    have HP : Hid (∀ W : World, Calls Try.prog 37 #[.int .i64 a, .int .i64 e, .int .i64 (p ^ n.toNat)] W fun x w' => x = .returned (.int .i64 (powF a e (p ^ n.toNat))) ∧ W = w') := hid fun W => i_pow a e (p ^ n.toNat) W (by omega) he ⟨r3, r4⟩
    have HM : Hid (∀ W : World, Calls Try.prog 38 #[(.agg #[.int .i64 p, .int .i64 n])] W fun e w' => e = .returned (.int .i64 (p ^ n.toNat)) ∧ Below W.heap.size W w') := hid fun W => i_modulus p n W h
    have HH : Hid (∀ W : World, Calls Try.prog 35 #[(.agg #[.int .i64 p, .int .i64 n]), .int .i64 a] W fun e w' => e = .returned (.bool true) ∧ Below W.heap.size W w') := hid fun W => by have := i_has p n a W h; rw [h2] at this; exact this
    obtain ⟨M, hM⟩ : ∃ M, M = p ^ n.toNat := ⟨_, rfl⟩
    rw [← hM] at HP HM ⊢
    obtain ⟨g, hg⟩ : ∃ g, g = powF a e M := ⟨_, rfl⟩
    rw [← hg] at HP ⊢
    clear hM hg h2 r3 r4 ha
    go_enter Try.func11, Try.ntmps11
    go_wp2_with (first | (go_at_call 26; refine via (i_IsRing _ _ _) ?_; intro uu zz; try simp at zz) | (go_at_call 35; refine via (HH.out _) ?_; intro uu zz; try simp at zz) | (go_at_call 36; refine pur (i_within _ _ _ _) ?_) | (go_at_call 38; refine via (HM.out _) ?_; intro uu zz; try simp at zz) | (go_at_call 37; refine pur (HP.out _) ?_))
    go_ret2
    exact ⟨rfl, (by refine Ext.bel ?_; repeat (with_reducible first | exact Ext.refl _ | apply Ext.alloc | apply Ext.aft | apply Ext.drew | apply Ext.drewN | apply Ext.setCell | exact Nat.le_add_right _ _ | exact Nat.le_refl _ | (simp; done) | omega))⟩

set_option maxHeartbeats 2000000 in
theorem s_PowerOf (p n a e : Int) (w : World) :
    Calls Try.prog 12 #[(.agg #[.int .i64 p, .int .i64 n]), .int .i64 a, .int .i64 e] w fun x w' => x = .returned (.tuple #[.int .i64 (powpF p n a e).1, .int .i64 (powpF p n a e).2]) ∧ Below w.heap.size w w' := by
  cases h : ringB p n
  · have q : (powpF p n a e) = (0, 1) := by simp [powpF, h]
    have hc : codeF p n a = 1 := by simp [codeF, h]
    rw [q]; clear q
    go_enter Try.func12, Try.ntmps12
    go_wp2_with fail
    refine via (s_code _ _ _ _) ?_
    rw [hc]; clear hc; intro uu zz; try simp at zz
    go_wp2_with fail
    go_ret2
    exact ⟨rfl, (by refine Ext.bel ?_; repeat (with_reducible first | exact Ext.refl _ | apply Ext.alloc | apply Ext.aft | apply Ext.drew | apply Ext.drewN | apply Ext.setCell | exact Nat.le_add_right _ _ | exact Nat.le_refl _ | (simp; done) | omega))⟩
  obtain ⟨r1, r2, r3, r4, _, _, _⟩ := ring_facts2 h
  cases h2 : inB a 0 (p ^ n.toNat - 1)
  · have q : (powpF p n a e) = (0, 2) := by simp [powpF, h, h2]
    have hc : codeF p n a = 2 := by simp [codeF, h, h2]
    rw [q]; clear q r3 r4 h2
    go_enter Try.func12, Try.ntmps12
    go_wp2_with fail
    refine via (s_code _ _ _ _) ?_
    rw [hc]; clear hc; intro uu zz; try simp at zz
    go_wp2_with fail
    go_ret2
    exact ⟨rfl, (by refine Ext.bel ?_; repeat (with_reducible first | exact Ext.refl _ | apply Ext.alloc | apply Ext.aft | apply Ext.drew | apply Ext.drewN | apply Ext.setCell | exact Nat.le_add_right _ _ | exact Nat.le_refl _ | (simp; done) | omega))⟩
  have hc : codeF p n a = 0 := by simp [codeF, h, h2]
  cases h3 : inB e 0 1000000000000
  · have q : (powpF p n a e) = (0, 2) := by simp [powpF, h, h2, h3]
    rw [q]; clear q r3 r4 h2
    go_enter Try.func12, Try.ntmps12
    go_wp2_with fail
    refine via (s_code _ _ _ _) ?_
    rw [hc]; clear hc; intro uu zz; try simp at zz
    go_wp2_with (go_at_call 39; refine pur (s_in _ _ _ _) ?_)
    go_ret2
    exact ⟨rfl, (by refine Ext.bel ?_; repeat (with_reducible first | exact Ext.refl _ | apply Ext.alloc | apply Ext.aft | apply Ext.drew | apply Ext.drewN | apply Ext.setCell | exact Nat.le_add_right _ _ | exact Nat.le_refl _ | (simp; done) | omega))⟩
  · have q : (powpF p n a e) = (powF a e (p ^ n.toNat), 0) := by simp [powpF, h, h2, h3]
    rw [q]; clear q
    have ha := inB_iff.1 h2
    have he := inB_iff.1 h3
    have HP : Hid (∀ W : World, Calls Try.prog 40 #[.int .i64 a, .int .i64 e, .int .i64 (p ^ n.toNat)] W fun x w' => x = .returned (.int .i64 (powF a e (p ^ n.toNat))) ∧ W = w') := hid fun W => s_pow a e (p ^ n.toNat) W (by omega) he ⟨r3, r4⟩
    have HM : Hid (∀ W : World, Calls Try.prog 41 #[.int .i64 p, .int .i64 n] W fun e w' => e = .returned (.int .i64 (p ^ n.toNat)) ∧ W = w') := hid fun W => by
      have := s_modulus p n W (by omega) (by omega) (by omega)
      rw [modu_ring h] at this
      exact this
    obtain ⟨M, hM⟩ : ∃ M, M = p ^ n.toNat := ⟨_, rfl⟩
    rw [← hM] at HP HM ⊢
    obtain ⟨g, hg⟩ : ∃ g, g = powF a e M := ⟨_, rfl⟩
    rw [← hg] at HP ⊢
    clear hM hg h2 r3 r4 ha
    go_enter Try.func12, Try.ntmps12
    go_wp2_with fail
    refine via (s_code _ _ _ _) ?_
    rw [hc]; clear hc; intro uu zz; try simp at zz
    go_wp2_with (first | (go_at_call 39; refine pur (s_in _ _ _ _) ?_) | (go_at_call 41; refine pur (HM.out _) ?_) | (go_at_call 40; refine pur (HP.out _) ?_))
    go_ret2
    exact ⟨rfl, (by refine Ext.bel ?_; repeat (with_reducible first | exact Ext.refl _ | apply Ext.alloc | apply Ext.aft | apply Ext.drew | apply Ext.drewN | apply Ext.setCell | exact Nat.le_add_right _ _ | exact Nat.le_refl _ | (simp; done) | omega))⟩

set_option maxHeartbeats 2000000 in
theorem i_teich (p n a : Int) (w : World) (h : ringB p n = true) (h2 : inB a 0 (p ^ n.toNat - 1) = true) :
    Calls Try.prog 42 #[(.agg #[.int .i64 p, .int .i64 n]), .int .i64 a] w fun x w' => x = .returned (.int .i64 (powF a (p ^ (n.toNat - 1)) (p ^ n.toNat))) ∧ Below w.heap.size w w' := by
  obtain ⟨r1, r2, r3, r4, r5, r6, r7⟩ := ring_facts2 h
  have ha := inB_iff.1 h2
  have q3 := Int.mul_le_mul_of_nonneg_left (show (1 : Int) ≤ p by omega) (show 0 ≤ p ^ (n.toNat - 1) by omega)
  have HP : Hid (∀ W : World, Calls Try.prog 37 #[.int .i64 a, .int .i64 (p ^ (n.toNat - 1)), .int .i64 (p ^ n.toNat)] W fun x w' => x = .returned (.int .i64 (powF a (p ^ (n.toNat - 1)) (p ^ n.toNat))) ∧ W = w') := hid fun W => i_pow a _ (p ^ n.toNat) W (by omega) (by omega) ⟨r3, r4⟩
  have HM : Hid (∀ W : World, Calls Try.prog 38 #[(.agg #[.int .i64 p, .int .i64 n])] W fun e w' => e = .returned (.int .i64 (p ^ n.toNat)) ∧ Below W.heap.size W w') := hid fun W => i_modulus p n W h
  obtain ⟨M, hM⟩ : ∃ M, M = p ^ n.toNat := ⟨_, rfl⟩
  obtain ⟨E, hE⟩ : ∃ E, E = p ^ (n.toNat - 1) := ⟨_, rfl⟩
  rw [← hE, ← hM] at HP ⊢
  rw [← hM] at HM
  rw [← hE, ← hM] at r7
  obtain ⟨g, hg⟩ : ∃ g, g = powF a E M := ⟨_, rfl⟩
  rw [← hg] at HP ⊢
  have p0 : (p == 0) = false := by rw [beq_eq_false_iff_ne]; omega
  have p1 : p ≠ 0 := by omega
  have e0 : 0 ≤ E ∧ E ≤ 1000000000 := by rw [hE]; omega
  clear hM hE hg h2 r3 r4 r5 r6 q3 ha h
  go_enter Try.func42, Try.ntmps42
  go_wp2_with fail
  refine wp_region_calm (by kernel_rfl) (by kernel_rfl) ?_
  repeat (go_big_quiet_step (first | (go_at_call 38; exact calm (HM.out _)) | (go_at_call 37; exact calmp (HP.out _))))
  refine wpQuiet_nil ?_; intro uq zq; try simp at zq
  go_wp2_with fail
  go_ret
  exact ⟨rfl, (by refine Ext.bel ?_; repeat (with_reducible first | exact Ext.refl _ | apply Ext.alloc | apply Ext.aft | apply Ext.drew | apply Ext.drewN | apply Ext.setCell | exact Nat.le_add_right _ _ | exact Nat.le_refl _ | (simp; done) | omega))⟩

set_option maxHeartbeats 2000000 in
theorem i_TeichmuellerOf (p n a : Int) (w : World) :
    Calls Try.prog 14 #[(.agg #[.int .i64 p, .int .i64 n]), .int .i64 a] w fun x w' => x = .returned (.tuple #[.int .i64 (teipF p n a).1, .int .i64 (teipF p n a).2]) ∧ Below w.heap.size w w' := by
  cases h : ringB p n
  · have q : (teipF p n a) = (0, 1) := by simp [teipF, h]
    rw [q]; clear q
    go_enter Try.func14, Try.ntmps14
    go_wp2_with (go_at_call 26; refine via (i_IsRing _ _ _) ?_; intro uu zz; try simp at zz)
    go_ret2
    exact ⟨rfl, (by refine Ext.bel ?_; repeat (with_reducible first | exact Ext.refl _ | apply Ext.alloc | apply Ext.aft | apply Ext.drew | apply Ext.drewN | apply Ext.setCell | exact Nat.le_add_right _ _ | exact Nat.le_refl _ | (simp; done) | omega))⟩
  have H := hid h
  cases h2 : inB a 0 (p ^ n.toNat - 1)
  · have q : (teipF p n a) = (0, 2) := by simp [teipF, h, h2]
    rw [q]; clear q
    go_enter Try.func14, Try.ntmps14
    go_wp2_with (first | (go_at_call 26; refine via (i_IsRing _ _ _) ?_; intro uu zz; try simp at zz) | (go_at_call 35; refine via (i_has _ _ _ _ H.out) ?_; intro uu zz; try simp at zz))
    go_ret2
    exact ⟨rfl, (by refine Ext.bel ?_; repeat (with_reducible first | exact Ext.refl _ | apply Ext.alloc | apply Ext.aft | apply Ext.drew | apply Ext.drewN | apply Ext.setCell | exact Nat.le_add_right _ _ | exact Nat.le_refl _ | (simp; done) | omega))⟩
  · have q : (teipF p n a) = (powF a (p ^ (n.toNat - 1)) (p ^ n.toNat), 0) := by simp [teipF, h, h2]
    rw [q]; clear q
    have HT : Hid (∀ W : World, Calls Try.prog 42 #[(.agg #[.int .i64 p, .int .i64 n]), .int .i64 a] W fun x w' => x = .returned (.int .i64 (powF a (p ^ (n.toNat - 1)) (p ^ n.toNat))) ∧ Below W.heap.size W w') := hid fun W => i_teich p n a W h h2
    have HH : Hid (∀ W : World, Calls Try.prog 35 #[(.agg #[.int .i64 p, .int .i64 n]), .int .i64 a] W fun e w' => e = .returned (.bool true) ∧ Below W.heap.size W w') := hid fun W => by have := i_has p n a W h; rw [h2] at this; exact this
    obtain ⟨g, hg⟩ : ∃ g, g = powF a (p ^ (n.toNat - 1)) (p ^ n.toNat) := ⟨_, rfl⟩
    rw [← hg] at HT ⊢
    clear hg h2
    go_enter Try.func14, Try.ntmps14
    go_wp2_with (first | (go_at_call 26; refine via (i_IsRing _ _ _) ?_; intro uu zz; try simp at zz) | (go_at_call 35; refine via (HH.out _) ?_; intro uu zz; try simp at zz) | (go_at_call 42; refine via (HT.out _) ?_; intro uu zz; try simp at zz))
    go_ret2
    exact ⟨rfl, (by refine Ext.bel ?_; repeat (with_reducible first | exact Ext.refl _ | apply Ext.alloc | apply Ext.aft | apply Ext.drew | apply Ext.drewN | apply Ext.setCell | exact Nat.le_add_right _ _ | exact Nat.le_refl _ | (simp; done) | omega))⟩

set_option maxHeartbeats 2000000 in
theorem s_TeichmuellerOf (p n a : Int) (w : World) :
    Calls Try.prog 15 #[(.agg #[.int .i64 p, .int .i64 n]), .int .i64 a] w fun x w' => x = .returned (.tuple #[.int .i64 (teipF p n a).1, .int .i64 (teipF p n a).2]) ∧ Below w.heap.size w w' := by
  by_cases h0 : codeF p n a = 0
  case neg =>
    have q : (teipF p n a) = (0, codeF p n a) := by
      cases hr : ringB p n
      · simp [teipF, codeF, hr]
      · cases hi : inB a 0 (p ^ n.toNat - 1)
        · simp [teipF, codeF, hr, hi]
        · exact absurd (by simp [codeF, hr, hi]) h0
    rw [q]; clear q
    have hc' : (codeF p n a == 0) = false := by simpa using h0
    have hc'' : (codeF p n a != 0) = true := by simpa using h0
    go_enter Try.func15, Try.ntmps15
    go_wp2_with (go_at_call 28; refine via (s_code _ _ _ _) ?_; intro uu zz; try simp at zz)
    go_ret2
    exact ⟨rfl, (by refine Ext.bel ?_; repeat (with_reducible first | exact Ext.refl _ | apply Ext.alloc | apply Ext.aft | apply Ext.drew | apply Ext.drewN | apply Ext.setCell | exact Nat.le_add_right _ _ | exact Nat.le_refl _ | (simp; done) | omega))⟩
  have hr : ringB p n = true := by
    cases hr : ringB p n
    · simp [codeF, hr] at h0
    · rfl
  have hi : inB a 0 (p ^ n.toNat - 1) = true := by
    cases hi : inB a 0 (p ^ n.toNat - 1)
    · simp [codeF, hr, hi] at h0
    · rfl
  have q : (teipF p n a) = (powF a (p ^ (n.toNat - 1)) (p ^ n.toNat), 0) := by simp [teipF, hr, hi]
  rw [q]; clear q
  obtain ⟨r1, r2, r3, r4, r5, r6, r7⟩ := ring_facts2 hr
  have ha := inB_iff.1 hi
  have q3 := Int.mul_le_mul_of_nonneg_left (show (1 : Int) ≤ p by omega) (show 0 ≤ p ^ (n.toNat - 1) by omega)
  have HP : Hid (∀ W : World, Calls Try.prog 40 #[.int .i64 a, .int .i64 (p ^ (n.toNat - 1)), .int .i64 (p ^ n.toNat)] W fun x w' => x = .returned (.int .i64 (powF a (p ^ (n.toNat - 1)) (p ^ n.toNat))) ∧ W = w') := hid fun W => s_pow a _ (p ^ n.toNat) W (by omega) (by omega) ⟨r3, r4⟩
  have HM : Hid (∀ W : World, Calls Try.prog 41 #[.int .i64 p, .int .i64 n] W fun e w' => e = .returned (.int .i64 (p ^ n.toNat)) ∧ W = w') := hid fun W => by
    have := s_modulus p n W (by omega) (by omega) (by omega)
    rw [modu_ring hr] at this
    exact this
  have HC : Hid (∀ W : World, Calls Try.prog 28 #[(.agg #[.int .i64 p, .int .i64 n]), .int .i64 a] W fun e w' => e = .returned (.int .i64 0) ∧ Below W.heap.size W w') := hid fun W => by have := s_code p n a W; rw [h0] at this; exact this
  obtain ⟨M, hM⟩ : ∃ M, M = p ^ n.toNat := ⟨_, rfl⟩
  obtain ⟨E, hE⟩ : ∃ E, E = p ^ (n.toNat - 1) := ⟨_, rfl⟩
  rw [← hE, ← hM] at HP ⊢
  rw [← hM] at HM
  rw [← hE, ← hM] at r7
  obtain ⟨g, hg⟩ : ∃ g, g = powF a E M := ⟨_, rfl⟩
  rw [← hg] at HP ⊢
  have p0 : (p == 0) = false := by rw [beq_eq_false_iff_ne]; omega
  have p1 : p ≠ 0 := by omega
  have e0 : 0 ≤ E ∧ E ≤ 1000000000 := by rw [hE]; omega
  clear hM hE hg hi hr r3 r4 r5 r6 q3 ha h0
  go_enter Try.func15, Try.ntmps15
  go_wp2_with (first | (go_at_call 28; refine via (HC.out _) ?_; intro uu zz; try simp at zz) | (go_at_call 41; refine pur (HM.out _) ?_) | (go_at_call 40; refine pur (HP.out _) ?_))
  go_ret2
  exact ⟨rfl, (by refine Ext.bel ?_; repeat (with_reducible first | exact Ext.refl _ | apply Ext.alloc | apply Ext.aft | apply Ext.drew | apply Ext.drewN | apply Ext.setCell | exact Nat.le_add_right _ _ | exact Nat.le_refl _ | (simp; done) | omega))⟩

set_option maxHeartbeats 2000000 in
theorem i_ReduceTo (p n x : Int) (w : World) :
    Calls Try.prog 17 #[(.agg #[.int .i64 p, .int .i64 n]), .int .i64 x] w fun e w' => e = .returned (.tuple #[.int .i64 (redpF p n x).1, .int .i64 (redpF p n x).2]) ∧ Below w.heap.size w w' := by
  cases h : ringB p n
  · have q : (redpF p n x) = (0, 1) := by simp [redpF, h]
    rw [q]; clear q
    go_enter Try.func17, Try.ntmps17
    go_wp2_with (go_at_call 26; refine via (i_IsRing _ _ _) ?_; intro uu zz; try simp at zz)
    go_ret2
    exact ⟨rfl, (by refine Ext.bel ?_; repeat (with_reducible first | exact Ext.refl _ | apply Ext.alloc | apply Ext.aft | apply Ext.drew | apply Ext.drewN | apply Ext.setCell | exact Nat.le_add_right _ _ | exact Nat.le_refl _ | (simp; done) | omega))⟩
  obtain ⟨r1, r2, r3, r4, _, _, _⟩ := ring_facts2 h
  have HM : Hid (∀ W : World, Calls Try.prog 38 #[(.agg #[.int .i64 p, .int .i64 n])] W fun e w' => e = .returned (.int .i64 (p ^ n.toNat)) ∧ Below W.heap.size W w') := hid fun W => i_modulus p n W h
  cases h2 : inB x (-1000000000000) 1000000000000
  · have q : (redpF p n x) = (0, 2) := by simp [redpF, h, h2]
    rw [q]; clear q
    go_enter Try.func17, Try.ntmps17
    go_wp2_with (first | (go_at_call 26; refine via (i_IsRing _ _ _) ?_; intro uu zz; try simp at zz) | (go_at_call 45; refine pur (i_isValue _ _) ?_))
    go_ret2
    exact ⟨rfl, (by refine Ext.bel ?_; repeat (with_reducible first | exact Ext.refl _ | apply Ext.alloc | apply Ext.aft | apply Ext.drew | apply Ext.drewN | apply Ext.setCell | exact Nat.le_add_right _ _ | exact Nat.le_refl _ | (simp; done) | omega))⟩
  · have q : (redpF p n x) = (x % p ^ n.toNat, 0) := by simp [redpF, h, h2]
    rw [q]; clear q
    obtain ⟨M, hM⟩ : ∃ M, M = p ^ n.toNat := ⟨_, rfl⟩
    rw [← hM] at HM r3 r4 ⊢
    clear hM
    go_enter Try.func17, Try.ntmps17
    go_wp2_with (first | (go_at_call 26; refine via (i_IsRing _ _ _) ?_; intro uu zz; try simp at zz) | (go_at_call 45; refine pur (i_isValue _ _) ?_) | (go_at_call 38; refine via (HM.out _) ?_; intro uu zz; try simp at zz) | (go_at_call 46; refine pur (i_mod _ _ _ (by omega) (by omega)) ?_))
    go_ret2
    exact ⟨rfl, (by refine Ext.bel ?_; repeat (with_reducible first | exact Ext.refl _ | apply Ext.alloc | apply Ext.aft | apply Ext.drew | apply Ext.drewN | apply Ext.setCell | exact Nat.le_add_right _ _ | exact Nat.le_refl _ | (simp; done) | omega))⟩
set_option maxHeartbeats 2000000 in
theorem s_ReduceTo (p n x : Int) (w : World) :
    Calls Try.prog 18 #[(.agg #[.int .i64 p, .int .i64 n]), .int .i64 x] w fun e w' => e = .returned (.tuple #[.int .i64 (redpF p n x).1, .int .i64 (redpF p n x).2]) ∧ Below w.heap.size w w' := by
  cases h : ringB p n
  · have q : (redpF p n x) = (0, 1) := by simp [redpF, h]
    rw [q]; clear q
    go_enter Try.func18, Try.ntmps18
    go_wp2_with (go_at_call 27; refine via (s_IsRing _ _ _) ?_; intro uu zz; try simp at zz)
    go_ret2
    exact ⟨rfl, (by refine Ext.bel ?_; repeat (with_reducible first | exact Ext.refl _ | apply Ext.alloc | apply Ext.aft | apply Ext.drew | apply Ext.drewN | apply Ext.setCell | exact Nat.le_add_right _ _ | exact Nat.le_refl _ | (simp; done) | omega))⟩
  obtain ⟨r1, r2, r3, r4, _, _, _⟩ := ring_facts2 h
  have HM : Hid (∀ W : World, Calls Try.prog 41 #[.int .i64 p, .int .i64 n] W fun e w' => e = .returned (.int .i64 (p ^ n.toNat)) ∧ W = w') := hid fun W => by
    have := s_modulus p n W (by omega) (by omega) (by omega)
    rw [modu_ring h] at this
    exact this
  cases h2 : inB x (-1000000000000) 1000000000000
  · have q : (redpF p n x) = (0, 2) := by simp [redpF, h, h2]
    rw [q]; clear q
    go_enter Try.func18, Try.ntmps18
    go_wp2_with (first | (go_at_call 27; refine via (s_IsRing _ _ _) ?_; intro uu zz; try simp at zz) | (go_at_call 47; refine pur (s_is _ _) ?_))
    go_ret2
    exact ⟨rfl, (by refine Ext.bel ?_; repeat (with_reducible first | exact Ext.refl _ | apply Ext.alloc | apply Ext.aft | apply Ext.drew | apply Ext.drewN | apply Ext.setCell | exact Nat.le_add_right _ _ | exact Nat.le_refl _ | (simp; done) | omega))⟩
  · have q : (redpF p n x) = (x % p ^ n.toNat, 0) := by simp [redpF, h, h2]
    rw [q]; clear q
    obtain ⟨M, hM⟩ : ∃ M, M = p ^ n.toNat := ⟨_, rfl⟩
    rw [← hM] at HM r3 r4 ⊢
    clear hM
    go_enter Try.func18, Try.ntmps18
    go_wp2_with (first | (go_at_call 27; refine via (s_IsRing _ _ _) ?_; intro uu zz; try simp at zz) | (go_at_call 47; refine pur (s_is _ _) ?_) | (go_at_call 41; refine pur (HM.out _) ?_) | (go_at_call 48; refine pur (s_mod _ _ _ (by omega) (by omega)) ?_))
    go_ret2
    exact ⟨rfl, (by refine Ext.bel ?_; repeat (with_reducible first | exact Ext.refl _ | apply Ext.alloc | apply Ext.aft | apply Ext.drew | apply Ext.drewN | apply Ext.setCell | exact Nat.le_add_right _ _ | exact Nat.le_refl _ | (simp; done) | omega))⟩
set_option maxHeartbeats 1000000 in
theorem s_ModulusOf (p n : Int) (w : World) :
    Calls Try.prog 19 #[(.agg #[.int .i64 p, .int .i64 n])] w fun e w' => e = .returned (.tuple #[.int .i64 (mdlF p n).1, .int .i64 (mdlF p n).2]) ∧ Below w.heap.size w w' := by
  cases h : ringB p n
  · have q : mdlF p n = (0, 1) := by simp [mdlF, h]
    rw [q]; clear q
    go_enter Try.func19, Try.ntmps19
    go_wp2_with (go_at_call 27; refine via (s_IsRing _ _ _) ?_; intro uu zz; try simp at zz)
    go_ret2
    exact ⟨rfl, (by refine Ext.bel ?_; repeat (with_reducible first | exact Ext.refl _ | apply Ext.alloc | apply Ext.aft | apply Ext.drew | apply Ext.drewN | apply Ext.setCell | exact Nat.le_add_right _ _ | exact Nat.le_refl _ | (simp; done) | omega))⟩
  obtain ⟨r1, r2, r3, r4, _, _, _⟩ := ring_facts2 h
  have HM : Hid (∀ W : World, Calls Try.prog 41 #[.int .i64 p, .int .i64 n] W fun e w' => e = .returned (.int .i64 (p ^ n.toNat)) ∧ W = w') := hid fun W => by
    have := s_modulus p n W (by omega) (by omega) (by omega)
    rw [modu_ring h] at this
    exact this
  have q : mdlF p n = (p ^ n.toNat, 0) := by simp [mdlF, h]
  rw [q]; clear q
  obtain ⟨M, hM⟩ : ∃ M, M = p ^ n.toNat := ⟨_, rfl⟩
  rw [← hM] at HM r3 r4 ⊢
  clear hM
  go_enter Try.func19, Try.ntmps19
  go_wp2_with (first | (go_at_call 27; refine via (s_IsRing _ _ _) ?_; intro uu zz; try simp at zz) | (go_at_call 41; refine pur (HM.out _) ?_))
  go_ret2
  exact ⟨rfl, (by refine Ext.bel ?_; repeat (with_reducible first | exact Ext.refl _ | apply Ext.alloc | apply Ext.aft | apply Ext.drew | apply Ext.drewN | apply Ext.setCell | exact Nat.le_add_right _ _ | exact Nat.le_refl _ | (simp; done) | omega))⟩
end Go.Proofs.Ytcillfhkgckiaaa
