/- SquareRootsOf: both texts. -/
import Derived.Test.YtdhnpmjoajaeiaaSL
import Derived.Test.YtdhnpmjoajaeiaaSM
namespace Go.Proofs.Ytdhnpmjoajaeiaa
open Go Go.RowKit

def sqRF (p n a : Int) : List Int × Int := if codeF p n a = 0 then rootsZ p n.toNat [-a, 0, 1] else ([], codeF p n a)
theorem rd_three (w : World) (a b c : Int) {k : Nat} (hk : k = w.heap.size) : rdI (w.alloc (.cells #[.int .i64 a, .int .i64 b, .int .i64 c] 2)) (.slice (some ⟨k, 0, none⟩) 3 3) [a, b, c] := by
  subst hk
  refine ⟨some ⟨w.heap.size, 0, none⟩, 3, rfl, by simp [maxLen], fun _ => ⟨w.heap.size, 0, rfl, fun i hi => ?_⟩⟩
  match i, hi with
  | 0, _ => simp [go_sem]
  | 1, _ => simp [go_sem]
  | 2, _ => simp [go_sem]
theorem rootsZ_cases (p : Int) (N : Nat) (f : List Int) : ((deepF p N f N 0).2 = true → rootsZ p N f = (sortF (deepF p N f N 0).1, 0) ∧ (deepF p N f N 0).1.length ≤ 60) ∧ ((deepF p N f N 0).2 = false → rootsZ p N f = ([], 3)) := by
  obtain ⟨h1, h2, _⟩ := deep_spec (p := p) (N := N) f N 0
  refine ⟨fun h => ?_, fun h => ?_⟩
  · obtain ⟨k1, k2⟩ := h1 h
    unfold rootsZ
    rw [← k1, if_neg (by omega)]
    exact ⟨rfl, k2⟩
  · unfold rootsZ
    rw [if_pos (h2 h)]
theorem rootsZ_len (p : Int) (N : Nat) (f : List Int) : (rootsZ p N f).1.length ≤ 60 := by
  unfold rootsZ
  split
  · simp
  · show (sortF _).length ≤ 60
    rw [sortF_len]; omega
theorem sqR_len (p n a : Int) : (sqRF p n a).1.length ≤ 1000000 := by
  unfold sqRF
  split
  · have := rootsZ_len p n.toNat [-a, 0, 1]; omega
  · simp
set_option maxRecDepth 20000 in
set_option maxHeartbeats 8000000 in
theorem s_roots (p n : Int) (f : List Int) (r : Value) (w : World) (h : rdI w r f) (hr : ringB p n = true) (hp : 2 ≤ p ∧ p ≤ 97) (hn : 1 ≤ n ∧ n ≤ 40) (hM : p ^ n.toNat ≤ 1000000000) (hfb : ∀ c ∈ f, -1000000000 ≤ c ∧ c ≤ 1000000000) :
    Calls Try.prog 28 #[(.agg #[.int .i64 p, .int .i64 n]), r] w fun e w' => ∃ v, e = .returned (.tuple #[v, .bool (deepF p n.toNat f n.toNat 0).2]) ∧ ownR w.heap.size w' v (deepF p n.toNat f n.toNat 0).1 ∧ Below w.heap.size w w' := by
  have HD := hid (fun (W : World) (hW : rdI W r f) => s_deeper p n f hr hp hn hM hfb n.toNat 0 1 0 r W hW (Nat.le_refl _) ⟨by omega, by omega⟩ (by rw [Nat.sub_self, Int.pow_zero]) (by rw [Nat.sub_self]; rfl))
  have H1 := hid h
  obtain ⟨F, hF⟩ : ∃ F, F = deepF p n.toNat f n.toNat 0 := ⟨_, rfl⟩
  rw [← hF] at HD ⊢
  clear h hfb hr hM hF
  go_enter Try.func28, Try.ntmps28
  go_wp2_with fail
  refine viaI (g := fun v => .tuple #[v, .bool F.2]) (HD.out _ (H1.out.alloc _)) ?_
  intro v u z o
  try simp at z
  have O := hid o
  clear o
  go_wp2_with fail
  go_ret2
  exact ⟨_, rfl, O.out.mono (by first | omega | (simp; done) | (simp; omega)), (by refine Ext.bel ?_; repeat (with_reducible first | exact Ext.refl _ | apply Ext.alloc | apply Ext.aft | apply Ext.drew | apply Ext.drewN | apply Ext.setCell | exact Nat.le_add_right _ _ | exact Nat.le_refl _ | (simp; done) | omega))⟩
theorem ring_facts {p n : Int} (h : ringB p n = true) : (2 ≤ p ∧ p ≤ 97) ∧ (1 ≤ n ∧ n ≤ 40) ∧ 1 ≤ p ^ n.toNat ∧ p ^ n.toNat ≤ 1000000000 := by
  have h1 := ringB_iff.1 h
  have h2 := smallP_bd h1.1
  have h3 : 0 < p ^ n.toNat := Int.pow_pos (by omega)
  exact ⟨h2, ⟨by omega, by omega⟩, by omega, by omega⟩
set_option maxRecDepth 20000 in
set_option maxHeartbeats 8000000 in
theorem s_SquareRootsOf (p n a : Int) (w : World) :
    Calls Try.prog 5 #[(.agg #[.int .i64 p, .int .i64 n]), .int .i64 a] w fun e w' => ∃ v, e = .returned (.tuple #[v, .int .i64 (sqRF p n a).2]) ∧ ownR w.heap.size w' v (sqRF p n a).1 ∧ Below w.heap.size w w' := by
  rcases codeF_cases p n a with h | h | ⟨h, h1, h2⟩
  · have e : (sqRF p n a) = ([], 1) := by unfold sqRF; rw [h]; rfl
    rw [e]; clear e
    go_enter Try.func5, Try.ntmps5
    go_wp2_with fail
    refine via (s_code _ _ _ _) ?_
    rw [h]; clear h; intro uu zz; try simp at zz
    go_wp2_with fail
    go_ret2
    exact ⟨_, rfl, ownR.nil _ _, (by refine Ext.bel ?_; repeat (with_reducible first | exact Ext.refl _ | apply Ext.alloc | apply Ext.aft | apply Ext.drew | apply Ext.drewN | apply Ext.setCell | exact Nat.le_add_right _ _ | exact Nat.le_refl _ | (simp; done) | omega))⟩
  · have e : (sqRF p n a) = ([], 2) := by unfold sqRF; rw [h]; rfl
    rw [e]; clear e
    go_enter Try.func5, Try.ntmps5
    go_wp2_with fail
    refine via (s_code _ _ _ _) ?_
    rw [h]; clear h; intro uu zz; try simp at zz
    go_wp2_with fail
    go_ret2
    exact ⟨_, rfl, ownR.nil _ _, (by refine Ext.bel ?_; repeat (with_reducible first | exact Ext.refl _ | apply Ext.alloc | apply Ext.aft | apply Ext.drew | apply Ext.drewN | apply Ext.setCell | exact Nat.le_add_right _ _ | exact Nat.le_refl _ | (simp; done) | omega))⟩
  · have hb := inB_iff.1 h2
    obtain ⟨hp, hn, hM1, hM9⟩ := ring_facts h1
    have e : (sqRF p n a) = rootsZ p n.toNat [-a, 0, 1] := by unfold sqRF; rw [if_pos h]
    rw [e]; clear e
    have ha9 : 0 ≤ a ∧ a ≤ 1000000000 := by omega
    have hneg : IntKind.i64.wrap (-a) = -a := IntWalk.i64_in _ (by omega)
    have HRT := hid (fun (r : Value) (W : World) (hW : rdI W r [-a, 0, 1]) => s_roots p n [-a, 0, 1] r W hW h1 hp hn hM9 (fun c hc => by simp at hc; rcases hc with rfl | rfl | rfl <;> omega))
    obtain ⟨Z1, Z2⟩ := rootsZ_cases p n.toNat [-a, 0, 1]
    obtain ⟨F, hF⟩ : ∃ F, F = deepF p n.toNat [-a, 0, 1] n.toNat 0 := ⟨_, rfl⟩
    obtain ⟨FZ, hFZ⟩ : ∃ FZ, FZ = rootsZ p n.toNat [-a, 0, 1] := ⟨_, rfl⟩
    rw [← hF, ← hFZ] at Z1 Z2
    rw [← hF] at HRT
    rw [← hFZ]
    have HZ1 := hid Z1
    have HZ2 := hid Z2
    have HH := hid h
    obtain ⟨LS, ok⟩ := F
    clear h h1 h2 hb hF hFZ Z1 Z2 hM1 hM9
    go_enter Try.func5, Try.ntmps5
    go_wp2_with fail
    refine via (s_code _ _ _ _) ?_
    rw [HH.out]; intro uu zz; try simp at zz
    go_wp2_with fail
    refine viaI (g := fun v => .tuple #[v, .bool ok]) (HRT.out _ _ (rd_three _ _ _ _ rfl)) ?_
    intro v7 u7 z7 o7
    have O7 := hid o7
    clear o7
    try simp at z7
    cases ok with
    | false =>
      have HF := hid (HZ2.out rfl)
      go_wp2_with fail
      go_ret2
      exact ⟨_, by rw [HF.out]; rfl, by rw [HF.out]; exact ownR.nil _ _, (by refine Ext.bel ?_; repeat (with_reducible first | exact Ext.refl _ | apply Ext.alloc | apply Ext.aft | apply Ext.drew | apply Ext.drewN | apply Ext.setCell | exact Nat.le_add_right _ _ | exact Nat.le_refl _ | (simp; done) | omega))⟩
    | true =>
      have HF := hid (HZ1.out rfl).1
      have hl60 := (HZ1.out rfl).2
      (try dsimp only at hl60)
      go_wp2_with fail
      refine viaI (g := id) (s_sorted _ LS _ O7.out.rd (by omega)) ?_
      intro v8 u8 z8 o8
      try simp at z8
      have O8 := hid o8
      clear o8
      go_wp2_with fail
      go_ret2
      exact ⟨_, by rw [HF.out]; rfl, by rw [HF.out]; exact O8.out.mono (by first | omega | (simp; done) | (simp; omega)), (by refine Ext.bel ?_; repeat (with_reducible first | exact Ext.refl _ | apply Ext.alloc | apply Ext.aft | apply Ext.drew | apply Ext.drewN | apply Ext.setCell | exact Nat.le_add_right _ _ | exact Nat.le_refl _ | (simp; done) | omega))⟩
set_option maxRecDepth 20000 in
set_option maxHeartbeats 8000000 in
theorem i_SquareRootsOf (p n a : Int) (w : World) :
    Calls Try.prog 7 #[(.agg #[.int .i64 p, .int .i64 n]), .int .i64 a] w fun e w' => ∃ v, e = .returned (.tuple #[v, .int .i64 (sqRF p n a).2]) ∧ ownR w.heap.size w' v (sqRF p n a).1 ∧ Below w.heap.size w w' := by
  cases hr : ringB p n
  · have e : (sqRF p n a) = ([], 1) := by
      have : codeF p n a = 1 := by unfold codeF; simp [hr]
      unfold sqRF; rw [this]; rfl
    rw [e]; clear e
    go_enter Try.func7, Try.ntmps7
    go_wp2_with fail
    refine via (i_IsRing _ _ _) ?_
    rw [hr]; intro uu zz; try simp at zz
    go_wp2_with fail
    go_ret2
    exact ⟨_, rfl, ownR.nil _ _, (by refine Ext.bel ?_; repeat (with_reducible first | exact Ext.refl _ | apply Ext.alloc | apply Ext.aft | apply Ext.drew | apply Ext.drewN | apply Ext.setCell | exact Nat.le_add_right _ _ | exact Nat.le_refl _ | (simp; done) | omega))⟩
  · cases hi : inB a 0 (p ^ n.toNat - 1)
    · have e : (sqRF p n a) = ([], 2) := by
        have : codeF p n a = 2 := by unfold codeF; simp [hr, hi]
        unfold sqRF; rw [this]; rfl
      rw [e]; clear e
      have HR := hid hr
      have HI := hid hi
      clear hr hi
      go_enter Try.func7, Try.ntmps7
      go_wp2_with fail
      refine via (i_IsRing _ _ _) ?_
      rw [HR.out]; intro uu zz; try simp at zz
      go_wp2_with fail
      refine via (i_has _ _ _ _ HR.out) ?_
      rw [HI.out]; intro u2 z2; try simp at z2
      go_wp2_with fail
      go_ret2
      exact ⟨_, rfl, ownR.nil _ _, (by refine Ext.bel ?_; repeat (with_reducible first | exact Ext.refl _ | apply Ext.alloc | apply Ext.aft | apply Ext.drew | apply Ext.drewN | apply Ext.setCell | exact Nat.le_add_right _ _ | exact Nat.le_refl _ | (simp; done) | omega))⟩
    · have hb := inB_iff.1 hi
      obtain ⟨hp, hn, hM1, hM9⟩ := ring_facts hr
      have e : (sqRF p n a) = rootsZ p n.toNat [-a, 0, 1] := by
        have : codeF p n a = 0 := by unfold codeF; simp [hr, hi]
        unfold sqRF; rw [if_pos this]
      rw [e]; clear e
      have ha9 : 0 ≤ a ∧ a ≤ 1000000000 := by omega
      have hneg : IntKind.i64.wrap (-a) = -a := IntWalk.i64_in _ (by omega)
      have HRT := hid (fun (r : Value) (W : World) (hW : rdI W r [-a, 0, 1]) => i_rootsIn p n (p ^ n.toNat) n.toNat r [-a, 0, 1] W hW (by simp) hr hp ⟨by omega, by omega, by omega⟩ rfl hM9)
      obtain ⟨FZ, hFZ⟩ : ∃ FZ, FZ = rootsZ p n.toNat [-a, 0, 1] := ⟨_, rfl⟩
      rw [← hFZ] at HRT ⊢
      have HR := hid hr
      have HI := hid hi
      clear hr hi hb hFZ hM1 hM9
      go_enter Try.func7, Try.ntmps7
      go_wp2_with fail
      refine via (i_IsRing _ _ _) ?_
      rw [HR.out]; intro uu zz; try simp at zz
      go_wp2_with fail
      refine via (i_has _ _ _ _ HR.out) ?_
      rw [HI.out]; intro u2 z2; try simp at z2
      go_wp2_with fail
      refine viaI (g := fun v => .tuple #[v, .int .i64 FZ.2]) (HRT.out _ _ (rd_three _ _ _ _ rfl)) ?_
      intro v7 u7 z7 o7
      have O7 := hid o7
      clear o7
      try simp at z7
      go_wp2_with fail
      go_ret2
      exact ⟨_, rfl, O7.out.mono (by first | omega | (simp; done) | (simp; omega)), (by refine Ext.bel ?_; repeat (with_reducible first | exact Ext.refl _ | apply Ext.alloc | apply Ext.aft | apply Ext.drew | apply Ext.drewN | apply Ext.setCell | exact Nat.le_add_right _ _ | exact Nat.le_refl _ | (simp; done) | omega))⟩
end Go.Proofs.Ytdhnpmjoajaeiaa
