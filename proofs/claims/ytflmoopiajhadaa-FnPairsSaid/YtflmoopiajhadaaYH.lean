/- All factors, and a factor to its power: the statement's text. -/
import Derived.Test.YtflmoopiajhadaaYG
namespace Go.Proofs.Ytflmoopiajhadaa
open Go Go.RowKit

theorem times_mon {p : Int} {f g : List Int} (hs : smallP p = true) (hf : mon p f) (hg : mon p g) : mon p (timesP p f g) ∧ (timesP p f g).length + 1 = f.length + g.length := by
  have hp := smallP_bd hs
  have hf1 := hf.2.1
  have hg1 := hg.2.1
  have hm := timesP_mod (p := p) (by omega) f g
  have hl := times_len (p := p) (by omega) f g
  have htop : co (timesP p f g) (f.length - 1 + (g.length - 1)) = 1 := by
    rw [co_times]
    have hz : cv (co f) (co g) (f.length - 1 + (g.length - 1)) % p = co f (f.length - 1) * co g (g.length - 1) % p := by
      unfold cv
      rw [sumR_only (p := p) (k := f.length - 1) _ (by omega), show f.length - 1 + (g.length - 1) - (f.length - 1) = g.length - 1 by omega]
      intro i hi hne
      by_cases hij : f.length - 1 < i
      · exact mod_mul0 (dg_list p f i (by omega))
      · exact mod_mul0' (dg_list p g _ (by omega))
    rw [hz, hf.2.2, hg.2.2]
    exact Int.emod_eq_of_lt (by omega) (by omega)
  have h1 := co_ge (f := timesP p f g) (j := f.length - 1 + (g.length - 1)) (by rw [htop]; decide)
  have hlen : (timesP p f g).length = f.length - 1 + (g.length - 1) + 1 := by omega
  exact ⟨⟨hm, by omega, by rw [hlen]; exact htop⟩, by omega⟩

set_option maxRecDepth 20000 in
set_option maxHeartbeats 4000000 in
theorem s_all (p : Int) (hs : smallP p = true) (r : Value) (f : List Int) (w : World) (h : rdI w r f) (hf : isMod p f) (hl : 2 ≤ f.length) (hlf : f.length ≤ 9) :
    Calls Try.prog 28 #[.int .i64 p, r] w fun e w' => ∃ v qs, e = .returned v ∧ ownF 0 w' v qs ∧ ((∀ x ∈ qs, okF p w' x) ∧ 1 ≤ qs.length ∧ qs.length ≤ 150) ∧ Below w.heap.size w w' := by
  obtain ⟨k1, k2, _, _⟩ := times_one_len hs hf (by omega)
  have HM := hid (s_monic p r f w h hs hf.1 hlf)
  have HK := hid k1
  have K2 := hid k2
  have hml : 2 ≤ (monicP p f).length := by omega
  clear h hf k1 k2
  go_enter Try.func28, Try.ntmps28
  go_wp2_with fail
  refine viaI (g := id) HM.out ?_
  intro mv u1 z1 own1
  obtain ⟨ma, mc, rfl⟩ := own_len own1
  have HO := hid (own1.mono (Nat.zero_le _))
  clear own1 HM
  obtain ⟨W1, hW1⟩ : ∃ X, X = aft w u1 := ⟨_, rfl⟩
  have HE : Hid (Ext w.heap.size w W1) := hid (by rw [hW1]; exact (Ext.refl w).aft _)
  rw [← hW1] at HO ⊢
  clear hW1 z1
  have HF0 : Hid (ownF 0 (W1.alloc (Obj.cells #[] 54)) (.slice (some ⟨W1.heap.size, 0, none⟩) 0 0) []) := hid ⟨World.ownsRow_made W1 #[] 0 (Nat.zero_le _) (by simp [maxLen]) (by simp), _, _, rfl⟩
  have HFA := hid (s_factor p hs (monicP p f).length _ (monicP p f) 1 _ [] (W1.alloc (Obj.cells #[] 54)) (Nat.le_refl _) (HO.out.alloc _) HK.out (by rw [K2.out]; exact hlf) (by decide) (by decide) (by rw [K2.out]; omega) HF0.out (by intro x hx; cases hx) (by rw [K2.out, List.length_nil]; omega))
  go_wp2_with fail
  refine viaFz (φ := fun w' qs => (∀ x ∈ qs, okF p w' x) ∧ (2 ≤ (monicP p f).length ∨ 1 ≤ ([] : List (Value × Int)).length → 1 ≤ qs.length) ∧ qs.length ≤ 150) HFA.out ?_
  intro v qs u2 z2 own2 hφ
  obtain ⟨q1, q2, q3⟩ := hφ
  have HQ1 := hid q1
  have hq2 := q2 (.inl hml)
  have HO2 := hid own2
  have hEx : Hid (Ext w.heap.size w (aft (W1.alloc (Obj.cells #[] 54)) u2)) := hid ((HE.out.alloc _).aft _)
  clear q1 q2 own2 HFA
  go_wp2_with fail
  go_ret
  exact ⟨_, qs, rfl, HO2.out, ⟨HQ1.out, hq2, q3⟩, hEx.out.1⟩

theorem mon_one {p : Int} (hp : 2 ≤ p) : mon p [1] := ⟨isMod_one hp, by simp, rfl⟩
theorem own_1 {B : Nat} (w : World) (k : Nat) (hk : k = w.heap.size) (hB : B ≤ k) : ownR B (w.alloc (.cells #[.int .i64 1] 2)) (.slice (some ⟨k, 0, none⟩) 1 1) [1] := by
  subst hk
  exact ⟨by simp [vI], .inr ⟨w.heap.size, 1, #[.int .i64 1], rfl, hB, heap_alloc_new w _, by decide, by simp [maxLen], rfl, by simp [vI]⟩⟩
theorem len_step {a b k d T : Nat} (h : a + 1 = b + (d + 1)) (hb : b = k * d + 1) (hk : k + 1 ≤ T) (hT : T * d ≤ 8) : a = (k + 1) * d + 1 ∧ a ≤ 9 := by
  have h1 : (k + 1) * d = k * d + d := Nat.succ_mul k d
  have h2 : (k + 1) * d ≤ T * d := Nat.mul_le_mul_right d hk
  omega

set_option maxRecDepth 20000 in
set_option maxHeartbeats 8000000 in
theorem s_power12 (p : Int) (hs : smallP p = true) (e : Value) (t : Int) (w : World) (h : okF p w (e, t)) :
    Calls Try.prog 30 #[.int .i64 p, .agg #[e, .int .i64 t]] w fun e w' => ∃ v xs, e = .returned v ∧ ownR w.heap.size w' v xs ∧ (mon p xs ∧ xs.length ≤ 9) ∧ Below w.heap.size w w' := by
  obtain ⟨xs, h1, h2, h3, h4, h5, h6⟩ := h
  simp only at h1 h5 h6
  have hp := smallP_bd hs
  obtain ⟨d, hd⟩ : ∃ d, xs.length = d + 1 := ⟨xs.length - 1, by omega⟩
  obtain ⟨T, rfl⟩ : ∃ T : Nat, t = (T : Int) := ⟨t.toNat, by omega⟩
  have hTd : T * d ≤ 8 := by
    have h7 : (T : Int) * (d : Int) ≤ 8 := by rw [hd, show ((d + 1 : Nat) : Int) - 1 = (d : Int) by omega] at h6; exact h6
    rw [← Int.natCast_mul] at h7
    omega
  have hT8 : T ≤ 8 := by
    have := Nat.mul_le_mul_left T (show 1 ≤ d by omega)
    omega
  obtain ⟨xa, xc, rfl⟩ := own_len h1
  obtain ⟨X, hX⟩ : ∃ X, X = xs.length := ⟨_, rfl⟩
  rw [← hX] at h1 ⊢
  have HX := hid hX
  have Hd := hid hd
  have H1 := hid h1
  have H2 := hid h2
  clear hX h1 h2 h6 h3 hd
  go_enter Try.func30, Try.ntmps30
  go_wp2_with fail
  obtain ⟨W0, hW0⟩ : ∃ W, W = w.alloc (Obj.cells #[Value.slice xa X xc, Value.int .i64 (T : Int)] 54) := ⟨_, rfl⟩
  have hE : Hid (Ext w.heap.size w W0) := hid (by rw [hW0]; exact (Ext.refl w).alloc _)
  have g0 : W0.cell? ⟨w.heap.size, 0, none⟩ = some (.slice xa X xc) := by rw [hW0, alloc_cell, if_pos rfl]; rfl
  have g1 : W0.cell? ⟨w.heap.size, 1, none⟩ = some (.int .i64 (T : Int)) := by rw [hW0, alloc_cell, if_pos rfl]; rfl
  have l0 : W0.heap.size = w.heap.size + 1 := by rw [hW0]; simp
  have H10 : Hid (ownR 0 W0 (.slice xa X xc) xs) := hid (by rw [hW0]; exact H1.out.alloc _)
  have HS0 := hid (own_1 (B := w.heap.size) W0 (w.heap.size + 1) l0.symm (by omega))
  rw [← hW0]
  clear hW0 H1
  go_loopw [5, 6] (fun ov kv wr => ∃ (k : Nat) (R : List Int) (uu : World), wr = aft W0 uu ∧ kv = .int .i64 (k : Int) ∧ k ≤ T ∧ Hid (ownR w.heap.size wr ov R) ∧ Hid (mon p R) ∧ R.length ≤ 9 ∧ Hid (R.length = k * d + 1)) (fun _ kv _ => (20 - intOf kv).toNat)
  case atStart => exact ⟨0, [1], _, (aft_of (Below.alloc (Below.refl _ _) (Nat.le_refl _) _)).symm, rfl, by omega, HS0, hid (mon_one hp.1), by decide, hid (by simp)⟩
  case round =>
    obtain ⟨k, R, uu, rfl, rfl, hk, HO, HM, hR9, HR⟩ := hrel
    have zs := size_aft W0 uu
    have a0 : (aft W0 uu).cell? ⟨w.heap.size, 0, none⟩ = some (.slice xa X xc) := by rw [aft_cell, if_pos (by omega)]; exact g0
    have a1 : (aft W0 uu).cell? ⟨w.heap.size, 1, none⟩ = some (.int .i64 (T : Int)) := by rw [aft_cell, if_pos (by omega)]; exact g1
    have hEx : Hid (Ext w.heap.size w (aft W0 uu)) := hid (hE.out.aft _)
    by_cases hkT : k < T
    case neg =>
      have hdk : decide ((k : Int) < (T : Int)) = false := by simp; omega
      go_wp2_with fail
      go_ret
      exact ⟨_, R, rfl, HO.out, ⟨HM.out, hR9⟩, hEx.out.1⟩
    have hdk : decide ((k : Int) < (T : Int)) = true := by simp; omega
    have HN := hid (times_mon hs HM.out H2.out)
    go_wp2_with fail
    refine viaI (g := id) (s_times p _ _ R xs _ HO.out.rd ((H10.out.aft _).rd) hp HM.out.1.1 H2.out.1.1 (by omega) (by have := Hd.out; omega)) ?_
    intro v1 u1 z1 own1
    have HO1 := hid (own1.mono (show w.heap.size ≤ _ by omega))
    have hE1 : Hid (Ext w.heap.size w (aft (aft W0 uu) u1)) := hid (hEx.out.aft _)
    clear own1
    go_wp2_with fail
    go_roundw
    case rel =>
      have hst := len_step (k := k) (T := T) (by have h := HN.out.2; rw [Hd.out] at h; exact h) HR.out (by omega) hTd
      exact ⟨k + 1, timesP p R xs, _, (aft_of (((Ext.refl W0).aft uu).aft u1).1).symm, by go_num, by omega, HO1, hid HN.out.1, hst.2, hid hst.1⟩
    · simp only [intOf]; omega
end Go.Proofs.Ytflmoopiajhadaa
