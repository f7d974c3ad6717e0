/- The permutation with a rank: both texts. -/
import Derived.Test.YtbkbcbanfnhjpaaN7
import Derived.Deep.RegionWith
namespace Go.Proofs.Ytbkbcbanfnhjpaa
open Go Go.RowKit

theorem i_factE (n : Nat) (x : Int) (w : World) (hx : x = n) (hn : n ≤ 6) :
    Calls Try.prog 90 #[.int .i64 x] w fun e w' => e = .returned (.int .i64 (facN n)) ∧ w = w' := by subst hx; exact i_fact n w hn
theorem s_factE (n : Nat) (x : Int) (w : World) (hx : x = n) (hn : n ≤ 6) :
    Calls Try.prog 84 #[.int .i64 x] w fun e w' => e = .returned (.int .i64 (facN n)) ∧ w = w' := by subst hx; exact s_fact n w hn
/-- What a round needs. -/
theorem with_step {j n : Nat} {rr r0 : Int} {left dn : List Int} (h0 : 0 ≤ rr) (h1 : rr < (facN (j + 1) : Int)) (hl : left.length = j + 1) (h : dn ++ withG (j + 1) rr left = withF n r0) :
    ∃ q : Nat, rr / (facN j : Int) = q ∧ q < left.length ∧ 0 ≤ rr % (facN j : Int) ∧ rr % (facN j : Int) < (facN j : Int) ∧ (left.eraseIdx q).length = j ∧ (dn ++ [left.getD q 0]) ++ withG j (rr % (facN j : Int)) (left.eraseIdx q) = withF n r0 := by
  have hf : 0 < (facN j : Int) := by have := facN_pos j; omega
  have hlt : rr < (facN j : Int) * ((j : Int) + 1) := by
    have e : (facN (j + 1) : Int) = ((j + 1 : Nat) : Int) * (facN j : Int) := by rw [← Int.natCast_mul]; rfl
    rw [e] at h1
    rw [Int.mul_comm]; exact h1
  have q0 := Int.ediv_nonneg h0 (show 0 ≤ (facN j : Int) by omega)
  have q1 : rr / (facN j : Int) < (j : Int) + 1 := Int.ediv_lt_of_lt_mul hf (by rw [Int.mul_comm]; exact hlt)
  refine ⟨(rr / (facN j : Int)).toNat, by omega, by omega, Int.emod_nonneg _ (by omega), Int.emod_lt_of_pos _ hf, by rw [List.length_eraseIdx_of_lt (by omega)]; omega, ?_⟩
  rw [← h, List.append_assoc]
  rfl
theorem own_ne {B L : Nat} {w w' : World} {v o : Value} {xs : List Int} (h : ownR B w v xs) (hl : rowLt L v) (ho : ∀ k, o.ownBlock = some k → L ≤ k) (hg : w.grownBy w' o.ownBlock) : ownR B w' v xs :=
  h.kept fun k hk hb => hg.block k hk fun e => by have := hl k hb; have := ho k e.symm; omega
theorem own_ne2 {B L : Nat} {w w' : World} {v o : Value} {xs : List Int} (h : ownR L w v xs) (hl : rowLt L o) (hg : w.grownBy w' o.ownBlock) (_ : B ≤ L) : ownR L w' v xs :=
  h.kept fun k hk hb => hg.block k hk fun e => by have := hl k e.symm; have := own_row_ge h k hb; omega
theorem own_cell {B g cap n : Nat} {w : World} {xs : List Int} (h : ownR B w (.slice (some ⟨g, 0, none⟩) n cap) xs) {q : Nat} (hq : q < xs.length) : w.cell? ⟨g, q, none⟩ = some (.int .i64 (xs.getD q 0)) := by
  have hn : n = xs.length := by
    rcases h.2 with ⟨e, h1⟩ | ⟨g', c, cur, e, _⟩
    · cases e
    · cases e; rfl
  subst hn
  rw [World.ownsRow.cellAt h q (by omega)]
  simp [vI, hq, List.getD]

set_option maxRecDepth 20000 in
set_option maxHeartbeats 8000000 in
theorem i_with (n : Nat) (r0 : Int) (w : World) (hn : n ≤ 6) (hr0 : 0 ≤ r0) (hr1 : r0 < (facN n : Int)) :
    Calls Try.prog 128 #[.int .i64 n, .int .i64 r0] w fun e w' => ∃ v, e = .returned v ∧ ownR w.heap.size w' v (withF n r0) ∧ Below w.heap.size w w' := by
  obtain ⟨i0, hi, hz0, hz1, hz2⟩ := info_parts infoI
  go_enter Try.func128, Try.ntmps128
  go_wp2_with fail
  refine viaI (g := id) (i_id n _ hn) ?_
  intro l0 u0 z0 ownl
  try simp at z0
  obtain ⟨W1, hW1⟩ : ∃ W1, W1 = aft w u0 := ⟨_, rfl⟩
  rw [← hW1] at ownl z0 ⊢
  have HB : Hid (Below w.heap.size w W1) := hid (by rw [hW1]; exact below_aft _ _)
  have HL : Hid (ownR w.heap.size W1 l0 (idP n) ∧ rowLt W1.heap.size l0) := hid ⟨ownl, ownl.rowLt⟩
  clear hW1 ownl
  go_wp2_with fail
  go_loopw [6, 5, 7, 1] (fun o l k r wr => ∃ (m : Nat) (rr : Int) (left dn : List Int), m ≤ n ∧ k = .int .i64 m ∧ r = .int .i64 rr ∧ 0 ≤ rr ∧ rr < (facN m : Int) ∧ left.length = m ∧ W1.heap.size ≤ wr.heap.size ∧ dn.length + m = n ∧ Hid (dn ++ withG m rr left = withF n r0) ∧ Hid (ownR w.heap.size wr l left ∧ rowLt W1.heap.size l) ∧ Hid (ownR W1.heap.size wr o dn) ∧ Hid (Below w.heap.size w wr)) (fun _ _ k _ _ => (intOf k).toNat)
  case atStart => exact ⟨n, r0, idP n, [], by omega, rfl, rfl, hr0, hr1, idP_len n, Nat.le_refl _, by simp, hid rfl, HL, hid (ownR.nil _ _), HB⟩
  case round =>
    obtain ⟨m, rr, left, dn, hm, rfl, rfl, h0, h1, hl, hsz, hdn, HW, HL, HO, HB⟩ := hrel
    cases m with
    | zero =>
      have E := hid (show dn = withF n r0 by have := HW.out; simpa [withG] using this)
      have hz : ¬ (0 : Int) < 0 := by omega
      go_wp2_with fail
      go_ret
      exact ⟨_, rfl, by rw [← E.out]; exact HO.out.mono z0, HB.out⟩
    | succ j =>
      obtain ⟨q, hqe, hq, hr2, hr3, hel, hst⟩ := with_step h0 h1 hl HW.out
      have hf := facN_pos j
      have hf7 := facN_le (show j ≤ 6 by omega)
      have hqt : rr.tdiv (facN j : Int) = q := by rw [Int.tdiv_eq_ediv_of_nonneg h0]; exact hqe
      have hq6 : (q : Int) ≤ 6 := by omega
      clear hqe
      obtain ⟨g, cap, rfl, hgl, hlc, hcm⟩ := own_some HL.out.1 (by intro e; subst e; simp at hl)
      rw [hl] at HL ⊢
      have hc := own_cell HL.out.1 hq
      obtain ⟨x, hx⟩ : ∃ x, x = left.getD q 0 := ⟨_, rfl⟩
      rw [← hx] at hc hst
      obtain ⟨r2, hr2e⟩ : ∃ r2, rr % (facN j : Int) = r2 := ⟨_, rfl⟩
      rw [hr2e] at hr2 hr3 hst
      have HS := hid hst
      have HE := hid hel
      have hkz : (0 : Int) < ((j + 1 : Nat) : Int) := by omega
      have hf0 : ((facN j : Int) == 0) = false := by simp; omega
      have hown := HO.out
      have hql : (q : Int) < left.length := by omega
      clear hx hst hel HW
      go_wp2_with (first | (go_at_call 90; refine pur (i_factE j _ _ (by omega) (by omega)) ?_) | (at_builtin; refine wpList_append_own _ rfl _ _ 24 rfl (W1.heap.size) 2 i0 (.int .i64 0) 1 8 Try.underlying24 hi hz0 hz1 hz2 rfl (by decide) _ _ _ rfl (hown.alloc _) ⟨_, 0, none⟩ 1 1 [.int .i64 (x)] rfl rfl ?c1 ?c2 ?c3 ?c4 ?c5 ?_))
      try case c1 => exact cell_one_new _ _ _
      case c2 => first | rfl | (intro u hu; simp at hu; subst hu; rfl)
      case c3 => first | (unfold maxLen; omega) | (simp; unfold maxLen; omega)
      case c4 => first | omega | (simp; omega)
      case c5 => first | omega | (simp; omega)
      intro v' w1 hown' hgrow _
      have HL1 : Hid (ownR w.heap.size w1 (.slice (some ⟨g, 0, none⟩) (j + 1) cap) left) := hid (own_ne (HL.out.1.alloc _) HL.out.2 (own_row_ge hown) hgrow)
      have HB1 : Hid (Below w.heap.size w w1) := hid ((HB.out.alloc HB.out.size _).grown hgrow (by simp; omega) (fun k hk => Nat.le_trans z0 (own_row_ge hown k hk)))
      have hs1 : W1.heap.size ≤ w1.heap.size := by have := hgrow.size; simp at this; omega
      have HO1 : Hid (ownR W1.heap.size w1 v' (dn ++ [x])) := hid (ownR.snoc hown')
      clear hown' hgrow hown hc
      go_wp2_with fail
      refine (lib_delete HL1.out q hq).mono ?_
      rintro e w2 ⟨l2, rfl, hol, hgr, hob⟩
      have HL2 : Hid (ownR w.heap.size w2 l2 (left.eraseIdx q) ∧ rowLt W1.heap.size l2) := hid ⟨hol, fun k hk => HL.out.2 k (by rw [← hob]; exact hk)⟩
      have HO2 : Hid (ownR W1.heap.size w2 v' (dn ++ [x])) := hid (own_ne2 HO1.out HL.out.2 hgr z0)
      have HB2 : Hid (Below w.heap.size w w2) := hid (HB1.out.grown hgr HB1.out.size (own_row_ge HL1.out))
      have hs2 : W1.heap.size ≤ w2.heap.size := Nat.le_trans hs1 hgr.size
      clear hol hgr hob
      go_wp2_with fail
      go_roundw
      case rel => exact ⟨j, r2, left.eraseIdx q, dn ++ [x], by omega, by go_num, by first | rfl | (simp [hr2e]), hr2, hr3, HE.out, hs2, by simp; omega, HS, HL2, HO2, HB2⟩
      case measure => simp only [intOf]; omega
end Go.Proofs.Ytbkbcbanfnhjpaa
