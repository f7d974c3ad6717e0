/- The order of a unit: the program's text walked. -/
import Derived.Test.YtehdkbopkkgabaaT36
namespace Go.Proofs.Ytehdkbopkkgabaa
open Go Go.RowKit

theorem viaPw {P : Program} {f : FuncId} {args : Array Value} {w : World} {xs : List (Int × Int)} {R : Ending → World → Prop}
    (h : Calls P f args w fun e w' => ∃ v, e = .returned v ∧ ownP w.heap.size w' v xs ∧ Below w.heap.size w w')
    (hR : ∀ v u, w.heap.size ≤ (aft w u).heap.size → ownP w.heap.size (aft w u) v xs → R (.returned v) (aft w u)) : Calls P f args w R :=
  h.mono fun e w' ⟨v, he, ho, hb⟩ => by subst he; obtain ⟨u, rfl⟩ := aft_ex hb; exact hR v u (size_aft w u) ho
theorem ownP.rd {B : Nat} {w : World} {v : Value} {xs : List (Int × Int)} (h : ownP B w v xs) : ∃ a cap, v = .slice a xs.length cap ∧ xs.length ≤ maxLen ∧ (xs ≠ [] → ∃ b, a = some ⟨b, 0, none⟩ ∧ b < w.heap.size ∧ ∀ i, (h : i < xs.length) → w.cell? ⟨b, 2 * i, none⟩ = some (.int .i64 xs[i].1) ∧ w.cell? ⟨b, 2 * i + 1, none⟩ = some (.int .i64 xs[i].2)) := by
  rcases h.2 with ⟨rfl, hn⟩ | ⟨g, cap, cur, rfl, hg, hh, h1, h2, h3⟩
  · have : xs = [] := List.eq_nil_of_length_eq_zero hn
    subst this
    exact ⟨none, 0, rfl, by simp [maxLen], fun h => absurd rfl h⟩
  · refine ⟨_, cap, rfl, by omega, fun _ => ⟨g, rfl, (Array.getElem?_eq_some_iff.1 hh).1, fun i hi => ?_⟩⟩
    obtain ⟨e1, e2⟩ := vP_at xs i hi
    have c1 := World.ownsRow.cells h (g := g) rfl (2 * i) _ e1
    have c2 := World.ownsRow.cells h (g := g) rfl (2 * i + 1) _ e2
    constructor
    · by_cases h0 : 2 * i = 0
      · rw [h0] at c1 ⊢; simpa [Addr.add] using c1
      · simpa [Addr.add, h0] using c1
    · simpa [Addr.add] using c2

set_option maxRecDepth 20000 in
set_option maxHeartbeats 8000000 in
theorem i_order (p n a : Int) (w : World) (h : ringB p n = true) (ha : 0 ≤ a ∧ a ≤ 1000000000) :
    Calls Try.prog 82 #[(.agg #[.int .i64 p, .int .i64 n]), .int .i64 a] w fun x w' => x = .returned (.int .i64 (ordI a (p ^ n.toNat) (facI (3 * (p ^ n.toNat - p ^ (n.toNat - 1)).toNat + 300) (p ^ n.toNat - p ^ (n.toNat - 1)) 2) (p ^ n.toNat - p ^ (n.toNat - 1)))) ∧ Below w.heap.size w w' := by
  obtain ⟨r1, r2, r3, r4, r5, r6, r7⟩ := ring_facts2 h
  have HM : Hid (∀ W : World, Calls Try.prog 111 #[(.agg #[.int .i64 p, .int .i64 n])] W fun e w' => e = .returned (.int .i64 (p ^ n.toNat)) ∧ Below W.heap.size W w') := hid fun W => i_modulus p n W h
  have HU : Hid (∀ W : World, Calls Try.prog 142 #[(.agg #[.int .i64 p, .int .i64 n])] W fun e w' => e = .returned (.int .i64 (p ^ n.toNat - p ^ (n.toNat - 1))) ∧ Below W.heap.size W w') := hid fun W => i_units p n W h
  have q3 := Int.mul_le_mul_of_nonneg_left (show (2 : Int) ≤ p by omega) (show 0 ≤ p ^ (n.toNat - 1) by omega)
  obtain ⟨u, hu⟩ : ∃ u, u = p ^ n.toNat - p ^ (n.toNat - 1) := ⟨_, rfl⟩
  have hu1 : 1 ≤ u ∧ u ≤ 1000000000 := by omega
  rw [← hu] at HU ⊢
  obtain ⟨M, hM⟩ : ∃ M, M = p ^ n.toNat := ⟨_, rfl⟩
  rw [← hM] at HM r3 r4 ⊢
  have HF : Hid (∀ W : World, Calls Try.prog 131 #[.int .i64 u] W fun e w' => ∃ r, e = .returned r ∧ ownP W.heap.size w' r (facI (3 * u.toNat + 300) u 2) ∧ Below W.heap.size W w') := hid fun W => i_factors u W hu1
  have hmem := facI_mem (3 * u.toNat + 300) u 2 (by omega) (by omega) hu1.1 hu1.2
  obtain ⟨xs, hxs⟩ : ∃ xs, xs = facI (3 * u.toNat + 300) u 2 := ⟨_, rfl⟩
  rw [← hxs] at HF hmem ⊢
  obtain ⟨R, hR⟩ : ∃ R, R = ordI a M xs u := ⟨_, rfl⟩
  rw [← hR]
  have HR := hid hR.symm
  have HX := hid hmem
  clear hu hM hxs hR r5 r6 r7 q3 h hmem
  go_enter Try.func82, Try.ntmps82
  go_wp2_with fail
  refine via (HU.out _) ?_
  intro v1 y1
  (try simp at y1)
  go_wp2_with fail
  refine via (HU.out _) ?_
  intro v2 y2
  (try simp at y2)
  go_wp2_with fail
  refine viaPw (HF.out _) ?_
  intro v u3 z3 hown
  (try simp at z3)
  obtain ⟨sa, cap, rfl, hlen, hcells⟩ := hown.rd
  unfold maxLen at hlen
  have HC := hid hcells
  clear hcells hown
  go_wp2_with fail
  obtain ⟨W0, hW0⟩ : ∃ X, X = aft (aft (aft (w.alloc (Obj.cells #[Value.int IntKind.i64 p, Value.int IntKind.i64 n] 36)) v1) v2) u3 := ⟨_, rfl⟩
  have c0 : ∀ o, W0.cell? ⟨w.heap.size, o, none⟩ = #[Value.int IntKind.i64 p, Value.int IntKind.i64 n][o]? := fun o => by rw [hW0, aft_cell, if_pos (by omega), aft_cell, if_pos (by omega), aft_cell, if_pos (by simp), alloc_cell, if_pos rfl]
  have hG : Hid (Ext w.heap.size w W0) := hid (by rw [hW0]; exact ((((Ext.refl w).alloc _).aft _).aft _).aft _)
  have l0 : w.heap.size < W0.heap.size := by rw [hW0]; omega
  rw [← hW0] at HC ⊢
  clear hW0 y1 y2 z3
  go_loopw [5, 14] (fun e i wr => ∃ (ix : Nat) (ev : Int) (uu : World), wr = aft W0 uu ∧ ix ≤ xs.length ∧ i = .int .i64 ix ∧ e = .int .i64 ev ∧ (0 ≤ ev ∧ ev ≤ 1000000000) ∧ ordI a M (xs.drop ix) ev = R) (fun _ i _ => xs.length - (intOf i).toNat)
  case atStart => exact ⟨0, u, W0, (aft_of (Below.refl _ _)).symm, by omega, rfl, rfl, by omega, by rw [List.drop_zero]; exact HR.out⟩
  case round =>
    obtain ⟨ix, ev, uu, rfl, hix, rfl, rfl, hev, hR⟩ := hrel
    have zs := size_aft W0 uu
    by_cases hlt : ix < xs.length
    case neg =>
      have e1 : ix = xs.length := by omega
      rw [e1, List.drop_length] at hR
      have hd : decide ((ix : Int) < (xs.length : Int)) = false := by simp; omega
      have HR2 := hid hR
      clear hR hlt
      go_wp2_with fail
      go_ret
      exact ⟨by rw [← HR2.out]; rfl, Ext.bel (hG.out.aft _)⟩
    have hd : decide ((ix : Int) < (xs.length : Int)) = true := by simp; omega
    obtain ⟨b, hsa, hbl, hcell⟩ := HC.out (by intro e; rw [e] at hlt; simp at hlt)
    subst hsa
    obtain ⟨c1, c2⟩ := hcell ix hlt
    rw [Nat.mul_comm 2 ix] at c1 c2
    rw [List.drop_eq_getElem_cons hlt] at hR
    have hx := HX.out xs[ix] (List.getElem_mem hlt)
    obtain ⟨⟨q, k⟩, hqk⟩ : ∃ z, z = xs[ix] := ⟨_, rfl⟩
    rw [← hqk] at c1 c2 hR hx
    simp only at c1 c2 hx
    obtain ⟨S, hS⟩ : ∃ S, S = stripK a M q k.toNat ev := ⟨_, rfl⟩
    have hSb := @strip_bd a M q hx.1.1 k.toNat ev hev.1
    rw [← hS] at hSb
    have HR2 : Hid (ordI a M (xs.drop (ix + 1)) S = R) := hid (by rw [hS]; exact hR)
    have HS := hid hS.symm
    have hi0 : (0 : Int) ≤ (ix : Int) := by omega
    clear hR hqk hcell hS
    go_wp2_with fail
    obtain ⟨kx, hkx⟩ : ∃ y, y = (aft W0 uu).heap.size := ⟨_, rfl⟩
    obtain ⟨W1, hW1⟩ : ∃ X, X = (aft W0 uu).alloc (Obj.cells #[Value.int IntKind.i64 q, Value.int IntKind.i64 k] 112) := ⟨_, rfl⟩
    have d0 : ∀ o, W1.cell? ⟨w.heap.size, o, none⟩ = #[Value.int IntKind.i64 p, Value.int IntKind.i64 n][o]? := fun o => by rw [hW1, alloc_cell, if_neg (by omega), aft_cell, if_pos (by omega)]; exact c0 o
    have d1 : ∀ o, W1.cell? ⟨kx, o, none⟩ = #[Value.int IntKind.i64 q, Value.int IntKind.i64 k][o]? := fun o => by rw [hW1, alloc_cell, if_pos hkx]
    have l1 : kx < W1.heap.size := by rw [hW1]; simp; omega
    have l2 : w.heap.size < W1.heap.size := by omega
    have hE1 : Hid (Ext W0.heap.size W0 W1) := hid (by rw [hW1]; exact ((Ext.refl W0).aft _).alloc _)
    rw [← hW1, ← hkx]
    clear hW1 hkx c1 c2
    go_loopw [5, 20] (fun e j wr => ∃ (jv : Nat) (ew : Int) (u2 : World), wr = aft W1 u2 ∧ e = .int .i64 ew ∧ j = .int .i64 jv ∧ (jv : Int) ≤ k ∧ (0 ≤ ew ∧ ew ≤ 1000000000) ∧ stripK a M q (k.toNat - jv) ew = S) (fun _ j _ => (k - intOf j).toNat)
    case atStart => exact ⟨0, ev, W1, (aft_of (Below.refl _ _)).symm, rfl, rfl, by omega, hev, by rw [Nat.sub_zero]; exact HS.out⟩
    case round =>
      obtain ⟨jv, ew, u2, rfl, rfl, rfl, hjv, hew, hst⟩ := hrel
      have zs2 := size_aft W1 u2
      by_cases hj : (jv : Int) < k
      case neg =>
        have hjd : decide ((jv : Int) < k) = false := by simpa using hj
        have e1 : k.toNat - jv = 0 := by omega
        rw [e1] at hst
        have hst2 : ew = S := hst
        clear hst hj
        subst hst2
        go_wp2_with fail
        exact ⟨⟨ix + 1, ew, aft W1 u2, (aft_of (hE1.out.aft u2).1).symm, by omega, by go_num, rfl, by omega, HR2.out⟩, by simp only [intOf]; omega⟩
      have hjd : decide ((jv : Int) < k) = true := by simpa using hj
      have e1 : k.toNat - jv = (k.toNat - (jv + 1)) + 1 := by omega
      rw [e1] at hst
      have q0 : (q == 0) = false := by rw [beq_eq_false_iff_ne]; omega
      have q1 : q ≠ 0 := by omega
      have ht : ew.tdiv q = ew / q := Int.tdiv_eq_ediv_of_nonneg hew.1
      have hq0 : 0 ≤ ew / q := Int.ediv_nonneg hew.1 (by omega)
      have hq2 : ew / q ≤ ew := Int.ediv_le_self _ hew.1
      have HP : Hid (∀ W : World, Calls Try.prog 143 #[.int .i64 a, .int .i64 (ew / q), .int .i64 M] W fun x w' => x = .returned (.int .i64 (powF a (ew / q) M)) ∧ W = w') := hid fun W => i_pow a (ew / q) M W ha (by omega) ⟨r3, r4⟩
      by_cases hp1 : powF a (ew / q) M = 1
      · have hst2 : stripK a M q (k.toNat - (jv + 1)) (ew / q) = S := by
          unfold stripK at hst
          rw [if_pos hp1] at hst
          exact hst
        have HST := hid hst2
        rw [hp1] at HP
        clear hst hst2 hp1
        go_wp2_with fail
        refine wp_region_calm (by kernel_rfl) (by kernel_rfl) ?_
        repeat (go_big_quiet_step (first | (go_at_call 111; exact calm (HM.out _)) | (go_at_call 143; exact calmp (HP.out _))))
        refine wpQuiet_nil ?_; intro uq zq; try simp at zq
        go_wp2_with fail
        exact ⟨⟨jv + 1, ew / q, aft (aft W1 u2) uq, (aft_of ((below_aft W1 u2).trans ((below_aft _ uq).mono zs2))).symm, rfl, by go_num, by omega, by omega, HST.out⟩, by simp only [intOf]; omega⟩
      · have hst2 : stripK a M q (k.toNat - (jv + 1)) ew = S := by
          rw [strip_stay hp1] at hst ⊢
          exact hst
        have HST := hid hst2
        have hp2 : (powF a (ew / q) M == 1) = false := by simpa using hp1
        obtain ⟨g, hg⟩ : ∃ g, g = powF a (ew / q) M := ⟨_, rfl⟩
        rw [← hg] at HP hp2
        clear hst hst2 hp1 hg
        go_wp2_with fail
        refine wp_region_calm (by kernel_rfl) (by kernel_rfl) ?_
        repeat (go_big_quiet_step (first | (go_at_call 111; exact calm (HM.out _)) | (go_at_call 143; exact calmp (HP.out _))))
        refine wpQuiet_nil ?_; intro uq zq; try simp at zq
        go_wp2_with fail
        exact ⟨⟨jv + 1, ew, aft (aft W1 u2) uq, (aft_of ((below_aft W1 u2).trans ((below_aft _ uq).mono zs2))).symm, rfl, by go_num, by omega, by omega, HST.out⟩, by simp only [intOf]; omega⟩
end Go.Proofs.Ytehdkbopkkgabaa
