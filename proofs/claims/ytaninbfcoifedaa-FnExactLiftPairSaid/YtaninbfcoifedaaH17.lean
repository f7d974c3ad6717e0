/- Products, monic polynomials, greatest common divisors by a prime: both texts. -/
import Derived.Test.YtaninbfcoifedaaH16
namespace Go.Proofs.Ytaninbfcoifedaa
open Go Go.RowKit

theorem mod_prods {p : Int} (hp : 2 ≤ p ∧ p ≤ 97) {xs ys : List Int} (h1 : ∀ c ∈ xs, 0 ≤ c ∧ c ≤ p - 1) (h2 : ∀ c ∈ ys, 0 ≤ c ∧ c ≤ p - 1) : ∀ c ∈ xs, ∀ d ∈ ys, 0 ≤ c * d ∧ c * d ≤ 1000000000000000000 :=
  ring_prods (M := p) (by omega) h1 h2

set_option maxHeartbeats 2000000 in
theorem i_times (p : Int) (r1 r2 : Value) (xs ys : List Int) (w : World) (h1 : rdI w r1 xs) (h2 : rdI w r2 ys) (hp : 2 ≤ p ∧ p ≤ 97) (hx : ∀ c ∈ xs, 0 ≤ c ∧ c ≤ p - 1) (hy : ∀ c ∈ ys, 0 ≤ c ∧ c ≤ p - 1) (hl1 : xs.length ≤ 9) (hl2 : ys.length ≤ 1000) :
    Calls Try.prog 47 #[.int .i64 p, r1, r2] w fun e w' => ∃ v, e = .returned v ∧ ownR w.heap.size w' v (timesP p xs ys) ∧ Below w.heap.size w w' := by
  have Hc := hid (mod_prods hp hx hy)
  have hl3 : (prodF xs ys).length ≤ 1000000 := by have := prodF_len xs ys; omega
  have hp1 : 1 ≤ p ∧ p ≤ 1000000000 := by omega
  clear hx hy
  go_enter Try.func47, Try.ntmps47
  go_wp2_with (go_at_call 52; refine viaI (g := id) (i_product _ _ _ _ _ (by repeat (with_reducible first | assumption | apply rdI.aft | apply rdI.alloc | apply rdI.drew | apply rdI.drewN)) (by repeat (with_reducible first | assumption | apply rdI.aft | apply rdI.alloc | apply rdI.drew | apply rdI.drewN)) hl1 hl2 Hc.out) ?_; intro rr ur zr hown; (try simp at zr))
  refine viaI (g := id) (i_reduce _ _ _ _ hown.rd hp1 hl3) ?_
  intro rq uq zq hown2; (try simp at zq)
  go_wp2_with fail
  go_ret
  exact ⟨_, rfl, hown2.mono (by first | omega | (simp; omega)), (by refine Ext.bel ?_; repeat (with_reducible first | exact Ext.refl _ | apply Ext.alloc | apply Ext.aft | apply Ext.drew | apply Ext.drewN | apply Ext.setCell | exact Nat.le_add_right _ _ | exact Nat.le_refl _ | (simp; done) | omega))⟩
set_option maxHeartbeats 2000000 in
theorem s_times (p : Int) (r1 r2 : Value) (xs ys : List Int) (w : World) (h1 : rdI w r1 xs) (h2 : rdI w r2 ys) (hp : 2 ≤ p ∧ p ≤ 97) (hx : ∀ c ∈ xs, 0 ≤ c ∧ c ≤ p - 1) (hy : ∀ c ∈ ys, 0 ≤ c ∧ c ≤ p - 1) (hl1 : xs.length ≤ 9) (hl2 : ys.length ≤ 1000) :
    Calls Try.prog 34 #[.int .i64 p, r1, r2] w fun e w' => ∃ v, e = .returned v ∧ ownR w.heap.size w' v (timesP p xs ys) ∧ Below w.heap.size w w' := by
  have Hc := hid (mod_prods hp hx hy)
  have hl3 : (prodF xs ys).length ≤ 1000000 := by have := prodF_len xs ys; omega
  have hp1 : 1 ≤ p ∧ p ≤ 1000000000 := by omega
  clear hx hy
  go_enter Try.func34, Try.ntmps34
  go_wp2_with (go_at_call 72; refine viaI (g := id) (s_product _ _ _ _ _ (by repeat (with_reducible first | assumption | apply rdI.aft | apply rdI.alloc | apply rdI.drew | apply rdI.drewN)) (by repeat (with_reducible first | assumption | apply rdI.aft | apply rdI.alloc | apply rdI.drew | apply rdI.drewN)) hl1 hl2 Hc.out) ?_; intro rr ur zr hown; (try simp at zr))
  refine viaI (g := id) (s_reduce _ _ _ _ hown.rd hp1 hl3) ?_
  intro rq uq zq hown2; (try simp at zq)
  go_wp2_with fail
  go_ret
  exact ⟨_, rfl, hown2.mono (by first | omega | (simp; omega)), (by refine Ext.bel ?_; repeat (with_reducible first | exact Ext.refl _ | apply Ext.alloc | apply Ext.aft | apply Ext.drew | apply Ext.drewN | apply Ext.setCell | exact Nat.le_add_right _ _ | exact Nat.le_refl _ | (simp; done) | omega))⟩

theorem rd_one (w : World) (a : Int) : rdI (w.alloc (.cells #[.int .i64 a] 2)) (.slice (some ⟨w.heap.size, 0, none⟩) 1 1) [a] := by
  refine ⟨some ⟨w.heap.size, 0, none⟩, 1, rfl, by simp [maxLen], fun _ => ⟨w.heap.size, 0, rfl, fun i hi => ?_⟩⟩
  have h0 : i = 0 := by simp at hi; omega
  subst h0
  simp [go_sem]

set_option maxHeartbeats 2000000 in
theorem i_monic (p : Int) (r : Value) (xs : List Int) (w : World) (h : rdI w r xs) (hs : smallP p = true) (hx : ∀ c ∈ xs, 0 ≤ c ∧ c ≤ p - 1) (hl : xs.length ≤ 9) :
    Calls Try.prog 80 #[.int .i64 p, r] w fun e w' => ∃ v, e = .returned v ∧ ownR w.heap.size w' v (monicP p xs) ∧ Below w.heap.size w w' := by
  have hp := smallP_bd hs
  obtain ⟨a, cap, rfl, _, _⟩ := id h
  by_cases hne : xs = []
  · have e : monicP p xs = [] := by simp [monicP, hne]
    rw [e]; clear e
    subst hne
    simp only [List.length_nil]
    go_enter Try.func80, Try.ntmps80
    go_wp2_with fail
    go_ret
    exact ⟨.slice none 0 0, rfl, ownR.nil _ _, (by refine Ext.bel ?_; repeat (with_reducible first | exact Ext.refl _ | apply Ext.alloc | apply Ext.aft | apply Ext.drew | apply Ext.drewN | apply Ext.setCell | exact Nat.le_add_right _ _ | exact Nat.le_refl _ | (simp; done) | omega))⟩
  obtain ⟨b, o, rfl⟩ := rd_head h hne
  have h1 : 1 ≤ xs.length := by
    rcases Nat.eq_zero_or_pos xs.length with h0 | h0
    · exact absurd (List.eq_nil_of_length_eq_zero h0) hne
    · exact h0
  obtain ⟨k, hk⟩ : ∃ k, k = xs.length - 1 := ⟨_, rfl⟩
  have hkz : (xs.length : Int) - 1 = k := by omega
  have hc := rd_at h (j := k) (by omega)
  have hb := getD_bd (b := p - 1) (by omega) hx k
  have e : monicP p xs = timesP p xs [inv (xs.getD k 0) p] := by unfold monicP; rw [if_neg hne, ← hk]
  rw [e]; clear e
  obtain ⟨x, hxx⟩ : ∃ x, x = xs.getD k 0 := ⟨_, rfl⟩
  rw [← hxx] at hc hb ⊢
  have hi := inv_bd (a := x) (m := p) (by omega)
  have Hi : Hid (∀ c ∈ [inv x p], 0 ≤ c ∧ c ≤ p - 1) := hid (by intro c hc; simp at hc; subst hc; exact hi)
  have Hx := hid hx
  have hn0 : ((xs.length : Int) == 0) = false := by simp; omega
  have HR := hid h
  clear hx hk hxx h hne
  go_enter Try.func80, Try.ntmps80
  go_wp2_with (go_at_call 82; refine via (i_inverseBy _ _ _ hs hb) ?_; intro uu zz; try simp at zz)
  refine viaI (g := id) (i_times _ _ _ xs [inv x p] _ ((HR.out.aft _).alloc _) (rd_one _ _) hp Hx.out Hi.out hl (by simp)) ?_
  intro rr ur zr hown; (try simp at zr)
  go_wp2_with fail
  go_ret
  exact ⟨_, rfl, hown.mono (by first | omega | (simp; done) | (simp; omega)), (by refine Ext.bel ?_; repeat (with_reducible first | exact Ext.refl _ | apply Ext.alloc | apply Ext.aft | apply Ext.drew | apply Ext.drewN | apply Ext.setCell | exact Nat.le_add_right _ _ | exact Nat.le_refl _ | (simp; done) | omega))⟩

set_option maxHeartbeats 2000000 in
theorem s_monic (p : Int) (r : Value) (xs : List Int) (w : World) (h : rdI w r xs) (hs : smallP p = true) (hx : ∀ c ∈ xs, 0 ≤ c ∧ c ≤ p - 1) (hl : xs.length ≤ 9) :
    Calls Try.prog 74 #[.int .i64 p, r] w fun e w' => ∃ v, e = .returned v ∧ ownR w.heap.size w' v (monicP p xs) ∧ Below w.heap.size w w' := by
  have hp := smallP_bd hs
  obtain ⟨a, cap, rfl, _, _⟩ := id h
  by_cases hne : xs = []
  · have e : monicP p xs = [] := by simp [monicP, hne]
    rw [e]; clear e
    subst hne
    simp only [List.length_nil]
    go_enter Try.func74, Try.ntmps74
    go_wp2_with fail
    go_ret
    exact ⟨_, rfl, own_made w, (by refine Ext.bel ?_; repeat (with_reducible first | exact Ext.refl _ | apply Ext.alloc | apply Ext.aft | apply Ext.drew | apply Ext.drewN | apply Ext.setCell | exact Nat.le_add_right _ _ | exact Nat.le_refl _ | (simp; done) | omega))⟩
  obtain ⟨b, o, rfl⟩ := rd_head h hne
  have h1 : 1 ≤ xs.length := by
    rcases Nat.eq_zero_or_pos xs.length with h0 | h0
    · exact absurd (List.eq_nil_of_length_eq_zero h0) hne
    · exact h0
  obtain ⟨k, hk⟩ : ∃ k, k = xs.length - 1 := ⟨_, rfl⟩
  have hkz : (xs.length : Int) - 1 = k := by omega
  have hc := rd_at h (j := k) (by omega)
  have hb := getD_bd (b := p - 1) (by omega) hx k
  have e : monicP p xs = timesP p xs [inv (xs.getD k 0) p] := by unfold monicP; rw [if_neg hne, ← hk]
  rw [e]; clear e
  obtain ⟨x, hxx⟩ : ∃ x, x = xs.getD k 0 := ⟨_, rfl⟩
  rw [← hxx] at hc hb ⊢
  have hi := inv_bd (a := x) (m := p) (by omega)
  have Hi : Hid (∀ c ∈ [inv x p], 0 ≤ c ∧ c ≤ p - 1) := hid (by intro c hc; simp at hc; subst hc; exact hi)
  have Hx := hid hx
  have hn0 : ((xs.length : Int) == 0) = false := by simp; omega
  have hb9 : 0 ≤ x ∧ x ≤ 1000000000000 := by omega
  have hp9 : 1 ≤ p ∧ p ≤ 1000000000000 := by omega
  have HR := hid h
  clear hx hk hxx h hne
  go_enter Try.func74, Try.ntmps74
  go_wp2_with (go_at_call 76; refine pur (s_inverse _ _ _ hb9 hp9) ?_)
  refine viaI (g := id) (s_times _ _ _ xs [inv x p] _ (HR.out.alloc _) (rd_one _ _) hp Hx.out Hi.out hl (by simp)) ?_
  intro rr ur zr hown; (try simp at zr)
  go_wp2_with fail
  go_ret
  exact ⟨_, rfl, hown.mono (by first | omega | (simp; done) | (simp; omega)), (by refine Ext.bel ?_; repeat (with_reducible first | exact Ext.refl _ | apply Ext.alloc | apply Ext.aft | apply Ext.drew | apply Ext.drewN | apply Ext.setCell | exact Nat.le_add_right _ _ | exact Nat.le_refl _ | (simp; done) | omega))⟩

/-- A slice's length. -/
def slenV (v : Value) : Nat := match v with | .slice _ n _ => n | _ => 0
theorem rd_slen {w : World} {v : Value} {xs : List Int} (h : rdI w v xs) : slenV v = xs.length := by
  obtain ⟨a, cap, rfl, _, _⟩ := h; rfl

set_option maxRecDepth 20000 in
set_option maxHeartbeats 4000000 in
theorem i_common (p : Int) (r1 r2 : Value) (f g : List Int) (w : World) (h1 : rdI w r1 f) (h2 : rdI w r2 g) (hs : smallP p = true) (hf : isMod p f) (hg : isMod p g) (hlf : f.length ≤ 9) (hlg : g.length ≤ 9) :
    Calls Try.prog 48 #[.int .i64 p, r1, r2] w fun e w' => ∃ v, e = .returned v ∧ ownR w.heap.size w' v (commonP p f g) ∧ Below w.heap.size w w' := by
  obtain ⟨R, hR⟩ : ∃ R, R = commonP p f g := ⟨_, rfl⟩
  rw [← hR]
  have HR := hid hR
  have H1 := hid h1
  have H2 := hid h2
  have Hf := hid hf
  have Hg := hid hg
  have hp := smallP_bd hs
  clear hR h1 h2 hf hg
  go_enter Try.func48, Try.ntmps48
  go_wp2_with fail
  go_loopw [1, 2] (fun s1 s2 wr => ∃ (n : Nat) (F G : List Int) (uu : World), wr = aft w uu ∧ G.length ≤ n ∧ Hid (comF p n F G = R) ∧ Hid (rdI wr s1 F) ∧ Hid (rdI wr s2 G) ∧ Hid (isMod p F) ∧ Hid (isMod p G) ∧ F.length ≤ 9 ∧ G.length ≤ 9) (fun _ s2 _ => slenV s2)
  case atStart =>
    exact ⟨g.length, f, g, w, (aft_of (Below.refl _ _)).symm, Nat.le_refl _, hid HR.out.symm, hid H1.out, hid H2.out, Hf, Hg, hlf, hlg⟩
  case round =>
    obtain ⟨n, F, G, uu, rfl, hn, HC, HF, HG, MF, MG, lF, lG⟩ := hrel
    have zs := size_aft w uu
    obtain ⟨a2, c2, e2, _, _⟩ := HG.out
    subst e2
    by_cases hG : G = []
    · have hR : Hid (R = monicP p F) := hid (by rw [← HC.out, hG, comF_nil])
      have hz : ¬ (0 : Int) < (G.length : Int) := by rw [hG]; simp
      have hz2 : ¬ 0 < G.length := by rw [hG]; simp
      clear hG
      go_wp2_with (go_at_call 80; refine viaI (g := id) (i_monic _ _ _ _ HF.out hs MF.out.1 lF) ?_; intro rr ur zr hown; (try simp at zr))
      go_ret
      exact ⟨_, rfl, by rw [hR.out]; exact hown.mono zs, (by refine Ext.bel ?_; repeat (with_reducible first | exact Ext.refl _ | apply Ext.alloc | apply Ext.aft | apply Ext.drew | apply Ext.drewN | apply Ext.setCell | exact Nat.le_add_right _ _ | exact Nat.le_refl _ | (simp; done) | omega))⟩
    · have h1 : 1 ≤ G.length := by
        rcases Nat.eq_zero_or_pos G.length with h0 | h0
        · exact absurd (List.eq_nil_of_length_eq_zero h0) hG
        · exact h0
      obtain ⟨n, rfl⟩ : ∃ k, n = k + 1 := ⟨n - 1, by omega⟩
      have HC2 : Hid (comF p n G (remP p F G) = R) := hid (by rw [← HC.out, comF_step hG])
      have HL := hid (rem_len hs MF.out.1 MG.out h1)
      have MR := hid (isMod_rem (g := G) hs MF.out.1)
      have hz : (0 : Int) < (G.length : Int) := by omega
      have hz2 : 0 < G.length := h1
      have HG2 := HG
      clear hG
      go_wp2_with (go_at_call 54; refine viaI2 (g := fun r q => .tuple #[r, q]) (i_divide _ _ F G _ _ HF.out HG.out hs MF.out.1 MG.out.1 (by omega) (by omega)) ?_; intro v1 v2 ur zr o1 o2 n1 n2; (try simp at zr))
      have HO2 := hid o2.rd
      clear o1 o2 n1 n2
      go_roundw
      case rel => exact ⟨n, G, remP p F G, _, (aft_of ((below_aft w uu).trans ((below_aft _ _).mono (size_aft w uu)))).symm, by have := HL.out; omega, HC2, hid (HG2.out.aft _), HO2, MG, MR, lG, by have := HL.out; omega⟩
      case measure => rw [rd_slen HO2.out]; exact HL.out
set_option maxRecDepth 20000 in
set_option maxHeartbeats 4000000 in
theorem s_common (p : Int) (r1 r2 : Value) (f g : List Int) (w : World) (h1 : rdI w r1 f) (h2 : rdI w r2 g) (hs : smallP p = true) (hf : isMod p f) (hg : isMod p g) (hlf : f.length ≤ 9) (hlg : g.length ≤ 9) :
    Calls Try.prog 36 #[.int .i64 p, r1, r2] w fun e w' => ∃ v, e = .returned v ∧ ownR w.heap.size w' v (commonP p f g) ∧ Below w.heap.size w w' := by
  obtain ⟨R, hR⟩ : ∃ R, R = commonP p f g := ⟨_, rfl⟩
  rw [← hR]
  have HR := hid hR
  have H1 := hid h1
  have H2 := hid h2
  have Hf := hid hf
  have Hg := hid hg
  have hp := smallP_bd hs
  clear hR h1 h2 hf hg
  go_enter Try.func36, Try.ntmps36
  go_wp2_with fail
  go_loopw [1, 2] (fun s1 s2 wr => ∃ (n : Nat) (F G : List Int) (uu : World), wr = aft w uu ∧ G.length ≤ n ∧ Hid (comF p n F G = R) ∧ Hid (rdI wr s1 F) ∧ Hid (rdI wr s2 G) ∧ Hid (isMod p F) ∧ Hid (isMod p G) ∧ F.length ≤ 9 ∧ G.length ≤ 9) (fun _ s2 _ => slenV s2)
  case atStart =>
    exact ⟨g.length, f, g, w, (aft_of (Below.refl _ _)).symm, Nat.le_refl _, hid HR.out.symm, hid H1.out, hid H2.out, Hf, Hg, hlf, hlg⟩
  case round =>
    obtain ⟨n, F, G, uu, rfl, hn, HC, HF, HG, MF, MG, lF, lG⟩ := hrel
    have zs := size_aft w uu
    obtain ⟨a2, c2, e2, _, _⟩ := HG.out
    subst e2
    by_cases hG : G = []
    · have hR : Hid (R = monicP p F) := hid (by rw [← HC.out, hG, comF_nil])
      have hz : ¬ (0 : Int) < (G.length : Int) := by rw [hG]; simp
      have hz2 : ¬ 0 < G.length := by rw [hG]; simp
      clear hG
      go_wp2_with (go_at_call 74; refine viaI (g := id) (s_monic _ _ _ _ HF.out hs MF.out.1 lF) ?_; intro rr ur zr hown; (try simp at zr))
      go_ret
      exact ⟨_, rfl, by rw [hR.out]; exact hown.mono zs, (by refine Ext.bel ?_; repeat (with_reducible first | exact Ext.refl _ | apply Ext.alloc | apply Ext.aft | apply Ext.drew | apply Ext.drewN | apply Ext.setCell | exact Nat.le_add_right _ _ | exact Nat.le_refl _ | (simp; done) | omega))⟩
    · have h1 : 1 ≤ G.length := by
        rcases Nat.eq_zero_or_pos G.length with h0 | h0
        · exact absurd (List.eq_nil_of_length_eq_zero h0) hG
        · exact h0
      obtain ⟨n, rfl⟩ : ∃ k, n = k + 1 := ⟨n - 1, by omega⟩
      have HC2 : Hid (comF p n G (remP p F G) = R) := hid (by rw [← HC.out, comF_step hG])
      have HL := hid (rem_len hs MF.out.1 MG.out h1)
      have MR := hid (isMod_rem (g := G) hs MF.out.1)
      have hz : (0 : Int) < (G.length : Int) := by omega
      have hz2 : 0 < G.length := h1
      have HG2 := HG
      clear hG
      go_wp2_with (go_at_call 62; refine viaI2 (g := fun r q => .tuple #[r, q]) (s_divide _ _ F G _ _ HF.out HG.out hs MF.out.1 MG.out.1 (by omega) (by omega)) ?_; intro v1 v2 ur zr o1 o2 n1 n2; (try simp at zr))
      have HO2 := hid o2.rd
      clear o1 o2 n1 n2
      go_roundw
      case rel => exact ⟨n, G, remP p F G, _, (aft_of ((below_aft w uu).trans ((below_aft _ _).mono (size_aft w uu)))).symm, by have := HL.out; omega, HC2, hid (HG2.out.aft _), HO2, MG, MR, lG, by have := HL.out; omega⟩
      case measure => rw [rd_slen HO2.out]; exact HL.out
end Go.Proofs.Ytaninbfcoifedaa
