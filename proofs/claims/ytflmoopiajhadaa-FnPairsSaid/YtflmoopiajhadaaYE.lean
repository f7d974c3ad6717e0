/- Rows of factors; comparing polynomials. -/
import Derived.Test.YtflmoopiajhadaaYD
namespace Go.Proofs.Ytflmoopiajhadaa
open Go Go.RowKit

theorem infoFa : (Try.prog.info? 54).map (fun i => (i.zero, i.size, i.bytes)) = some (some (.agg #[.slice none 0 0, .int .i64 0]), 2, 32) := by kernel_rfl
/-- The cells of factors. -/
def cF : List (Value × Int) → List Value
  | [] => []
  | x :: r => x.1 :: .int .i64 x.2 :: cF r
theorem cF_app (a b : List (Value × Int)) : cF (a ++ b) = cF a ++ cF b := by
  induction a with
  | nil => rfl
  | cons x a ih => simp [cF, ih]
theorem cF_len (a : List (Value × Int)) : (cF a).length = 2 * a.length := by
  induction a with
  | nil => rfl
  | cons x a ih => simp [cF, ih]; omega
theorem cF_at (a : List (Value × Int)) (i : Nat) (h : i < a.length) : (cF a)[2 * i]? = some a[i].1 ∧ (cF a)[2 * i + 1]? = some (.int .i64 a[i].2) := by
  induction a generalizing i with
  | nil => simp at h
  | cons x a ih =>
    cases i with
    | zero => exact ⟨rfl, rfl⟩
    | succ i =>
      have h2 := ih i (by simpa using h)
      rw [show 2 * (i + 1) = 2 * i + 2 by omega, show 2 * i + 2 + 1 = (2 * i + 1) + 2 by omega]
      simpa [cF] using h2
theorem cF_drop (a : List (Value × Int)) (q : Nat) : cF (a.drop q) = (cF a).drop (2 * q) := by
  induction a generalizing q with
  | nil => simp [cF]
  | cons x a ih =>
    cases q with
    | zero => rfl
    | succ q => rw [show 2 * (q + 1) = 2 * q + 2 by omega]; simpa [cF] using ih q
theorem cF_take (a : List (Value × Int)) (q : Nat) : cF (a.take q) = (cF a).take (2 * q) := by
  induction a generalizing q with
  | nil => simp [cF]
  | cons x a ih =>
    cases q with
    | zero => rfl
    | succ q => rw [show 2 * (q + 1) = 2 * q + 2 by omega]; simpa [cF] using ih q
/-- v owns, from block B on, a row of just these factors. -/
def ownF (B : Nat) (w : World) (v : Value) (ps : List (Value × Int)) : Prop := w.ownsRow B 54 2 v ps.length (cF ps) ∧ ∃ g cap, v = .slice (some ⟨g, 0, none⟩) ps.length cap
theorem ownF.below {B : Nat} {w w' : World} {v : Value} {ps : List (Value × Int)} (h : ownF B w v ps) (hb : Below w.heap.size w w') : ownF B w' v ps := by
  obtain ⟨h1, h2⟩ := h
  refine ⟨⟨h1.1, ?_⟩, h2⟩
  rcases h1.2 with hn | ⟨g, cap, cur, rfl, hg, hh, r⟩
  · exact .inl hn
  · have hlt : g < w.heap.size := (Array.getElem?_eq_some_iff.1 hh).1
    exact .inr ⟨g, cap, cur, rfl, hg, by rw [hb.block g hlt]; exact hh, r⟩
theorem ownF.aft {B : Nat} {w : World} {v : Value} {ps : List (Value × Int)} (h : ownF B w v ps) (u : World) : ownF B (Go.Proofs.Ytflmoopiajhadaa.aft w u) v ps := h.below (below_aft w u)
theorem ownF.mono {B B' : Nat} {w : World} {v : Value} {ps : List (Value × Int)} (h : ownF B w v ps) (hB : B' ≤ B) : ownF B' w v ps := by
  obtain ⟨h1, h2⟩ := h
  refine ⟨⟨h1.1, ?_⟩, h2⟩
  rcases h1.2 with hn | ⟨g, cap, cur, rfl, hg, r⟩
  · exact .inl hn
  · exact .inr ⟨g, cap, cur, rfl, Nat.le_trans hB hg, r⟩
theorem ownF.ofRow {B : Nat} {w : World} {v : Value} {ps : List (Value × Int)} (h : w.ownsRow B 54 2 v ps.length (cF ps)) (hne : ps ≠ []) : ownF B w v ps := by
  refine ⟨h, ?_⟩
  rcases h.2 with ⟨_, hn⟩ | ⟨g, cap, cur, hv, _⟩
  · exact absurd (List.eq_nil_of_length_eq_zero hn) hne
  · exact ⟨g, cap, hv⟩
theorem ownF.cells {B : Nat} {w : World} {g n cap : Nat} {ps : List (Value × Int)} (h : ownF B w (.slice (some ⟨g, 0, none⟩) n cap) ps) {i : Nat} (hi : i < ps.length) : w.cell? ⟨g, 2 * i, none⟩ = some ps[i].1 ∧ w.cell? ⟨g, 2 * i + 1, none⟩ = some (.int .i64 ps[i].2) := by
  obtain ⟨h1, _, _, hv⟩ := h
  injection hv with q1 q2 q3
  subst q2
  have k1 := h1.cellAt (2 * i) (by omega)
  have k2 := h1.cellAt (2 * i + 1) (by omega)
  obtain ⟨e1, e2⟩ := cF_at ps i hi
  rw [e1] at k1
  rw [e2] at k2
  exact ⟨k1, k2⟩
theorem sizeFa (w : World) : (Go.sizeOf 54).run Try.prog w = .ok 2 w := by
  obtain ⟨i, hi, hz, hs, hb⟩ := info_parts infoFa
  simp [sizeOf, typeInfo, hi, hs]
theorem ownF.cap {B : Nat} {w : World} {a : Option Addr} {n cap : Nat} {ps : List (Value × Int)} (h : ownF B w (.slice a n cap) ps) : ps.length ≤ cap := by
  rcases h.1.2 with ⟨e, h1⟩ | ⟨g, c, cur, e, _, _, h2, _⟩
  · omega
  · injection e with e1 e2 e3; omega
/-- list[:q] -/
theorem ownF.cutH {B : Nat} {w : World} {g n cap q : Nat} {ps : List (Value × Int)} (h : ownF B w (.slice (some ⟨g, 0, none⟩) n cap) ps) (hq : q ≤ ps.length) :
    (∀ wx, (Instr.slice 49 (.slice (some ⟨g, 0, none⟩) n cap) none (some (.int .i64 q)) none).run Try.prog wx = .ok (.slice (some ⟨g, 0, none⟩) q cap) wx) ∧
    ∀ j u, (cF (ps.take q))[j]? = some u → w.cell? ((⟨g, 0, none⟩ : Addr).add j) = some u := by
  have hc := h.cap
  have ht' : Try.prog.underlying 49 = some (.slice (Try.prog.elem 49)) := by kernel_rfl
  have he : Try.prog.elem 49 = 54 := by kernel_rfl
  refine ⟨fun wx => ?_, fun j u hj => ?_⟩
  · rw [run_slice_h wx _ _ _ _ ht' .i64 _ (by omega) (by omega), he, sizeFa]
    simp [Result.andThen, sliced, Addr.add]
  · rw [cF_take, List.getElem?_take] at hj
    split at hj
    · have hlt := (List.getElem?_eq_some_iff.1 hj).1
      rw [cF_len] at hlt
      obtain ⟨_, _, hv⟩ := h.2
      injection hv with q1 q2 q3
      subst q2
      have k1 := h.1.cellAt j (by omega)
      rw [hj] at k1
      rw [Addr.add_lit, Nat.zero_add]; exact k1
    · simp at hj
/-- list[q:] -/
theorem ownF.cutL {B : Nat} {w : World} {g n cap q : Nat} {ps : List (Value × Int)} (h : ownF B w (.slice (some ⟨g, 0, none⟩) n cap) ps) (hq : q ≤ ps.length) :
    ∃ ad c2, (∀ wx, (Instr.slice 49 (.slice (some ⟨g, 0, none⟩) n cap) (some (.int .i64 q)) none none).run Try.prog wx = .ok (.slice (some ad) (ps.length - q) c2) wx) ∧
    ∀ j u, (cF (ps.drop q))[j]? = some u → w.cell? (ad.add j) = some u := by
  have hc := h.cap
  obtain ⟨_, _, hv⟩ := h.2
  injection hv with q1 q2 q3
  subst q2
  have ht' : Try.prog.underlying 49 = some (.slice (Try.prog.elem 49)) := by kernel_rfl
  have he : Try.prog.elem 49 = 54 := by kernel_rfl
  refine ⟨if cap = q then ⟨g, 0, none⟩ else (⟨g, 0, none⟩ : Addr).add (q * 2), cap - q, fun wx => ?_, fun j u hj => ?_⟩
  · rw [run_slice_l wx _ _ _ _ ht' .i64 _ (by omega) (by omega), he, sizeFa]
    simp only [Result.andThen, sliced, Int.toNat_natCast]
    split <;> simp
  · rw [cF_drop, List.getElem?_drop] at hj
    have hlt := (List.getElem?_eq_some_iff.1 hj).1
    rw [cF_len] at hlt
    rw [if_neg (by omega)]
    have k1 := h.1.cellAt (2 * q + j) (by omega)
    rw [hj] at k1
    have e : ((⟨g, 0, none⟩ : Addr).add (q * 2)).add j = ⟨g, 2 * q + j, none⟩ := by rw [Addr.add_lit, Addr.add_lit, Nat.zero_add, Nat.mul_comm]
    rw [e]; exact k1

set_option maxHeartbeats 4000000 in
theorem s_compare (r1 r2 : Value) (xs ys : List Int) (w : World) (h1 : rdI w r1 xs) (h2 : rdI w r2 ys) (hl1 : xs.length ≤ 1000) :
    Calls Try.prog 93 #[r1, r2] w fun e w' => ∃ z : Int, e = .returned (.int .i64 z) ∧ Below w.heap.size w w' := by
  obtain ⟨a1, c1, rfl, _, _⟩ := id h1
  obtain ⟨a2, c2, rfl, _, _⟩ := id h2
  have H1 := hid h1
  have H2 := hid h2
  clear h1 h2
  by_cases hlt : xs.length < ys.length
  · have d1 : decide ((xs.length : Int) < (ys.length : Int)) = true := by simp; omega
    have d2 : decide (xs.length < ys.length) = true := by simp; omega
    clear hlt
    go_enter Try.func93, Try.ntmps93
    go_wp2_with fail
    go_ret
    exact ⟨_, rfl, (by refine Ext.bel ?_; repeat (with_reducible first | exact Ext.refl _ | apply Ext.alloc | apply Ext.aft | apply Ext.drew | apply Ext.drewN | apply Ext.setCell | exact Nat.le_add_right _ _ | exact Nat.le_refl _ | (simp; done) | omega))⟩
  have d1 : decide ((xs.length : Int) < (ys.length : Int)) = false := by simp; omega
  have d2 : decide (xs.length < ys.length) = false := by simp; omega
  by_cases hgt : ys.length < xs.length
  · have d3 : decide ((ys.length : Int) < (xs.length : Int)) = true := by simp; omega
    have d4 : decide (ys.length < xs.length) = true := by simp; omega
    clear hlt hgt
    go_enter Try.func93, Try.ntmps93
    go_wp2_with fail
    go_ret
    exact ⟨_, rfl, (by refine Ext.bel ?_; repeat (with_reducible first | exact Ext.refl _ | apply Ext.alloc | apply Ext.aft | apply Ext.drew | apply Ext.drewN | apply Ext.setCell | exact Nat.le_add_right _ _ | exact Nat.le_refl _ | (simp; done) | omega))⟩
  have d3 : decide ((ys.length : Int) < (xs.length : Int)) = false := by simp; omega
  have d4 : decide (ys.length < xs.length) = false := by simp; omega
  have hle1 : ys.length ≤ xs.length := by omega
  have hle2 : xs.length ≤ ys.length := by omega
  clear hlt hgt
  go_enter Try.func93, Try.ntmps93
  go_wp2_with fail
  go_loopw [5] (fun iv wr => ∃ (i : Nat) (uu : World), wr = aft w uu ∧ i ≤ xs.length ∧ iv = .int .i64 ((i : Int) - 1)) (fun iv _ => (intOf iv + 1).toNat)
  case atStart => exact ⟨xs.length, w, (aft_of (Below.refl _ _)).symm, by omega, rfl⟩
  case round =>
    obtain ⟨i, uu, rfl, hi, rfl⟩ := hrel
    have zs := size_aft w uu
    by_cases h0 : i = 0
    · subst h0
      go_wp2_with fail
      go_ret
      exact ⟨_, rfl, (by refine Ext.bel ?_; repeat (with_reducible first | exact Ext.refl _ | apply Ext.alloc | apply Ext.aft | apply Ext.drew | apply Ext.drewN | apply Ext.setCell | exact Nat.le_add_right _ _ | exact Nat.le_refl _ | (simp; done) | omega))⟩
    obtain ⟨j, rfl⟩ : ∃ j, i = j + 1 := ⟨i - 1, by omega⟩
    have hj : j < xs.length := by omega
    have ej : ((j + 1 : Nat) : Int) - 1 = (j : Int) := by omega
    rw [ej]
    have ej2 : (j : Int) + 1 - 1 = (j : Int) := by omega
    have hjz : (j : Int) < (xs.length : Int) := by omega
    have hjz2 : (j : Int) < (ys.length : Int) := by omega
    have hj2 : j < ys.length := by omega
    obtain ⟨b1, o1, rfl⟩ := rd_head H1.out (by intro e; rw [e] at hj; simp at hj)
    obtain ⟨b2, o2, rfl⟩ := rd_head H2.out (by intro e; rw [e] at hj2; simp at hj2)
    have k1 := rd_at H1.out hj
    have k2 := rd_at H2.out hj2
    have q1 := World.block_lt_of_cell? _ _ k1
    have q2 := World.block_lt_of_cell? _ _ k2
    obtain ⟨x, hx⟩ : ∃ x, x = xs.getD j 0 := ⟨_, rfl⟩
    obtain ⟨y, hy⟩ : ∃ y, y = ys.getD j 0 := ⟨_, rfl⟩
    rw [← hx] at k1
    rw [← hy] at k2
    clear hx hy h0 ej
    by_cases hxy : x < y
    · have e1 : decide (x < y) = true := by simpa using hxy
      clear hxy
      go_wp2_with fail
      refine wp_region_calm (by kernel_rfl) (by kernel_rfl) ?_
      repeat (go_big_quiet_step (fail))
      refine wpQuiet_nil ?_; intro uq zq; try simp at zq
      go_wp2_with fail
      go_ret
      exact ⟨_, rfl, (by refine Ext.bel ?_; repeat (with_reducible first | exact Ext.refl _ | apply Ext.alloc | apply Ext.aft | apply Ext.drew | apply Ext.drewN | apply Ext.setCell | exact Nat.le_add_right _ _ | exact Nat.le_refl _ | (simp; done) | omega))⟩
    have e1 : decide (x < y) = false := by simpa using hxy
    by_cases hyx : y < x
    · have e2 : decide (y < x) = true := by simpa using hyx
      clear hxy hyx
      go_wp2_with fail
      refine wp_region_calm (by kernel_rfl) (by kernel_rfl) ?_
      repeat (go_big_quiet_step (fail))
      refine wpQuiet_nil ?_; intro uq zq; try simp at zq
      go_wp2_with fail
      refine wp_region_calm (by kernel_rfl) (by kernel_rfl) ?_
      repeat (go_big_quiet_step (fail))
      refine wpQuiet_nil ?_; intro uq zq; try simp at zq
      go_wp2_with fail
      go_ret
      exact ⟨_, rfl, (by refine Ext.bel ?_; repeat (with_reducible first | exact Ext.refl _ | apply Ext.alloc | apply Ext.aft | apply Ext.drew | apply Ext.drewN | apply Ext.setCell | exact Nat.le_add_right _ _ | exact Nat.le_refl _ | (simp; done) | omega))⟩
    have e2 : decide (y < x) = false := by simpa using hyx
    clear hxy hyx
    go_wp2_with fail
    refine wp_region_calm (by kernel_rfl) (by kernel_rfl) ?_
    repeat (go_big_quiet_step (fail))
    refine wpQuiet_nil ?_; intro uq zq; try simp at zq
    have hE1 : Hid (Ext w.heap.size w (aft (aft w uu) uq)) := hid (((Ext.refl w).aft _).aft _)
    go_wp2_with fail
    refine wp_region_calm (by kernel_rfl) (by kernel_rfl) ?_
    repeat (go_big_quiet_step (fail))
    refine wpQuiet_nil ?_; intro uq zq; try simp at zq
    have hEx := hid (hE1.out.aft uq)
    go_wp2_with fail
    go_roundw
    case rel => exact ⟨j, _, (aft_of hEx.out.1).symm, by omega, by go_num⟩
    case measure => simp only [intOf]; omega
end Go.Proofs.Ytflmoopiajhadaa
