/- Products of polynomials: plain, and both texts. -/
import Derived.Test.YtaninbfcoifedaaH3
import Derived.Test.YtaninbfcoifedaaB4
namespace Go.Proofs.Ytaninbfcoifedaa
open Go Go.RowKit

theorem getD_lt {xs : List Int} {j : Nat} (h : j < xs.length) : xs.getD j 0 = xs[j] := by simp [List.getD, List.getElem?_eq_getElem h]
def addAt (o : List Int) (j : Nat) (v : Int) : List Int := o.set j (o.getD j 0 + v)
/-- A row of a product, as far as the first k numbers. -/
def rowS (o : List Int) (i : Nat) (c : Int) (g : List Int) (k : Nat) : List Int := (List.range k).foldl (fun o t => addAt o (i + t) (c * g.getD t 0)) o
/-- The first i rows of a product. -/
def prodS (f g : List Int) (i : Nat) : List Int := (List.range i).foldl (fun o t => rowS o t (f.getD t 0) g g.length) (List.replicate (f.length + g.length - 1) 0)
def prodF (f g : List Int) : List Int := if f = [] ∨ g = [] then [] else trimF (prodS f g f.length)

theorem rowS_succ (o : List Int) (i : Nat) (c : Int) (g : List Int) (k : Nat) : rowS o i c g (k + 1) = addAt (rowS o i c g k) (i + k) (c * g.getD k 0) := by
  simp [rowS, List.range_succ]
theorem rowS_zero (o : List Int) (i : Nat) (c : Int) (g : List Int) : rowS o i c g 0 = o := rfl
theorem prodS_succ (f g : List Int) (i : Nat) : prodS f g (i + 1) = rowS (prodS f g i) i (f.getD i 0) g g.length := by
  simp [prodS, List.range_succ]
theorem addAt_len (o : List Int) (j : Nat) (v : Int) : (addAt o j v).length = o.length := by simp [addAt]
theorem rowS_len (o : List Int) (i : Nat) (c : Int) (g : List Int) (k : Nat) : (rowS o i c g k).length = o.length := by
  induction k with
  | zero => rfl
  | succ k ih => rw [rowS_succ, addAt_len, ih]
theorem prodS_len (f g : List Int) (i : Nat) : (prodS f g i).length = f.length + g.length - 1 := by
  induction i with
  | zero => simp [prodS]
  | succ i ih => rw [prodS_succ, rowS_len, ih]
theorem addAt_other {o : List Int} {j t : Nat} {v : Int} (h : j ≠ t) : (addAt o j v).getD t 0 = o.getD t 0 := by
  unfold addAt
  simp [List.getElem?_set_ne h]
theorem rowS_after (o : List Int) (i : Nat) (c : Int) (g : List Int) (k t : Nat) (h : i + k ≤ t) : (rowS o i c g k).getD t 0 = o.getD t 0 := by
  induction k with
  | zero => rfl
  | succ k ih => rw [rowS_succ, addAt_other (by omega), ih (by omega)]
theorem getD_bd {o : List Int} {b : Int} (hb : 0 ≤ b) (h : ∀ x ∈ o, 0 ≤ x ∧ x ≤ b) (t : Nat) : 0 ≤ o.getD t 0 ∧ o.getD t 0 ≤ b := by
  rcases Nat.lt_or_ge t o.length with hl | hl
  · rw [getD_lt hl]; exact h _ (List.getElem_mem hl)
  · rw [List.getD_eq_getElem?_getD, List.getElem?_eq_none hl]; exact ⟨Int.le_refl _, hb⟩
theorem rowS_bd {o : List Int} {b P c : Int} {i : Nat} {g : List Int} (hb : 0 ≤ b) (hP : 0 ≤ P) (h : ∀ x ∈ o, 0 ≤ x ∧ x ≤ b) (hc : ∀ t, 0 ≤ c * g.getD t 0 ∧ c * g.getD t 0 ≤ P) :
    ∀ k, ∀ x ∈ rowS o i c g k, 0 ≤ x ∧ x ≤ b + P := by
  intro k
  induction k with
  | zero => intro x hx; have := h x hx; omega
  | succ k ih =>
    intro x hx
    rw [rowS_succ] at hx
    rcases List.mem_or_eq_of_mem_set hx with hx | hx
    · exact ih x hx
    · rw [hx, rowS_after _ _ _ _ _ _ (Nat.le_refl _)]
      have h1 := getD_bd hb h (i + k)
      have h2 := hc k
      omega
theorem prodS_bd {f g : List Int} {P : Int} (hP : 0 ≤ P) (hc : ∀ i t, 0 ≤ f.getD i 0 * g.getD t 0 ∧ f.getD i 0 * g.getD t 0 ≤ P) : ∀ i : Nat, ∀ x ∈ prodS f g i, 0 ≤ x ∧ x ≤ P * i := by
  intro i
  induction i with
  | zero =>
    intro x hx
    simp only [prodS, List.range_zero, List.foldl_nil, List.mem_replicate] at hx
    rw [hx.2]; simp
  | succ i ih =>
    intro x hx
    rw [prodS_succ] at hx
    have e : P * ((i + 1 : Nat) : Int) = P * i + P := by rw [Int.natCast_add, Int.mul_add]; simp
    rw [e]
    exact rowS_bd (Int.mul_nonneg hP (by omega)) hP ih (hc i) _ x hx
theorem prods_of {f g : List Int} {P : Int} (hP : 0 ≤ P) (h : ∀ c ∈ f, ∀ d ∈ g, 0 ≤ c * d ∧ c * d ≤ P) : ∀ i t, 0 ≤ f.getD i 0 * g.getD t 0 ∧ f.getD i 0 * g.getD t 0 ≤ P := by
  intro i t
  rcases Nat.lt_or_ge i f.length with h1 | h1
  · rcases Nat.lt_or_ge t g.length with h2 | h2
    · rw [getD_lt h1, getD_lt h2]; exact h _ (List.getElem_mem h1) _ (List.getElem_mem h2)
    · rw [List.getD_eq_getElem?_getD (l := g), List.getElem?_eq_none h2]; simp [hP]
  · rw [List.getD_eq_getElem?_getD (l := f), List.getElem?_eq_none h1]; simp [hP]
/-- What the round needs of bounds. -/
theorem round_bd {f g : List Int} (hl : f.length ≤ 9) (h : ∀ c ∈ f, ∀ d ∈ g, 0 ≤ c * d ∧ c * d ≤ 1000000000000000000) {i k : Nat} (hi : i < f.length) :
    0 ≤ (rowS (prodS f g i) i (f.getD i 0) g k).getD (i + k) 0 ∧ (rowS (prodS f g i) i (f.getD i 0) g k).getD (i + k) 0 ≤ 8000000000000000000 := by
  rw [rowS_after _ _ _ _ _ _ (Nat.le_refl _)]
  have h0 := prods_of (by omega) h
  have h1 := getD_bd (Int.mul_nonneg (by omega) (by omega)) (prodS_bd (by omega) h0 i) (i + k)
  have : (1000000000000000000 : Int) * i ≤ 1000000000000000000 * 8 := Int.mul_le_mul_of_nonneg_left (by omega) (by omega)
  omega
theorem addAt_set {o : List Int} {j : Nat} {v : Int} : (vI o).set j (.int .i64 (o.getD j 0 + v)) = vI (addAt o j v) := by
  unfold addAt; simp [vI, List.map_set]
theorem vI_at {o : List Int} {j : Nat} (h : j < o.length) : (vI o)[j]? = some (.int .i64 (o.getD j 0)) := by
  rw [getD_lt h]; simp [vI, h]
theorem rd_at {w : World} {b o cap n : Nat} {xs : List Int} (h : rdI w (.slice (some ⟨b, o, none⟩) n cap) xs) {j : Nat} (hj : j < xs.length) : w.cell? ⟨b, o + j, none⟩ = some (.int .i64 (xs.getD j 0)) := by
  obtain ⟨a, cap', he, hm, hc⟩ := h
  cases he
  obtain ⟨b', o', e, hcell⟩ := hc (by intro e; subst e; simp at hj)
  cases e
  rw [hcell j hj, getD_lt hj]
theorem rd_head {w : World} {a : Option Addr} {cap n : Nat} {xs : List Int} (h : rdI w (.slice a n cap) xs) (hne : xs ≠ []) : ∃ b o, a = some ⟨b, o, none⟩ := by
  obtain ⟨a', cap', he, hm, hc⟩ := h
  cases he
  obtain ⟨b, o, e, _⟩ := hc hne
  exact ⟨b, o, e⟩

set_option maxRecDepth 20000 in
set_option maxHeartbeats 8000000 in
theorem i_product (r1 r2 : Value) (xs ys : List Int) (w : World) (h1 : rdI w r1 xs) (h2 : rdI w r2 ys) (hl1 : xs.length ≤ 9) (hl2 : ys.length ≤ 1000) (hc : ∀ c ∈ xs, ∀ d ∈ ys, 0 ≤ c * d ∧ c * d ≤ 1000000000000000000) :
    Calls Try.prog 52 #[r1, r2] w fun e w' => ∃ v, e = .returned v ∧ ownR w.heap.size w' v (prodF xs ys) ∧ Below w.heap.size w w' := by
  obtain ⟨i0, hi, hz0, hz1, hz2⟩ := info_parts infoI
  obtain ⟨a1, cap1, rfl, _, _⟩ := id h1
  obtain ⟨a2, cap2, rfl, _, _⟩ := id h2
  by_cases hx : xs = []
  · have e : prodF xs ys = [] := by unfold prodF; rw [if_pos (.inl hx)]
    rw [e]; clear e
    subst hx
    simp only [List.length_nil]
    go_enter Try.func52, Try.ntmps52
    go_wp2_with fail
    go_ret
    exact ⟨.slice none 0 0, rfl, ownR.nil _ _, (by refine Ext.bel ?_; repeat (with_reducible first | exact Ext.refl _ | apply Ext.alloc | apply Ext.aft | apply Ext.drew | apply Ext.drewN | apply Ext.setCell | exact Nat.le_add_right _ _ | exact Nat.le_refl _ | (simp; done) | omega))⟩
  have hx1 : 1 ≤ xs.length := by
    rcases Nat.eq_zero_or_pos xs.length with h0 | h0
    · exact absurd (List.eq_nil_of_length_eq_zero h0) hx
    · exact h0
  by_cases hy : ys = []
  · have e : prodF xs ys = [] := by unfold prodF; rw [if_pos (.inr hy)]
    rw [e]; clear e
    subst hy
    simp only [List.length_nil]
    have hn0 : (xs.length == 0) = false := by simp; omega
    have hn1 : ((xs.length : Int) == 0) = false := by simp; omega
    go_enter Try.func52, Try.ntmps52
    go_wp2_with fail
    go_ret
    exact ⟨.slice none 0 0, rfl, ownR.nil _ _, (by refine Ext.bel ?_; repeat (with_reducible first | exact Ext.refl _ | apply Ext.alloc | apply Ext.aft | apply Ext.drew | apply Ext.drewN | apply Ext.setCell | exact Nat.le_add_right _ _ | exact Nat.le_refl _ | (simp; done) | omega))⟩
  have hy1 : 1 ≤ ys.length := by
    rcases Nat.eq_zero_or_pos ys.length with h0 | h0
    · exact absurd (List.eq_nil_of_length_eq_zero h0) hy
    · exact h0
  have e : prodF xs ys = trimF (prodS xs ys xs.length) := by unfold prodF; rw [if_neg (by simp [hx, hy])]
  rw [e]; clear e
  obtain ⟨b1, o1, rfl⟩ := rd_head h1 hx
  obtain ⟨b2, o2, rfl⟩ := rd_head h2 hy
  have H1 := hid h1
  have H2 := hid h2
  have Hc := hid hc
  obtain ⟨L, hL⟩ : ∃ L, L = xs.length + ys.length - 1 := ⟨_, rfl⟩
  have hLi : (xs.length : Int) + ys.length - 1 = L := by omega
  have HL := hid hL
  have hx2 : ((xs.length : Int) == 0) = false := by simp; omega
  have hy2 : ((ys.length : Int) == 0) = false := by simp; omega
  have hL9 : L ≤ 2000 := by omega
  clear h1 h2 hc hx hy hL
  go_enter Try.func52, Try.ntmps52
  go_wp2_with (at_make; refine wpList_make_full _ rfl _ _ 24 rfl w.heap.size 2 i0 (.int .i64 0) 1 Try.underlying24 hi hz0 hz1 _ _ _ _ L rfl rfl (by omega) (by omega) (by rw [hz2]; omega) (by unfold maxLen; omega) (Nat.le_refl _) ?_)
  intro w1 hown0 hgr
  have hown : w1.ownsRow w.heap.size 2 1 (.slice (some ⟨w.heap.size, 0, none⟩) L L) L (vI (prodS xs ys 0)) := by
    have e : prodS xs ys 0 = List.replicate L 0 := by rw [HL.out]; rfl
    rw [e, ← vI_zeros]; exact hown0
  have HB : Hid (Below w.heap.size w w1) := hid (Below.grown (Below.refl _ _) hgr (Nat.le_refl _) (fun k hk => by cases hk))
  have HO := hid hown
  clear hown0 hown hgr
  go_wp2_with fail
  go_loopw [27] (fun s wr => ∃ i : Nat, i ≤ xs.length ∧ s = .int .i64 i ∧ Hid (wr.ownsRow w.heap.size 2 1 (.slice (some ⟨w.heap.size, 0, none⟩) L L) L (vI (prodS xs ys i))) ∧ Hid (Below w.heap.size w wr)) (fun s _ => xs.length - (intOf s).toNat)
  case atStart => exact ⟨0, by omega, rfl, HO, HB⟩
  case round =>
    obtain ⟨i, hi9, rfl, HO, HB⟩ := hrel
    obtain ⟨wo, rfl⟩ : ∃ wo : World, wo = wr := ⟨_, rfl⟩
    by_cases hlt : i < xs.length
    · have hltz : (i : Int) < (xs.length : Int) := by omega
      have hf := HB.out.cell (p := ⟨b1, o1 + i, none⟩) (World.block_lt_of_cell? w _ (rd_at H1.out hlt))
      rw [rd_at H1.out hlt] at hf
      obtain ⟨c, hcx⟩ : ∃ c, c = xs.getD i 0 := ⟨_, rfl⟩
      rw [← hcx] at hf
      have HC := hid hcx
      clear hcx
      go_wp2_with fail
      go_loopw [34] (fun s wr => ∃ k : Nat, k ≤ ys.length ∧ s = .int .i64 k ∧ Hid (wr.ownsRow w.heap.size 2 1 (.slice (some ⟨w.heap.size, 0, none⟩) L L) L (vI (rowS (prodS xs ys i) i c ys k))) ∧ Hid (Below w.heap.size w wr)) (fun s _ => ys.length - (intOf s).toNat)
      case atStart => exact ⟨0, by omega, rfl, HO, HB⟩
      case round =>
        obtain ⟨k, hk9, rfl, HO', HB'⟩ := hrel
        by_cases hlt2 : k < ys.length
        · have hltz2 : (k : Int) < (ys.length : Int) := by omega
          have hg := HB'.out.cell (p := ⟨b2, o2 + k, none⟩) (World.block_lt_of_cell? w _ (rd_at H2.out hlt2))
          rw [rd_at H2.out hlt2] at hg
          have hlen : (rowS (prodS xs ys i) i c ys k).length = L := by rw [rowS_len, prodS_len, HL.out]
          have hik : i + k < L := by have := HL.out; omega
          have hcl := HO'.out.cellAt (i + k) (by omega)
          rw [vI_at (by omega)] at hcl
          have hfr := HO'.out.frozenAt (i + k)
          have hbd := round_bd (k := k) (by omega) Hc.out hlt
          rw [← HC.out] at hbd
          have hst := HO'.out.stored (i + k) (.int .i64 ((rowS (prodS xs ys i) i c ys k).getD (i + k) 0 + c * ys.getD k 0))
          rw [addAt_set, ← rowS_succ] at hst
          have hcd := prods_of (by omega) Hc.out i k
          rw [← HC.out] at hcd
          obtain ⟨X, hX⟩ : ∃ X, X = (rowS (prodS xs ys i) i c ys k).getD (i + k) 0 := ⟨_, rfl⟩
          rw [← hX] at hcl hbd hst
          obtain ⟨d, hd⟩ : ∃ d, d = ys.getD k 0 := ⟨_, rfl⟩
          rw [← hd] at hg hst hcd
          have HS := hid hst
          have hikz : (i : Int) + k < (L : Int) := by omega
          clear hst hX hd hlen
          go_wp2_with fail
          go_roundw
          case rel => exact ⟨k + 1, by omega, by go_num, hid HS.out.1, hid (Below.grown HB'.out HS.out.2 HB'.out.size (fun k hk => by injection hk with hk; omega))⟩
          case measure => simp only [intOf]; omega
        · obtain rfl : k = ys.length := by omega
          have hltz2 : ¬ (ys.length : Int) < (ys.length : Int) := by omega
          go_wp2_with fail
          go_roundw
          case rel => exact ⟨i + 1, by omega, by go_num, hid (by rw [prodS_succ, ← HC.out]; exact HO'.out), HB'⟩
          case measure => simp only [intOf]; omega
    · obtain rfl : i = xs.length := by omega
      have hltz : ¬ (xs.length : Int) < (xs.length : Int) := by omega
      have hown : ownR w.heap.size wo (.slice (some ⟨w.heap.size, 0, none⟩) L L) (prodS xs ys xs.length) := by
        unfold ownR; rw [prodS_len, ← HL.out]; exact HO.out
      have HW := hid hown
      clear hown HO
      go_wp2_with (go_at_call 68; refine viaI (g := id) (i_trim w.heap.size _ _ _ HW.out (by rw [prodS_len]; omega)) ?_; intro rr ur zr hown2; (try simp at zr))
      go_ret
      exact ⟨_, rfl, hown2.mono HB.out.size, HB.out.trans (Below.mono (by refine Ext.bel ?_; repeat (with_reducible first | exact Ext.refl _ | apply Ext.alloc | apply Ext.aft | apply Ext.drew | apply Ext.drewN | apply Ext.setCell | exact Nat.le_add_right _ _ | exact Nat.le_refl _ | (simp; done) | omega)) HB.out.size)⟩

theorem rawAft {B n : Nat} {w : World} {v : Value} {xs : List Value} (h : w.ownsRow B 2 1 v n xs) (u : World) : (aft w u).ownsRow B 2 1 v n xs := by
  refine ⟨h.1, ?_⟩
  rcases h.2 with hn | ⟨g, cap, cur, rfl, hg, hh, r⟩
  · exact .inl hn
  · have hlt : g < w.heap.size := (Array.getElem?_eq_some_iff.1 hh).1
    exact .inr ⟨g, cap, cur, rfl, hg, by rw [(below_aft w u).block g hlt]; exact hh, r⟩

/-- The state of the statement's product: the remainders of the program's. -/
def modL (m : Int) (xs : List Int) : List Int := xs.map (· % m)
theorem modL_len (m : Int) (xs : List Int) : (modL m xs).length = xs.length := by simp [modL]
theorem modL_getD {m : Int} {xs : List Int} (j : Nat) : (modL m xs).getD j 0 = xs.getD j 0 % m := by
  rcases Nat.lt_or_ge j xs.length with h | h
  · rw [getD_lt (by rw [modL_len]; exact h), getD_lt h]; simp [modL]
  · rw [List.getD_eq_getElem?_getD, List.getD_eq_getElem?_getD, List.getElem?_eq_none h, List.getElem?_eq_none (by rw [modL_len]; exact h)]; simp
theorem modL_add {m v : Int} {xs : List Int} {j : Nat} : (vI (modL m xs)).set j (.int .i64 ((xs.getD j 0 % m + v) % m)) = vI (modL m (addAt xs j v)) := by
  have e : (modL m xs).set j ((xs.getD j 0 % m + v) % m) = modL m (addAt xs j v) := by
    unfold addAt modL
    rw [List.map_set]
    congr 1
    rw [Int.emod_add_emod]
  rw [← e]
  simp [vI, List.map_set]

set_option maxRecDepth 20000 in
set_option maxHeartbeats 8000000 in
theorem s_mulRing (r1 r2 : Value) (xs ys : List Int) (m : Int) (w : World) (h1 : rdI w r1 xs) (h2 : rdI w r2 ys) (hl1 : xs.length ≤ 9) (hl2 : ys.length ≤ 1000) (hm : 1 ≤ m ∧ m ≤ 1000000000) (hc : ∀ c ∈ xs, ∀ d ∈ ys, 0 ≤ c * d ∧ c * d ≤ 1000000000000000000) :
    Calls Try.prog 41 #[r1, r2, .int .i64 m] w fun e w' => ∃ v, e = .returned v ∧ ownR w.heap.size w' v (if xs = [] ∨ ys = [] then [] else trimF (modL m (prodS xs ys xs.length))) ∧ Below w.heap.size w w' := by
  obtain ⟨i0, hi, hz0, hz1, hz2⟩ := info_parts infoI
  obtain ⟨a1, cap1, rfl, _, _⟩ := id h1
  obtain ⟨a2, cap2, rfl, _, _⟩ := id h2
  by_cases hx : xs = []
  · rw [if_pos (.inl hx)]
    subst hx
    simp only [List.length_nil]
    go_enter Try.func41, Try.ntmps41
    go_wp2_with fail
    go_ret
    exact ⟨_, rfl, own_made w, (by refine Ext.bel ?_; repeat (with_reducible first | exact Ext.refl _ | apply Ext.alloc | apply Ext.aft | apply Ext.drew | apply Ext.drewN | apply Ext.setCell | exact Nat.le_add_right _ _ | exact Nat.le_refl _ | (simp; done) | omega))⟩
  have hx1 : 1 ≤ xs.length := by
    rcases Nat.eq_zero_or_pos xs.length with h0 | h0
    · exact absurd (List.eq_nil_of_length_eq_zero h0) hx
    · exact h0
  by_cases hy : ys = []
  · rw [if_pos (.inr hy)]
    subst hy
    simp only [List.length_nil]
    have hn0 : (xs.length == 0) = false := by simp; omega
    have hn1 : ((xs.length : Int) == 0) = false := by simp; omega
    go_enter Try.func41, Try.ntmps41
    go_wp2_with fail
    go_ret
    exact ⟨_, rfl, own_made w, (by refine Ext.bel ?_; repeat (with_reducible first | exact Ext.refl _ | apply Ext.alloc | apply Ext.aft | apply Ext.drew | apply Ext.drewN | apply Ext.setCell | exact Nat.le_add_right _ _ | exact Nat.le_refl _ | (simp; done) | omega))⟩
  have hy1 : 1 ≤ ys.length := by
    rcases Nat.eq_zero_or_pos ys.length with h0 | h0
    · exact absurd (List.eq_nil_of_length_eq_zero h0) hy
    · exact h0
  rw [if_neg (by simp [hx, hy])]
  obtain ⟨b1, o1, rfl⟩ := rd_head h1 hx
  obtain ⟨b2, o2, rfl⟩ := rd_head h2 hy
  have H1 := hid h1
  have H2 := hid h2
  have Hc := hid hc
  obtain ⟨L, hL⟩ : ∃ L, L = xs.length + ys.length - 1 := ⟨_, rfl⟩
  have hLi : (xs.length : Int) + ys.length - 1 = L := by omega
  have HL := hid hL
  have hx2 : ((xs.length : Int) == 0) = false := by simp; omega
  have hy2 : ((ys.length : Int) == 0) = false := by simp; omega
  have hL9 : L ≤ 2000 := by omega
  clear h1 h2 hc hx hy hL
  go_enter Try.func41, Try.ntmps41
  go_wp2_with (at_make; refine wpList_make_full _ rfl _ _ 24 rfl w.heap.size 2 i0 (.int .i64 0) 1 Try.underlying24 hi hz0 hz1 _ _ _ _ L rfl rfl (by omega) (by omega) (by rw [hz2]; omega) (by unfold maxLen; omega) (Nat.le_refl _) ?_)
  intro w1 hown0 hgr
  have hown : w1.ownsRow w.heap.size 2 1 (.slice (some ⟨w.heap.size, 0, none⟩) L L) L (vI (modL m (prodS xs ys 0))) := by
    have e : modL m (prodS xs ys 0) = List.replicate L 0 := by rw [HL.out]; simp [modL, prodS]
    rw [e, ← vI_zeros]; exact hown0
  have HB : Hid (Below w.heap.size w w1) := hid (Below.grown (Below.refl _ _) hgr (Nat.le_refl _) (fun k hk => by cases hk))
  have HO := hid hown
  clear hown0 hown hgr
  go_wp2_with fail
  go_loopw [8] (fun s wr => ∃ i : Nat, i ≤ xs.length ∧ s = .int .i64 i ∧ Hid (wr.ownsRow w.heap.size 2 1 (.slice (some ⟨w.heap.size, 0, none⟩) L L) L (vI (modL m (prodS xs ys i)))) ∧ Hid (Below w.heap.size w wr)) (fun s _ => xs.length - (intOf s).toNat)
  case atStart => exact ⟨0, by omega, rfl, HO, HB⟩
  case round =>
    obtain ⟨i, hi9, rfl, HO, HB⟩ := hrel
    obtain ⟨wo, rfl⟩ : ∃ wo : World, wo = wr := ⟨_, rfl⟩
    by_cases hlt : i < xs.length
    · have hltz : (i : Int) < (xs.length : Int) := by omega
      obtain ⟨c, hcx⟩ : ∃ c, c = xs.getD i 0 := ⟨_, rfl⟩
      have HC := hid hcx
      clear hcx
      go_wp2_with fail
      go_loopw [9] (fun s wr => ∃ k : Nat, k ≤ ys.length ∧ s = .int .i64 k ∧ Hid (wr.ownsRow w.heap.size 2 1 (.slice (some ⟨w.heap.size, 0, none⟩) L L) L (vI (modL m (rowS (prodS xs ys i) i c ys k)))) ∧ Hid (Below w.heap.size w wr)) (fun s _ => ys.length - (intOf s).toNat)
      case atStart => exact ⟨0, by omega, rfl, HO, HB⟩
      case round =>
        obtain ⟨k, hk9, rfl, HO', HB'⟩ := hrel
        by_cases hlt2 : k < ys.length
        · have hltz2 : (k : Int) < (ys.length : Int) := by omega
          have hf := HB'.out.cell (p := ⟨b1, o1 + i, none⟩) (World.block_lt_of_cell? w _ (rd_at H1.out hlt))
          rw [rd_at H1.out hlt, ← HC.out] at hf
          have hfb := World.block_lt_of_cell? _ _ hf
          have hg := HB'.out.cell (p := ⟨b2, o2 + k, none⟩) (World.block_lt_of_cell? w _ (rd_at H2.out hlt2))
          rw [rd_at H2.out hlt2] at hg
          have hgb := World.block_lt_of_cell? _ _ hg
          have hlen : (modL m (rowS (prodS xs ys i) i c ys k)).length = L := by rw [modL_len, rowS_len, prodS_len, HL.out]
          have hik : i + k < L := by have := HL.out; omega
          have hcl := HO'.out.cellAt (i + k) (by omega)
          rw [vI_at (by omega), modL_getD] at hcl
          have hcb := World.block_lt_of_cell? _ _ hcl
          have hfr := HO'.out.frozenAt (i + k)
          have hcd := prods_of (by omega) Hc.out i k
          rw [← HC.out] at hcd
          obtain ⟨X, hX⟩ : ∃ X, X = (rowS (prodS xs ys i) i c ys k).getD (i + k) 0 % m := ⟨_, rfl⟩
          have hbd : 0 ≤ X ∧ X ≤ 1000000000 := by
            rw [hX]; exact ⟨Int.emod_nonneg _ (by omega), by have := Int.emod_lt_of_pos ((rowS (prodS xs ys i) i c ys k).getD (i + k) 0) (show 0 < m by omega); omega⟩
          rw [← hX] at hcl
          obtain ⟨d, hd⟩ : ∃ d, d = ys.getD k 0 := ⟨_, rfl⟩
          rw [← hd] at hg hcd
          have HX := hid hX
          have HD := hid hd
          have hikz : (i : Int) + k < (L : Int) := by omega
          clear hX hd hlen
          go_wp2_with fail
          refine wp_region_calm_tail 23 (by kernel_rfl) (by kernel_rfl) ?_
          simp only [List.take_succ_cons, List.take_zero, List.drop_succ_cons, List.drop_zero]
          repeat (go_big_quiet_step (fail))
          refine wpQuiet_nil ?_; intro uq zq; try simp at zq
          have hst := (rawAft HO'.out uq).stored (i + k) (.int .i64 ((X + c * d) % m))
          rw [HX.out, HD.out, modL_add, ← rowS_succ, ← HX.out, ← HD.out] at hst
          have HS := hid hst
          have HBq : Hid (Below w.heap.size w (aft wr uq)) := hid (HB'.out.trans ((below_aft wr uq).mono HB'.out.size))
          clear hst
          go_wp2_with fail
          go_roundw
          case rel => exact ⟨k + 1, by omega, by go_num, hid HS.out.1, hid (Below.grown HBq.out HS.out.2 HBq.out.size (fun k hk => by injection hk with hk; omega))⟩
          case measure => simp only [intOf]; omega
        · obtain rfl : k = ys.length := by omega
          have hltz2 : ¬ (ys.length : Int) < (ys.length : Int) := by omega
          go_wp2_with fail
          go_roundw
          case rel => exact ⟨i + 1, by omega, by go_num, hid (by rw [prodS_succ, ← HC.out]; exact HO'.out), HB'⟩
          case measure => simp only [intOf]; omega
    · obtain rfl : i = xs.length := by omega
      have hltz : ¬ (xs.length : Int) < (xs.length : Int) := by omega
      have hown : ownR w.heap.size wo (.slice (some ⟨w.heap.size, 0, none⟩) L L) (modL m (prodS xs ys xs.length)) := by
        unfold ownR; rw [modL_len, prodS_len, ← HL.out]; exact HO.out
      have HW := hid hown
      clear hown HO
      go_wp2_with (go_at_call 42; refine viaI (g := id) (s_trim w.heap.size _ _ _ HW.out (by rw [modL_len, prodS_len]; omega)) ?_; intro rr ur zr hown2; (try simp at zr))
      go_ret
      exact ⟨_, rfl, hown2.mono HB.out.size, HB.out.trans (Below.mono (by refine Ext.bel ?_; repeat (with_reducible first | exact Ext.refl _ | apply Ext.alloc | apply Ext.aft | apply Ext.drew | apply Ext.drewN | apply Ext.setCell | exact Nat.le_add_right _ _ | exact Nat.le_refl _ | (simp; done) | omega)) HB.out.size)⟩
end Go.Proofs.Ytaninbfcoifedaa
