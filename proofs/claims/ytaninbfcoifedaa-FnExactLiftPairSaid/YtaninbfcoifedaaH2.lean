/- Trimmed slices, remainders of coefficients: both texts. -/
import Derived.Test.YtaninbfcoifedaaMA
import Derived.Test.YtaninbfcoifedaaG3
import Derived.Test.YtaninbfcoifedaaB6
namespace Go.Proofs.Ytaninbfcoifedaa
open Go Go.RowKit

/-- How many of the first n numbers are left without the noughts at their end. -/
def trimN (xs : List Int) : Nat → Nat
  | 0 => 0
  | n + 1 => if xs.getD n 0 = 0 then trimN xs n else n + 1
def trimF (xs : List Int) : List Int := xs.take (trimN xs xs.length)
theorem trimN_le (xs : List Int) (n : Nat) : trimN xs n ≤ n := by
  induction n with
  | zero => simp [trimN]
  | succ n ih => simp only [trimN]; split <;> omega
theorem trimF_len (xs : List Int) : (trimF xs).length ≤ xs.length := by unfold trimF; rw [List.length_take]; omega
theorem trimF_mem {xs : List Int} {x : Int} (h : x ∈ trimF xs) : x ∈ xs := List.mem_of_mem_take h

theorem rd_cut {w : World} {a : Option Addr} {cap n : Nat} {xs : List Int} (h : rdI w (.slice a xs.length cap) xs) (h1 : n ≤ xs.length) : rdI w (.slice a n cap) (xs.take n) := by
  obtain ⟨a', cap', he, hm, hc⟩ := h
  cases he
  have hl : (xs.take n).length = n := by rw [List.length_take]; omega
  refine ⟨a, cap, by rw [hl], by omega, fun hne => ?_⟩
  have hpos : xs ≠ [] := by intro e; subst e; simp at hne
  obtain ⟨b, o, rfl, hcell⟩ := hc hpos
  refine ⟨b, o, rfl, fun i hi => ?_⟩
  rw [hcell i (by omega)]
  simp
theorem own_cap {B : Nat} {w : World} {a : Option Addr} {n cap : Nat} {xs : List Int} (h : ownR B w (.slice a n cap) xs) : xs.length ≤ cap := by
  rcases h.2 with ⟨e, h1⟩ | ⟨g, c, cur, e, _, _, h2, _⟩
  · injection e with e1 e2 e3; omega
  · injection e with e1 e2 e3; omega
theorem ownR.snocK {B : Nat} {w : World} {v : Value} {xs : List Int} {x : Int} {k : Nat} (hk : xs.length = k) (h : w.ownsRow B 2 1 v (k + 1) (vI xs ++ [.int .i64 x])) : ownR B w v (xs ++ [x]) := by
  subst hk; exact ownR.snoc h

set_option maxRecDepth 20000 in
set_option maxHeartbeats 2000000 in
theorem i_trim (B : Nat) (r : Value) (xs : List Int) (w : World) (h : ownR B w r xs) (hl : xs.length ≤ 1000000) :
    Calls Try.prog 68 #[r] w fun e w' => ∃ v, e = .returned v ∧ ownR w.heap.size w' v (trimF xs) ∧ Below w.heap.size w w' := by
  have HO := hid h
  obtain ⟨a, cap, rfl, hm, hc⟩ := h.rd
  have hcap := own_cap h
  have HRD := hid h.rd
  have Hc := hid hc
  unfold trimF
  obtain ⟨N, hN⟩ : ∃ N, N = trimN xs xs.length := ⟨_, rfl⟩
  rw [← hN]
  have HN := hid hN
  clear hc hm h hN
  go_enter Try.func68, Try.ntmps68
  go_wp2_with fail
  go_loop [3] (fun i => ∃ n : Nat, n ≤ xs.length ∧ i = .int .i64 n ∧ Hid (trimN xs n = N)) (fun i => (intOf i).toNat)
  case atStart => exact ⟨xs.length, by omega, rfl, hid HN.out.symm⟩
  case round =>
    obtain ⟨n, hn, rfl, HA⟩ := hrel
    have fin : Hid (trimN xs n = n → N = n) := hid (fun h => by rw [← HA.out, h])
    have HR := hid (rd_cut HRD.out hn)
    have hncap : n ≤ cap := by omega
    rcases Nat.eq_zero_or_pos n with rfl | hpos
    · have e : Hid (N = 0) := hid (fin.out rfl)
      go_wp2_with (go_at_call 25; refine viaI (g := id) (i_clone _ _ _ HR.out (by rw [List.length_take]; omega)) ?_; intro rr ur zr hown; (try simp at zr))
      go_ret
      exact ⟨_, rfl, by rw [e.out]; exact hown, (by refine Ext.bel ?_; repeat (with_reducible first | exact Ext.refl _ | apply Ext.alloc | apply Ext.aft | apply Ext.drew | apply Ext.drewN | apply Ext.setCell | exact Nat.le_add_right _ _ | exact Nat.le_refl _ | (simp; done) | omega))⟩
    · obtain ⟨j, rfl⟩ : ∃ j, n = j + 1 := ⟨n - 1, by omega⟩
      have hj : j < xs.length := by omega
      obtain ⟨b, o, rfl, hcell⟩ := Hc.out (by intro e; subst e; simp at hj)
      have h1 := hcell j hj
      have e1 : xs.getD j 0 = xs[j] := by simp [List.getD, List.getElem?_eq_getElem hj]
      have HT : Hid (trimN xs (j + 1) = if xs[j] = 0 then trimN xs j else j + 1) := hid (by rw [← e1]; rfl)
      obtain ⟨x, hx⟩ : ∃ x, x = xs[j] := ⟨_, rfl⟩
      rw [← hx] at h1 HT
      clear hx hcell e1
      by_cases hz : x = 0
      · subst hz
        go_wp2_with fail
        go_round
        case rel => exact ⟨j, by omega, by go_num, hid (by rw [← HA.out, HT.out]; simp)⟩
        case measure => simp only [intOf]; omega
      · have hz' : (x == 0) = false := by simpa using hz
        have e : Hid (N = j + 1) := hid (fin.out (by rw [HT.out, if_neg hz]))
        clear hz
        go_wp2_with (go_at_call 25; refine viaI (g := id) (i_clone _ _ _ HR.out (by rw [List.length_take]; omega)) ?_; intro rr ur zr hown; (try simp at zr))
        go_ret
        exact ⟨_, rfl, by rw [e.out]; exact hown, (by refine Ext.bel ?_; repeat (with_reducible first | exact Ext.refl _ | apply Ext.alloc | apply Ext.aft | apply Ext.drew | apply Ext.drewN | apply Ext.setCell | exact Nat.le_add_right _ _ | exact Nat.le_refl _ | (simp; done) | omega))⟩
set_option maxRecDepth 20000 in
set_option maxHeartbeats 2000000 in
theorem s_trim (B : Nat) (r : Value) (xs : List Int) (w : World) (h : ownR B w r xs) (hl : xs.length ≤ 1000000) :
    Calls Try.prog 42 #[r] w fun e w' => ∃ v, e = .returned v ∧ ownR w.heap.size w' v (trimF xs) ∧ Below w.heap.size w w' := by
  have HO := hid h
  obtain ⟨a, cap, rfl, hm, hc⟩ := h.rd
  have hcap := own_cap h
  have HRD := hid h.rd
  have Hc := hid hc
  unfold trimF
  obtain ⟨N, hN⟩ : ∃ N, N = trimN xs xs.length := ⟨_, rfl⟩
  rw [← hN]
  have HN := hid hN
  clear hc hm h hN
  go_enter Try.func42, Try.ntmps42
  go_wp2_with fail
  go_loop [3] (fun i => ∃ n : Nat, n ≤ xs.length ∧ i = .int .i64 n ∧ Hid (trimN xs n = N)) (fun i => (intOf i).toNat)
  case atStart => exact ⟨xs.length, by omega, rfl, hid HN.out.symm⟩
  case round =>
    obtain ⟨n, hn, rfl, HA⟩ := hrel
    have fin : Hid (trimN xs n = n → N = n) := hid (fun h => by rw [← HA.out, h])
    have HR := hid (rd_cut HRD.out hn)
    have hncap : n ≤ cap := by omega
    rcases Nat.eq_zero_or_pos n with rfl | hpos
    · have e : Hid (N = 0) := hid (fin.out rfl)
      go_wp2_with (go_at_call 39; refine viaI (g := id) (s_own _ _ _ HR.out (by rw [List.length_take]; omega)) ?_; intro rr ur zr hown; (try simp at zr))
      go_ret
      exact ⟨_, rfl, by rw [e.out]; exact hown, (by refine Ext.bel ?_; repeat (with_reducible first | exact Ext.refl _ | apply Ext.alloc | apply Ext.aft | apply Ext.drew | apply Ext.drewN | apply Ext.setCell | exact Nat.le_add_right _ _ | exact Nat.le_refl _ | (simp; done) | omega))⟩
    · obtain ⟨j, rfl⟩ : ∃ j, n = j + 1 := ⟨n - 1, by omega⟩
      have hj : j < xs.length := by omega
      obtain ⟨b, o, rfl, hcell⟩ := Hc.out (by intro e; subst e; simp at hj)
      have h1 := hcell j hj
      have e1 : xs.getD j 0 = xs[j] := by simp [List.getD, List.getElem?_eq_getElem hj]
      have HT : Hid (trimN xs (j + 1) = if xs[j] = 0 then trimN xs j else j + 1) := hid (by rw [← e1]; rfl)
      obtain ⟨x, hx⟩ : ∃ x, x = xs[j] := ⟨_, rfl⟩
      rw [← hx] at h1 HT
      clear hx hcell e1
      by_cases hz : x = 0
      · subst hz
        go_wp2_with fail
        go_round
        case rel => exact ⟨j, by omega, by go_num, hid (by rw [← HA.out, HT.out]; simp)⟩
        case measure => simp only [intOf]; omega
      · have hz' : (x == 0) = false := by simpa using hz
        have e : Hid (N = j + 1) := hid (fin.out (by rw [HT.out, if_neg hz]))
        clear hz
        go_wp2_with (go_at_call 39; refine viaI (g := id) (s_own _ _ _ HR.out (by rw [List.length_take]; omega)) ?_; intro rr ur zr hown; (try simp at zr))
        go_ret
        exact ⟨_, rfl, by rw [e.out]; exact hown, (by refine Ext.bel ?_; repeat (with_reducible first | exact Ext.refl _ | apply Ext.alloc | apply Ext.aft | apply Ext.drew | apply Ext.drewN | apply Ext.setCell | exact Nat.le_add_right _ _ | exact Nat.le_refl _ | (simp; done) | omega))⟩

/-- The remainders of the first k numbers. -/
def modK (m : Int) (xs : List Int) (k : Nat) : List Int := (xs.take k).map (· % m)
theorem modK_len {m : Int} {xs : List Int} {k : Nat} (h : k ≤ xs.length) : (modK m xs k).length = k := by simp [modK]; omega
theorem modK_succ {m : Int} {xs : List Int} {k : Nat} (h : k < xs.length) : modK m xs (k + 1) = modK m xs k ++ [xs[k] % m] := by
  unfold modK; rw [take_snocI _ _ h, List.map_append]; rfl
theorem modK_all (m : Int) (xs : List Int) : modK m xs xs.length = xs.map (· % m) := by simp [modK]
def redF (m : Int) (xs : List Int) : List Int := trimF (xs.map (· % m))

set_option maxRecDepth 20000 in
set_option maxHeartbeats 4000000 in
theorem i_reduce (m : Int) (r : Value) (xs : List Int) (w : World) (h : rdI w r xs) (hm : 1 ≤ m ∧ m ≤ 1000000000) (hl : xs.length ≤ 1000000) :
    Calls Try.prog 29 #[.int .i64 m, r] w fun e w' => ∃ v, e = .returned v ∧ ownR w.heap.size w' v (redF m xs) ∧ Below w.heap.size w w' := by
  obtain ⟨i0, hi, hz0, hz1, hz2⟩ := info_parts infoI
  obtain ⟨a, cap, rfl, hm0, hc⟩ := h
  have Hc := hid hc
  unfold maxLen at hm0
  clear hc
  go_enter Try.func29, Try.ntmps29
  go_wp2_with fail
  go_loopw [5, 7, 10] (fun r _ i_ wr => ∃ (k : Nat) (uu : World), wr = aft w uu ∧ k ≤ xs.length ∧ i_ = .int .i64 k ∧ Hid (ownR w.heap.size wr r (modK m xs k))) (fun r _ i_ _ => (xs.length - intOf i_).toNat)
  case atStart => exact ⟨0, w, by first | exact (aft_of (Below.refl _ _)).symm | exact (aft_of (Below.alloc (Below.refl _ _) (Nat.le_refl _) _)).symm, by omega, rfl, hid (by first | exact ownR.nil _ _ | exact own_made w)⟩
  case round =>
    obtain ⟨k, uu, rfl, hk, rfl, HO⟩ := hrel
    have zs := size_aft w uu
    by_cases hlt : k < xs.length
    · have hltz : (k : Int) < (xs.length : Int) := by omega
      obtain ⟨b, o, rfl, hcell⟩ := Hc.out (by intro e; subst e; simp at hlt)
      have h1 := hcell k hlt
      have hb := World.block_lt_of_cell? w _ h1
      obtain ⟨c, hcx⟩ : ∃ c, c = xs[k] := ⟨_, rfl⟩
      rw [← hcx] at h1
      have HX := hid hcx
      clear hcx hcell
      have hown := HO.out
      have hml : (modK m xs k).length = k := modK_len hk
      go_wp2_with (first | (go_at_call 67; refine pur (i_mod _ _ _ (by omega) (by omega)) ?_) | (at_builtin; refine wpList_append_own _ rfl _ _ 24 rfl (w.heap.size) 2 i0 (.int .i64 0) 1 8 Try.underlying24 hi hz0 hz1 hz2 rfl (by decide) _ _ _ rfl (((hown).alloc _)) ⟨_, 0, none⟩ 1 1 [.int .i64 (c % m)] rfl rfl ?c1 ?c2 ?c3 ?c4 ?c5 ?_))
      case c1 => exact cell_one_new _ _ _
      case c2 => first | rfl | (intro u hu; simp at hu; subst hu; rfl)
      case c3 => rw [hml]; unfold maxLen; omega
      case c4 => rw [hml]; omega
      case c5 => first | omega | (simp; omega)
      intro v' w1 hown' hgrow _
      obtain ⟨u', rfl⟩ := grown_aft (W := w) (by repeat (with_reducible first | exact Ext.refl _ | apply Ext.alloc | apply Ext.aft | apply Ext.drew | apply Ext.drewN | apply Ext.setCell | exact Nat.le_add_right _ _ | exact Nat.le_refl _ | (simp; done) | omega)) hgrow (own_row_ge hown)
      have HO' := hid hown'
      clear hown' hgrow hown
      go_wp2_with fail
      go_roundw
      case rel => exact ⟨k + 1, u', rfl, by omega, by go_num, hid (by rw [modK_succ hlt, ← HX.out]; exact ownR.snocK hml HO'.out)⟩
      case measure => simp only [intOf]; omega
    · obtain rfl : k = xs.length := by omega
      have hltz : ¬ (xs.length : Int) < (xs.length : Int) := by omega
      have hml : (modK m xs xs.length).length = xs.length := modK_len (Nat.le_refl _)
      go_wp2_with (go_at_call 68; refine viaI (g := id) (i_trim w.heap.size _ _ _ HO.out (by rw [hml]; omega)) ?_; intro rr ur zr hown2; (try simp at zr))
      go_ret
      exact ⟨_, rfl, by unfold redF; rw [← modK_all]; exact hown2.mono zs, (by refine Ext.bel ?_; repeat (with_reducible first | exact Ext.refl _ | apply Ext.alloc | apply Ext.aft | apply Ext.drew | apply Ext.drewN | apply Ext.setCell | exact Nat.le_add_right _ _ | exact Nat.le_refl _ | (simp; done) | omega))⟩
set_option maxRecDepth 20000 in
set_option maxHeartbeats 4000000 in
theorem s_reduce (m : Int) (r : Value) (xs : List Int) (w : World) (h : rdI w r xs) (hm : 1 ≤ m ∧ m ≤ 1000000000) (hl : xs.length ≤ 1000000) :
    Calls Try.prog 35 #[.int .i64 m, r] w fun e w' => ∃ v, e = .returned v ∧ ownR w.heap.size w' v (redF m xs) ∧ Below w.heap.size w w' := by
  obtain ⟨i0, hi, hz0, hz1, hz2⟩ := info_parts infoI
  obtain ⟨a, cap, rfl, hm0, hc⟩ := h
  have Hc := hid hc
  unfold maxLen at hm0
  clear hc
  go_enter Try.func35, Try.ntmps35
  go_wp2_with fail
  go_loopw [5, 6] (fun r i_ wr => ∃ (k : Nat) (uu : World), wr = aft w uu ∧ k ≤ xs.length ∧ i_ = .int .i64 k ∧ Hid (ownR w.heap.size wr r (modK m xs k))) (fun r i_ _ => (xs.length - intOf i_).toNat)
  case atStart => exact ⟨0, (w.alloc (Obj.cells #[] 2)), by first | exact (aft_of (Below.refl _ _)).symm | exact (aft_of (Below.alloc (Below.refl _ _) (Nat.le_refl _) _)).symm, by omega, rfl, hid (by first | exact ownR.nil _ _ | exact own_made w)⟩
  case round =>
    obtain ⟨k, uu, rfl, hk, rfl, HO⟩ := hrel
    have zs := size_aft w uu
    by_cases hlt : k < xs.length
    · have hltz : (k : Int) < (xs.length : Int) := by omega
      obtain ⟨b, o, rfl, hcell⟩ := Hc.out (by intro e; subst e; simp at hlt)
      have h1 := hcell k hlt
      have hb := World.block_lt_of_cell? w _ h1
      obtain ⟨c, hcx⟩ : ∃ c, c = xs[k] := ⟨_, rfl⟩
      rw [← hcx] at h1
      have HX := hid hcx
      clear hcx hcell
      have hown := HO.out
      have hml : (modK m xs k).length = k := modK_len hk
      go_wp2_with (first | (go_at_call 73; refine pur (s_mod _ _ _ (by omega) (by omega)) ?_) | (at_builtin; refine wpList_append_own _ rfl _ _ 24 rfl (w.heap.size) 2 i0 (.int .i64 0) 1 8 Try.underlying24 hi hz0 hz1 hz2 rfl (by decide) _ _ _ rfl (((hown).alloc _)) ⟨_, 0, none⟩ 1 1 [.int .i64 (c % m)] rfl rfl ?c1 ?c2 ?c3 ?c4 ?c5 ?_))
      case c1 => exact cell_one_new _ _ _
      case c2 => first | rfl | (intro u hu; simp at hu; subst hu; rfl)
      case c3 => rw [hml]; unfold maxLen; omega
      case c4 => rw [hml]; omega
      case c5 => first | omega | (simp; omega)
      intro v' w1 hown' hgrow _
      obtain ⟨u', rfl⟩ := grown_aft (W := w) (by repeat (with_reducible first | exact Ext.refl _ | apply Ext.alloc | apply Ext.aft | apply Ext.drew | apply Ext.drewN | apply Ext.setCell | exact Nat.le_add_right _ _ | exact Nat.le_refl _ | (simp; done) | omega)) hgrow (own_row_ge hown)
      have HO' := hid hown'
      clear hown' hgrow hown
      go_wp2_with fail
      go_roundw
      case rel => exact ⟨k + 1, u', rfl, by omega, by go_num, hid (by rw [modK_succ hlt, ← HX.out]; exact ownR.snocK hml HO'.out)⟩
      case measure => simp only [intOf]; omega
    · obtain rfl : k = xs.length := by omega
      have hltz : ¬ (xs.length : Int) < (xs.length : Int) := by omega
      have hml : (modK m xs xs.length).length = xs.length := modK_len (Nat.le_refl _)
      go_wp2_with (go_at_call 42; refine viaI (g := id) (s_trim w.heap.size _ _ _ HO.out (by rw [hml]; omega)) ?_; intro rr ur zr hown2; (try simp at zr))
      go_ret
      exact ⟨_, rfl, by unfold redF; rw [← modK_all]; exact hown2.mono zs, (by refine Ext.bel ?_; repeat (with_reducible first | exact Ext.refl _ | apply Ext.alloc | apply Ext.aft | apply Ext.drew | apply Ext.drewN | apply Ext.setCell | exact Nat.le_add_right _ _ | exact Nat.le_refl _ | (simp; done) | omega))⟩
end Go.Proofs.Ytaninbfcoifedaa
