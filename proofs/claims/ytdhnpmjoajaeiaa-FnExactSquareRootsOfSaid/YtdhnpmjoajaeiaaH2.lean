/- Trimmed slices, remainders of coefficients: both texts. -/
import Derived.Test.YtdhnpmjoajaeiaaMA
import Derived.Test.YtdhnpmjoajaeiaaG3
import Derived.Test.YtdhnpmjoajaeiaaB6
namespace Go.Proofs.Ytdhnpmjoajaeiaa
open Go Go.RowKit

/-- How many of the first n numbers are left without the noughts at their end. -/
def trimN (xs : List Int) : Nat → Nat
  | 0 => 0
  | n + 1 => if xs.getD n 0 = 0 then trimN xs n else n + 1
def trimF (xs : List Int) : List Int := xs.take (trimN xs xs.length)
theorem trimN_le (xs : List Int) (n : Nat) : trimN xs n ≤ n := by
  induction n with
  | zero => simp [trimN]
  | succ n ih => simp only [trimN]; split <;> omega
theorem trimF_len (xs : List Int) : (trimF xs).length ≤ xs.length := by unfold trimF; rw [List.length_take]; omega
theorem trimF_mem {xs : List Int} {x : Int} (h : x ∈ trimF xs) : x ∈ xs := List.mem_of_mem_take h

theorem rd_cut {w : World} {a : Option Addr} {cap n : Nat} {xs : List Int} (h : rdI w (.slice a xs.length cap) xs) (h1 : n ≤ xs.length) : rdI w (.slice a n cap) (xs.take n) := by
  obtain ⟨a', cap', he, hm, hc⟩ := h
  cases he
  have hl : (xs.take n).length = n := by rw [List.length_take]; omega
  refine ⟨a, cap, by rw [hl], by omega, fun hne => ?_⟩
  have hpos : xs ≠ [] := by intro e; subst e; simp at hne
  obtain ⟨b, o, rfl, hcell⟩ := hc hpos
  refine ⟨b, o, rfl, fun i hi => ?_⟩
  rw [hcell i (by omega)]
  simp
theorem own_cap {B : Nat} {w : World} {a : Option Addr} {n cap : Nat} {xs : List Int} (h : ownR B w (.slice a n cap) xs) : xs.length ≤ cap := by
  rcases h.2 with ⟨e, h1⟩ | ⟨g, c, cur, e, _, _, h2, _⟩
  · injection e with e1 e2 e3; omega
  · injection e with e1 e2 e3; omega
theorem ownR.snocK {B : Nat} {w : World} {v : Value} {xs : List Int} {x : Int} {k : Nat} (hk : xs.length = k) (h : w.ownsRow B 2 1 v (k + 1) (vI xs ++ [.int .i64 x])) : ownR B w v (xs ++ [x]) := by
  subst hk; exact ownR.snoc h

set_option maxRecDepth 20000 in
set_option maxHeartbeats 2000000 in
theorem s_trim (B : Nat) (r : Value) (xs : List Int) (w : World) (h : ownR B w r xs) (hl : xs.length ≤ 1000000) :
    Calls Try.prog 76 #[r] w fun e w' => ∃ v, e = .returned v ∧ ownR w.heap.size w' v (trimF xs) ∧ Below w.heap.size w w' := by
  have HO := hid h
  obtain ⟨a, cap, rfl, hm, hc⟩ := h.rd
  have hcap := own_cap h
  have HRD := hid h.rd
  have Hc := hid hc
  unfold trimF
  obtain ⟨N, hN⟩ : ∃ N, N = trimN xs xs.length := ⟨_, rfl⟩
  rw [← hN]
  have HN := hid hN
  clear hc hm h hN
  go_enter Try.func76, Try.ntmps76
  go_wp2_with fail
  go_loop [3] (fun i => ∃ n : Nat, n ≤ xs.length ∧ i = .int .i64 n ∧ Hid (trimN xs n = N)) (fun i => (intOf i).toNat)
  case atStart => exact ⟨xs.length, by omega, rfl, hid HN.out.symm⟩
  case round =>
    obtain ⟨n, hn, rfl, HA⟩ := hrel
    have fin : Hid (trimN xs n = n → N = n) := hid (fun h => by rw [← HA.out, h])
    have HR := hid (rd_cut HRD.out hn)
    have hncap : n ≤ cap := by omega
    rcases Nat.eq_zero_or_pos n with rfl | hpos
    · have e : Hid (N = 0) := hid (fin.out rfl)
      go_wp2_with (go_at_call 54; refine viaI (g := id) (s_own _ _ _ HR.out (by rw [List.length_take]; omega)) ?_; intro rr ur zr hown; (try simp at zr))
      go_ret
      exact ⟨_, rfl, by rw [e.out]; exact hown, (by refine Ext.bel ?_; repeat (with_reducible first | exact Ext.refl _ | apply Ext.alloc | apply Ext.aft | apply Ext.drew | apply Ext.drewN | apply Ext.setCell | exact Nat.le_add_right _ _ | exact Nat.le_refl _ | (simp; done) | omega))⟩
    · obtain ⟨j, rfl⟩ : ∃ j, n = j + 1 := ⟨n - 1, by omega⟩
      have hj : j < xs.length := by omega
      obtain ⟨b, o, rfl, hcell⟩ := Hc.out (by intro e; subst e; simp at hj)
      have h1 := hcell j hj
      have e1 : xs.getD j 0 = xs[j] := by simp [List.getD, List.getElem?_eq_getElem hj]
      have HT : Hid (trimN xs (j + 1) = if xs[j] = 0 then trimN xs j else j + 1) := hid (by rw [← e1]; rfl)
      obtain ⟨x, hx⟩ : ∃ x, x = xs[j] := ⟨_, rfl⟩
      rw [← hx] at h1 HT
      clear hx hcell e1
      by_cases hz : x = 0
      · subst hz
        go_wp2_with fail
        go_round
        case rel => exact ⟨j, by omega, by go_num, hid (by rw [← HA.out, HT.out]; simp)⟩
        case measure => simp only [intOf]; omega
      · have hz' : (x == 0) = false := by simpa using hz
        have e : Hid (N = j + 1) := hid (fin.out (by rw [HT.out, if_neg hz]))
        clear hz
        go_wp2_with (go_at_call 54; refine viaI (g := id) (s_own _ _ _ HR.out (by rw [List.length_take]; omega)) ?_; intro rr ur zr hown; (try simp at zr))
        go_ret
        exact ⟨_, rfl, by rw [e.out]; exact hown, (by refine Ext.bel ?_; repeat (with_reducible first | exact Ext.refl _ | apply Ext.alloc | apply Ext.aft | apply Ext.drew | apply Ext.drewN | apply Ext.setCell | exact Nat.le_add_right _ _ | exact Nat.le_refl _ | (simp; done) | omega))⟩

/-- The remainders of the first k numbers. -/
def modK (m : Int) (xs : List Int) (k : Nat) : List Int := (xs.take k).map (· % m)
theorem modK_len {m : Int} {xs : List Int} {k : Nat} (h : k ≤ xs.length) : (modK m xs k).length = k := by simp [modK]; omega
theorem modK_succ {m : Int} {xs : List Int} {k : Nat} (h : k < xs.length) : modK m xs (k + 1) = modK m xs k ++ [xs[k] % m] := by
  unfold modK; rw [take_snocI _ _ h, List.map_append]; rfl
theorem modK_all (m : Int) (xs : List Int) : modK m xs xs.length = xs.map (· % m) := by simp [modK]
def redF (m : Int) (xs : List Int) : List Int := trimF (xs.map (· % m))

end Go.Proofs.Ytdhnpmjoajaeiaa
