/- Laws of groups: what they call. -/
import Derived.Test.YtbkbcbanfnhjpaaW11
import Derived.Test.YtbkbcbanfnhjpaaP4
import Derived.Test.YtbkbcbanfnhjpaaT1
namespace Go.Proofs.Ytbkbcbanfnhjpaa
open Go Go.RowKit

theorem l_big (a : Option Addr) (len cap : Nat) (w : World) :
    Calls Try.prog 8 #[.slice a len cap] w fun e w' => e = .returned (.bool (decide ((4096 : Int) < (len : Int)))) ∧ w = w' := by
  go_enter Try.func8, Try.ntmps8
  go_wp2_with fail
  go_ret
  exact ⟨rfl, rfl⟩
theorem rdB.ext {w W : World} {a : Option Addr} {len : Nat} (h : rdB w.heap.size w a len) (hE : Ext w.heap.size w W) : rdB w.heap.size W a len :=
  h.of fun k o v hk hv => (hE.1.cell (p := ⟨k, o, none⟩) hk).trans hv
set_option maxHeartbeats 1000000 in
theorem l_likeI (r1 r2 : Value) (xs : List Int) (w : World) (h : rdI w r1 xs) (h' : rdI w r2 xs) :
    Calls Try.prog 67 #[r1, r2] w fun e w' => e = .returned (.bool true) ∧ Below w.heap.size w w' := by
  obtain ⟨a, cap, rfl, hm, hc⟩ := h
  obtain ⟨a', cap', rfl, hm', hc'⟩ := h'
  have Hc := hid hc
  have Hc' := hid hc'
  unfold maxLen at hm
  clear hc hc' hm'
  go_enter Try.func67, Try.ntmps67
  go_wp2_with fail
  go_loopw [5] (fun i wr => ∃ (k : Nat) (uu : World), wr = aft w uu ∧ k ≤ xs.length ∧ i = .int .i64 k) (fun i _ => xs.length - (intOf i).toNat)
  case atStart => exact ⟨0, w, (aft_of (Below.refl _ _)).symm, by omega, rfl⟩
  case round =>
    obtain ⟨k, uu, rfl, hk, rfl⟩ := hrel
    by_cases hlt : k < xs.length
    · obtain ⟨b, o, rfl, hcell⟩ := Hc.out (by intro e; subst e; simp at hlt)
      obtain ⟨b', o', rfl, hcell'⟩ := Hc'.out (by intro e; subst e; simp at hlt)
      have h1 := hcell k hlt
      have h2 := hcell' k hlt
      have h3 := World.block_lt_of_cell? w _ h1
      have h4 := World.block_lt_of_cell? w _ h2
      obtain ⟨x, hx⟩ : ∃ x, x = xs[k] := ⟨_, rfl⟩
      rw [← hx] at h1 h2
      have hz : ((k : Int) : Int) < (xs.length : Int) := by omega
      have hz0 : (0 : Int) ≤ (k : Int) := by omega
      have zs := size_aft w uu
      clear hx hcell hcell'
      go_wp2_with fail
      refine wp_region_calm (by kernel_rfl) (by kernel_rfl) ?_
      repeat (go_big_quiet_step (fail))
      refine wpQuiet_nil ?_; intro uq zq; try simp at zq
      go_wp2_with fail
      go_roundw
      case rel => exact ⟨k + 1, _, (aft_of ((below_aft w uu).trans ((below_aft _ _).mono (size_aft w uu)))).symm, by omega, by go_num⟩
      case measure => simp [intOf]; omega
    · obtain rfl : k = xs.length := by omega
      go_wp2
      go_ret
      exact ⟨rfl, (by refine Ext.bel ?_; repeat (with_reducible first | exact Ext.refl _ | apply Ext.alloc | apply Ext.aft | apply Ext.drew | apply Ext.drewN | apply Ext.setCell | exact Nat.le_add_right _ _ | exact Nat.le_refl _ | (simp; done) | omega))⟩
set_option maxHeartbeats 1000000 in
theorem l_likeG (n : Int) (r1 r2 : Value) (xs : List Int) (w : World) (h1 : rdI w r1 xs) (h2 : rdI w r2 xs) :
    Calls Try.prog 21 #[.agg #[.int .i64 n, r1], .agg #[.int .i64 n, r2]] w fun e w' => e = .returned (.bool true) ∧ Below w.heap.size w w' := by
  go_enter Try.func21, Try.ntmps21
  go_wp2_with fail
  refine via (l_likeI _ _ xs _ (by exact (h1.alloc _).alloc _) (by exact (h2.alloc _).alloc _)) ?_
  intro u z
  try simp at z
  go_wp2_with fail
  go_ret
  exact ⟨rfl, (by refine Ext.bel ?_; repeat (with_reducible first | exact Ext.refl _ | apply Ext.alloc | apply Ext.aft | apply Ext.drew | apply Ext.drewN | apply Ext.setCell | exact Nat.le_add_right _ _ | exact Nat.le_refl _ | (simp; done) | omega))⟩
set_option maxHeartbeats 1000000 in
theorem l_hasI (r : Value) (xs : List Int) (x : Int) (w : World) (h : rdI w r xs) (hx : x ∈ xs) :
    Calls Try.prog 45 #[r, .int .i64 x] w fun e w' => e = .returned (.bool true) ∧ w = w' := by
  obtain ⟨a, cap, rfl, hm, hc⟩ := h
  unfold maxLen at hm
  have Hc := hid hc
  have HX := hid hx
  clear hc hx
  go_enter Try.func45, Try.ntmps45
  go_wp2_with fail
  go_loop [5] (fun i => ∃ k : Nat, k ≤ xs.length ∧ i = .int .i64 k ∧ Hid (∀ j, (h : j < xs.length) → j < k → xs[j] ≠ x)) (fun i => xs.length - (intOf i).toNat)
  case atStart => exact ⟨0, by omega, rfl, hid (fun j _ hj => by omega)⟩
  case round =>
    obtain ⟨k, hk, rfl, HN⟩ := hrel
    by_cases hlt : k < xs.length
    · have hltz : (k : Int) < (xs.length : Int) := by omega
      obtain ⟨b, o, rfl, hcell⟩ := Hc.out (by intro e; rw [e] at hlt; simp at hlt)
      have h1 := hcell k hlt
      have hnx := fun j (h : j < xs.length) (hj : j < k + 1) (hne : xs[k] ≠ x) => show xs[j] ≠ x from by
        by_cases hjk : j = k
        · subst hjk; exact hne
        · exact HN.out j h (by omega)
      have HNX := hid hnx
      obtain ⟨y, hy⟩ : ∃ y, y = xs[k] := ⟨_, rfl⟩
      rw [← hy] at h1 HNX
      clear hcell hnx hy
      by_cases he : y = x
      · subst he
        go_wp2_with fail
        go_ret
        exact ⟨rfl, rfl⟩
      · have he' : (y == x) = false := by simpa using he
        go_wp2_with fail
        go_round
        case rel => exact ⟨k + 1, by omega, by go_num, hid (fun j h hj => HNX.out j h hj he)⟩
        case measure => simp only [intOf]; omega
    · exfalso
      obtain ⟨j, hj, e⟩ := List.getElem_of_mem HX.out
      exact HN.out j hj (by omega) e
set_option maxHeartbeats 1000000 in
theorem i_RankOf (r : Value) (xs : List Int) (w : World) (q : Int) (h : ownR 0 w r xs) (hp : permB xs = true) (hq : rankF xs = q) :
    Calls Try.prog 44 #[r] w fun e w' => e = .returned (.tuple #[.int .i64 q, .int .i64 0]) ∧ Below w.heap.size w w' := by
  obtain ⟨h1, h6, _, _⟩ := perm_facts hp
  have HP := hid hp
  have HQ := hid hq
  have HO := hid h
  clear hp hq h
  go_enter Try.func44, Try.ntmps44
  go_wp2_with fail
  refine via (i_IsPermE r xs _ true HO.out (by omega) HP.out) ?_
  intro u z
  try simp at z
  go_wp2_with (go_at_call 91; refine pur (i_rankE 0 r xs _ q (HO.out.aft u) h6 HQ.out) ?_)
  exact bodyPost_ret (v := .tuple #[.int .i64 q, .int .i64 0]) (by first | (simp [results, go_sem]; done) | simp [results, go_sem, ↓IntWalk.iteOmega]) rfl ⟨rfl, (by refine Ext.bel ?_; repeat (with_reducible first | exact Ext.refl _ | apply Ext.alloc | apply Ext.aft | apply Ext.drew | apply Ext.drewN | apply Ext.setCell | exact Nat.le_add_right _ _ | exact Nat.le_refl _ | (simp; done) | omega))⟩
end Go.Proofs.Ytbkbcbanfnhjpaa
