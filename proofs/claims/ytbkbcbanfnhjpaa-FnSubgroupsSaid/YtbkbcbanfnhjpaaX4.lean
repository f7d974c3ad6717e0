/- Signs: both texts; EvenPart: the program's text. -/
import Derived.Test.YtbkbcbanfnhjpaaX3
import Derived.Test.YtbkbcbanfnhjpaaU1
namespace Go.Proofs.Ytbkbcbanfnhjpaa
open Go Go.RowKit

def evB (xs : List Int) : Bool := (xs.length - (cycF xs xs.length).2) % 2 == 0
set_option maxHeartbeats 2000000 in
theorem i_signOf (x : Int) (d : Nat) (w : World) (hx : x = d) (hd : d ≤ 6) (z : Int) (hz : (if d % 2 = 0 then (1 : Int) else -1) = z) :
    Calls Try.prog 113 #[.int .i64 x] w fun e w' => e = .returned (.int .i64 z) ∧ w = w' := by
  subst hx
  obtain rfl | rfl | rfl | rfl | rfl | rfl | rfl : d = 0 ∨ d = 1 ∨ d = 2 ∨ d = 3 ∨ d = 4 ∨ d = 5 ∨ d = 6 := by omega
  all_goals
    simp at hz
    subst hz
    go_enter Try.func113, Try.ntmps113
    go_wp2_with fail
    go_ret
    exact ⟨rfl, rfl⟩
set_option maxHeartbeats 2000000 in
theorem i_parity (r : Value) (xs : List Int) (w : World) (z : Int) (h : rdI w r xs) (hl : xs.length ≤ 6) (h0 : 0 < xs.length) (hr : ∀ y ∈ xs, 0 ≤ y ∧ y < (xs.length : Int)) (hb : (if evB xs = true then (1 : Int) else -1) = z) :
    Calls Try.prog 56 #[r] w fun e w' => e = .returned (.int .i64 z) ∧ Below w.heap.size w w' := by
  obtain ⟨a, cap, hsh, _, _⟩ := id h
  subst hsh
  have hcle := cyc_le xs xs.length
  have HR := hid hr
  have HB : Hid ((if (xs.length - (cycF xs xs.length).2) % 2 = 0 then (1 : Int) else -1) = z) := hid (by rw [← hb]; unfold evB; simp)
  have hcall := i_cycles _ xs w h hl h0 hr
  have HCALL := hid hcall
  obtain ⟨c, hc⟩ : ∃ c, c = (cycF xs xs.length).2 := ⟨_, rfl⟩
  rw [← hc] at hcle HCALL HB
  clear hb hr hcall hc
  go_enter Try.func56, Try.ntmps56
  go_wp2_with fail
  refine HCALL.out.mono ?_
  rintro e w' ⟨a2, c2, rfl, h2⟩
  have H2 := hid h2
  clear h2
  go_wp2_with (first | (go_at_call 113; refine pur (i_signOf _ (xs.length - c) _ (by omega) (by omega) z HB.out) ?_))
  go_ret
  exact ⟨rfl, H2.out⟩
set_option maxHeartbeats 2000000 in
theorem s_sign (r : Value) (xs : List Int) (w : World) (z : Int) (h : rdI w r xs) (hl : xs.length ≤ 6) (h0 : 0 < xs.length) (hr : ∀ y ∈ xs, 0 ≤ y ∧ y < (xs.length : Int)) (hb : (if evB xs = true then (1 : Int) else -1) = z) :
    Calls Try.prog 117 #[r] w fun e w' => e = .returned (.int .i64 z) ∧ Below w.heap.size w w' := by
  obtain ⟨a, cap, hsh, _, _⟩ := id h
  subst hsh
  have hcle := cyc_le xs xs.length
  have HB : Hid ((if (xs.length - (cycF xs xs.length).2) % 2 = 0 then (1 : Int) else -1) = z) := hid (by rw [← hb]; unfold evB; simp)
  have hcall := s_cycles _ xs w h hl h0 hr
  have HCALL := hid hcall
  obtain ⟨c, hc⟩ : ∃ c, c = (cycF xs xs.length).2 := ⟨_, rfl⟩
  rw [← hc] at hcle HCALL HB
  clear hb hr hcall hc
  have htm : ((xs.length : Int) - (c : Int)).tmod 2 = (((xs.length - c) % 2 : Nat) : Int) := by
    rw [show (xs.length : Int) - (c : Int) = ((xs.length - c : Nat) : Int) by omega]; rfl
  have hz := HB.out
  rcases (show (xs.length - c) % 2 = 1 ∨ (xs.length - c) % 2 = 0 by omega) with h1 | h1
  · rw [h1] at htm hz
    simp at hz
    subst hz
    clear h1 HB
    go_enter Try.func117, Try.ntmps117
    go_wp2_with fail
    refine HCALL.out.mono ?_
    rintro e w' ⟨a2, c2, rfl, h2⟩
    have H2 := hid h2
    clear h2
    go_wp2_with fail
    go_ret
    exact ⟨rfl, H2.out⟩
  · rw [h1] at htm hz
    simp at hz
    subst hz
    clear h1 HB
    go_enter Try.func117, Try.ntmps117
    go_wp2_with fail
    refine HCALL.out.mono ?_
    rintro e w' ⟨a2, c2, rfl, h2⟩
    have H2 := hid h2
    clear h2
    go_wp2_with fail
    go_ret
    exact ⟨rfl, H2.out⟩
theorem keep_even {m : Nat} {rs : List Int} {w : World} (hm1 : 1 ≤ m) (hm6 : m ≤ 6) (hr : ∀ x ∈ rs, 0 ≤ x ∧ x < (facN m : Int)) : keepR 55 #[] #[] evB (memF m rs) w := by
  intro W v X hb hX hv
  have hX2 : ∃ y ∈ rs, withF m y = X := by simpa [memF] using hX
  obtain ⟨y, hy, rfl⟩ := hX2
  have hwy := with_ok hm6 (hr _ hy).1 (hr _ hy).2
  have hyl := hwy.len
  have hyr := hwy.rng
  obtain ⟨X, hXe⟩ : ∃ X, X = withF m y := ⟨_, rfl⟩
  rw [← hXe] at hv hyl hyr ⊢
  change Calls Try.prog 55 #[v] W fun e w' => e = .returned (.bool (evB X)) ∧ Below W.heap.size W w'
  obtain ⟨b, hbb⟩ : ∃ b, evB X = b := ⟨_, rfl⟩
  rw [hbb]
  have hcall := i_parity v X W (if b = true then 1 else -1) hv.rd (by omega) (by omega) (by rw [hyl]; exact hyr) (by rw [hbb])
  have HCALL := hid hcall
  clear hcall hbb hX hy hwy hXe hyl hyr
  cases b
  all_goals
    simp only [if_true, if_false, Bool.false_eq_true] at HCALL
    go_enter Try.func55, Try.ntmps55
    go_wp2_with fail
    refine HCALL.out.mono ?_
    rintro e w' ⟨rfl, h2⟩
    have H2 := hid h2
    clear h2
    go_wp2_with fail
    go_ret
    exact ⟨rfl, H2.out⟩
end Go.Proofs.Ytbkbcbanfnhjpaa
