/- slices.IndexFunc and slices.ContainsFunc over numbers, for whatever predicate. -/
import Derived.Test.YtdnfefkkbckmgaaGreatDoorB3
namespace Go.Proofs.YtdnfefkkbckmgaaGreatDoor
open Go Go.RowKit

/-- What is asked of a predicate: in every world in which all that lay in w lies, it tells p and leaves such a world. -/
def predC (g : Nat) (lb : Array Value) (p : Int → Bool) (w : World) : Prop :=
  ∀ (W : World) (x : Int), Below w.heap.size w W → Calls Tryz.prog g (#[.int .i64 x] ++ lb) W fun e w' => e = .returned (.bool (p x)) ∧ Below w.heap.size w w'

/-- A call of a function with a body enters it. -/
theorem entersT {f : FuncId} {fn : Func} {c : Code} (hf : Tryz.prog.funcs[f]? = some fn) (hname : (fn.name == "runtime.NumGoroutine") = false) (hb : fn.body = some c) : ∀ (args : Array Value) (w : World), (callFunc f args).run Tryz.prog w = .ok (.enter f args) w := by
  intro args w
  have h1 : fn.name ≠ "runtime.NumGoroutine" := by simpa using hname
  simp [callFunc, hf, h1, hb, mark]
theorem any_take_f {xs : List Int} {p : Int → Bool} {k : Nat} (h : k < xs.length) (h1 : (xs.take k).any p = false) (h2 : p xs[k] = false) : (xs.take (k + 1)).any p = false := by
  rw [take_snocI _ _ h, List.any_append, h1]; simp [h2]
theorem any_hit {xs : List Int} {p : Int → Bool} {k : Nat} (h : k < xs.length) (h2 : p xs[k] = true) : xs.any p = true := List.any_eq_true.2 ⟨_, List.getElem_mem h, h2⟩

set_option maxHeartbeats 2000000 in
theorem lib_index (g : Nat) (lb : Array Value) (p : Int → Bool) (eg : ∀ args w, (callFunc g args).run Tryz.prog w = .ok (.enter g args) w) (r : Value) (xs : List Int) (w : World) (h : rdI w r xs) (hp : predC g lb p w) :
    Calls Tryz.prog 73 #[r, .func (.func g) #[] lb] w fun e w' => ∃ k : Int, e = .returned (.int .i64 k) ∧ xs.any p = decide (0 ≤ k) ∧ Below w.heap.size w w' := by
  obtain ⟨a, cap, rfl, hm, hc⟩ := h
  have Hc := hid hc
  have Hp := hid hp
  unfold maxLen at hm
  clear hc hp
  go_enter Tryz.func73, Tryz.ntmps73
  go_wp2_with fail
  go_loopw [5, 8] (fun _ i wr => ∃ k : Nat, k ≤ xs.length ∧ i = .int .i64 k ∧ Hid (Below w.heap.size w wr) ∧ Hid ((xs.take k).any p = false)) (fun _ i _ => xs.length - (intOf i).toNat)
  case atStart => exact ⟨0, by omega, rfl, hid (Below.refl _ _), hid (by simp)⟩
  case round =>
    obtain ⟨k, hk, rfl, HB, HA⟩ := hrel
    by_cases hlt : k < xs.length
    · obtain ⟨b, o, rfl, hcell⟩ := Hc.out (by intro e; subst e; simp at hlt)
      have h1 := hcell k hlt
      have h2 := HB.out.cell (p := ⟨b, o + k, none⟩) (World.block_lt_of_cell? w _ h1)
      rw [h1] at h2
      have hcall := Hp.out _ xs[k] HB.out
      obtain ⟨x, hx⟩ : ∃ x, x = xs[k] := ⟨_, rfl⟩
      rw [← hx] at h2 hcall
      have HX := hid hx
      have hltz : (k : Int) < (xs.length : Int) := by omega
      clear hx hcell h1
      cases hq : p x with
      | true =>
        rw [hq] at hcall
        have HQ := hid hq
        clear hq
        go_wp2_with fail
        refine hcall.mono ?_
        rintro e w' ⟨rfl, hb'⟩
        go_wp2_with fail
        go_ret
        exact ⟨_, rfl, by rw [any_hit hlt (by rw [← HX.out]; exact HQ.out)]; simp, hb'⟩
      | false =>
        rw [hq] at hcall
        have HQ := hid hq
        clear hq
        go_wp2_with fail
        refine hcall.mono ?_
        rintro e w' ⟨rfl, hb'⟩
        go_wp2_with fail
        go_roundw
        case rel => exact ⟨k + 1, by omega, by go_num, hid hb', hid (any_take_f hlt HA.out (by rw [← HX.out]; exact HQ.out))⟩
        case measure => simp only [intOf]; omega
    · obtain rfl : k = xs.length := by omega
      have hltz : ¬ (xs.length : Int) < (xs.length : Int) := by omega
      have HN := hid (show xs.any p = false by have := HA.out; rwa [List.take_length] at this)
      go_wp2
      go_ret
      exact ⟨_, rfl, by rw [HN.out]; simp, HB.out⟩

set_option maxHeartbeats 1000000 in
theorem lib_contains (g : Nat) (lb : Array Value) (p : Int → Bool) (eg : ∀ args w, (callFunc g args).run Tryz.prog w = .ok (.enter g args) w) (r : Value) (xs : List Int) (w : World) (h : rdI w r xs) (hp : predC g lb p w) :
    Calls Tryz.prog 46 #[r, .func (.func g) #[] lb] w fun e w' => e = .returned (.bool (xs.any p)) ∧ Below w.heap.size w w' := by
  obtain ⟨B, hB⟩ : ∃ B, B = xs.any p := ⟨_, rfl⟩
  rw [← hB]
  have HB := hid hB
  clear hB
  go_enter Tryz.func46, Tryz.ntmps46
  go_wp2_with (go_at_call 73; refine (lib_index g lb p eg r xs _ h hp).mono ?_; rintro e w' ⟨k, rfl, hk, hb⟩; have HK := hid hk; clear hk)
  go_ret
  exact ⟨ret_b (by rw [HB.out, HK.out]), hb⟩

/-- The same with its answer under a name. -/
theorem lib_containsB (g : Nat) (lb : Array Value) (p : Int → Bool) (eg : ∀ args w, (callFunc g args).run Tryz.prog w = .ok (.enter g args) w) (r : Value) (xs : List Int) (w : World) (h : rdI w r xs) (hp : predC g lb p w) (c : Bool) (hc : xs.any p = c) :
    Calls Tryz.prog 46 #[r, .func (.func g) #[] lb] w fun e w' => e = .returned (.bool c) ∧ Below w.heap.size w w' := by
  subst hc; exact lib_contains g lb p eg r xs w h hp
end Go.Proofs.YtdnfefkkbckmgaaGreatDoor
