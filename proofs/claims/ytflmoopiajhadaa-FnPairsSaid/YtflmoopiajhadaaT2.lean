/- Draws: the next number of a source, and one of some numbers. -/
import Derived.Test.YtflmoopiajhadaaT1
namespace Go.Proofs.Ytflmoopiajhadaa
open Go Go.RowKit

theorem grown_aftD {b : Nat} {w w1 : World} (h : w.grownBy w1 (some b)) (u : World) : w.grownBy (aft w1 u) (some b) :=
  grownBy_trans h ⟨(below_aft w1 u).os, (below_aft w1 u).tape, (below_aft w1 u).output, (below_aft w1 u).size, fun k hk _ => (below_aft w1 u).block k hk⟩

set_option maxRecDepth 20000 in
set_option maxHeartbeats 4000000 in
theorem s_next (B b : Nat) (n : Int) (w : World) (h : src B b w) (hn : n ≤ 1000000000000) :
    Calls Try.prog 29 #[.pointer (some ⟨b, 0, none⟩), .int .i64 n] w (Draws B b w (fun x => .int .i64 x) (fun x => 0 ≤ x ∧ (x ≤ n - 1 ∨ x = 0))) := by
  by_cases h1 : n ≤ 1
  · have h1' : decide (n ≤ 1) = true := by simpa using h1
    go_enter Try.func29, Try.ntmps29
    go_wp2_with fail
    go_ret
    exact ⟨0, rfl, ⟨by omega, .inr rfl⟩, grownBy_refl _ _, h⟩
  have h1' : decide (n ≤ 1) = false := by simpa using h1
  obtain ⟨a, len, cap, i, sd, h⟩ := h
  obtain ⟨hB, hb, hc, hf, h0, hi, h2, h3, h4, h5⟩ := id h
  have s0 : 0 ≤ (sd * 48271 + 29) % 2147483647 ∧ (sd * 48271 + 29) % 2147483647 ≤ 2147483646 := by omega
  have H0 := hid (h.seed _ s0)
  have hc0 := hc 0
  have hc1 := hc 1
  have hc2 := hc 2
  simp at hc0 hc1 hc2
  have hf2 := hf 2
  go_enter Try.func29, Try.ntmps29
  go_wp2_with fail
  obtain ⟨sd1, hsd⟩ : ∃ y, y = (sd * 48271 + 29) % 2147483647 := ⟨_, rfl⟩
  rw [← hsd] at H0 s0 ⊢
  obtain ⟨W, hW⟩ : ∃ W, W = w.setCell ⟨b, 2, none⟩ (.int .i64 sd1) := ⟨_, rfl⟩
  have G0 : Hid (w.grownBy W (some b)) := hid (by rw [hW]; exact grown_set _ _ _ _)
  rw [← hW] at H0 ⊢
  clear hW hc hf hc0 hc1 hc2 hf2 h h5 hsd h2 h3 hb
  have HW := hid H0.out
  obtain ⟨_, hb, hc, hf, _, _, _, _, _, h5⟩ := H0.out
  have hc0 := hc 0
  have hc1 := hc 1
  have hc2 := hc 2
  simp at hc0 hc1 hc2
  have q0 : 0 ≤ sd1 / 31 ∧ sd1 / 31 ≤ 100000000 := by omega
  by_cases hl : i < (len : Int)
  case neg =>
    have hl' : decide (i < (len : Int)) = false := by simpa using hl
    refine wp_region_calm (by kernel_rfl) (by kernel_rfl) ?_
    repeat (go_big_quiet_step (fail))
    refine wpQuiet_nil ?_; intro uq zq; try simp at zq
    go_wp2_with fail
    go_ret
    refine ⟨_, rfl, ⟨?_, ?_⟩, grown_aftD G0.out _, ?_⟩
    · exact Int.emod_nonneg _ (by omega)
    · left; have := Int.emod_lt_of_pos (sd1 / 31) (show 0 < n by omega); omega
    · exact ⟨_, _, _, _, _, HW.out.below (below_aft _ _)⟩
  have hl' : decide (i < (len : Int)) = true := by simpa using hl
  obtain ⟨j, rfl⟩ : ∃ j : Nat, i = (j : Int) := ⟨i.toNat, by omega⟩
  rcases h5 with h5 | ⟨ab, ao, rfl, hab, hx⟩
  · omega
  obtain ⟨x, x0, x1, hx⟩ := hx j (by omega)
  have hab' : ab < W.heap.size := by omega
  have hj0 : (0 : Int) ≤ (j : Int) := by omega
  have hj1 : j < len := by omega
  have HS2 : Hid (∀ u v, srcC B b ((aft (aft W u) v).setCell ⟨b, 1, none⟩ (.int .i64 ((j : Int) + 1))) (some ⟨ab, ao, none⟩) len cap ((j : Int) + 1) sd1) := hid fun u v => ((HW.out.below (below_aft W u)).below (below_aft _ v)).at _ (by omega)
  have HG2 : Hid (∀ u v, w.grownBy ((aft (aft W u) v).setCell ⟨b, 1, none⟩ (.int .i64 ((j : Int) + 1))) (some b)) := hid fun u v => grownBy_trans (grown_aftD (grownBy_trans G0.out ⟨(below_aft W u).os, (below_aft W u).tape, (below_aft W u).output, (below_aft W u).size, fun k hk _ => (below_aft W u).block k hk⟩) v) (grown_set _ b 1 (.int .i64 ((j : Int) + 1)))
  refine wp_region_calm (by kernel_rfl) (by kernel_rfl) ?_
  repeat (go_big_quiet_step (fail))
  refine wpQuiet_nil ?_; intro uq zq; try simp at zq
  go_wp2_with fail
  refine wp_region_calm (by kernel_rfl) (by kernel_rfl) ?_
  repeat (go_big_quiet_step (fail))
  refine wpQuiet_nil ?_; intro uq zq; try simp at zq
  go_wp2_with fail
  all_goals first
    | (go_ret
       refine ⟨_, rfl, ⟨?_, ?_⟩, HG2.out _ _, ⟨_, _, _, _, _, HS2.out _ _⟩⟩
       · exact Int.emod_nonneg _ (by omega)
       · left; have := Int.emod_lt_of_pos (sd1 / 31 + x) (show 0 < n by omega); omega)
    | (refine wp_region_calm (by kernel_rfl) (by kernel_rfl) ?_
       repeat (go_big_quiet_step (fail))
       refine wpQuiet_nil ?_; intro uq zq; try simp at zq
       go_wp2_with fail
       go_ret
       refine ⟨_, rfl, ⟨?_, ?_⟩, grown_aftD (HG2.out _ _) _, ⟨_, _, _, _, _, (HS2.out _ _).below (below_aft _ _)⟩⟩
       · exact Int.emod_nonneg _ (by omega)
       · left; have := Int.emod_lt_of_pos x (show 0 < n by omega); omega)

set_option maxHeartbeats 1000000 in
theorem s_pick (B b k cap : Nat) (xs : List Int) (w : World) (h : src B b w) (hne : k ≠ b) (h0 : 0 < xs.length) (h1 : xs.length ≤ 1000) (hk : k < w.heap.size) (hc : ∀ j, j < xs.length → w.cell? ⟨k, j, none⟩ = some (.int .i64 (xs.getD j 0))) :
    Calls Try.prog 66 #[.pointer (some ⟨b, 0, none⟩), .slice (some ⟨k, 0, none⟩) xs.length cap] w (Draws B b w (fun x => .int .i64 x) (fun x => x ∈ xs)) := by
  go_enter Try.func66, Try.ntmps66
  go_wp2_with fail
  refine viaDr (s_next B b _ _ (by first | exact h | exact h.drew) (by omega)) ?_
  intro x u hp hs hl
  try dsimp only at hp
  obtain ⟨j, rfl⟩ : ∃ j : Nat, x = (j : Int) := ⟨x.toNat, by omega⟩
  have hj : j < xs.length := by omega
  have hj0 : (0 : Int) ≤ (j : Int) := by omega
  have hcj := hc j hj
  clear hp hc
  go_wp2_with fail
  go_ret
  exact ⟨xs[j], rfl, List.getElem_mem hj, aftD_grown _ _ _, hs⟩
end Go.Proofs.Ytflmoopiajhadaa
