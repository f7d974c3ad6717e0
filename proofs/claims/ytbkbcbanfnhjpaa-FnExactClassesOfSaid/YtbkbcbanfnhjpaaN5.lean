/- Ranks by the statement's text; products, the list 0, 1, ..: both texts. -/
import Derived.Test.YtbkbcbanfnhjpaaN4
namespace Go.Proofs.Ytbkbcbanfnhjpaa
open Go Go.RowKit

set_option maxRecDepth 20000 in
set_option maxHeartbeats 4000000 in
theorem s_rank (r : Value) (xs : List Int) (w : World) (h : rdI w r xs) (hl : xs.length ≤ 6) :
    Calls Try.prog 85 #[r] w fun e w' => e = .returned (.int .i64 (rankF xs)) ∧ Below w.heap.size w w' := by
  obtain ⟨a, cap, rfl, hm, hc⟩ := h
  have Hc := hid hc
  clear hc hm
  go_enter Try.func85, Try.ntmps85
  go_wp2_with fail
  go_loopw [3, 4] (fun n i wr => ∃ (k : Nat) (x : Int) (uu : World), wr = aft w uu ∧ k ≤ xs.length ∧ i = .int .i64 k ∧ n = .int .i64 x ∧ 0 ≤ x ∧ Hid (rankG x (xs.drop k) = rankF xs)) (fun _ i _ => xs.length - (intOf i).toNat)
  case atStart => exact ⟨0, 0, w, (aft_of (Below.refl _ _)).symm, by omega, rfl, rfl, by omega, hid rfl⟩
  case round =>
    obtain ⟨k, n, uu, rfl, hk, rfl, rfl, hn0, HR⟩ := hrel
    have zs := size_aft w uu
    by_cases hlt : k < xs.length
    · obtain ⟨b, o, rfl, hcell⟩ := Hc.out (by intro e; subst e; simp at hlt)
      have h1 := hcell k hlt
      have h3 := World.block_lt_of_cell? w _ h1
      have hn := rank_bd hlt hl hn0 HR.out
      have hmu := mul_rank ⟨hn0, hn⟩ (show 0 ≤ (xs.length : Int) - k ∧ (xs.length : Int) - k ≤ 6 by omega)
      have HS := hid (rank_step hlt HR.out)
      obtain ⟨x, hx⟩ : ∃ x, x = xs[k] := ⟨_, rfl⟩
      rw [← hx] at h1 HS
      have Hl := hid hcell
      have hltz : (k : Int) < (xs.length : Int) := by omega
      clear hx hcell
      obtain ⟨W0, hW0⟩ : ∃ W0, W0 = aft w uu := ⟨_, rfl⟩
      have HW0 := hid hW0
      go_wp2_with fail
      go_loopw [5, 6] (fun c i wr => ∃ (j : Nat) (u2 : World), wr = aft w u2 ∧ k + 1 + j ≤ xs.length ∧ i = .int .i64 ((k : Int) + 1 + j) ∧ c = .int .i64 (lessN x ((xs.drop (k + 1)).take j) : Nat)) (fun _ i _ => xs.length - (intOf i).toNat)
      case atStart => exact ⟨0, uu, rfl, by omega, by go_num, by simp [lessN]⟩
      case round =>
        obtain ⟨j, u2, rfl, hj, rfl, rfl⟩ := hrel
        have zs2 := size_aft w u2
        have hle := lessN_le x ((xs.drop (k + 1)).take j)
        have hle2 : ((xs.drop (k + 1)).take j).length ≤ 6 := by rw [List.length_take, List.length_drop]; omega
        by_cases hlt2 : k + 1 + j < xs.length
        · have h2 := Hl.out (k + 1 + j) hlt2
          have hst := less_take (x := x) (r := xs.drop (k + 1)) (j := j) (by rw [List.length_drop]; omega)
          rw [List.getElem_drop] at hst
          obtain ⟨y, hy⟩ : ∃ y, y = xs[k + 1 + j] := ⟨_, rfl⟩
          rw [← hy] at h2 hst
          have HT := hid hst
          have hltz2 : (k : Int) + 1 + j < (xs.length : Int) := by omega
          have hnn : ((k : Int) + 1 + j).toNat = k + 1 + j := by omega
          clear hst hy hW0
          by_cases hyx : y < x
          · go_wp2_with fail
            refine wp_region_calm (by kernel_rfl) (by kernel_rfl) ?_
            repeat (go_big_quiet_step (fail))
            refine wpQuiet_nil ?_; intro uq zq; try simp at zq
            go_wp2_with fail
            go_roundw
            case rel => exact ⟨j + 1, _, (aft_of ((below_aft w u2).trans ((below_aft _ _).mono (size_aft w u2)))).symm, by omega, by go_num, by rw [HT.out, if_pos hyx]; go_num⟩
            case measure => simp only [intOf]; omega
          · go_wp2_with fail
            refine wp_region_calm (by kernel_rfl) (by kernel_rfl) ?_
            repeat (go_big_quiet_step (fail))
            refine wpQuiet_nil ?_; intro uq zq; try simp at zq
            go_wp2_with fail
            go_roundw
            case rel => exact ⟨j + 1, _, (aft_of ((below_aft w u2).trans ((below_aft _ _).mono (size_aft w u2)))).symm, by omega, by go_num, by rw [HT.out, if_neg (by omega)]; go_num⟩
            case measure => simp only [intOf]; omega
        · have hlen : (xs.drop (k + 1)).length = j := by rw [List.length_drop]; omega
          rw [← hlen, List.take_length]
          have hle := lessN_le x (xs.drop (k + 1))
          have hltz2 : ¬ (k : Int) + 1 + j < (xs.length : Int) := by omega
          rw [hlen] at hle
          clear hW0
          go_wp2_with fail
          go_roundw
          case rel => exact ⟨k + 1, _, u2, rfl, by omega, by go_num, rfl, by omega, HS⟩
          case measure => simp only [intOf]; omega
    · obtain rfl : k = xs.length := by omega
      have e : n = rankF xs := by have := HR.out; rw [List.drop_length] at this; exact this
      have E := hid e
      clear e
      go_wp2
      go_ret
      exact ⟨ret_i (by rw [E.out]), (by refine Ext.bel ?_; repeat (with_reducible first | exact Ext.refl _ | apply Ext.alloc | apply Ext.aft | apply Ext.drew | apply Ext.drewN | apply Ext.setCell | exact Nat.le_add_right _ _ | exact Nat.le_refl _ | (simp; done) | omega))⟩
end Go.Proofs.Ytbkbcbanfnhjpaa
