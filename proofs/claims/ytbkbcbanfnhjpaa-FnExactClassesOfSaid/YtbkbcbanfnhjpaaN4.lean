/- Ranks, products, the list 0, 1, ..: both texts. -/
import Derived.Test.YtbkbcbanfnhjpaaN3
namespace Go.Proofs.Ytbkbcbanfnhjpaa
open Go Go.RowKit

theorem ownR.le {B : Nat} {w : World} {a : Option Addr} {n cap : Nat} {xs : List Int} (h : ownR B w (.slice a n cap) xs) : xs.length ≤ cap := by
  rcases h.2 with ⟨e, h1⟩ | ⟨g, c, cur, e, _, _, h2, _⟩
  · cases e; omega
  · cases e; exact h2
theorem sizeI (w : World) : (Go.sizeOf 2).run Try.prog w = .ok 1 w := by
  simp [Go.sizeOf, go_sem]
  rfl
theorem cut_rule {B : Nat} {w : World} {v : Value} {xs : List Int} {l : Int} (h : ownR B w v xs) (h0 : 0 ≤ l) (h1 : l ≤ xs.length) :
    ∃ r2, (∀ wx, (Instr.slice 24 v (some (.int .i64 l)) none none).run Try.prog wx = .ok r2 wx) ∧ rdI w r2 (xs.drop l.toNat) := by
  have ht : Try.prog.underlying 24 = some (.slice 2) := by kernel_rfl
  have ht' : Try.prog.underlying 24 = some (.slice (Try.prog.elem 24)) := by kernel_rfl
  have he : Try.prog.elem 24 = 2 := by kernel_rfl
  obtain ⟨a, cap, rfl, hm, hc⟩ := h.rd
  refine ⟨sliced a l.toNat xs.length cap 1, fun wx => ?_, ?_⟩
  · rw [run_slice_l wx _ _ _ _ ht' .i64 _ h0 h1, he, sizeI]; rfl
  · refine ⟨if cap = l.toNat then a else a.map (·.add (l.toNat * 1)), cap - l.toNat, by simp [sliced], by simp; omega, ?_⟩
    intro hne
    have hlt : l.toNat < xs.length := by
      rcases Nat.lt_or_ge l.toNat xs.length with h | h
      · exact h
      · exact absurd (List.drop_eq_nil_of_le h) hne
    obtain ⟨b, o, rfl, hcell⟩ := hc (by intro e; rw [e] at hlt; simp at hlt)
    have hcap : xs.length ≤ cap := h.le
    rw [if_neg (by omega)]
    refine ⟨b, o + l.toNat, by simp [Addr.add], fun i hi => ?_⟩
    rw [Nat.add_assoc, hcell (l.toNat + i) (by simp at hi; omega)]
    simp

/-- What a round of ranking needs. -/
theorem rank_bd {n : Int} {xs : List Int} {k : Nat} (hk : k < xs.length) (hl : xs.length ≤ 6) (h0 : 0 ≤ n) (h : rankG n (xs.drop k) = rankF xs) : n ≤ 719 := by
  have h1 := rankG_bd (xs.drop k) n h0
  have h2 := rankF_720 hl
  have h3 := Int.mul_le_mul_of_nonneg_left (show (1 : Int) ≤ (facN (xs.drop k).length : Int) by have := facN_pos (xs.drop k).length; omega) h0
  omega
theorem rank_step {n : Int} {xs : List Int} {k : Nat} (hk : k < xs.length) (h : rankG n (xs.drop k) = rankF xs) :
    rankG (n * ((xs.length : Int) - k) + (lessN xs[k] (xs.drop (k + 1)) : Int)) (xs.drop (k + 1)) = rankF xs := by
  rw [← h, List.drop_eq_getElem_cons hk]
  show _ = rankG (n * (((xs.drop (k + 1)).length + 1 : Nat) : Int) + _) _
  rw [List.length_drop, show ((xs.length - (k + 1) + 1 : Nat) : Int) = (xs.length : Int) - k by omega]
theorem less_take {x : Int} {r : List Int} {j : Nat} (h : j < r.length) : lessN x (r.take (j + 1)) = lessN x (r.take j) + (if r[j] < x then 1 else 0) := by
  rw [take_snocI _ _ h, lessN_snoc]
theorem mul_rank {n d : Int} (hn : 0 ≤ n ∧ n ≤ 719) (hd : 0 ≤ d ∧ d ≤ 6) : 0 ≤ n * d ∧ n * d ≤ 4314 := by
  have := Int.mul_nonneg hn.1 hd.1
  have := Int.mul_le_mul hn.2 hd.2 hd.1 (by omega)
  omega
set_option maxRecDepth 20000 in
set_option maxHeartbeats 4000000 in
theorem i_rank (B : Nat) (r : Value) (xs : List Int) (w : World) (h : ownR B w r xs) (hl : xs.length ≤ 6) :
    Calls Try.prog 91 #[r] w fun e w' => e = .returned (.int .i64 (rankF xs)) ∧ w = w' := by
  have HO := hid h
  obtain ⟨a, cap, rfl, hm, hc⟩ := h.rd
  have Hc := hid hc
  clear hc hm h
  go_enter Try.func91, Try.ntmps91
  go_wp2_with fail
  go_loop [3, 11] (fun n i => ∃ (k : Nat) (x : Int), k ≤ xs.length ∧ i = .int .i64 k ∧ n = .int .i64 x ∧ 0 ≤ x ∧ Hid (rankG x (xs.drop k) = rankF xs)) (fun _ i => xs.length - (intOf i).toNat)
  case atStart => exact ⟨0, 0, by omega, rfl, rfl, by omega, hid rfl⟩
  case round =>
    obtain ⟨k, n, hk, rfl, rfl, hn0, HR⟩ := hrel
    by_cases hlt : k < xs.length
    · obtain ⟨b, o, rfl, hcell⟩ := Hc.out (by intro e; subst e; simp at hlt)
      have h1 := hcell k hlt
      have hn := rank_bd hlt hl hn0 HR.out
      have hmu := mul_rank ⟨hn0, hn⟩ (show 0 ≤ (xs.length : Int) - k ∧ (xs.length : Int) - k ≤ 6 by omega)
      obtain ⟨r2, hr2, hrd⟩ := cut_rule (l := (k : Int) + 1) HO.out (by omega) (by omega)
      rw [show ((k : Int) + 1).toNat = k + 1 by omega] at hrd
      have HS := hid (rank_step hlt HR.out)
      obtain ⟨x, hx⟩ : ∃ x, x = xs[k] := ⟨_, rfl⟩
      rw [← hx] at h1 HS
      obtain ⟨ys, hys⟩ : ∃ ys, ys = xs.drop (k + 1) := ⟨_, rfl⟩
      have hyl : ys.length + (k + 1) = xs.length := by rw [hys, List.length_drop]; omega
      rw [← hys] at hrd HS
      obtain ⟨a2, c2, hv2, hm2, hc2⟩ := hrd
      subst hv2
      have Hc2 := hid hc2
      have HY := hid hys
      have hltz : (k : Int) < (xs.length : Int) := by omega
      clear hc2 hys hx hcell hm2
      go_wp2_with fail
      go_loop [6, 21] (fun c i => ∃ j : Nat, j ≤ ys.length ∧ i = .int .i64 j ∧ c = .int .i64 (lessN x (ys.take j) : Nat)) (fun _ i => ys.length - (intOf i).toNat)
      case atStart => exact ⟨0, by omega, rfl, by simp [lessN]⟩
      case round =>
        obtain ⟨j, hj, rfl, rfl⟩ := hrel
        by_cases hlt2 : j < ys.length
        · obtain ⟨b2, o2, rfl, hcell2⟩ := Hc2.out (by intro e; subst e; simp at hlt2)
          have h2 := hcell2 j hlt2
          have hst := less_take (x := x) hlt2
          have hle := lessN_le x (ys.take j)
          have hle2 : (ys.take j).length ≤ 6 := by rw [List.length_take]; omega
          obtain ⟨y, hy⟩ : ∃ y, y = ys[j] := ⟨_, rfl⟩
          rw [← hy] at h2 hst
          have HT := hid hst
          have hltz2 : (j : Int) < (ys.length : Int) := by omega
          clear hst hy hcell2
          by_cases hyx : y < x
          · go_wp2_with fail
            go_round
            case rel => exact ⟨j + 1, by omega, by go_num, by rw [HT.out, if_pos hyx]; go_num⟩
            case measure => simp only [intOf]; omega
          · go_wp2_with fail
            go_round
            case rel => exact ⟨j + 1, by omega, by go_num, by rw [HT.out, if_neg hyx]; go_num⟩
            case measure => simp only [intOf]; omega
        · obtain rfl : j = ys.length := by omega
          rw [List.take_length]
          have hle := lessN_le x ys
          have hltz2 : ¬ (ys.length : Int) < (ys.length : Int) := by omega
          go_wp2_with fail
          go_round
          case rel => exact ⟨k + 1, _, by omega, by go_num, rfl, by omega, by rw [← HY.out]; exact HS⟩
          case measure => simp only [intOf]; omega
    · obtain rfl : k = xs.length := by omega
      have e : n = rankF xs := by have := HR.out; rw [List.drop_length] at this; exact this
      have E := hid e
      clear e
      go_wp2
      go_ret
      exact ⟨ret_i (by rw [E.out]), rfl⟩
end Go.Proofs.Ytbkbcbanfnhjpaa
