/- Sums and differences of polynomials: both texts. -/
import Derived.Test.YtflmoopiajhadaaMB
import Derived.Test.YtflmoopiajhadaaH13
namespace Go.Proofs.Ytflmoopiajhadaa
open Go Go.RowKit

def i64B (x : Int) : Prop := -9223372036854775808 ≤ x ∧ x ≤ 9223372036854775807
/-- A sum under way: the first i numbers of f and the first k numbers of g. -/
def sumS (L : Nat) (f g : List Int) (i k : Nat) : List Int := (List.range L).map fun j => (if j < i then f.getD j 0 else 0) + (if j < k then g.getD j 0 else 0)
theorem sumS_len (L : Nat) (f g : List Int) (i k : Nat) : (sumS L f g i k).length = L := by simp [sumS]
theorem range_getD (F : Nat → Int) {L j : Nat} (h : j < L) : ((List.range L).map F).getD j 0 = F j := by
  simp only [List.getD_eq_getElem?_getD, List.getElem?_map]
  rw [List.getElem?_range h]; rfl
theorem sumS_getD {L j : Nat} (f g : List Int) (i k : Nat) (h : j < L) : (sumS L f g i k).getD j 0 = (if j < i then f.getD j 0 else 0) + (if j < k then g.getD j 0 else 0) := range_getD _ h
theorem range_set (F G : Nat → Int) {L i : Nat} {v : Int} (hv : i < L → v = G i) (h : ∀ j, j ≠ i → F j = G j) : ((List.range L).map F).set i v = (List.range L).map G := by
  apply List.ext_getElem?
  intro j
  rw [List.getElem?_set]
  by_cases e : i = j
  · subst e
    rw [if_pos rfl]
    rcases Nat.lt_or_ge i L with hl | hl
    · rw [if_pos (by simpa using hl), List.getElem?_map, List.getElem?_range hl, hv hl]; rfl
    · rw [if_neg (by simp; omega), List.getElem?_eq_none (by simp; omega)]
  · rw [if_neg e, List.getElem?_map, List.getElem?_map]
    rcases Nat.lt_or_ge j L with hl | hl
    · rw [List.getElem?_range hl]
      show some (F j) = some (G j)
      rw [h j (fun q => e q.symm)]
    · rw [List.getElem?_eq_none (by simpa using hl)]; rfl
theorem sumS_left {L : Nat} (f g : List Int) (i : Nat) : (sumS L f g i 0).set i ((sumS L f g i 0).getD i 0 + f.getD i 0) = sumS L f g (i + 1) 0 :=
  range_set _ _ (fun h => by rw [sumS_getD _ _ _ _ h, if_neg (show ¬ i < i by omega), if_neg (show ¬ i < 0 by omega), if_pos (show i < i + 1 by omega)]; omega) fun j hj => by
    by_cases h : j < i
    · rw [if_pos h, if_pos (show j < i + 1 by omega)]
    · rw [if_neg h, if_neg (show ¬ j < i + 1 by omega)]
theorem sumS_right {L : Nat} (f g : List Int) (n k : Nat) : (sumS L f g n k).set k ((sumS L f g n k).getD k 0 + g.getD k 0) = sumS L f g n (k + 1) :=
  range_set _ _ (fun h => by rw [sumS_getD _ _ _ _ h, if_neg (show ¬ k < k by omega), if_pos (show k < k + 1 by omega)]; omega) fun j hj => by
    by_cases h : j < k
    · rw [if_pos h, if_pos (show j < k + 1 by omega)]
    · rw [if_neg h, if_neg (show ¬ j < k + 1 by omega)]
theorem sumS_all (f g : List Int) : trimF (sumS (max f.length g.length) f g f.length g.length) = addK 1 f g := by
  unfold addK
  refine trimF_congr fun j => ?_
  rw [addR_getD]
  rcases Nat.lt_or_ge j (max f.length g.length) with h | h
  · rw [sumS_getD _ _ _ _ h]
    have h1 : (if j < f.length then f.getD j 0 else 0) = f.getD j 0 := by
      by_cases h : j < f.length
      · rw [if_pos h]
      · rw [if_neg h, getD_out (by omega)]
    have h2 : (if j < g.length then g.getD j 0 else 0) = g.getD j 0 := by
      by_cases h : j < g.length
      · rw [if_pos h]
      · rw [if_neg h, getD_out (by omega)]
    rw [h1, h2]; omega
  · rw [getD_out (by rw [sumS_len]; omega), getD_out (l := f) (by omega), getD_out (l := g) (by omega)]; rfl

set_option maxRecDepth 20000 in
set_option maxHeartbeats 8000000 in
theorem i_sum_lt (r1 r2 : Value) (f g : List Int) (w : World) (h1 : rdI w r1 f) (h2 : rdI w r2 g) (hl1 : f.length ≤ 1000) (hl2 : g.length ≤ 1000) (hf : ∀ j, i64B (f.getD j 0)) (hs : ∀ j, i64B (f.getD j 0 + g.getD j 0)) (hmx : f.length < g.length) :
    Calls Try.prog 43 #[r1, r2] w fun e w' => ∃ v, e = .returned v ∧ ownR w.heap.size w' v (addK 1 f g) ∧ Below w.heap.size w w' := by
  obtain ⟨i0, hi, hz0, hz1, hz2⟩ := info_parts infoI
  obtain ⟨a1, cap1, rfl, _, _⟩ := id h1
  obtain ⟨a2, cap2, rfl, _, _⟩ := id h2
  have H1 := hid h1
  have H2 := hid h2
  have Hf := hid hf
  have Hs := hid hs
  have hmz : (f.length < g.length : Prop) := hmx
  have hmi : (f.length : Int) < (g.length : Int) ↔ f.length < g.length := by omega
  have hL : max f.length g.length = g.length := by omega
  rw [← sumS_all, hL]
  obtain ⟨L, hLd⟩ : ∃ L, L = g.length := ⟨_, rfl⟩
  have hLf : f.length ≤ L := by omega
  have hLg : g.length ≤ L := by omega
  have hL9 : L ≤ 1000 := by omega
  have HLD := hid hLd
  clear h1 h2 hf hs hL hLd
  go_enter Try.func43, Try.ntmps43
  go_wp2_with (at_make; refine wpList_make_full _ rfl _ _ 26 rfl w.heap.size 2 i0 (.int .i64 0) 1 Try.underlying26 hi hz0 hz1 _ _ _ _ g.length rfl rfl (by omega) (by omega) (by rw [hz2]; omega) (by unfold maxLen; omega) (Nat.le_refl _) ?_)
  intro w1 hown0 hgr
  rw [← HLD.out] at hown0
  have hown : ownR w.heap.size w1 (.slice (some ⟨w.heap.size, 0, none⟩) g.length g.length) (sumS L f g 0 0) := by
    rw [← HLD.out]
    have e : sumS L f g 0 0 = List.replicate L 0 := by
      apply List.ext_getElem?
      intro j
      unfold sumS
      rw [List.getElem?_map]
      rcases Nat.lt_or_ge j L with h | h
      · rw [List.getElem?_range h]; simp [h]
      · rw [List.getElem?_eq_none (by simpa using h)]; simp; omega
    rw [e]
    unfold ownR
    rw [List.length_replicate, ← vI_zeros]; exact hown0
  have HB : Hid (Below w.heap.size w w1) := hid (Below.grown (Below.refl _ _) hgr (Nat.le_refl _) (fun k hk => by cases hk))
  have HO := hid hown
  clear hown0 hown hgr
  go_wp2_with fail
  go_loopw [18] (fun s wr => ∃ i : Nat, i ≤ f.length ∧ s = .int .i64 i ∧ Hid (ownR w.heap.size wr (.slice (some ⟨w.heap.size, 0, none⟩) g.length g.length) (sumS L f g i 0)) ∧ Hid (Below w.heap.size w wr)) (fun s _ => f.length - (intOf s).toNat)
  case atStart => exact ⟨0, by omega, rfl, HO, HB⟩
  case round =>
    obtain ⟨i, hi9, rfl, HO, HB⟩ := hrel
    by_cases hlt : i < f.length
    · have hltz : (i : Int) < (f.length : Int) := by omega
      obtain ⟨b1, o1, rfl⟩ := rd_head H1.out (by intro e; rw [e] at hlt; simp at hlt)
      have hfc := HB.out.cell (p := ⟨b1, o1 + i, none⟩) (World.block_lt_of_cell? w _ (rd_at H1.out hlt))
      rw [rd_at H1.out hlt] at hfc
      have hiL : i < L := by omega
      have hiLz : (i : Int) < (g.length : Int) := by have := HLD.out; omega
      have hcl := (own_cell HO.out (j := i) (by rw [sumS_len]; omega))
      have hX0 : (sumS L f g i 0).getD i 0 = 0 := by rw [sumS_getD _ _ _ _ hiL, if_neg (by omega), if_neg (by omega)]; rfl
      have hst := own_set HO.out i ((sumS L f g i 0).getD i 0 + f.getD i 0)
      rw [sumS_left, hX0, Int.zero_add] at hst
      rw [hX0] at hcl
      obtain ⟨hcl1, hcl2⟩ := hcl
      have hb := Hf.out i
      unfold i64B at hb
      obtain ⟨c, hc⟩ : ∃ c, c = f.getD i 0 := ⟨_, rfl⟩
      rw [← hc] at hfc hst hb
      have HS := hid hst
      clear hst hc hX0
      go_wp2_with fail
      go_roundw
      case rel => exact ⟨i + 1, by omega, by go_num, hid HS.out.1, hid (Below.grown HB.out HS.out.2 HB.out.size (fun k hk => by injection hk with hk; omega))⟩
      case measure => simp only [intOf]; omega
    · obtain rfl : i = f.length := by omega
      have hltz : ¬ (f.length : Int) < (f.length : Int) := by omega
      obtain ⟨wo, rfl⟩ : ∃ wo : World, wo = wr := ⟨_, rfl⟩
      go_wp2_with fail
      go_loopw [33] (fun s wr => ∃ k : Nat, k ≤ g.length ∧ s = .int .i64 k ∧ Hid (ownR w.heap.size wr (.slice (some ⟨w.heap.size, 0, none⟩) g.length g.length) (sumS L f g f.length k)) ∧ Hid (Below w.heap.size w wr)) (fun s _ => g.length - (intOf s).toNat)
      case atStart => exact ⟨0, by omega, rfl, HO, HB⟩
      case round =>
        obtain ⟨k, hk9, rfl, HO', HB'⟩ := hrel
        obtain ⟨wq, rfl⟩ : ∃ wq : World, wq = wr := ⟨_, rfl⟩
        by_cases hlt2 : k < g.length
        · have hltz2 : (k : Int) < (g.length : Int) := by omega
          obtain ⟨b2, o2, rfl⟩ := rd_head H2.out (by intro e; rw [e] at hlt2; simp at hlt2)
          have hfc := HB'.out.cell (p := ⟨b2, o2 + k, none⟩) (World.block_lt_of_cell? w _ (rd_at H2.out hlt2))
          rw [rd_at H2.out hlt2] at hfc
          have hkL : k < L := by omega
          have hkLz : (k : Int) < (g.length : Int) := by have := HLD.out; omega
          have hcl := (own_cell HO'.out (j := k) (by rw [sumS_len]; omega))
          have hX0 : (sumS L f g f.length k).getD k 0 = f.getD k 0 := by
            rw [sumS_getD _ _ _ _ hkL, if_neg (show ¬ k < k by omega)]
            by_cases h : k < f.length
            · rw [if_pos h]; omega
            · rw [if_neg h, getD_out (by omega)]; rfl
          have hst := own_set HO'.out k ((sumS L f g f.length k).getD k 0 + g.getD k 0)
          rw [sumS_right, hX0] at hst
          rw [hX0] at hcl
          obtain ⟨hcl1, hcl2⟩ := hcl
          have hb := Hs.out k
          unfold i64B at hb
          obtain ⟨c, hc⟩ : ∃ c, c = g.getD k 0 := ⟨_, rfl⟩
          obtain ⟨x, hx⟩ : ∃ x, x = f.getD k 0 := ⟨_, rfl⟩
          rw [← hc] at hfc hst hb
          rw [← hx] at hst hb hcl1
          have HS := hid hst
          clear hst hc hx hX0
          go_wp2_with fail
          go_roundw
          case rel => exact ⟨k + 1, by omega, by go_num, hid HS.out.1, hid (Below.grown HB'.out HS.out.2 HB'.out.size (fun k hk => by injection hk with hk; omega))⟩
          case measure => simp only [intOf]; omega
        · obtain rfl : k = g.length := by omega
          have hltz2 : ¬ (g.length : Int) < (g.length : Int) := by omega
          go_wp2_with (go_at_call 62; refine viaI (g := id) (i_trim w.heap.size _ _ _ HO'.out (by rw [sumS_len]; omega)) ?_; intro rr ur zr hown2; (try simp at zr))
          go_ret
          exact ⟨_, rfl, by rw [HLD.out] at hown2; exact hown2.mono HB'.out.size, HB'.out.trans (Below.mono (by refine Ext.bel ?_; repeat (with_reducible first | exact Ext.refl _ | apply Ext.alloc | apply Ext.aft | apply Ext.drew | apply Ext.drewN | apply Ext.setCell | exact Nat.le_add_right _ _ | exact Nat.le_refl _ | (simp; done) | omega)) HB'.out.size)⟩
set_option maxRecDepth 20000 in
set_option maxHeartbeats 8000000 in
theorem i_sum_ge (r1 r2 : Value) (f g : List Int) (w : World) (h1 : rdI w r1 f) (h2 : rdI w r2 g) (hl1 : f.length ≤ 1000) (hl2 : g.length ≤ 1000) (hf : ∀ j, i64B (f.getD j 0)) (hs : ∀ j, i64B (f.getD j 0 + g.getD j 0)) (hmx : ¬ f.length < g.length) :
    Calls Try.prog 43 #[r1, r2] w fun e w' => ∃ v, e = .returned v ∧ ownR w.heap.size w' v (addK 1 f g) ∧ Below w.heap.size w w' := by
  obtain ⟨i0, hi, hz0, hz1, hz2⟩ := info_parts infoI
  obtain ⟨a1, cap1, rfl, _, _⟩ := id h1
  obtain ⟨a2, cap2, rfl, _, _⟩ := id h2
  have H1 := hid h1
  have H2 := hid h2
  have Hf := hid hf
  have Hs := hid hs
  have hmz : (¬ f.length < g.length : Prop) := hmx
  have hmi : (f.length : Int) < (g.length : Int) ↔ f.length < g.length := by omega
  have hL : max f.length g.length = f.length := by omega
  rw [← sumS_all, hL]
  obtain ⟨L, hLd⟩ : ∃ L, L = f.length := ⟨_, rfl⟩
  have hLf : f.length ≤ L := by omega
  have hLg : g.length ≤ L := by omega
  have hL9 : L ≤ 1000 := by omega
  have HLD := hid hLd
  clear h1 h2 hf hs hL hLd
  go_enter Try.func43, Try.ntmps43
  go_wp2_with (at_make; refine wpList_make_full _ rfl _ _ 26 rfl w.heap.size 2 i0 (.int .i64 0) 1 Try.underlying26 hi hz0 hz1 _ _ _ _ f.length rfl rfl (by omega) (by omega) (by rw [hz2]; omega) (by unfold maxLen; omega) (Nat.le_refl _) ?_)
  intro w1 hown0 hgr
  rw [← HLD.out] at hown0
  have hown : ownR w.heap.size w1 (.slice (some ⟨w.heap.size, 0, none⟩) f.length f.length) (sumS L f g 0 0) := by
    rw [← HLD.out]
    have e : sumS L f g 0 0 = List.replicate L 0 := by
      apply List.ext_getElem?
      intro j
      unfold sumS
      rw [List.getElem?_map]
      rcases Nat.lt_or_ge j L with h | h
      · rw [List.getElem?_range h]; simp [h]
      · rw [List.getElem?_eq_none (by simpa using h)]; simp; omega
    rw [e]
    unfold ownR
    rw [List.length_replicate, ← vI_zeros]; exact hown0
  have HB : Hid (Below w.heap.size w w1) := hid (Below.grown (Below.refl _ _) hgr (Nat.le_refl _) (fun k hk => by cases hk))
  have HO := hid hown
  clear hown0 hown hgr
  go_wp2_with fail
  go_loopw [18] (fun s wr => ∃ i : Nat, i ≤ f.length ∧ s = .int .i64 i ∧ Hid (ownR w.heap.size wr (.slice (some ⟨w.heap.size, 0, none⟩) f.length f.length) (sumS L f g i 0)) ∧ Hid (Below w.heap.size w wr)) (fun s _ => f.length - (intOf s).toNat)
  case atStart => exact ⟨0, by omega, rfl, HO, HB⟩
  case round =>
    obtain ⟨i, hi9, rfl, HO, HB⟩ := hrel
    by_cases hlt : i < f.length
    · have hltz : (i : Int) < (f.length : Int) := by omega
      obtain ⟨b1, o1, rfl⟩ := rd_head H1.out (by intro e; rw [e] at hlt; simp at hlt)
      have hfc := HB.out.cell (p := ⟨b1, o1 + i, none⟩) (World.block_lt_of_cell? w _ (rd_at H1.out hlt))
      rw [rd_at H1.out hlt] at hfc
      have hiL : i < L := by omega
      have hiLz : (i : Int) < (f.length : Int) := by have := HLD.out; omega
      have hcl := (own_cell HO.out (j := i) (by rw [sumS_len]; omega))
      have hX0 : (sumS L f g i 0).getD i 0 = 0 := by rw [sumS_getD _ _ _ _ hiL, if_neg (by omega), if_neg (by omega)]; rfl
      have hst := own_set HO.out i ((sumS L f g i 0).getD i 0 + f.getD i 0)
      rw [sumS_left, hX0, Int.zero_add] at hst
      rw [hX0] at hcl
      obtain ⟨hcl1, hcl2⟩ := hcl
      have hb := Hf.out i
      unfold i64B at hb
      obtain ⟨c, hc⟩ : ∃ c, c = f.getD i 0 := ⟨_, rfl⟩
      rw [← hc] at hfc hst hb
      have HS := hid hst
      clear hst hc hX0
      go_wp2_with fail
      go_roundw
      case rel => exact ⟨i + 1, by omega, by go_num, hid HS.out.1, hid (Below.grown HB.out HS.out.2 HB.out.size (fun k hk => by injection hk with hk; omega))⟩
      case measure => simp only [intOf]; omega
    · obtain rfl : i = f.length := by omega
      have hltz : ¬ (f.length : Int) < (f.length : Int) := by omega
      obtain ⟨wo, rfl⟩ : ∃ wo : World, wo = wr := ⟨_, rfl⟩
      go_wp2_with fail
      go_loopw [33] (fun s wr => ∃ k : Nat, k ≤ g.length ∧ s = .int .i64 k ∧ Hid (ownR w.heap.size wr (.slice (some ⟨w.heap.size, 0, none⟩) f.length f.length) (sumS L f g f.length k)) ∧ Hid (Below w.heap.size w wr)) (fun s _ => g.length - (intOf s).toNat)
      case atStart => exact ⟨0, by omega, rfl, HO, HB⟩
      case round =>
        obtain ⟨k, hk9, rfl, HO', HB'⟩ := hrel
        obtain ⟨wq, rfl⟩ : ∃ wq : World, wq = wr := ⟨_, rfl⟩
        by_cases hlt2 : k < g.length
        · have hltz2 : (k : Int) < (g.length : Int) := by omega
          obtain ⟨b2, o2, rfl⟩ := rd_head H2.out (by intro e; rw [e] at hlt2; simp at hlt2)
          have hfc := HB'.out.cell (p := ⟨b2, o2 + k, none⟩) (World.block_lt_of_cell? w _ (rd_at H2.out hlt2))
          rw [rd_at H2.out hlt2] at hfc
          have hkL : k < L := by omega
          have hkLz : (k : Int) < (f.length : Int) := by have := HLD.out; omega
          have hcl := (own_cell HO'.out (j := k) (by rw [sumS_len]; omega))
          have hX0 : (sumS L f g f.length k).getD k 0 = f.getD k 0 := by
            rw [sumS_getD _ _ _ _ hkL, if_neg (show ¬ k < k by omega)]
            by_cases h : k < f.length
            · rw [if_pos h]; omega
            · rw [if_neg h, getD_out (by omega)]; rfl
          have hst := own_set HO'.out k ((sumS L f g f.length k).getD k 0 + g.getD k 0)
          rw [sumS_right, hX0] at hst
          rw [hX0] at hcl
          obtain ⟨hcl1, hcl2⟩ := hcl
          have hb := Hs.out k
          unfold i64B at hb
          obtain ⟨c, hc⟩ : ∃ c, c = g.getD k 0 := ⟨_, rfl⟩
          obtain ⟨x, hx⟩ : ∃ x, x = f.getD k 0 := ⟨_, rfl⟩
          rw [← hc] at hfc hst hb
          rw [← hx] at hst hb hcl1
          have HS := hid hst
          clear hst hc hx hX0
          go_wp2_with fail
          go_roundw
          case rel => exact ⟨k + 1, by omega, by go_num, hid HS.out.1, hid (Below.grown HB'.out HS.out.2 HB'.out.size (fun k hk => by injection hk with hk; omega))⟩
          case measure => simp only [intOf]; omega
        · obtain rfl : k = g.length := by omega
          have hltz2 : ¬ (g.length : Int) < (g.length : Int) := by omega
          go_wp2_with (go_at_call 62; refine viaI (g := id) (i_trim w.heap.size _ _ _ HO'.out (by rw [sumS_len]; omega)) ?_; intro rr ur zr hown2; (try simp at zr))
          go_ret
          exact ⟨_, rfl, by rw [HLD.out] at hown2; exact hown2.mono HB'.out.size, HB'.out.trans (Below.mono (by refine Ext.bel ?_; repeat (with_reducible first | exact Ext.refl _ | apply Ext.alloc | apply Ext.aft | apply Ext.drew | apply Ext.drewN | apply Ext.setCell | exact Nat.le_add_right _ _ | exact Nat.le_refl _ | (simp; done) | omega)) HB'.out.size)⟩
theorem i_sum (r1 r2 : Value) (f g : List Int) (w : World) (h1 : rdI w r1 f) (h2 : rdI w r2 g) (hl1 : f.length ≤ 1000) (hl2 : g.length ≤ 1000) (hf : ∀ j, i64B (f.getD j 0)) (hs : ∀ j, i64B (f.getD j 0 + g.getD j 0)) :
    Calls Try.prog 43 #[r1, r2] w fun e w' => ∃ v, e = .returned v ∧ ownR w.heap.size w' v (addK 1 f g) ∧ Below w.heap.size w w' := by
  by_cases h : f.length < g.length
  · exact i_sum_lt r1 r2 f g w h1 h2 hl1 hl2 hf hs h
  · exact i_sum_ge r1 r2 f g w h1 h2 hl1 hl2 hf hs h
end Go.Proofs.Ytflmoopiajhadaa
