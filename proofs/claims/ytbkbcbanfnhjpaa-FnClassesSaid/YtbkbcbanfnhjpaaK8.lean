/- slices.ContainsFunc over slices of slices; the closure of IsGroup. -/
import Derived.Test.YtbkbcbanfnhjpaaK7
import Derived.Test.YtbkbcbanfnhjpaaB7
namespace Go.Proofs.Ytbkbcbanfnhjpaa
open Go Go.RowKit

/-- What is asked of a predicate over slices: in every world in which all that lay in w lies, at each of these lists, it tells p and leaves such a world. -/
def predR (g : Nat) (lb : Array Value) (p : List Int → Bool) (xss : List (List Int)) (w : World) : Prop :=
  ∀ (W : World) (v : Value) (xs : List Int), Below w.heap.size w W → xs ∈ xss → ownR 0 W v xs → Calls Try.prog g (#[v] ++ lb) W fun e w' => e = .returned (.bool (p xs)) ∧ Below w.heap.size w w'
theorem anyR_take_f {xs : List (List Int)} {p : List Int → Bool} {k : Nat} (h : k < xs.length) (h1 : (xs.take k).any p = false) (h2 : p xs[k] = false) : (xs.take (k + 1)).any p = false := by
  rw [List.take_succ_eq_append_getElem h, List.any_append, h1]; simp [h2]
theorem anyR_hit {xs : List (List Int)} {p : List Int → Bool} {k : Nat} (h : k < xs.length) (h2 : p xs[k] = true) : xs.any p = true := List.any_eq_true.2 ⟨_, List.getElem_mem h, h2⟩

set_option maxRecDepth 20000 in
set_option maxHeartbeats 2000000 in
theorem lib_indexR (g : Nat) (lb : Array Value) (p : List Int → Bool) (eg : ∀ args w, (callFunc g args).run Try.prog w = .ok (.enter g args) w) (r : Value) (xs : List (List Int)) (w : World) (h : rdRR w r xs) (hp : predR g lb p xs w) :
    Calls Try.prog 126 #[r, .func (.func g) #[] lb] w fun e w' => ∃ k : Int, e = .returned (.int .i64 k) ∧ xs.any p = decide (0 ≤ k) ∧ Below w.heap.size w w' := by
  obtain ⟨a, cap, rfl, hm, hc⟩ := h
  have Hc := hid hc
  have Hp := hid hp
  unfold maxLen at hm
  clear hc hp
  go_enter Try.func126, Try.ntmps126
  go_wp2_with fail
  go_loopw [5, 8] (fun _ i wr => ∃ k : Nat, k ≤ xs.length ∧ i = .int .i64 k ∧ Hid (Below w.heap.size w wr) ∧ Hid ((xs.take k).any p = false)) (fun _ i _ => xs.length - (intOf i).toNat)
  case atStart => exact ⟨0, by omega, rfl, hid (Below.refl _ _), hid (by simp)⟩
  case round =>
    obtain ⟨k, hk, rfl, HB, HA⟩ := hrel
    by_cases hlt : k < xs.length
    · obtain ⟨b, o, rfl, hcell⟩ := Hc.out (by intro e; subst e; simp at hlt)
      obtain ⟨e1, h1, ho⟩ := hcell k hlt
      have hbl := World.block_lt_of_cell? w _ h1
      have h2 := HB.out.cell (p := ⟨b, o + k, none⟩) hbl
      rw [h1] at h2
      have ho2 : ownR 0 wr e1 xs[k] := ho.kept fun j hj _ => HB.out.block j hj
      have hcall := Hp.out _ e1 xs[k] HB.out (List.getElem_mem hlt) ho2
      have hltz : (k : Int) < (xs.length : Int) := by omega
      clear hcell h1 ho ho2
      cases hq : p xs[k] with
      | true =>
        rw [hq] at hcall
        have HQ := hid hq
        clear hq
        go_wp2_with fail
        refine hcall.mono ?_
        rintro e w' ⟨rfl, hb'⟩
        go_wp2_with fail
        go_ret
        exact ⟨_, rfl, by rw [anyR_hit hlt HQ.out]; simp, hb'⟩
      | false =>
        rw [hq] at hcall
        have HQ := hid hq
        clear hq
        go_wp2_with fail
        refine hcall.mono ?_
        rintro e w' ⟨rfl, hb'⟩
        go_wp2_with fail
        go_roundw
        case rel => exact ⟨k + 1, by omega, by go_num, hid hb', hid (anyR_take_f hlt HA.out HQ.out)⟩
        case measure => simp only [intOf]; omega
    · obtain rfl : k = xs.length := by omega
      have hltz : ¬ (xs.length : Int) < (xs.length : Int) := by omega
      have HN := hid (show xs.any p = false by have := HA.out; rwa [List.take_length] at this)
      go_wp2
      go_ret
      exact ⟨_, rfl, by rw [HN.out]; simp, HB.out⟩
set_option maxHeartbeats 1000000 in
theorem lib_containsR (g : Nat) (lb : Array Value) (p : List Int → Bool) (eg : ∀ args w, (callFunc g args).run Try.prog w = .ok (.enter g args) w) (r : Value) (xs : List (List Int)) (w : World) (h : rdRR w r xs) (hp : predR g lb p xs w) (B : Bool) (hB : xs.any p = B) :
    Calls Try.prog 74 #[r, .func (.func g) #[] lb] w fun e w' => e = .returned (.bool B) ∧ Below w.heap.size w w' := by
  have HB := hid hB
  clear hB
  go_enter Try.func74, Try.ntmps74
  go_wp2_with (go_at_call 126; refine (lib_indexR g lb p eg r xs _ h hp).mono ?_; rintro e w' ⟨k, rfl, hk, hb⟩; have HK := hid hk; clear hk)
  go_ret
  exact ⟨ret_b (by rw [← HB.out, HK.out]), hb⟩

theorem i_prodE (r1 r2 : Value) (xs ys zs : List Int) (w : World) (h1 : rdI w r1 xs) (h2 : rdI w r2 ys) (hr : ∀ y ∈ ys, 0 ≤ y ∧ y < xs.length) (hl : ys.length ≤ 6) (hz : prodF xs ys = zs) :
    Calls Try.prog 104 #[r1, r2] w fun e w' => ∃ v, e = .returned v ∧ ownR w.heap.size w' v zs ∧ Below w.heap.size w w' := by subst hz; exact i_prod r1 r2 xs ys w h1 h2 hr hl
theorem i_hasE (n : Int) (r v : Value) (rs xs : List Int) (w : World) (b : Bool) (h : rdI w r rs) (hne : rs ≠ []) (hm6 : rs.length ≤ 1048576) (hs : rs.Pairwise (· < ·)) (h2 : ownR 0 w v xs) (hl : xs.length ≤ 6) (hb : rs.contains (rankF xs) = b) :
    Calls Try.prog 63 #[.agg #[.int .i64 n, r], v] w fun e w' => e = .returned (.bool b) ∧ Below w.heap.size w w' := by subst hb; exact i_has n r v rs xs w h hne hm6 hs h2 hl
set_option maxRecDepth 20000 in
set_option maxHeartbeats 8000000 in
theorem i_IsGroup1 (n : Int) (r va v : Value) (rs A X : List Int) (gb ab : Nat) (W : World) (hg0 : W.cell? ⟨gb, 0, none⟩ = some (.int .i64 n)) (hg1 : W.cell? ⟨gb, 1, none⟩ = some r) (ha : W.cell? ⟨ab, 0, none⟩ = some va)
    (h : rdI W r rs) (hne : rs ≠ []) (hm6 : rs.length ≤ 1048576) (hs : rs.Pairwise (· < ·)) (hA : rdI W va A) (hX : ownR 0 W v X) (hr : ∀ y ∈ X, 0 ≤ y ∧ y < (A.length : Int)) (hl : X.length ≤ 6) :
    Calls Try.prog 103 #[v, .pointer (some ⟨gb, 0, none⟩), .pointer (some ⟨ab, 0, none⟩)] W fun e w' => e = .returned (.bool (!rs.contains (rankF (prodF A X)))) ∧ Below W.heap.size W w' := by
  obtain ⟨Z, hZ⟩ : ∃ Z, prodF A X = Z := ⟨_, rfl⟩
  have hZl : Z.length ≤ 6 := by rw [← hZ, prodF_len]; exact hl
  rw [hZ]
  obtain ⟨b, hb⟩ : ∃ b, rs.contains (rankF Z) = b := ⟨_, rfl⟩
  rw [hb]
  have HZ := hid hZ
  have HB := hid hb
  have HR := hid hr
  have hgb := World.block_lt_of_cell? W _ hg0
  have hab := World.block_lt_of_cell? W _ ha
  have HS := hid hs
  have HNE := hid hne
  have hE0 : Ext W.heap.size W W := Ext.refl _
  clear hZ hb hr hs hne
  go_enter Try.func103, Try.ntmps103
  go_wp2_with fail
  go_region_held3 (fun w' => (∀ b o, b < W.heap.size → w'.cell? ⟨b, o, none⟩ = W.cell? ⟨b, o, none⟩) ∧ Hid (Ext W.heap.size W w')) ((refine sB ?_; repeat (with_reducible first | assumption | apply Ext.aft | apply Ext.alloc | apply Ext.drew | apply Ext.drewN))) (first | (go_at_call 104; refine viaI (g := id) (i_prodE _ _ A X Z _ (hA.below (Ext.bel (by repeat (with_reducible first | exact Ext.refl _ | apply Ext.aft | apply Ext.alloc | apply Ext.drew | apply Ext.drewN)))) (hX.rd.below (Ext.bel (by repeat (with_reducible first | exact Ext.refl _ | apply Ext.aft | apply Ext.alloc | apply Ext.drew | apply Ext.drewN)))) HR.out hl HZ.out) ?_; intro t1 u3 z1 own3; (try simp at z1)) | (go_at_call 63; refine via (i_hasE _ _ _ rs Z _ b (h.below (Ext.bel (by repeat (with_reducible first | exact Ext.refl _ | apply Ext.aft | apply Ext.alloc | apply Ext.drew | apply Ext.drewN)))) HNE.out hm6 HS.out (by first | exact own3.mono (Nat.zero_le _) | exact (own3.drew).mono (Nat.zero_le _)) hZl HB.out) ?_; intro u4 z4; (try simp at z4)))
  all_goals
    go_wp2_with fail
    go_ret
    exact ⟨rfl, (by refine Ext.bel ?_; repeat (with_reducible first | exact Ext.refl _ | apply Ext.alloc | apply Ext.aft | apply Ext.drew | apply Ext.drewN | apply Ext.setCell | exact Nat.le_add_right _ _ | exact Nat.le_refl _ | (simp; done) | omega))⟩
end Go.Proofs.Ytbkbcbanfnhjpaa
