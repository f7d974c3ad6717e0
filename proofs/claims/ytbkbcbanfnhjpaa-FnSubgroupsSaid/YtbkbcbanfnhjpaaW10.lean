/- Laws over slices of slices of numbers: sizes, comparisons, marks. -/
import Derived.Test.YtbkbcbanfnhjpaaW9
namespace Go.Proofs.Ytbkbcbanfnhjpaa
open Go Go.RowKit

def tot (xss : List (List Int)) : Nat := (xss.map List.length).sum
theorem tot_snoc (xss : List (List Int)) (x : List Int) : tot (xss ++ [x]) = tot xss + x.length := by simp [tot]
theorem tot_le {xss : List (List Int)} {N : Nat} (h : ∀ xs ∈ xss, xs.length ≤ N) : tot xss ≤ xss.length * N := by
  induction xss with
  | nil => simp [tot]
  | cons x r ih =>
    have h1 := h x (by simp)
    have h2 := ih (fun xs hx => h xs (by simp [hx]))
    unfold tot at h2 ⊢
    simp only [List.map_cons, List.sum_cons, List.length_cons]
    rw [Nat.add_mul, Nat.one_mul]
    omega
def markR : Int → List (List Int) → List (List Int)
  | _, [] => []
  | k, x :: r => marks k x.length :: markR (k + x.length) r
theorem markR_len (k : Int) (xss : List (List Int)) : (markR k xss).length = xss.length := by
  induction xss generalizing k with
  | nil => rfl
  | cons x r ih => simp [markR, ih]
theorem markR_snoc (k : Int) (xss : List (List Int)) (x : List Int) : markR k (xss ++ [x]) = markR k xss ++ [marks (k + tot xss) x.length] := by
  induction xss generalizing k with
  | nil => simp [markR, tot]
  | cons y r ih =>
    simp only [List.cons_append, markR]
    rw [ih]
    congr 4
    simp only [tot, List.map_cons, List.sum_cons]
    omega
theorem take_snocR {xss : List (List Int)} {k : Nat} (h : k < xss.length) : xss.take (k + 1) = xss.take k ++ [xss[k]] := List.take_succ_eq_append_getElem h
theorem tot_take {xss : List (List Int)} {k : Nat} (h : k < xss.length) : tot (xss.take (k + 1)) = tot (xss.take k) + (xss[k]).length := by rw [take_snocR h, tot_snoc]
theorem markR_get {k : Int} {xss : List (List Int)} {j : Nat} (h : j < xss.length) : (markR k xss)[j]'(by rw [markR_len]; exact h) = marks (k + tot (xss.take j)) (xss[j]).length := by
  have e : xss = xss.take j ++ [xss[j]] ++ xss.drop (j + 1) := by rw [← take_snocR h, List.take_append_drop]
  have key : ∀ (a b : List (List Int)) (k : Int), ∃ k', markR k (a ++ b) = markR k a ++ markR k' b := by
    intro a b
    induction a with
    | nil => intro k; exact ⟨k, rfl⟩
    | cons y r ih =>
      intro k
      obtain ⟨k', hk⟩ := ih (k + y.length)
      exact ⟨k', by simp only [List.cons_append, markR]; rw [hk]⟩
  obtain ⟨k', hk⟩ := key (xss.take j ++ [xss[j]]) (xss.drop (j + 1)) k
  have h2 : (markR k xss)[j]? = some (marks (k + tot (xss.take j)) (xss[j]).length) := by
    conv => lhs; rw [e, hk, markR_snoc]
    have hl : (markR k (xss.take j)).length = j := by rw [markR_len, List.length_take]; omega
    rw [List.append_assoc, List.getElem?_append_right (by omega), hl, Nat.sub_self]
    rfl
  have h3 := List.getElem?_eq_getElem (l := markR k xss) (i := j) (by rw [markR_len]; exact h)
  rw [h2] at h3
  injection h3 with h3
  exact h3.symm
/-- The lists with the first j marked. -/
def markU (k : Int) (xss : List (List Int)) (j : Nat) : List (List Int) := markR k (xss.take j) ++ xss.drop j
theorem markU_len {k : Int} {xss : List (List Int)} {j : Nat} (h : j ≤ xss.length) : (markU k xss j).length = xss.length := by simp [markU, markR_len]; omega
theorem markU_get {k : Int} {xss : List (List Int)} {j : Nat} (h : j < xss.length) : (markU k xss j)[j]'(by rw [markU_len (by omega)]; exact h) = xss[j] := by
  unfold markU
  rw [List.getElem_append_right (by rw [markR_len, List.length_take]; omega)]
  simp [markR_len, Nat.min_eq_left (Nat.le_of_lt h)]
theorem markU_set {k : Int} {xss : List (List Int)} {j : Nat} (h : j < xss.length) : (markU k xss j).set j (marks (k + tot (xss.take j)) (xss[j]).length) = markU k xss (j + 1) := by
  unfold markU
  have hl : (markR k (xss.take j)).length = j := by rw [markR_len, List.length_take]; omega
  rw [List.set_append_right _ _ (by omega), hl, Nat.sub_self, List.drop_eq_getElem_cons h, List.set_cons_zero, take_snocR h, markR_snoc, List.append_assoc]
  rfl
theorem markU_all (k : Int) (xss : List (List Int)) : markU k xss xss.length = markR k xss := by simp [markU]
/-- w' is w but for these values' rows, and what came later. -/
structure grownIn (w w' : World) (es : List Value) : Prop where
  os : w'.os = w.os
  tape : w'.tape = w.tape
  output : w'.output = w.output
  size : w.heap.size ≤ w'.heap.size
  block : ∀ b, b < w.heap.size → (∀ e ∈ es, e.ownBlock ≠ some b) → w'.heap[b]? = w.heap[b]?
theorem grownIn.refl (w : World) (es : List Value) : grownIn w w es := ⟨rfl, rfl, rfl, Nat.le_refl _, fun _ _ _ => rfl⟩
theorem grownIn.step {w w1 w2 : World} {es : List Value} {e : Value} (h : grownIn w w1 es) (k : w1.grownBy w2 e.ownBlock) (he : e ∈ es) : grownIn w w2 es :=
  ⟨k.os.trans h.os, k.tape.trans h.tape, k.output.trans h.output, Nat.le_trans h.size k.size, fun b hb hn => (k.block b (Nat.lt_of_lt_of_le hb h.size) (fun q => hn e he q.symm)).trans (h.block b hb hn)⟩
theorem grownIn.below {B : Nat} {w w' : World} {es : List Value} (h : grownIn w w' es) (hB : B ≤ w.heap.size) (he : ∀ e ∈ es, ∀ k, e.ownBlock = some k → B ≤ k) : Below B w w' :=
  ⟨h.os, h.tape, h.output, h.size, fun k hk => h.block k (by omega) fun e hm hb => by have := he e hm k hb; omega⟩
theorem ownE.ge {B : Nat} {w : World} {v : Value} {es : List Value} {xss : List (List Int)} (h : ownE B w v es xss) : ∀ e ∈ es, ∀ k, e.ownBlock = some k → B ≤ k ∧ k < w.heap.size := fun e he k hk => by
  obtain ⟨i, hi, e1⟩ := List.getElem_of_mem he
  obtain ⟨e', h1, h2⟩ := h.2.2 i (by rw [← h.1]; exact hi)
  rw [List.getElem?_eq_getElem hi, e1] at h1
  injection h1 with h1
  subst h1
  exact World.ownsRow.lt h2 k hk

set_option maxHeartbeats 4000000 in
theorem l_szSS (r : Value) (xss : List (List Int)) (L : Int) (w : World) (h : rdSS w r xss) (hL : 0 ≤ L ∧ L ≤ 1048576) :
    Calls Try.prog 22 #[r, .int .i64 L] w fun e w' => ∃ q : Int, e = .returned (.int .i64 q) ∧ (q = -1 ∨ (0 ≤ q ∧ xss.length ≤ 1048576 ∧ ∀ xs ∈ xss, xs.length ≤ 1048576)) ∧ w = w' := by
  obtain ⟨a, cap, rfl, hm, hc⟩ := h
  unfold maxLen at hm
  have Hc := hid hc
  clear hc
  by_cases hl : L < xss.length
  · have hl2 : L - (xss.length : Int) < 0 := by omega
    go_enter Try.func22, Try.ntmps22
    go_wp2_with fail
    go_ret
    exact ⟨-1, rfl, .inl rfl, rfl⟩
  have hl2 : ¬ L - (xss.length : Int) < 0 := by omega
  go_enter Try.func22, Try.ntmps22
  go_wp2_with fail
  go_loop [1, 5] (fun q i => ∃ (k : Nat) (l : Int), k ≤ xss.length ∧ i = .int .i64 k ∧ q = .int .i64 l ∧ (0 ≤ l ∧ l ≤ 1048576) ∧ Hid (∀ xs ∈ xss.take k, xs.length ≤ 1048576)) (fun _ i => xss.length - (intOf i).toNat)
  case atStart => exact ⟨0, L - xss.length, by omega, rfl, rfl, by omega, hid (by simp)⟩
  case round =>
    obtain ⟨k, l, hk, rfl, rfl, hlb, HA⟩ := hrel
    by_cases hlt : k < xss.length
    · have hltz : (k : Int) < (xss.length : Int) := by omega
      obtain ⟨b, o, rfl, hcell⟩ := Hc.out (by intro e; rw [e] at hlt; simp at hlt)
      obtain ⟨e1, h1, ho1⟩ := hcell k hlt
      have hsn := take_snocR hlt
      obtain ⟨A, hA⟩ : ∃ A, A = xss[k] := ⟨_, rfl⟩
      rw [← hA] at ho1 hsn
      have HO := hid ho1
      have HS := hid hsn
      clear hcell ho1 hsn hA
      by_cases hA : l < (A.length : Int)
      · go_wp2_with (go_at_call 68; refine pur (l_szI _ A l _ HO.out hlb) ?_; rw [if_pos hA])
        go_ret
        exact ⟨-1, rfl, .inl rfl, rfl⟩
      · have hA2 : ¬ l - (A.length : Int) < 0 := by omega
        go_wp2_with (go_at_call 68; refine pur (l_szI _ A l _ HO.out hlb) ?_; rw [if_neg hA])
        go_round
        case rel => exact ⟨k + 1, l - A.length, by omega, by go_num, rfl, by omega, hid (fun xs hx => by
          rw [HS.out] at hx
          rcases List.mem_append.1 hx with hx | hx
          · exact HA.out xs hx
          · rw [List.mem_singleton.1 hx]; omega)⟩
        case measure => simp only [intOf]; omega
    · obtain rfl : k = xss.length := by omega
      rw [List.take_length] at HA
      have hltz : ¬ (xss.length : Int) < (xss.length : Int) := by omega
      go_wp2
      go_ret
      exact ⟨l, rfl, .inr ⟨by omega, by omega, HA.out⟩, rfl⟩
set_option maxHeartbeats 4000000 in
theorem l_eqSS (r1 r2 : Value) (xss : List (List Int)) (w : World) (h : rdSS w r1 xss) (h' : rdSS w r2 xss) :
    Calls Try.prog 27 #[r1, r2] w fun e w' => e = .returned (.bool true) ∧ Below w.heap.size w w' := by
  obtain ⟨a, cap, rfl, hm, hc⟩ := h
  obtain ⟨a', cap', rfl, hm', hc'⟩ := h'
  have Hc := hid hc
  have Hc' := hid hc'
  unfold maxLen at hm
  clear hc hc' hm'
  go_enter Try.func27, Try.ntmps27
  go_wp2_with fail
  go_loopw [5] (fun i wr => ∃ (k : Nat) (uu : World), wr = aft w uu ∧ k ≤ xss.length ∧ i = .int .i64 k) (fun i _ => xss.length - (intOf i).toNat)
  case atStart => exact ⟨0, w, (aft_of (Below.refl _ _)).symm, by omega, rfl⟩
  case round =>
    obtain ⟨k, uu, rfl, hk, rfl⟩ := hrel
    by_cases hlt : k < xss.length
    · obtain ⟨b, o, rfl, hcell⟩ := Hc.out (by intro e; rw [e] at hlt; simp at hlt)
      obtain ⟨b', o', rfl, hcell'⟩ := Hc'.out (by intro e; rw [e] at hlt; simp at hlt)
      obtain ⟨e1, h1, ho1⟩ := hcell k hlt
      obtain ⟨e2, h2, ho2⟩ := hcell' k hlt
      have h3 := World.block_lt_of_cell? w _ h1
      have h4 := World.block_lt_of_cell? w _ h2
      simp only at h3 h4
      obtain ⟨A, hA⟩ : ∃ A, A = xss[k] := ⟨_, rfl⟩
      rw [← hA] at ho1 ho2
      have HO1 := hid ho1
      have HO2 := hid ho2
      have hz : ((k : Int) : Int) < (xss.length : Int) := by omega
      have hz0 : (0 : Int) ≤ (k : Int) := by omega
      have zs := size_aft w uu
      clear hA hcell hcell' ho1 ho2
      go_wp2_with fail
      refine wp_region_calm (by kernel_rfl) (by kernel_rfl) ?_
      repeat (go_big_quiet_step (first | (go_at_call 80; exact calm (l_eqI _ _ A _ ((HO1.out.aft _).aft _) ((HO2.out.aft _).aft _)))))
      refine wpQuiet_nil ?_; intro uq zq; try simp at zq
      go_wp2_with fail
      go_roundw
      case rel => exact ⟨k + 1, _, (aft_of ((below_aft w uu).trans ((below_aft _ _).mono (size_aft w uu)))).symm, by omega, by go_num⟩
      case measure => simp [intOf]; omega
    · obtain rfl : k = xss.length := by omega
      go_wp2
      go_ret
      exact ⟨rfl, (by refine Ext.bel ?_; repeat (with_reducible first | exact Ext.refl _ | apply Ext.alloc | apply Ext.aft | apply Ext.drew | apply Ext.drewN | apply Ext.setCell | exact Nat.le_add_right _ _ | exact Nat.le_refl _ | (simp; done) | omega))⟩
set_option maxRecDepth 20000 in
set_option maxHeartbeats 4000000 in
theorem l_markSS (B : Nat) (r : Value) (es : List Value) (xss : List (List Int)) (k : Int) (w : World) (h : ownE B w r es xss) (hd : distR es) (hk : 0 ≤ k ∧ k ≤ 1000000) (hl : xss.length ≤ 1048576) (hx : ∀ xs ∈ xss, xs.length ≤ 1048576) :
    Calls Try.prog 28 #[r, .int .i64 k] w fun e w' => e = .returned (.int .i64 (k + tot xss)) ∧ ownE B w' r es (markR k xss) ∧ grownIn w w' es := by
  have ht0 : ∀ j, tot (xss.take j) ≤ 1099511627776 := fun j => by
    have h1 := tot_le (xss := xss.take j) (N := 1048576) (fun xs hxs => hx xs (List.mem_of_mem_take hxs))
    have h2 : (xss.take j).length ≤ 1048576 := by rw [List.length_take]; omega
    have h3 := Nat.mul_le_mul_right 1048576 h2
    omega
  have Ht := hid ht0
  have hshape : ∃ a cap, r = .slice a xss.length cap := by
    rcases h.2.1.2 with ⟨e, h1⟩ | ⟨g', c, cur, e, _⟩
    · exact ⟨none, 0, by rw [e, h1]⟩
    · exact ⟨_, c, e⟩
  obtain ⟨a, cap, rfl⟩ := hshape
  have HO0 : Hid (ownE B w (.slice a xss.length cap) es (markU k xss 0)) := hid (by simpa [markU, markR] using h)
  have HD := hid hd
  have Hx := hid hx
  have HEL := hid h.1
  clear h hd hx ht0
  go_enter Try.func28, Try.ntmps28
  go_wp2_with fail
  go_loopw [1, 5] (fun kk i wr => ∃ j : Nat, j ≤ xss.length ∧ i = .int .i64 j ∧ kk = .int .i64 (k + tot (xss.take j)) ∧ Hid (ownE B wr (.slice a xss.length cap) es (markU k xss j)) ∧ Hid (grownIn w wr es)) (fun _ i _ => xss.length - (intOf i).toNat)
  case atStart => exact ⟨0, by omega, rfl, by simp [tot], HO0, hid (grownIn.refl _ _)⟩
  case round =>
    obtain ⟨j, hj, rfl, rfl, HO, HG⟩ := hrel
    have hml := markU_len (k := k) hj
    by_cases hlt : j < xss.length
    · have hltz : (j : Int) < (xss.length : Int) := by omega
      obtain ⟨g, cp, hsh, _, _, _⟩ := HO.out.len (by omega)
      injection hsh with e1 e2 e3
      subst e1 e3
      have hc := ownE.cellK HO.out (i := j) (by omega)
      obtain ⟨e1, q1, q2, _, q4⟩ := hc
      rw [markU_get hlt] at q4
      have htj := Ht.out j
      have hxl := Hx.out _ (List.getElem_mem hlt)
      have HST := hid (markU_set (k := k) hlt)
      have HTT := hid (tot_take hlt)
      have HQ4 := hid q4
      have HQ1 := hid q1
      obtain ⟨T, hT⟩ : ∃ T, T = tot (xss.take j) := ⟨_, rfl⟩
      rw [← hT] at htj HST HTT ⊢
      obtain ⟨A, hA⟩ : ∃ A, A = xss[j] := ⟨_, rfl⟩
      rw [← hA] at hxl HST HTT HQ4
      clear q1 q4 e2 hT hA
      go_wp2_with fail
      refine (l_markG B e1 A (k + T) _ HQ4.out (by omega) (by omega)).mono ?_
      rintro e w' ⟨rfl, hmk, hgr⟩
      have HMK := hid hmk
      have HGR := hid hgr
      have HN : Hid (ownE B w' (.slice (some ⟨g, 0, none⟩) xss.length cap) es (markU k xss (j + 1))) := hid (by
        rw [← HST.out]
        have ho := HO.out
        refine ⟨by simp [ho.1], ?_, fun i hi => ?_⟩
        · have h9 := owns_kept ho.2.1 (w' := w') fun b hb hbe => HGR.out.block b hb fun q => own_apart ho.2.1 HQ4.out b q.symm hbe
          simpa using h9
        · simp at hi
          by_cases hij : j = i
          · subst hij
            exact ⟨e1, HQ1.out, by rw [List.getElem_set_self]; exact HMK.out⟩
          · obtain ⟨e', h1, h2⟩ := ho.2.2 i hi
            refine ⟨e', h1, ?_⟩
            rw [List.getElem_set_ne hij]
            exact h2.kept fun b hb hbe => HGR.out.block b hb fun q => by
              rcases Nat.lt_or_ge i j with hlt2 | hge
              · exact HD.out i j e' e1 b hlt2 h1 HQ1.out hbe q.symm
              · exact HD.out j i e1 e' b (by omega) HQ1.out h1 q.symm hbe)
      have HGN : Hid (grownIn w w' es) := hid (HG.out.step HGR.out (List.mem_of_getElem? HQ1.out))
      clear hmk hgr
      go_wp2_with fail
      go_roundw
      case rel => exact ⟨j + 1, by omega, by go_num, by rw [HTT.out]; go_num, HN, HGN⟩
      case measure => simp only [intOf]; omega
    · obtain rfl : j = xss.length := by omega
      have hltz : ¬ (xss.length : Int) < (xss.length : Int) := by omega
      rw [markU_all] at HO
      have htj := Ht.out xss.length
      rw [List.take_length] at htj ⊢
      go_wp2
      go_ret
      exact ⟨rfl, HO.out, HG.out⟩
set_option maxHeartbeats 4000000 in
theorem l_heldSS (r : Value) (xss : List (List Int)) (k : Int) (w : World) (h : rdSS w r (markR k xss)) (hk : 0 ≤ k ∧ k ≤ 1000000) (hl : xss.length ≤ 1048576) (hx : ∀ xs ∈ xss, xs.length ≤ 1048576) :
    Calls Try.prog 35 #[r, .int .i64 k] w fun e w' => e = .returned (.int .i64 (k + tot xss)) ∧ w = w' := by
  have ht0 : ∀ j, tot (xss.take j) ≤ 1099511627776 := fun j => by
    have h1 := tot_le (xss := xss.take j) (N := 1048576) (fun xs hxs => hx xs (List.mem_of_mem_take hxs))
    have h2 : (xss.take j).length ≤ 1048576 := by rw [List.length_take]; omega
    have h3 := Nat.mul_le_mul_right 1048576 h2
    omega
  have Ht := hid ht0
  obtain ⟨a, cap, rfl, hm, hc⟩ := h
  rw [markR_len] at hm ⊢
  have Hc := hid hc
  have Hx := hid hx
  clear hc hx ht0
  go_enter Try.func35, Try.ntmps35
  go_wp2_with fail
  go_loop [1, 5] (fun kk i => ∃ j : Nat, j ≤ xss.length ∧ i = .int .i64 j ∧ kk = .int .i64 (k + tot (xss.take j))) (fun _ i => xss.length - (intOf i).toNat)
  case atStart => exact ⟨0, by omega, rfl, by simp [tot]⟩
  case round =>
    obtain ⟨j, hj, rfl, rfl⟩ := hrel
    by_cases hlt : j < xss.length
    · have hltz : (j : Int) < (xss.length : Int) := by omega
      obtain ⟨b, o, rfl, hcell⟩ := Hc.out (by intro e; have := markR_len k xss; rw [e] at this; simp at this; omega)
      obtain ⟨e1, h1, ho1⟩ := hcell j (by rw [markR_len]; exact hlt)
      rw [markR_get hlt] at ho1
      have htj := Ht.out j
      have hxl := Hx.out _ (List.getElem_mem hlt)
      have HTT := hid (tot_take hlt)
      have htj2 := Ht.out (j + 1)
      rw [HTT.out] at htj2
      obtain ⟨T, hT⟩ : ∃ T, T = tot (xss.take j) := ⟨_, rfl⟩
      rw [← hT] at htj htj2 HTT ho1 ⊢
      obtain ⟨A, hA⟩ : ∃ A, A = xss[j] := ⟨_, rfl⟩
      rw [← hA] at hxl HTT ho1 htj2
      have HO := hid ho1
      have hnn : decide (k + (T : Int) + (A.length : Int) < 0) = false := by simp; omega
      clear hcell ho1 hT hA
      go_wp2_with (go_at_call 82; refine pur (l_heldI _ A.length _ _ HO.out (by omega) (by omega)) ?_)
      go_round
      case rel => exact ⟨j + 1, by omega, by go_num, by rw [HTT.out]; go_num⟩
      case measure => simp only [intOf]; omega
    · obtain rfl : j = xss.length := by omega
      have hltz : ¬ (xss.length : Int) < (xss.length : Int) := by omega
      have htj := Ht.out xss.length
      rw [List.take_length] at htj ⊢
      go_wp2
      go_ret
      exact ⟨rfl, rfl⟩
end Go.Proofs.Ytbkbcbanfnhjpaa
