/- IsSubgroup: both texts. -/
import Derived.Test.YtbkbcbanfnhjpaaP4
namespace Go.Proofs.Ytbkbcbanfnhjpaa
open Go Go.RowKit

def commonL (a b : List Int) : List Int := a.filter fun x => b.contains x
theorem common_snoc {a b : List Int} {k : Nat} (h : k < a.length) : commonL (a.take (k + 1)) b = if b.contains a[k] then commonL (a.take k) b ++ [a[k]] else commonL (a.take k) b := by
  unfold commonL
  rw [take_snocI _ _ h, List.filter_append]
  cases hb : b.contains a[k] <;> simp only [List.filter_cons, hb] <;> simp
theorem common_le (a b : List Int) : (commonL a b).length ≤ a.length := List.length_filter_le _ _
theorem getD_lt' {xs : List Int} {j : Nat} (h : j < xs.length) : xs.getD j 0 = xs[j] := by simp [List.getD, List.getElem?_eq_getElem h]
theorem common_all (a b : List Int) : decide ((commonL a b).length = a.length) = !(a.any fun x => !b.contains x) := by
  unfold commonL
  rw [Bool.eq_iff_iff, decide_eq_true_eq, Bool.not_eq_true', List.length_filter_eq_length_iff]
  simp
set_option maxRecDepth 20000 in
set_option maxHeartbeats 4000000 in
theorem s_common (n : Nat) (r1 r2 : Value) (a b : List Int) (w : World) (h1 : rdI w r1 a) (h2 : rdI w r2 b) (hn : n ≤ 6) (ha : ∀ x ∈ a, 0 ≤ x ∧ x < (facN n : Int)) (hb : ∀ x ∈ b, 0 ≤ x ∧ x < (facN n : Int)) (hl : a.length ≤ 1048576) :
    Calls Try.prog 65 #[.int .i64 n, r1, r2] w fun e w' => ∃ v, e = .returned v ∧ ownR w.heap.size w' v (commonL a b) ∧ Below w.heap.size w w' := by
  obtain ⟨i0, hi, hz0, hz1, hz2⟩ := info_parts infoI
  have H1 := hid h1
  obtain ⟨a1, c1, hsh, hm1, hc1⟩ := id h1
  subst hsh
  have Hc1 := hid hc1
  have Ha := hid ha
  have Hb := hid hb
  have hf := facN_pos n
  have hf7 := facN_le hn
  clear hc1 hm1 ha hb h1
  go_enter Try.func65, Try.ntmps65
  go_wp2_with fail
  refine viaX (g := id) (s_flags n _ b _ h2 hn Hb.out) ?_
  intro vf uf zf ownf
  try simp at zf
  obtain ⟨g, cf, hg, hgb, hgl⟩ := ownf.shape (by rw [flagsOf_len]; exact hf)
  rw [flagsOf_len] at hg
  subst hg
  obtain ⟨W, hW⟩ : ∃ W, W = aft w uf := ⟨_, rfl⟩
  have HE : Hid (Ext w.heap.size w W) := hid (by rw [hW]; exact (by repeat (with_reducible first | exact Ext.refl _ | apply Ext.alloc | apply Ext.aft | apply Ext.drew | apply Ext.drewN | apply Ext.setCell | exact Nat.le_add_right _ _ | exact Nat.le_refl _ | (simp; done) | omega)))
  rw [← hW] at ownf hgl zf ⊢
  have HF := hid ownf
  have HR1 : Hid (rdI W (.slice a1 a.length c1) a) := hid (by rw [hW]; exact H1.out.aft _)
  clear hW ownf hgb
  go_wp2_with fail
  go_loopw [8, 9] (fun r i wr => ∃ k : Nat, k ≤ a.length ∧ i = .int .i64 k ∧ Hid (ownR W.heap.size wr r (commonL (a.take k) b)) ∧ Ext W.heap.size W wr) (fun _ i _ => a.length - (intOf i).toNat)
  case atStart => exact ⟨0, by omega, rfl, hid (own_made W), (Ext.refl _).alloc _⟩
  case round =>
    obtain ⟨k, hk, rfl, HO, hE⟩ := hrel
    by_cases hlt : k < a.length
    · obtain ⟨b1, o1, rfl, hcell⟩ := Hc1.out (by intro e; subst e; simp at hlt)
      have hx := rd_cells HR1.out k hlt
      have hxb := World.block_lt_of_cell? W _ hx
      have hx2 := hE.1.cell (p := ⟨b1, o1 + k, none⟩) hxb
      rw [hx, getD_lt' hlt] at hx2
      have hrg := Ha.out _ (List.getElem_mem hlt)
      have hsn := common_snoc (b := b) hlt
      obtain ⟨q, hq⟩ : ∃ q : Nat, (q : Int) = a[k] := ⟨a[k].toNat, by omega⟩
      rw [← hq] at hx2 hrg hsn
      have hqF : q < facN n := by omega
      have hcq := HF.out.cell (q := q) (by rw [flagsOf_len]; exact hqF)
      rw [flagsOf_at hqF] at hcq
      have hcq2 := hE.1.cell (p := ⟨g, q, none⟩) hgl
      rw [hcq] at hcq2
      have hqz : (q : Int) < (facN n : Int) := by omega
      have hltz : (k : Int) < (a.length : Int) := by omega
      have hle := common_le (a.take k) b
      have hle2 : (commonL (a.take k) b).length ≤ 1048576 := by rw [List.length_take] at hle; omega
      have hown := HO.out
      have HE2 := hid hE
      cases hb : b.contains (q : Int)
      · rw [hb] at hsn hcq2
        have HS := hid hsn
        clear hsn hcell hx hq hcq hle hown hE
        go_wp2_with fail
        go_roundw
        case rel => exact ⟨k + 1, by omega, by go_num, hid (by rw [HS.out]; first | exact HO.out | (rw [if_neg (by simp)]; exact HO.out)), HE2.out⟩
        case measure => simp only [intOf]; omega
      · rw [hb] at hsn hcq2
        have HS := hid hsn
        clear hsn hcell hx hq hcq hle hE
        go_wp2_with (at_builtin; refine wpList_append_own _ rfl _ _ 24 rfl (W.heap.size) 2 i0 (.int .i64 0) 1 8 Try.underlying24 hi hz0 hz1 hz2 rfl (by decide) _ _ _ rfl (hown.alloc _) ⟨_, 0, none⟩ 1 1 [.int .i64 ((q : Int))] rfl rfl ?c1 ?c2 ?c3 ?c4 ?c5 ?_)
        try case c1 => exact cell_one_new _ _ _
        case c2 => first | rfl | (intro u hu; simp at hu; subst hu; rfl)
        case c3 => unfold maxLen; omega
        case c4 => omega
        case c5 => first | (have := HE2.out.2; simp; omega) | omega
        intro v' w1 hown' hgrow _
        have HN : Hid (ownR W.heap.size w1 v' (commonL (a.take (k + 1)) b)) := hid (by rw [HS.out]; simp only [if_true]; exact ownR.snoc hown')
        have HE3 : Hid (Ext W.heap.size W w1) := hid (ext_grown (HE2.out.alloc _) hgrow (own_row_ge hown))
        clear hown' hgrow hown
        go_wp2_with fail
        go_roundw
        case rel => exact ⟨k + 1, by omega, by go_num, HN, HE3.out⟩
        case measure => simp only [intOf]; omega
    · obtain rfl : k = a.length := by omega
      rw [List.take_length] at HO
      have hltz : ¬ (a.length : Int) < (a.length : Int) := by omega
      have HE2 := hid hE
      clear hE
      go_wp2_with fail
      go_ret
      exact ⟨_, rfl, HO.out.mono zf, HE.out.bel.trans (HE2.out.1.mono HE.out.2)⟩
end Go.Proofs.Ytbkbcbanfnhjpaa
