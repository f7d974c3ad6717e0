/- Draws of a group and a permutation, and of what generates a group, for the laws. -/
import Derived.Test.YtbkbcbanfnhjpaaV8
namespace Go.Proofs.Ytbkbcbanfnhjpaa
open Go Go.RowKit

theorem viaWith {P : Program} {f : FuncId} {args : Array Value} {w : World} {R : Ending → World → Prop}
    (h : Calls P f args w fun e w' => ∃ v va A, e = .returned (.tuple #[v, va]) ∧ grpX w.heap.size w' v ∧ ownR w.heap.size w' va A ∧ A.length ≤ 7 ∧ Below w.heap.size w w')
    (hR : ∀ v va A u, w.heap.size ≤ (aft w u).heap.size → grpX w.heap.size (aft w u) v → ownR w.heap.size (aft w u) va A → A.length ≤ 7 → R (.returned (.tuple #[v, va])) (aft w u)) : Calls P f args w R :=
  h.mono fun e w' ⟨v, va, A, he, h1, h2, h3, hb⟩ => by subst he; obtain ⟨u, rfl⟩ := aft_ex hb; exact hR v va A u (size_aft w u) h1 h2 h3
set_option maxRecDepth 20000 in
set_option maxHeartbeats 4000000 in
theorem s_DrawHasPermutation (B : Nat) (a : Option Addr) (len cap : Nat) (w : World) (h : rdB B w a len) (hl : len ≤ 4096) (hB : B ≤ w.heap.size) :
    Calls Try.prog 37 #[.slice a len cap] w fun e w' => ∃ v va A, e = .returned (.tuple #[v, va]) ∧ grpX w.heap.size w' v ∧ ownR w.heap.size w' va A ∧ A.length ≤ 7 ∧ Below w.heap.size w w' := by
  go_enter Try.func37, Try.ntmps37
  go_wp2_with fail
  refine viaWith (s_drawWith B a len cap _ (h.of fun j o v hj hv => by rw [alloc_cell, if_neg (by omega)]; exact hv) hl (by simp; omega)) ?_
  intro v va A u hl2 hv hA hA7
  obtain ⟨n, s, rs, rfl, hn, hr, hk, hrl⟩ := hv
  obtain ⟨a5, c5, hsh, _, _⟩ := id hr
  subst hsh
  obtain ⟨a6, c6, hsh6, _, _⟩ := hA.rd
  subst hsh6
  simp at hl2
  have HR := hid hr
  have HA := hid hA
  have HK := hid hk
  clear hr hA hk
  go_wp2_with fail
  have hw1 : w.heap.size < (w.alloc (Obj.cells #[.int .i64 0, .slice none 0 0] 26)).heap.size := by simp
  exact bodyPost_ret (v := .tuple #[.agg #[.int .i64 n, .slice a5 rs.length c5], .slice a6 A.length c6]) (by first | (simp [results, go_sem]; done) | simp [results, go_sem, ↓IntWalk.iteOmega]) rfl ⟨_, _, A, rfl, ⟨n, _, rs, rfl, hn, (HR.out.setB _ _ _ HK.out hw1).setB _ _ _ HK.out hw1, fun k hq => by have := HK.out k hq; omega, hrl⟩, ((HA.out.setCell _ _ _ _ hw1).setCell _ _ _ _ hw1).mono (by omega), hA7, (by refine Ext.bel ?_; repeat (with_reducible first | exact Ext.refl _ | apply Ext.alloc | apply Ext.aft | apply Ext.drew | apply Ext.drewN | apply Ext.setCell | exact Nat.le_add_right _ _ | exact Nat.le_refl _ | (simp; done) | omega))⟩
set_option maxRecDepth 20000 in
set_option maxHeartbeats 4000000 in
theorem s_DrawConjugateGroup (B : Nat) (a : Option Addr) (len cap : Nat) (w : World) (h : rdB B w a len) (hl : len ≤ 4096) (hB : B ≤ w.heap.size) :
    Calls Try.prog 47 #[.slice a len cap] w fun e w' => ∃ v va A, e = .returned (.tuple #[v, va]) ∧ grpX w.heap.size w' v ∧ ownR w.heap.size w' va A ∧ A.length ≤ 7 ∧ Below w.heap.size w w' := by
  go_enter Try.func47, Try.ntmps47
  go_wp2_with fail
  refine viaWith (s_drawWith B a len cap _ (h.of fun j o v hj hv => by rw [alloc_cell, if_neg (by omega)]; exact hv) hl (by simp; omega)) ?_
  intro v va A u hl2 hv hA hA7
  obtain ⟨n, s, rs, rfl, hn, hr, hk, hrl⟩ := hv
  obtain ⟨a5, c5, hsh, _, _⟩ := id hr
  subst hsh
  obtain ⟨a6, c6, hsh6, _, _⟩ := hA.rd
  subst hsh6
  simp at hl2
  have HR := hid hr
  have HA := hid hA
  have HK := hid hk
  clear hr hA hk
  go_wp2_with fail
  have hw1 : w.heap.size < (w.alloc (Obj.cells #[.int .i64 0, .slice none 0 0] 26)).heap.size := by simp
  exact bodyPost_ret (v := .tuple #[.agg #[.int .i64 n, .slice a5 rs.length c5], .slice a6 A.length c6]) (by first | (simp [results, go_sem]; done) | simp [results, go_sem, ↓IntWalk.iteOmega]) rfl ⟨_, _, A, rfl, ⟨n, _, rs, rfl, hn, (HR.out.setB _ _ _ HK.out hw1).setB _ _ _ HK.out hw1, fun k hq => by have := HK.out k hq; omega, hrl⟩, ((HA.out.setCell _ _ _ _ hw1).setCell _ _ _ _ hw1).mono (by omega), hA7, (by refine Ext.bel ?_; repeat (with_reducible first | exact Ext.refl _ | apply Ext.alloc | apply Ext.aft | apply Ext.drew | apply Ext.drewN | apply Ext.setCell | exact Nat.le_add_right _ _ | exact Nat.le_refl _ | (simp; done) | omega))⟩
theorem s_idE (n : Nat) (w : World) (hn : n ≤ 7) :
    Calls Try.prog 98 #[.int .i64 n] w fun e w' => ∃ v xs, e = .returned v ∧ ownR w.heap.size w' v xs ∧ xs.length ≤ 7 ∧ Below w.heap.size w w' := by
  obtain ⟨i0, hi, hz0, hz1, hz2⟩ := info_parts infoI
  go_enter Try.func98, Try.ntmps98
  go_wp2_with fail
  go_loopw [3, 4] (fun r i wr => ∃ (k : Nat) (uu : World), wr = aft w uu ∧ k ≤ n ∧ i = .int .i64 k ∧ Hid (ownR w.heap.size wr r (idP k))) (fun _ i _ => n - (intOf i).toNat)
  case atStart => exact ⟨0, _, (aft_of ((Below.refl _ w).alloc (Nat.le_refl _) _)).symm, by omega, rfl, hid (own_made w)⟩
  case round =>
    obtain ⟨k, uu, rfl, hk, rfl, HO⟩ := hrel
    have zs := size_aft w uu
    by_cases hlt : k < n
    · have hltz : (k : Int) < (n : Int) := by omega
      have hown := HO.out
      have hpl : (idP k).length = k := idP_len k
      clear HO
      go_wp2_with (at_builtin; refine wpList_append_own _ rfl _ _ 24 rfl (w.heap.size) 2 i0 (.int .i64 0) 1 8 Try.underlying24 hi hz0 hz1 hz2 rfl (by decide) _ _ _ rfl (hown.alloc _) ⟨_, 0, none⟩ 1 1 [.int .i64 ((k : Int))] rfl rfl ?c1 ?c2 ?c3 ?c4 ?c5 ?_)
      try case c1 => exact cell_one_new _ _ _
      case c2 => first | rfl | (intro u hu; simp at hu; subst hu; rfl)
      case c3 => first | (unfold maxLen; omega) | (rw [hpl]; unfold maxLen; omega)
      case c4 => first | omega | (rw [hpl]; omega)
      case c5 => first | omega | (simp; omega)
      intro v' w1 hown' hgrow _
      obtain ⟨u', rfl⟩ := grown_aft (W := w) (by repeat (with_reducible first | exact Ext.refl _ | apply Ext.alloc | apply Ext.aft | apply Ext.drew | apply Ext.drewN | apply Ext.setCell | exact Nat.le_add_right _ _ | exact Nat.le_refl _ | (simp; done) | omega)) hgrow (own_row_ge hown)
      have HO := hid hown'
      clear hown' hgrow hown
      go_wp2_with fail
      go_roundw
      case rel => exact ⟨k + 1, u', rfl, by omega, by go_num, hid (by rw [idP_succ]; refine ownR.snoc ?_; first | exact HO.out | (rw [hpl]; exact HO.out))⟩
      case measure => simp only [intOf]; omega
    · obtain rfl : k = n := by omega
      have hltz : ¬ (k : Int) < (k : Int) := by omega
      go_wp2_with fail
      go_ret
      first | exact ⟨_, rfl, idP k, HO.out, by rw [idP_len]; exact hn, (by refine Ext.bel ?_; repeat (with_reducible first | exact Ext.refl _ | apply Ext.alloc | apply Ext.aft | apply Ext.drew | apply Ext.drewN | apply Ext.setCell | exact Nat.le_add_right _ _ | exact Nat.le_refl _ | (simp; done) | omega))⟩ | exact ⟨_, idP k, rfl, HO.out, by rw [idP_len]; exact hn, (by refine Ext.bel ?_; repeat (with_reducible first | exact Ext.refl _ | apply Ext.alloc | apply Ext.aft | apply Ext.drew | apply Ext.drewN | apply Ext.setCell | exact Nat.le_add_right _ _ | exact Nat.le_refl _ | (simp; done) | omega))⟩
end Go.Proofs.Ytbkbcbanfnhjpaa
