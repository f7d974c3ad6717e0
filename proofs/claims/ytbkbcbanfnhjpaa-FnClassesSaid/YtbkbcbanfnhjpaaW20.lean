/- The law FnClasses: what it calls. -/
import Derived.Test.YtbkbcbanfnhjpaaW19
import Derived.Test.YtbkbcbanfnhjpaaW14
import Derived.Test.YtbkbcbanfnhjpaaW16
import Derived.Test.YtbkbcbanfnhjpaaV9
namespace Go.Proofs.Ytbkbcbanfnhjpaa
open Go Go.RowKit

set_option maxHeartbeats 1000000 in
theorem i_InverseE (r : Value) (A : List Int) (w : World) (h : ownR 0 w r A) (hp : permB A = true) :
    Calls Try.prog 51 #[r] w fun e w' => ∃ v, e = .returned (.tuple #[v, .int .i64 0]) ∧ ownR w.heap.size w' v (opF A) ∧ Below w.heap.size w w' := by
  obtain ⟨h1, h6, hr, _⟩ := perm_facts hp
  have HP := hid hp
  have HO := hid h
  have HR := hid hr
  clear hp h hr
  go_enter Try.func51, Try.ntmps51
  go_wp2_with fail
  refine via (i_IsPermE r A _ true HO.out (by omega) HP.out) ?_
  intro u z
  try simp at z
  go_wp2_with fail
  refine (i_op r A _ (HO.out.rd.aft u) h6 (by omega) HR.out).mono ?_
  rintro e Wn ⟨v2, rfl, own2, hb⟩
  have z3 := size_aft w u
  go_wp2_with fail
  exact bodyPost_ret (v := .tuple #[v2, .int .i64 0]) (by first | (simp [results, go_sem]; done) | simp [results, go_sem, ↓IntWalk.iteOmega]) rfl ⟨_, rfl, own2.mono z3, (below_aft w u).trans (hb.mono z3)⟩
set_option maxHeartbeats 4000000 in
theorem l_likeT (r1 r2 : Value) (xss : List (List Int)) (w : World) (h : rdRR w r1 xss) (h' : rdRR w r2 xss) :
    Calls Try.prog 50 #[r1, r2] w fun e w' => e = .returned (.bool true) ∧ Below w.heap.size w w' := by
  obtain ⟨a, cap, rfl, hm, hc⟩ := h
  obtain ⟨a', cap', rfl, hm', hc'⟩ := h'
  have Hc := hid hc
  have Hc' := hid hc'
  unfold maxLen at hm
  clear hc hc' hm'
  go_enter Try.func50, Try.ntmps50
  go_wp2_with fail
  go_loopw [5] (fun i wr => ∃ (k : Nat) (uu : World), wr = aft w uu ∧ k ≤ xss.length ∧ i = .int .i64 k) (fun i _ => xss.length - (intOf i).toNat)
  case atStart => exact ⟨0, w, (aft_of (Below.refl _ _)).symm, by omega, rfl⟩
  case round =>
    obtain ⟨k, uu, rfl, hk, rfl⟩ := hrel
    by_cases hlt : k < xss.length
    · obtain ⟨b, o, rfl, hcell⟩ := Hc.out (by intro e; rw [e] at hlt; simp at hlt)
      obtain ⟨b', o', rfl, hcell'⟩ := Hc'.out (by intro e; rw [e] at hlt; simp at hlt)
      obtain ⟨e1, h1, ho1⟩ := hcell k hlt
      obtain ⟨e2, h2, ho2⟩ := hcell' k hlt
      have h3 := World.block_lt_of_cell? w _ h1
      have h4 := World.block_lt_of_cell? w _ h2
      simp only at h3 h4
      obtain ⟨A, hA⟩ : ∃ A, A = xss[k] := ⟨_, rfl⟩
      rw [← hA] at ho1 ho2
      have HO1 := hid ho1.rd
      have HO2 := hid ho2.rd
      have hz : ((k : Int) : Int) < (xss.length : Int) := by omega
      have hz0 : (0 : Int) ≤ (k : Int) := by omega
      have zs := size_aft w uu
      clear hA hcell hcell' ho1 ho2
      go_wp2_with fail
      refine wp_region_calm (by kernel_rfl) (by kernel_rfl) ?_
      repeat (go_big_quiet_step (first | (go_at_call 67; exact calm (l_likeI _ _ A _ ((HO1.out.aft _).aft _) ((HO2.out.aft _).aft _)))))
      refine wpQuiet_nil ?_; intro uq zq; try simp at zq
      go_wp2_with fail
      go_roundw
      case rel => exact ⟨k + 1, _, (aft_of ((below_aft w uu).trans ((below_aft _ _).mono (size_aft w uu)))).symm, by omega, by go_num⟩
      case measure => simp [intOf]; omega
    · obtain rfl : k = xss.length := by omega
      go_wp2
      go_ret
      exact ⟨rfl, (by refine Ext.bel ?_; repeat (with_reducible first | exact Ext.refl _ | apply Ext.alloc | apply Ext.aft | apply Ext.drew | apply Ext.drewN | apply Ext.setCell | exact Nat.le_add_right _ _ | exact Nat.le_refl _ | (simp; done) | omega))⟩
theorem tot_app (a b : List (List Int)) : tot (a ++ b) = tot a + tot b := by simp [tot]
theorem tot_step {xss : List (List Int)} {k : Nat} (h : k < xss.length) : tot (xss.take (k + 1)) = tot (xss.take k) + xss[k].length ∧ tot (xss.take (k + 1)) ≤ tot xss := by
  have e := List.take_succ_eq_append_getElem h
  refine ⟨by rw [e, tot_snoc], ?_⟩
  conv => rhs; rw [← List.take_append_drop (k + 1) xss, tot_app]
  omega
theorem clF_facts {n : Int} {rs : List Int} {Z : List (List Int)} (h : clF n rs = (Z, 0)) : tot Z = rs.length ∧ ∀ ls ∈ Z, 0 < ls.length ∧ ls.length ∣ rs.length ∧ ∀ y ∈ ls, y ∈ rs := by
  unfold clF at h
  split at h
  · rename_i hg
    obtain ⟨m, rfl, _⟩ := group_facts hg
    have hG := group_grp hg
    simp only [Int.toNat_natCast, Prod.mk.injEq, and_true] at h
    subst h
    exact ⟨cls_all hG, cls_each hG rs [] (fun _ hx => hx)⟩
  · simp at h
end Go.Proofs.Ytbkbcbanfnhjpaa
