/- GenerateGroup: the statement's text. -/
import Derived.Test.YtbkbcbanfnhjpaaW7
namespace Go.Proofs.Ytbkbcbanfnhjpaa
open Go Go.RowKit

theorem genV_1 {n : Int} {gs : List (List Int)} (hn : inB n 1 6 = true) (h4 : ¬ 4 < gs.length) (h1 : (gs.any fun a => !permB a) = true) : genV n gs = ([], 0, 1) := by
  have e : genC n gs = 1 := by unfold genC; rw [if_pos hn, if_neg h4, if_pos h1]
  unfold genV; rw [e, if_neg (by decide)]
theorem genV_5 {n : Int} {gs : List (List Int)} (hn : inB n 1 6 = true) (h4 : ¬ 4 < gs.length) (h1 : (gs.any fun a => !permB a) = false) (h2 : (gs.any fun a => (a.length : Int) != n) = true) : genV n gs = ([], 0, 5) := by
  have e : genC n gs = 5 := by unfold genC; rw [if_pos hn, if_neg h4, h1, if_neg (by decide), if_pos h2]
  unfold genV; rw [e, if_neg (by decide)]
theorem genV_0 {m : Nat} {gs : List (List Int)} {zs : List Int} (hn : inB m 1 6 = true) (h4 : ¬ 4 < gs.length) (h1 : (gs.any fun a => !permB a) = false) (h2 : (gs.any fun a => (a.length : Int) != (m : Int)) = false) (hz : genR m gs = zs) : genV m gs = (zs, (m : Int), 0) := by
  have e : genC m gs = 0 := by unfold genC; rw [if_pos hn, if_neg h4, h1, if_neg (by decide), h2, if_neg (by decide)]
  unfold genV; rw [e, if_pos rfl, Int.toNat_natCast, hz]
set_option maxRecDepth 20000 in
set_option maxHeartbeats 16000000 in
theorem s_GenerateGroup (n : Int) (r : Value) (gs : List (List Int)) (w : World) (h : rdRR w r gs) (hl : ∀ xs ∈ gs, xs.length ≤ 1048576) :
    Calls Try.prog 23 #[.int .i64 n, r] w fun e w' => ∃ v, e = .returned (.tuple #[.agg #[.int .i64 (genV n gs).2.1, v], .int .i64 (genV n gs).2.2]) ∧ ownR w.heap.size w' v (genV n gs).1 ∧ Below w.heap.size w w' := by
  have hR := h.alloc (Obj.cells #[.int .i64 0, .slice none 0 0] 26)
  obtain ⟨ag, cg, hsh, _, hc⟩ := id h
  cases hn : inB n 1 6
  · have e : genV n gs = ([], 0, 2) := by unfold genV genC; rw [hn]; rfl
    rw [e]; clear e
    subst hsh
    clear hc
    go_enter Try.func23, Try.ntmps23
    go_wp2_with (go_at_call 69; refine pur (s_in _ _ _ _) ?_)
    exact bodyPost_ret (v := .tuple #[(.agg #[.int .i64 0, .slice none 0 0]), .int .i64 2]) (by first | (simp [results, go_sem]; done) | simp [results, go_sem, ↓IntWalk.iteOmega]) rfl ⟨_, rfl, ownR.nil _ _, (by refine Ext.bel ?_; repeat (with_reducible first | exact Ext.refl _ | apply Ext.alloc | apply Ext.aft | apply Ext.drew | apply Ext.drewN | apply Ext.setCell | exact Nat.le_add_right _ _ | exact Nat.le_refl _ | (simp; done) | omega))⟩
  by_cases h4 : 4 < gs.length
  · have e : genV n gs = ([], 0, 2) := by unfold genV genC; rw [hn, if_pos rfl, if_pos h4]; rfl
    rw [e]; clear e
    subst hsh
    have h4z : (4 : Int) < (gs.length : Int) := by omega
    clear hc
    go_enter Try.func23, Try.ntmps23
    go_wp2_with (go_at_call 69; refine pur (s_in _ _ _ _) ?_)
    exact bodyPost_ret (v := .tuple #[(.agg #[.int .i64 0, .slice none 0 0]), .int .i64 2]) (by first | (simp [results, go_sem]; done) | simp [results, go_sem, ↓IntWalk.iteOmega]) rfl ⟨_, rfl, ownR.nil _ _, (by refine Ext.bel ?_; repeat (with_reducible first | exact Ext.refl _ | apply Ext.alloc | apply Ext.aft | apply Ext.drew | apply Ext.drewN | apply Ext.setCell | exact Nat.le_add_right _ _ | exact Nat.le_refl _ | (simp; done) | omega))⟩
  have h4z : ¬ (4 : Int) < (gs.length : Int) := by omega
  have Hc := hid hc
  have HL := hid hl
  have HR := hid hR
  have HNB := hid hn
  subst hsh
  clear hc hl hR
  go_enter Try.func23, Try.ntmps23
  go_wp2_with (go_at_call 69; refine pur (s_in _ _ _ _) ?_)
  go_loopw [6] (fun i wr => ∃ (k : Nat) (uu : World), wr = aft (w.alloc (Obj.cells #[.int .i64 0, .slice none 0 0] 26)) uu ∧ k ≤ gs.length ∧ i = .int .i64 k ∧ Hid ((gs.take k).any (fun a => !permB a) = false)) (fun i _ => gs.length - (intOf i).toNat)
  case atStart => exact ⟨0, _, (aft_of (Below.refl _ _)).symm, by omega, rfl, hid (by simp)⟩
  case round =>
    obtain ⟨k, uu, rfl, hk, rfl, HT⟩ := hrel
    have zs := size_aft (w.alloc (Obj.cells #[.int .i64 0, .slice none 0 0] 26)) uu
    simp at zs
    by_cases hlt : k < gs.length
    · have hltz : (k : Int) < (gs.length : Int) := by omega
      obtain ⟨b, o, rfl, hcell⟩ := Hc.out (by intro e; rw [e] at hlt; simp at hlt)
      obtain ⟨e1, h1, ho1⟩ := hcell k hlt
      have hb1 := World.block_lt_of_cell? w _ h1
      simp only at hb1
      have ho2 : ownR 0 (aft (w.alloc (Obj.cells #[.int .i64 0, .slice none 0 0] 26)) uu) e1 gs[k] := (ho1.alloc _).aft _
      have hlk := HL.out _ (List.getElem_mem hlt)
      have hhit := fun hp => anyR_hit (p := fun a => !permB a) hlt hp
      have hmiss := fun hp => anyR_take_f (p := fun a => !permB a) hlt HT.out hp
      obtain ⟨A, hA⟩ : ∃ A, A = gs[k] := ⟨_, rfl⟩
      rw [← hA] at ho2 hlk hhit hmiss
      have HO := hid ho2
      have HH := hid hhit
      have HM := hid hmiss
      clear hcell ho1 ho2 hhit hmiss hA
      cases hp : permB A
      · have HP := hid hp
        have hany := HH.out (by simp [hp])
        have e := genV_1 HNB.out h4 hany
        have HE := hid e
        clear e hany hp
        go_wp2_with (go_at_call 70; refine via (s_IsPermE e1 A _ false HO.out hlk HP.out) ?_; intro u2 z2; try simp at z2)
        exact bodyPost_ret (v := .tuple #[(.agg #[.int .i64 0, .slice none 0 0]), .int .i64 1]) (by simp [results, go_sem, ↓IntWalk.iteOmega]) rfl ⟨_, by rw [HE.out], by rw [HE.out]; exact ownR.nil _ _, (by refine Ext.bel ?_; repeat (with_reducible first | exact Ext.refl _ | apply Ext.alloc | apply Ext.aft | apply Ext.drew | apply Ext.drewN | apply Ext.setCell | exact Nat.le_add_right _ _ | exact Nat.le_refl _ | (simp; done) | omega))⟩
      · have HP := hid hp
        have HM2 : Hid ((gs.take (k + 1)).any (fun a => !permB a) = false) := hid (HM.out (by simp [hp]))
        clear hp
        go_wp2_with (go_at_call 70; refine via (s_IsPermE e1 A _ true HO.out hlk HP.out) ?_; intro u2 z2; try simp at z2)
        go_roundw
        case rel => exact ⟨k + 1, _, (aft_of (Ext.bel (((Ext.refl (w.alloc (Obj.cells #[.int .i64 0, .slice none 0 0] 26))).aft uu).aft u2))).symm, by omega, by go_num, HM2⟩
        case measure => simp only [intOf]; omega
    · obtain rfl : k = gs.length := by omega
      rw [List.take_length] at HT
      have hltz : ¬ (gs.length : Int) < (gs.length : Int) := by omega
      obtain ⟨W1, hW1⟩ : ∃ W1, W1 = aft (w.alloc (Obj.cells #[.int .i64 0, .slice none 0 0] 26)) uu := ⟨_, rfl⟩
      rw [← hW1] at zs ⊢
      have hR1 : rdRR W1 (.slice ag gs.length cg) gs := by rw [hW1]; exact HR.out.aft uu
      have HE1 : Hid (Ext w.heap.size w W1) := hid (by rw [hW1]; exact ((Ext.refl w).alloc _).aft uu)
      have hres : resOK w.heap.size W1 := by
        intro j hj
        obtain rfl | rfl : j = 0 ∨ j = 1 := by omega
        all_goals (rw [hW1]; simp [go_sem])
      obtain ⟨y0, hy0⟩ := Option.isSome_iff_exists.1 (hres 0 (by omega)).2
      obtain ⟨y1, hy1⟩ := Option.isSome_iff_exists.1 (hres 1 (by omega)).2
      have hf0 := (hres 0 (by omega)).1
      have hf1 := (hres 1 (by omega)).1
      have HRES := hid hres
      obtain ⟨ag1, cg1, hsh1, _, hc1⟩ := id hR1
      injection hsh1 with e1 e2 e3
      subst e1 e3
      have Hc1 := hid hc1
      have HR1 := hid hR1
      clear hW1 hc1 hres hR1 Hc HR e2
      go_wp2_with fail
      go_loopw [7] (fun i wr => ∃ (k : Nat), wr = W1 ∧ k ≤ gs.length ∧ i = .int .i64 k ∧ Hid ((gs.take k).any (fun a => (a.length : Int) != n) = false)) (fun i _ => gs.length - (intOf i).toNat)
      case atStart => exact ⟨0, rfl, by omega, rfl, hid (by simp)⟩
      case round =>
        obtain ⟨k, rfl, hk, rfl, HQ⟩ := hrel
        by_cases hlt : k < gs.length
        · have hltz : (k : Int) < (gs.length : Int) := by omega
          obtain ⟨b, o, rfl, hcell⟩ := Hc1.out (by intro e; rw [e] at hlt; simp at hlt)
          obtain ⟨e1, h1, ho1⟩ := hcell k hlt
          have hhit := fun hp => anyR_hit (p := fun a => (a.length : Int) != n) hlt hp
          have hmiss := fun hp => anyR_take_f (p := fun a => (a.length : Int) != n) hlt HQ.out hp
          obtain ⟨A, hA⟩ : ∃ A, A = gs[k] := ⟨_, rfl⟩
          rw [← hA] at ho1 hhit hmiss
          have HH := hid hhit
          have HM := hid hmiss
          obtain ⟨a1, c1, hsh1, _, _⟩ := ho1.rd
          subst hsh1
          clear hcell ho1 hhit hmiss hA
          by_cases hp : (A.length : Int) = n
          · have hp1 : ((A.length : Int) != n) = false := by simp [hp]
            have HM2 : Hid ((gs.take (k + 1)).any (fun a => (a.length : Int) != n) = false) := hid (HM.out hp1)
            clear hp
            go_wp2_with fail
            go_roundw
            case rel => exact ⟨k + 1, by first | rfl | trivial, by omega, by go_num, HM2⟩
            case measure => simp only [intOf]; omega
          · have hp1 : ((A.length : Int) != n) = true := by simp [hp]
            have hany := HH.out hp1
            have e := genV_5 HNB.out h4 HT.out hany
            have HE := hid e
            clear e hany hp
            go_wp2_with fail
            exact bodyPost_ret (v := .tuple #[(.agg #[.int .i64 0, .slice none 0 0]), .int .i64 5]) (by simp [results, go_sem, ↓IntWalk.iteOmega, hy0, hy1]) rfl ⟨_, by rw [HE.out], by rw [HE.out]; exact ownR.nil _ _, Ext.bel ((HE1.out.setCell _ _ _ _ (by omega)).setCell _ _ _ _ (by omega))⟩
        · obtain rfl : k = gs.length := by omega
          rw [List.take_length] at HQ
          have hltz : ¬ (gs.length : Int) < (gs.length : Int) := by omega
          have hnb := inB_iff.1 HNB.out
          obtain ⟨m, rfl⟩ : ∃ m : Nat, n = (m : Int) := ⟨n.toNat, by omega⟩
          have hlen : ∀ a ∈ gs, a.length = m := fun a ha => by have := any_f HQ.out a ha; simp at this; omega
          have HPL : Hid (∀ a ∈ gs, PermL m a) := hid fun a ha => ⟨hlen a ha, by have := (perm_facts (show permB a = true by simpa using any_f HT.out a ha)).2.2.1; rw [hlen a ha] at this; exact this⟩
          obtain ⟨zs, hzs⟩ : ∃ zs, genR m gs = zs := ⟨_, rfl⟩
          have e := genV_0 HNB.out h4 HT.out HQ.out hzs
          have HE := hid e
          have HZ := hid hzs
          clear e hlen hzs
          go_wp2_with fail
          refine viaG (s_generate m _ gs _ zs HR1.out (by omega) HPL.out (by omega) HZ.out) ?_
          intro v3 u3 z3 own3
          try simp at z3
          have hR10 := HRES.out.below (below_aft wr u3) (by omega)
          obtain ⟨y2, hy2⟩ := Option.isSome_iff_exists.1 (hR10 0 (by omega)).2
          obtain ⟨y3, hy3⟩ := Option.isSome_iff_exists.1 (hR10 1 (by omega)).2
          have hf2 := (hR10 0 (by omega)).1
          have hf3 := (hR10 1 (by omega)).1
          obtain ⟨a3, c3, hsh3, _, _⟩ := own3.rd
          subst hsh3
          clear hR10
          go_wp2_with fail
          exact bodyPost_ret (v := .tuple #[.agg #[.int .i64 (m : Int), .slice a3 zs.length c3], .int .i64 0]) (by simp [results, go_sem, hy2, hy3]) rfl ⟨_, by rw [HE.out], by rw [HE.out]; exact ((own3.setCell _ _ _ _ (by omega)).setCell _ _ _ _ (by omega)).mono (by omega), Ext.bel (((HE1.out.aft u3).setCell _ _ _ _ (by omega)).setCell _ _ _ _ (by omega))⟩
end Go.Proofs.Ytbkbcbanfnhjpaa
