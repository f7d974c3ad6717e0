/- ReadPadic: the program's text, the law. -/
import Derived.Test.YtdnfefkkbckmgaaGreatDoorTBA
namespace Go.Proofs.YtdnfefkkbckmgaaGreatDoor
open Go Go.RowKit

set_option maxRecDepth 20000 in
set_option maxHeartbeats 4000000 in
theorem i_ReadPadic (S : List UInt8) (w : World) (hl : S.length ≤ 1048576) (hlib : libB w.heap.size w) : Calls Tryz.prog 6 #[.string ⟨S.toArray⟩] w (rpP S w) := by
  have HLB := hid hlib
  have HSP : Hid (∀ W, libB W.heap.size W → Calls Tryz.prog 19 #[.string ⟨S.toArray⟩, .string ⟨#[58]⟩] W fun e w' => ∃ r, e = .returned r ∧ rdT w' r (splA 58 [] S) ∧ Below W.heap.size W w') := hid fun W hW => k_split S 58 W hl (hW W (Below.refl _ _)).2.1
  obtain ⟨ws, hws⟩ : ∃ ws, ws = splA 58 [] S := ⟨_, rfl⟩
  rw [← hws] at HSP
  have HW := hid hws
  clear hws hlib
  go_enter Tryz.func6, Tryz.ntmps6
  go_wp2_with fail
  refine (HSP.out _ (HLB.out.ext (by repeat (with_reducible first | exact Ext.refl _ | apply Ext.alloc | apply Ext.aft | apply Ext.drew | apply Ext.drewN | apply Ext.setCell | exact Nat.le_add_right _ _ | exact Nat.le_refl _ | (simp; done) | omega)))).mono ?_
  rintro e w1 ⟨r, rfl, hr, hb⟩
  obtain ⟨u, rfl⟩ := aft_ex hb
  have z1 := size_aft (w.alloc (Obj.cells #[.int .i64 0, .int .i64 0, .int .i64 0, .int .i64 0] 23)) u
  simp at z1
  by_cases h3 : ws.length = 3
  · obtain ⟨a, b, c, rfl⟩ := three h3
    have HR := hid hr
    obtain ⟨g, cap, rfl, hg, ha, hb, hc, la, lb, lc⟩ := rdT_three hr
    clear hr
    go_wp2_with fail
    refine (i_readDecimal a _ la (HLB.out.ext (by repeat (with_reducible first | exact Ext.refl _ | apply Ext.alloc | apply Ext.aft | apply Ext.drew | apply Ext.drewN | apply Ext.setCell | exact Nat.le_add_right _ _ | exact Nat.le_refl _ | (simp; done) | omega)))).mono ?_
    rintro e w2 ⟨p, ok1, rfl, hp, hb2⟩
    obtain ⟨u2, rfl⟩ := aft_ex hb2
    have z2 := size_aft (aft (w.alloc (Obj.cells #[.int .i64 0, .int .i64 0, .int .i64 0, .int .i64 0] 23)) u) u2
    have HPA : Hid (numP a p) := hid fun m hm e => (hp m (by omega) e).1
    clear hb2 hp
    go_wp2_with fail
    refine (i_readDecimal b _ lb (HLB.out.ext (by repeat (with_reducible first | exact Ext.refl _ | apply Ext.alloc | apply Ext.aft | apply Ext.drew | apply Ext.drewN | apply Ext.setCell | exact Nat.le_add_right _ _ | exact Nat.le_refl _ | (simp; done) | omega)))).mono ?_
    rintro e w3 ⟨v, ok2, rfl, hv, hb3⟩
    obtain ⟨u3, rfl⟩ := aft_ex hb3
    have z3 := size_aft (aft (aft (w.alloc (Obj.cells #[.int .i64 0, .int .i64 0, .int .i64 0, .int .i64 0] 23)) u) u2) u3
    have HVB : Hid (numV b v) := hid fun m hm e => (hv m hm e).1
    clear hb3 hv
    by_cases hc45 : c = [45]
    · have hcb : (c == [45]) = true := by simpa using hc45
      have HL : Hid (lstD c []) := hid ⟨fun _ => rfl, fun ds h hd e => absurd (e.symm.trans hc45) (join_dash h hd)⟩
      go_wp2_with fail
      obtain ⟨F, hF⟩ : ∃ F, F = fdF p v [] := ⟨_, rfl⟩
      have HFD := hid (i_FromDigits p v _ _ _ (rdI_nil (aft (aft (aft (w.alloc (Obj.cells #[.int .i64 0, .int .i64 0, .int .i64 0, .int .i64 0] 23)) u) u2) u3)))
      rw [← hF] at HFD
      have HFE := hid hF
      clear hF
      refine via HFD.out ?_
      intro u5 z5
      try simp at z5
      by_cases h0 : F.2 = 0
      · have hok := fd_valid (p := p) (v := v) (xs := []) (by rw [← HFE.out]; exact h0)
        rw [← HFE.out] at hok
        obtain ⟨x, cd⟩ := F
        obtain ⟨xp, xv, xu, xn⟩ := x
        simp only at h0 hok
        subst h0
        obtain ⟨ip, iv, iu, iN, ib⟩ := padic_facts hok
        have HT := hid (fun W (hW : libB W.heap.size W) => i_padicText xp xv xu xn W ip iv iu iN ib hW.tab)
        obtain ⟨T, hT⟩ : ∃ T, T = textL xp xv xu xn := ⟨_, rfl⟩
        rw [← hT] at HT
        have HTE := hid hT
        have HOK := hid hok
        clear hT hok ib
        go_wp2_with fail
        refine via (HT.out _ (HLB.out.ext (by repeat (with_reducible first | exact Ext.refl _ | apply Ext.alloc | apply Ext.aft | apply Ext.drew | apply Ext.drewN | apply Ext.setCell | exact Nat.le_add_right _ _ | exact Nat.le_refl _ | (simp; done) | omega)))) ?_
        intro u6 z6
        try simp at z6
        by_cases ht : T = S
        · have hbe : (T == S) = true := by simpa using ht
          have HG : Hid (goodT S ⟨xp, xv, xu, xn⟩) := hid (read_good (by rw [← HW.out]) HPA.out HVB.out HL.out HFE.out.symm HOK.out (by rw [← HTE.out]; exact ht))
          clear ht
          go_wp2_with fail
          exact bodyPost_ret (v := .tuple #[.agg #[.int .i64 xp, .int .i64 xv, .int .i64 xu, .int .i64 xn], .int .i64 0]) (by first | (simp [results, go_sem]; done) | simp [results, go_sem, ↓IntWalk.iteOmega]) rfl ⟨⟨xp, xv, xu, xn⟩, 0, rfl, .inl ⟨rfl, HG.out⟩, (by refine Ext.bel ?_; repeat (with_reducible first | exact Ext.refl _ | apply Ext.alloc | apply Ext.aft | apply Ext.drew | apply Ext.drewN | apply Ext.setCell | exact Nat.le_add_right _ _ | exact Nat.le_refl _ | (simp; done) | omega))⟩
        · have hbe : (T == S) = false := by simpa using ht
          have HG : Hid (∀ y, ¬ goodT S y) := hid (fun y hy => ht (by
            have h1 := read_from (by rw [← HW.out]) HPA.out HVB.out HL.out y hy
            rw [← HFE.out] at h1
            have h2 := (Prod.mk.inj h1).1
            rw [HTE.out, ← hy.2.1, ← h2]))
          clear ht
          go_wp2_with fail
          exact bodyPost_ret (v := .tuple #[(.agg #[.int .i64 0, .int .i64 0, .int .i64 0, .int .i64 0]), .int .i64 6]) (by first | (simp [results, go_sem]; done) | simp [results, go_sem, ↓IntWalk.iteOmega]) rfl ⟨⟨0, 0, 0, 0⟩, 6, rfl, .inr ⟨rfl, rfl, HG.out⟩, (by refine Ext.bel ?_; repeat (with_reducible first | exact Ext.refl _ | apply Ext.alloc | apply Ext.aft | apply Ext.drew | apply Ext.drewN | apply Ext.setCell | exact Nat.le_add_right _ _ | exact Nat.le_refl _ | (simp; done) | omega))⟩
      · have hne : (F.2 != 0) = true := by simpa using h0
        have hgd : ∀ y, ¬ goodT S y := fun y hy => h0 (by
          have := read_from (by rw [← HW.out]) HPA.out HVB.out HL.out y hy
          rw [HFE.out, this])
        have HG := hid hgd
        clear hgd
        go_wp2_with fail
        exact bodyPost_ret (v := .tuple #[(.agg #[.int .i64 0, .int .i64 0, .int .i64 0, .int .i64 0]), .int .i64 6]) (by first | (simp [results, go_sem]; done) | simp [results, go_sem, ↓IntWalk.iteOmega]) rfl ⟨⟨0, 0, 0, 0⟩, 6, rfl, .inr ⟨rfl, rfl, HG.out⟩, (by refine Ext.bel ?_; repeat (with_reducible first | exact Ext.refl _ | apply Ext.alloc | apply Ext.aft | apply Ext.drew | apply Ext.drewN | apply Ext.setCell | exact Nat.le_add_right _ _ | exact Nat.le_refl _ | (simp; done) | omega))⟩
    · have hcb : (c == [45]) = false := by simpa using hc45
      have HCN := hid hc45
      have hcl : c.length ≤ 1048576 := by have := (splA_len 58 S []).2.2 c (by rw [← HW.out]; simp); simp at this; omega
      clear hc45
      go_wp2_with fail
      refine (i_readCommas c _ hcl (HLB.out.ext (by repeat (with_reducible first | exact Ext.refl _ | apply Ext.alloc | apply Ext.aft | apply Ext.drew | apply Ext.drewN | apply Ext.setCell | exact Nat.le_add_right _ _ | exact Nat.le_refl _ | (simp; done) | omega)))).mono ?_
      rintro e w5 ⟨r5, xs, ok5, rfl, hr5, hn5, hb5⟩
      obtain ⟨u7, rfl⟩ := aft_ex hb5
      have z7 := size_aft (aft (aft (aft (w.alloc (Obj.cells #[.int .i64 0, .int .i64 0, .int .i64 0, .int .i64 0] 23)) u) u2) u3) u7
      try simp at z7
      have HR5 := hid hr5
      have HL : Hid (lstD c xs) := hid ⟨fun e => absurd e HCN.out, fun ds h hd e => hn5 ds h hd e⟩
      clear hr5 hb5 hn5
      obtain ⟨F, hF⟩ : ∃ F, F = fdF p v xs := ⟨_, rfl⟩
      have HFD := hid (i_FromDigits p v _ _ _ HR5.out)
      rw [← hF] at HFD
      have HFE := hid hF
      clear hF
      go_wp2_with fail
      refine via HFD.out ?_
      intro u5 z5
      try simp at z5
      by_cases h0 : F.2 = 0
      · have hok := fd_valid (p := p) (v := v) (xs := xs) (by rw [← HFE.out]; exact h0)
        rw [← HFE.out] at hok
        obtain ⟨x, cd⟩ := F
        obtain ⟨xp, xv, xu, xn⟩ := x
        simp only at h0 hok
        subst h0
        obtain ⟨ip, iv, iu, iN, ib⟩ := padic_facts hok
        have HT := hid (fun W (hW : libB W.heap.size W) => i_padicText xp xv xu xn W ip iv iu iN ib hW.tab)
        obtain ⟨T, hT⟩ : ∃ T, T = textL xp xv xu xn := ⟨_, rfl⟩
        rw [← hT] at HT
        have HTE := hid hT
        have HOK := hid hok
        clear hT hok ib
        go_wp2_with fail
        refine via (HT.out _ (HLB.out.ext (by repeat (with_reducible first | exact Ext.refl _ | apply Ext.alloc | apply Ext.aft | apply Ext.drew | apply Ext.drewN | apply Ext.setCell | exact Nat.le_add_right _ _ | exact Nat.le_refl _ | (simp; done) | omega)))) ?_
        intro u6 z6
        try simp at z6
        by_cases ht : T = S
        · have hbe : (T == S) = true := by simpa using ht
          have HG : Hid (goodT S ⟨xp, xv, xu, xn⟩) := hid (read_good (by rw [← HW.out]) HPA.out HVB.out HL.out HFE.out.symm HOK.out (by rw [← HTE.out]; exact ht))
          clear ht
          go_wp2_with fail
          exact bodyPost_ret (v := .tuple #[.agg #[.int .i64 xp, .int .i64 xv, .int .i64 xu, .int .i64 xn], .int .i64 0]) (by first | (simp [results, go_sem]; done) | simp [results, go_sem, ↓IntWalk.iteOmega]) rfl ⟨⟨xp, xv, xu, xn⟩, 0, rfl, .inl ⟨rfl, HG.out⟩, (by refine Ext.bel ?_; repeat (with_reducible first | exact Ext.refl _ | apply Ext.alloc | apply Ext.aft | apply Ext.drew | apply Ext.drewN | apply Ext.setCell | exact Nat.le_add_right _ _ | exact Nat.le_refl _ | (simp; done) | omega))⟩
        · have hbe : (T == S) = false := by simpa using ht
          have HG : Hid (∀ y, ¬ goodT S y) := hid (fun y hy => ht (by
            have h1 := read_from (by rw [← HW.out]) HPA.out HVB.out HL.out y hy
            rw [← HFE.out] at h1
            have h2 := (Prod.mk.inj h1).1
            rw [HTE.out, ← hy.2.1, ← h2]))
          clear ht
          go_wp2_with fail
          exact bodyPost_ret (v := .tuple #[(.agg #[.int .i64 0, .int .i64 0, .int .i64 0, .int .i64 0]), .int .i64 6]) (by first | (simp [results, go_sem]; done) | simp [results, go_sem, ↓IntWalk.iteOmega]) rfl ⟨⟨0, 0, 0, 0⟩, 6, rfl, .inr ⟨rfl, rfl, HG.out⟩, (by refine Ext.bel ?_; repeat (with_reducible first | exact Ext.refl _ | apply Ext.alloc | apply Ext.aft | apply Ext.drew | apply Ext.drewN | apply Ext.setCell | exact Nat.le_add_right _ _ | exact Nat.le_refl _ | (simp; done) | omega))⟩
      · have hne : (F.2 != 0) = true := by simpa using h0
        have hgd : ∀ y, ¬ goodT S y := fun y hy => h0 (by
          have := read_from (by rw [← HW.out]) HPA.out HVB.out HL.out y hy
          rw [HFE.out, this])
        have HG := hid hgd
        clear hgd
        go_wp2_with fail
        exact bodyPost_ret (v := .tuple #[(.agg #[.int .i64 0, .int .i64 0, .int .i64 0, .int .i64 0]), .int .i64 6]) (by first | (simp [results, go_sem]; done) | simp [results, go_sem, ↓IntWalk.iteOmega]) rfl ⟨⟨0, 0, 0, 0⟩, 6, rfl, .inr ⟨rfl, rfl, HG.out⟩, (by refine Ext.bel ?_; repeat (with_reducible first | exact Ext.refl _ | apply Ext.alloc | apply Ext.aft | apply Ext.drew | apply Ext.drewN | apply Ext.setCell | exact Nat.le_add_right _ _ | exact Nat.le_refl _ | (simp; done) | omega))⟩
  · have HF := hid (read_short (S := S) (by rw [← HW.out]; exact h3))
    obtain ⟨g, cap, rfl, _⟩ := hr
    have hne : ((ws.length : Int) != 3) = true := by simp; omega
    go_wp2_with fail
    exact bodyPost_ret (v := .tuple #[(.agg #[.int .i64 0, .int .i64 0, .int .i64 0, .int .i64 0]), .int .i64 6]) (by first | (simp [results, go_sem]; done) | simp [results, go_sem, ↓IntWalk.iteOmega]) rfl ⟨⟨0, 0, 0, 0⟩, 6, rfl, .inr ⟨rfl, rfl, HF.out⟩, (by refine Ext.bel ?_; repeat (with_reducible first | exact Ext.refl _ | apply Ext.alloc | apply Ext.aft | apply Ext.drew | apply Ext.drewN | apply Ext.setCell | exact Nat.le_add_right _ _ | exact Nat.le_refl _ | (simp; done) | omega))⟩
set_option maxHeartbeats 4000000 in
theorem law_ReadPadic (S : List UInt8) (w : World) (hlib : libB w.heap.size w) :
    Calls Tryz.prog 3 #[.string ⟨S.toArray⟩] w fun e w' => e = .returned (.bool true) ∧ Below w.heap.size w w' := by
  have HLB := hid hlib
  have hz : (⟨S.toArray⟩ : ByteArray).size = S.length := by simp [ByteArray.size]
  clear hlib
  by_cases hl : 1048576 < S.length
  · have hlz : (1048576 : Int) < (S.length : Int) := by omega
    go_enter Tryz.func3, Tryz.ntmps3
    go_wp2_with fail
    go_ret
    exact ⟨rfl, (by refine Ext.bel ?_; repeat (with_reducible first | exact Ext.refl _ | apply Ext.alloc | apply Ext.aft | apply Ext.drew | apply Ext.drewN | apply Ext.setCell | exact Nat.le_add_right _ _ | exact Nat.le_refl _ | (simp; done) | omega))⟩
  · have hlz : ¬ (1048576 : Int) < (S.length : Int) := by omega
    go_enter Tryz.func3, Tryz.ntmps3
    go_wp2_with fail
    refine (s_ReadPadic S _ (by omega)).mono ?_
    rintro e w1 ⟨x, c, rfl, hx, hb1⟩
    obtain ⟨u1, rfl⟩ := aft_ex hb1
    have z1 := size_aft w u1
    go_wp2_with fail
    refine (i_ReadPadic S _ (by omega) (HLB.out.ext (by repeat (with_reducible first | exact Ext.refl _ | apply Ext.alloc | apply Ext.aft | apply Ext.drew | apply Ext.drewN | apply Ext.setCell | exact Nat.le_add_right _ _ | exact Nat.le_refl _ | (simp; done) | omega)))).mono ?_
    rintro e w2 ⟨y, d, rfl, hy, hb2⟩
    obtain ⟨rfl, rfl⟩ := res_one hx hy
    obtain ⟨u2, rfl⟩ := aft_ex hb2
    clear hx hy hb1 hb2
    go_wp2_with (go_at_call 7; refine via (l_eqPadic _ _ _ _ _) ?_; intro uu zz; try simp at zz)
    go_ret
    exact ⟨rfl, (by refine Ext.bel ?_; repeat (with_reducible first | exact Ext.refl _ | apply Ext.alloc | apply Ext.aft | apply Ext.drew | apply Ext.drewN | apply Ext.setCell | exact Nat.le_add_right _ _ | exact Nat.le_refl _ | (simp; done) | omega))⟩
end Go.Proofs.YtdnfefkkbckmgaaGreatDoor
