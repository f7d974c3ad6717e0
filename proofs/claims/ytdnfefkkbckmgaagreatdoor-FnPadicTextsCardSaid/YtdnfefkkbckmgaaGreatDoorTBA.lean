/- ReadPadic: the statement's text. -/
import Derived.Test.YtdnfefkkbckmgaaGreatDoorTB9
namespace Go.Proofs.YtdnfefkkbckmgaaGreatDoor
open Go Go.RowKit

def rpP (S : List UInt8) (w : World) (e : Ending) (w' : World) : Prop := ∃ (x : Pd) (c : Int), e = .returned (.tuple #[.agg #[.int .i64 x.p, .int .i64 x.v, .int .i64 x.u, .int .i64 x.n], .int .i64 c]) ∧ resT S x c ∧ Below w.heap.size w w'
theorem rdT_three {w : World} {r : Value} {a b c : List UInt8} (h : rdT w r [a, b, c]) : ∃ g cap, r = .slice (some ⟨g, 0, none⟩) 3 cap ∧ g < w.heap.size ∧ w.cell? ⟨g, 0, none⟩ = some (.string ⟨a.toArray⟩) ∧ w.cell? ⟨g, 1, none⟩ = some (.string ⟨b.toArray⟩) ∧ w.cell? ⟨g, 2, none⟩ = some (.string ⟨c.toArray⟩) ∧ a.length ≤ 2000000 ∧ b.length ≤ 2000000 ∧ c.length ≤ 2000000 := by
  obtain ⟨g, cap, rfl, h1, h2, h3, h4⟩ := h
  exact ⟨g, cap, rfl, h3, h4 0 (by simp), h4 1 (by simp), h4 2 (by simp), h2 a (by simp), h2 b (by simp), h2 c (by simp)⟩
theorem ba_beq (a b : ByteArray) : (a == b) = true ↔ a = b := by
  rw [show (a == b) = (a.data == b.data) from by cases a; cases b; rfl, beq_iff_eq]
  exact ⟨fun h => ByteArray.ext h, fun h => h ▸ rfl⟩
theorem ba_ne {a b : List UInt8} (h : a ≠ b) : ((⟨a.toArray⟩ : ByteArray) != ⟨b.toArray⟩) = true := by
  cases hb : ((⟨a.toArray⟩ : ByteArray) == ⟨b.toArray⟩)
  · simp [bne, hb]
  · exact absurd (by have := congrArg (fun q : ByteArray => q.data.toList) ((ba_beq _ _).1 hb); simpa using this) h
theorem three {ws : List (List UInt8)} (h : ws.length = 3) : ∃ a b c, ws = [a, b, c] := by
  match ws, h with
  | [a, b, c], _ => exact ⟨a, b, c, rfl⟩
set_option maxRecDepth 20000 in
set_option maxHeartbeats 4000000 in
theorem s_ReadPadic (S : List UInt8) (w : World) (hl : S.length ≤ 1048576) : Calls Tryz.prog 5 #[.string ⟨S.toArray⟩] w (rpP S w) := by
  have HSP : Hid (∀ W, Calls Tryz.prog 13 #[.string ⟨S.toArray⟩, .int .u8 58] W fun e w' => ∃ r, e = .returned r ∧ rdT w' r (splA 58 [] S) ∧ Below W.heap.size W w') := hid fun W => s_split S 58 W hl
  obtain ⟨ws, hws⟩ : ∃ ws, ws = splA 58 [] S := ⟨_, rfl⟩
  rw [← hws] at HSP
  have HW := hid hws
  clear hws
  go_enter Tryz.func5, Tryz.ntmps5
  go_wp2_with fail
  refine (HSP.out _).mono ?_
  rintro e w1 ⟨r, rfl, hr, hb⟩
  obtain ⟨u, rfl⟩ := aft_ex hb
  have z1 := size_aft (w.alloc (Obj.cells #[.int .i64 0, .int .i64 0, .int .i64 0, .int .i64 0] 23)) u
  simp at z1
  by_cases h3 : ws.length = 3
  · obtain ⟨a, b, c, rfl⟩ := three h3
    have HR := hid hr
    obtain ⟨g, cap, rfl, hg, ha, hb, hc, la, lb, lc⟩ := rdT_three hr
    clear hr
    go_wp2_with fail
    refine (s_value a _ la).mono ?_
    rintro e w2 ⟨p, ok1, rfl, _, hp, hb2⟩
    obtain ⟨u2, rfl⟩ := aft_ex hb2
    have z2 := size_aft (aft (w.alloc (Obj.cells #[.int .i64 0, .int .i64 0, .int .i64 0, .int .i64 0] 23)) u) u2
    have HPA : Hid (numP a p) := hid fun m hm e => (hp m hm e).1
    clear hb2 hp
    go_wp2_with fail
    refine (s_signed b _ lb).mono ?_
    rintro e w3 ⟨v, ok2, rfl, hv, hb3⟩
    obtain ⟨u3, rfl⟩ := aft_ex hb3
    have z3 := size_aft (aft (aft (w.alloc (Obj.cells #[.int .i64 0, .int .i64 0, .int .i64 0, .int .i64 0] 23)) u) u2) u3
    have HVB : Hid (numV b v) := hid fun m hm e => (hv m hm e).1
    clear hb3 hv
    by_cases hc45 : c = [45]
    · have hcb : (c == [45]) = true := by simpa using hc45
      have HL : Hid (lstD c []) := hid ⟨fun _ => rfl, fun ds h hd e => absurd (e.symm.trans hc45) (join_dash h hd)⟩
      go_wp2_with fail
      obtain ⟨F, hF⟩ : ∃ F, F = fdF p v [] := ⟨_, rfl⟩
      have HFD := hid (s_FromDigits p v _ _ _ (own_empty (aft (aft (aft (w.alloc (Obj.cells #[.int .i64 0, .int .i64 0, .int .i64 0, .int .i64 0] 23)) u) u2) u3)).rd)
      rw [← hF] at HFD
      have HFE := hid hF
      clear hF
      refine via HFD.out ?_
      intro u5 z5
      try simp at z5
      by_cases h0 : F.2 = 0
      · have hok := fd_valid (p := p) (v := v) (xs := []) (by rw [← HFE.out]; exact h0)
        rw [← HFE.out] at hok
        obtain ⟨x, cd⟩ := F
        obtain ⟨xp, xv, xu, xn⟩ := x
        simp only at h0 hok
        subst h0
        obtain ⟨ip, iv, iu, iN, ib⟩ := padic_facts hok
        have HT := hid (fun W => s_text xp xv xu xn W ip iv iu iN ib)
        obtain ⟨T, hT⟩ : ∃ T, T = textL xp xv xu xn := ⟨_, rfl⟩
        rw [← hT] at HT
        have HTE := hid hT
        have HOK := hid hok
        clear hT hok ib
        go_wp2_with fail
        refine via (HT.out _) ?_
        intro u6 z6
        try simp at z6
        by_cases ht : T = S
        · have hbe : (T == S) = true := by simpa using ht
          have HG : Hid (goodT S ⟨xp, xv, xu, xn⟩) := hid (read_good (by rw [← HW.out]) HPA.out HVB.out HL.out HFE.out.symm HOK.out (by rw [← HTE.out]; exact ht))
          clear ht
          go_wp2_with fail
          exact bodyPost_ret (v := .tuple #[.agg #[.int .i64 xp, .int .i64 xv, .int .i64 xu, .int .i64 xn], .int .i64 0]) (by first | (simp [results, go_sem]; done) | simp [results, go_sem, ↓IntWalk.iteOmega]) rfl ⟨⟨xp, xv, xu, xn⟩, 0, rfl, .inl ⟨rfl, HG.out⟩, (by refine Ext.bel ?_; repeat (with_reducible first | exact Ext.refl _ | apply Ext.alloc | apply Ext.aft | apply Ext.drew | apply Ext.drewN | apply Ext.setCell | exact Nat.le_add_right _ _ | exact Nat.le_refl _ | (simp; done) | omega))⟩
        · have hbe : (T == S) = false := by simpa using ht
          have HG : Hid (∀ y, ¬ goodT S y) := hid (fun y hy => ht (by
            have h1 := read_from (by rw [← HW.out]) HPA.out HVB.out HL.out y hy
            rw [← HFE.out] at h1
            have h2 := (Prod.mk.inj h1).1
            rw [HTE.out, ← hy.2.1, ← h2]))
          clear ht
          go_wp2_with fail
          exact bodyPost_ret (v := .tuple #[(.agg #[.int .i64 0, .int .i64 0, .int .i64 0, .int .i64 0]), .int .i64 6]) (by first | (simp [results, go_sem]; done) | simp [results, go_sem, ↓IntWalk.iteOmega]) rfl ⟨⟨0, 0, 0, 0⟩, 6, rfl, .inr ⟨rfl, rfl, HG.out⟩, (by refine Ext.bel ?_; repeat (with_reducible first | exact Ext.refl _ | apply Ext.alloc | apply Ext.aft | apply Ext.drew | apply Ext.drewN | apply Ext.setCell | exact Nat.le_add_right _ _ | exact Nat.le_refl _ | (simp; done) | omega))⟩
      · have hne : (F.2 != 0) = true := by simpa using h0
        have hgd : ∀ y, ¬ goodT S y := fun y hy => h0 (by
          have := read_from (by rw [← HW.out]) HPA.out HVB.out HL.out y hy
          rw [HFE.out, this])
        have HG := hid hgd
        clear hgd
        go_wp2_with fail
        exact bodyPost_ret (v := .tuple #[(.agg #[.int .i64 0, .int .i64 0, .int .i64 0, .int .i64 0]), .int .i64 6]) (by first | (simp [results, go_sem]; done) | simp [results, go_sem, ↓IntWalk.iteOmega]) rfl ⟨⟨0, 0, 0, 0⟩, 6, rfl, .inr ⟨rfl, rfl, HG.out⟩, (by refine Ext.bel ?_; repeat (with_reducible first | exact Ext.refl _ | apply Ext.alloc | apply Ext.aft | apply Ext.drew | apply Ext.drewN | apply Ext.setCell | exact Nat.le_add_right _ _ | exact Nat.le_refl _ | (simp; done) | omega))⟩
    · have hcb : (c == [45]) = false := by simpa using hc45
      have HCN := hid hc45
      have HSC : Hid (∀ W, Calls Tryz.prog 13 #[.string ⟨c.toArray⟩, .int .u8 44] W fun e w' => ∃ r, e = .returned r ∧ rdT w' r (splA 44 [] c) ∧ Below W.heap.size W w') := hid fun W => s_split c 44 W (by have := (splA_len 58 S []).2.2 c (by rw [← HW.out]; simp); simp at this; omega)
      clear hc45
      go_wp2_with fail
      refine (HSC.out _).mono ?_
      rintro e w4 ⟨r4, rfl, hr4, hb4⟩
      obtain ⟨u4, rfl⟩ := aft_ex hb4
      have z4 := size_aft ((aft (aft (aft (w.alloc (Obj.cells #[.int .i64 0, .int .i64 0, .int .i64 0, .int .i64 0] 23)) u) u2) u3).alloc (Obj.cells #[] 2)) u4
      try simp at z4
      have HR4 := hid hr4
      clear hr4 hb4
      go_wp2_with fail
      refine (s_numbers r4 _ _ HR4.out).mono ?_
      rintro e w5 ⟨r5, xs, ok5, rfl, hr5, hn5, hb5⟩
      obtain ⟨u7, rfl⟩ := aft_ex hb5
      have z7 := size_aft (aft ((aft (aft (aft (w.alloc (Obj.cells #[.int .i64 0, .int .i64 0, .int .i64 0, .int .i64 0] 23)) u) u2) u3).alloc (Obj.cells #[] 2)) u4) u7
      try simp at z7
      have HR5 := hid hr5
      have HL : Hid (lstD c xs) := hid ⟨fun e => absurd e HCN.out, fun ds h hd e => hn5 c rfl ds h hd e⟩
      clear hr5 hb5 hn5
      obtain ⟨F, hF⟩ : ∃ F, F = fdF p v xs := ⟨_, rfl⟩
      have HFD := hid (s_FromDigits p v _ _ _ HR5.out)
      rw [← hF] at HFD
      have HFE := hid hF
      clear hF
      go_wp2_with fail
      refine via HFD.out ?_
      intro u5 z5
      try simp at z5
      by_cases h0 : F.2 = 0
      · have hok := fd_valid (p := p) (v := v) (xs := xs) (by rw [← HFE.out]; exact h0)
        rw [← HFE.out] at hok
        obtain ⟨x, cd⟩ := F
        obtain ⟨xp, xv, xu, xn⟩ := x
        simp only at h0 hok
        subst h0
        obtain ⟨ip, iv, iu, iN, ib⟩ := padic_facts hok
        have HT := hid (fun W => s_text xp xv xu xn W ip iv iu iN ib)
        obtain ⟨T, hT⟩ : ∃ T, T = textL xp xv xu xn := ⟨_, rfl⟩
        rw [← hT] at HT
        have HTE := hid hT
        have HOK := hid hok
        clear hT hok ib
        go_wp2_with fail
        refine via (HT.out _) ?_
        intro u6 z6
        try simp at z6
        by_cases ht : T = S
        · have hbe : (T == S) = true := by simpa using ht
          have HG : Hid (goodT S ⟨xp, xv, xu, xn⟩) := hid (read_good (by rw [← HW.out]) HPA.out HVB.out HL.out HFE.out.symm HOK.out (by rw [← HTE.out]; exact ht))
          clear ht
          go_wp2_with fail
          exact bodyPost_ret (v := .tuple #[.agg #[.int .i64 xp, .int .i64 xv, .int .i64 xu, .int .i64 xn], .int .i64 0]) (by first | (simp [results, go_sem]; done) | simp [results, go_sem, ↓IntWalk.iteOmega]) rfl ⟨⟨xp, xv, xu, xn⟩, 0, rfl, .inl ⟨rfl, HG.out⟩, (by refine Ext.bel ?_; repeat (with_reducible first | exact Ext.refl _ | apply Ext.alloc | apply Ext.aft | apply Ext.drew | apply Ext.drewN | apply Ext.setCell | exact Nat.le_add_right _ _ | exact Nat.le_refl _ | (simp; done) | omega))⟩
        · have hbe : (T == S) = false := by simpa using ht
          have HG : Hid (∀ y, ¬ goodT S y) := hid (fun y hy => ht (by
            have h1 := read_from (by rw [← HW.out]) HPA.out HVB.out HL.out y hy
            rw [← HFE.out] at h1
            have h2 := (Prod.mk.inj h1).1
            rw [HTE.out, ← hy.2.1, ← h2]))
          clear ht
          go_wp2_with fail
          exact bodyPost_ret (v := .tuple #[(.agg #[.int .i64 0, .int .i64 0, .int .i64 0, .int .i64 0]), .int .i64 6]) (by first | (simp [results, go_sem]; done) | simp [results, go_sem, ↓IntWalk.iteOmega]) rfl ⟨⟨0, 0, 0, 0⟩, 6, rfl, .inr ⟨rfl, rfl, HG.out⟩, (by refine Ext.bel ?_; repeat (with_reducible first | exact Ext.refl _ | apply Ext.alloc | apply Ext.aft | apply Ext.drew | apply Ext.drewN | apply Ext.setCell | exact Nat.le_add_right _ _ | exact Nat.le_refl _ | (simp; done) | omega))⟩
      · have hne : (F.2 != 0) = true := by simpa using h0
        have hgd : ∀ y, ¬ goodT S y := fun y hy => h0 (by
          have := read_from (by rw [← HW.out]) HPA.out HVB.out HL.out y hy
          rw [HFE.out, this])
        have HG := hid hgd
        clear hgd
        go_wp2_with fail
        exact bodyPost_ret (v := .tuple #[(.agg #[.int .i64 0, .int .i64 0, .int .i64 0, .int .i64 0]), .int .i64 6]) (by first | (simp [results, go_sem]; done) | simp [results, go_sem, ↓IntWalk.iteOmega]) rfl ⟨⟨0, 0, 0, 0⟩, 6, rfl, .inr ⟨rfl, rfl, HG.out⟩, (by refine Ext.bel ?_; repeat (with_reducible first | exact Ext.refl _ | apply Ext.alloc | apply Ext.aft | apply Ext.drew | apply Ext.drewN | apply Ext.setCell | exact Nat.le_add_right _ _ | exact Nat.le_refl _ | (simp; done) | omega))⟩
  · have HF := hid (read_short (S := S) (by rw [← HW.out]; exact h3))
    obtain ⟨g, cap, rfl, _⟩ := hr
    have hne : ((ws.length : Int) != 3) = true := by simp; omega
    go_wp2_with fail
    exact bodyPost_ret (v := .tuple #[(.agg #[.int .i64 0, .int .i64 0, .int .i64 0, .int .i64 0]), .int .i64 6]) (by first | (simp [results, go_sem]; done) | simp [results, go_sem, ↓IntWalk.iteOmega]) rfl ⟨⟨0, 0, 0, 0⟩, 6, rfl, .inr ⟨rfl, rfl, HF.out⟩, (by refine Ext.bel ?_; repeat (with_reducible first | exact Ext.refl _ | apply Ext.alloc | apply Ext.aft | apply Ext.drew | apply Ext.drewN | apply Ext.setCell | exact Nat.le_add_right _ _ | exact Nat.le_refl _ | (simp; done) | omega))⟩
end Go.Proofs.YtdnfefkkbckmgaaGreatDoor
