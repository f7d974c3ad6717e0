/- FnPadicTexts: the law, given the draws. -/
import Derived.Test.YtdnfefkkbckmgaaGreatDoorTD3
namespace Go.Proofs.YtdnfefkkbckmgaaGreatDoor
open Go Go.RowKit

def drX (a : Option Addr) (len cap : Nat) : Prop := ∀ w : World, rdB w.heap.size w a len → Calls Tryz.prog 9 #[.slice a len cap] w fun e w' => ∃ x : Pd, e = .returned (.agg #[.int .i64 x.p, .int .i64 x.v, .int .i64 x.u, .int .i64 x.n]) ∧ Below w.heap.size w w'
def drS (a : Option Addr) (len cap : Nat) : Prop := ∀ w : World, rdB w.heap.size w a len → Calls Tryz.prog 12 #[.slice a len cap] w fun e w' => ∃ S : List UInt8, e = .returned (.string ⟨S.toArray⟩) ∧ S.length ≤ 1100 ∧ Below w.heap.size w w'
theorem ptx_cases (x : Pd) : (padicB x.p x.v x.u x.n = true ∧ ptxF x.p x.v x.u x.n = (textL x.p x.v x.u x.n, 0)) ∨ (ptxF x.p x.v x.u x.n).2 = 1 := by
  unfold ptxF
  split
  · exact .inl ⟨‹_›, rfl⟩
  · exact .inr rfl
theorem text_len2 {p v u n : Int} (h : padicB p v u n = true) : (textL p v u n).length ≤ 170 := by
  obtain ⟨hp, hv, hu, hn, hb⟩ := padic_facts h
  have h1 : (Lib.itoa p).length ≤ 3 := itoa_len (by omega)
  have h2 : (Lib.itoa v).length ≤ 3 := itoa_len (by omega)
  have h3 : (tailL p u n).length ≤ 160 := by
    unfold tailL
    split
    · simp
    · have := joinL_len (digs p u n.toNat) (digs_bd (u := u) hp n.toNat)
      rw [digs_len] at this
      omega
  unfold textL
  simp only [List.length_append, List.length_cons, List.length_nil]
  omega
theorem rdB.ext' {w W : World} {a : Option Addr} {len : Nat} (h : rdB w.heap.size w a len) (k : Ext w.heap.size w W) : rdB W.heap.size W a len := by
  rcases h.ext k with h | ⟨ab, ao, h1, h2, h3⟩
  · exact .inl h
  · exact .inr ⟨ab, ao, h1, Nat.lt_of_lt_of_le h2 k.2, h3⟩
set_option maxRecDepth 20000 in
set_option maxHeartbeats 4000000 in
theorem law_PadicTextsD (a : Option Addr) (len cap : Nat) (w : World) (h : rdB w.heap.size w a len) (hlib : libB w.heap.size w) (hl : len ≤ 4096) (hx : drX a len cap) (hs : drS a len cap) :
    Calls Tryz.prog 4 #[.slice a len cap] w fun e w' => e = .returned (.bool true) ∧ Below w.heap.size w w' := by
  have hd : decide ((4096 : Int) < (len : Int)) = false := by simp; omega
  have H := hid h
  have HLB := hid hlib
  have HX := hid hx
  have HS := hid hs
  clear h hlib hx hs
  go_enter Tryz.func4, Tryz.ntmps4
  go_wp2_with (go_at_call 8; refine pur (l_big _ _ _ _) ?_)
  have hG : Hid (Ext w.heap.size w w) := hid (Ext.refl w)
  refine (HX.out _ (H.out.ext' hG.out)).mono ?_
  rintro e w1 ⟨x, rfl, hb⟩
  obtain ⟨u1, rfl⟩ := aft_ex hb
  clear hb
  obtain ⟨x1, x2, x3, x4⟩ := x
  (try dsimp only)
  go_wp2_with fail
  obtain ⟨kX, hkX⟩ : ∃ k, k = (aft w u1).heap.size := ⟨_, rfl⟩
  obtain ⟨W2, hW2⟩ : ∃ X, X = (aft w u1).alloc (Obj.cells #[Value.int IntKind.i64 x1, Value.int IntKind.i64 x2, Value.int IntKind.i64 x3, Value.int IntKind.i64 x4] 23) := ⟨_, rfl⟩
  have cX : ∀ o, W2.cell? ⟨kX, o, none⟩ = #[Value.int IntKind.i64 x1, Value.int IntKind.i64 x2, Value.int IntKind.i64 x3, Value.int IntKind.i64 x4][o]? := fun o => by rw [hW2, alloc_cell, if_pos hkX]
  have hG2 : Hid (Ext w.heap.size w W2) := hid (by rw [hW2]; exact (hG.out.aft _).alloc _)
  have l2 : W2.heap.size = kX + 1 := by rw [hW2]; simp; omega
  rw [← hW2, ← hkX]
  clear hW2 hG hkX
  have hG := hG2
  clear hG2
  obtain ⟨P, hP⟩ : ∃ P, P = ptxF x1 x2 x3 x4 := ⟨_, rfl⟩
  have HI : Hid (∀ W, libB W.heap.size W → Calls Tryz.prog 10 #[.agg #[.int .i64 x1, .int .i64 x2, .int .i64 x3, .int .i64 x4]] W fun e w' => e = .returned (.tuple #[.string ⟨P.1.toArray⟩, .int .i64 P.2]) ∧ Below W.heap.size W w') := hid fun W hW => by rw [hP]; exact i_PadicText x1 x2 x3 x4 W hW.tab
  have HP : Hid (∀ W, Calls Tryz.prog 11 #[.agg #[.int .i64 x1, .int .i64 x2, .int .i64 x3, .int .i64 x4]] W fun e w' => e = .returned (.tuple #[.string ⟨P.1.toArray⟩, .int .i64 P.2]) ∧ Below W.heap.size W w') := hid fun W => by rw [hP]; exact s_PadicText x1 x2 x3 x4 W
  have HC : Hid ((padicB x1 x2 x3 x4 = true ∧ P = (textL x1 x2 x3 x4, 0)) ∨ P.2 = 1) := hid (by rw [hP]; exact ptx_cases ⟨x1, x2, x3, x4⟩)
  obtain ⟨T, c⟩ := P
  clear hP
  dsimp only at HI HP HC
  go_wp2_with fail
  refine via (HI.out _ (HLB.out.ext (by repeat (with_reducible first | exact hG.out | apply Ext.aft | apply Ext.alloc | apply Ext.drew)))) ?_
  intro u3 z3
  go_wp2_with fail
  refine via (HP.out _) ?_
  intro u4 z4
  go_wp2_with fail
  refine (HS.out _ (H.out.ext' (by repeat (with_reducible first | exact hG.out | apply Ext.aft | apply Ext.alloc | apply Ext.drew)))).mono ?_
  rintro e w5 ⟨S, rfl, hSl, hb⟩
  obtain ⟨u5, rfl⟩ := aft_ex hb
  clear hb
  go_wp2_with fail
  refine (i_ReadPadic S _ (by omega) (HLB.out.ext (by repeat (with_reducible first | exact hG.out | apply Ext.aft | apply Ext.alloc | apply Ext.drew)))).mono ?_
  rintro e w6 ⟨y, d, rfl, hy, hb⟩
  obtain ⟨u6, rfl⟩ := aft_ex hb
  clear hb
  obtain ⟨y1, y2, y3, y4⟩ := y
  have HY := hid hy
  clear hy
  (try dsimp only)
  have z5 := size_aft (aft (aft W2 u3) u4) u5
  go_wp2_with fail
  obtain ⟨kY, hkY⟩ : ∃ k, k = (aft (aft (aft (aft W2 u3) u4) u5) u6).heap.size := ⟨_, rfl⟩
  have hlt : kX < kY := by have := size_aft (aft (aft (aft W2 u3) u4) u5) u6; omega
  obtain ⟨W7, hW7⟩ : ∃ X, X = (aft (aft (aft (aft W2 u3) u4) u5) u6).alloc (Obj.cells #[Value.int IntKind.i64 y1, Value.int IntKind.i64 y2, Value.int IntKind.i64 y3, Value.int IntKind.i64 y4] 23) := ⟨_, rfl⟩
  have dY : ∀ o, W7.cell? ⟨kY, o, none⟩ = #[Value.int IntKind.i64 y1, Value.int IntKind.i64 y2, Value.int IntKind.i64 y3, Value.int IntKind.i64 y4][o]? := fun o => by rw [hW7, alloc_cell, if_pos hkY]
  have dX : ∀ o, W7.cell? ⟨kX, o, none⟩ = #[Value.int IntKind.i64 x1, Value.int IntKind.i64 x2, Value.int IntKind.i64 x3, Value.int IntKind.i64 x4][o]? := fun o => by
    have s3 := size_aft W2 u3
    have s4 := size_aft (aft W2 u3) u4
    rw [hW7, alloc_cell, if_neg (by omega), aft_cell, if_pos (by omega), aft_cell, if_pos (by omega), aft_cell, if_pos (by omega), aft_cell, if_pos (by omega)]; exact cX o
  have hG7 : Hid (Ext w.heap.size w W7) := hid (by rw [hW7]; exact (by repeat (with_reducible first | exact hG.out | apply Ext.aft | apply Ext.alloc | apply Ext.drew)))
  have l7 : W7.heap.size = kY + 1 := by rw [hW7]; simp; omega
  rw [← hW7, ← hkY]
  clear hW7 hG hkY cX l2 z3 z4 z5
  have hG := hG7
  clear hG7
  go_wp2_with fail
  refine (s_ReadPadic S _ (by omega)).mono ?_
  rintro e w8 ⟨z, d', rfl, hz, hb⟩
  obtain ⟨u8, rfl⟩ := aft_ex hb
  obtain ⟨rfl, rfl⟩ := res_one HY.out hz
  clear hz hb
  have z8 := size_aft W7 u8
  have hb1 : ∀ q : ByteArray, (q != q) = false := fun q => by have h : (q == q) = true := (ba_beq q q).2 rfl; simp [bne, h]
  have hTT := hb1 ⟨T.toArray⟩
  have hSS := hb1 ⟨S.toArray⟩
  have hy := HY.out
  clear HY
  rcases hy with ⟨hd0, hg⟩ | ⟨hd0, hy0, hn⟩ <;> subst hd0
  · have HYP : Hid (∀ W, libB W.heap.size W → Calls Tryz.prog 10 #[.agg #[.int .i64 y1, .int .i64 y2, .int .i64 y3, .int .i64 y4]] W fun e w' => e = .returned (.tuple #[.string ⟨S.toArray⟩, .int .i64 0]) ∧ Below W.heap.size W w') := hid fun W hW => by
      have h := i_PadicText y1 y2 y3 y4 W hW.tab
      have e : ptxF y1 y2 y3 y4 = (S, 0) := by
        have h1 := hg.1
        have h2 := hg.2.1
        dsimp only at h1 h2
        simp only [ptxF, h1, if_true, h2]
      rw [e] at h
      exact h
    clear hg
    (try dsimp only)
    go_wp2_with fail
    obtain ⟨kZ, hkZ⟩ : ∃ k, k = (aft W7 u8).heap.size := ⟨_, rfl⟩
    obtain ⟨W9, hW9⟩ : ∃ X, X = (aft W7 u8).alloc (Obj.cells #[Value.int IntKind.i64 y1, Value.int IntKind.i64 y2, Value.int IntKind.i64 y3, Value.int IntKind.i64 y4] 23) := ⟨_, rfl⟩
    have hYZ : kY < kZ := by omega
    have eZ : ∀ o, W9.cell? ⟨kZ, o, none⟩ = #[Value.int IntKind.i64 y1, Value.int IntKind.i64 y2, Value.int IntKind.i64 y3, Value.int IntKind.i64 y4][o]? := fun o => by rw [hW9, alloc_cell, if_pos hkZ]
    have eY : ∀ o, W9.cell? ⟨kY, o, none⟩ = #[Value.int IntKind.i64 y1, Value.int IntKind.i64 y2, Value.int IntKind.i64 y3, Value.int IntKind.i64 y4][o]? := fun o => by rw [hW9, alloc_cell, if_neg (by omega), aft_cell, if_pos (by omega)]; exact dY o
    have eX : ∀ o, W9.cell? ⟨kX, o, none⟩ = #[Value.int IntKind.i64 x1, Value.int IntKind.i64 x2, Value.int IntKind.i64 x3, Value.int IntKind.i64 x4][o]? := fun o => by rw [hW9, alloc_cell, if_neg (by omega), aft_cell, if_pos (by omega)]; exact dX o
    have hG9 : Hid (Ext w.heap.size w W9) := hid (by rw [hW9]; exact (by repeat (with_reducible first | exact hG.out | apply Ext.aft | apply Ext.alloc | apply Ext.drew)))
    have l9 : W9.heap.size = kZ + 1 := by rw [hW9]; simp; omega
    rw [← hW9, ← hkZ]
    clear hW9 hG hkZ dX dY l7 z8
    have hG := hG9
    clear hG9
    refine via (HYP.out _ (HLB.out.ext (by repeat (with_reducible first | exact hG.out | apply Ext.aft | apply Ext.alloc | apply Ext.drew)))) ?_
    intro u10 z10
    rcases HC.out with ⟨hval, hT⟩ | hc
    · obtain ⟨hTe, hc⟩ := Prod.mk.inj hT; clear hT
      subst hc
      have HT := hid hTe
      have HV := hid hval
      have HTL := hid (text_len2 hval)
      rw [← hTe] at HTL
      clear hval hTe
      go_wp2_with fail
      refine (i_ReadPadic T _ (by have := HTL.out; omega) (HLB.out.ext (by repeat (with_reducible first | exact hG.out | apply Ext.aft | apply Ext.alloc | apply Ext.drew)))).mono ?_
      rintro e wB ⟨q, f, rfl, hq, hb⟩
      obtain ⟨uB, rfl⟩ := aft_ex hb
      rw [HT.out] at hq
      obtain ⟨hq1, rfl⟩ := res_text (x := ⟨x1, x2, x3, x4⟩) HV.out hq
      subst hq1
      clear hq hb
      (try dsimp only)
      have zB := size_aft (aft W9 u10) uB
      go_wp2_with fail
      go_ret
      exact ⟨by simp, Ext.bel (by repeat (with_reducible first | exact hG.out | apply Ext.aft | apply Ext.alloc | apply Ext.drew))⟩
    · (try dsimp only at hc)
      subst hc
      go_wp2_with fail
      go_ret
      exact ⟨rfl, Ext.bel (by repeat (with_reducible first | exact hG.out | apply Ext.aft | apply Ext.alloc | apply Ext.drew))⟩
  · clear hy0 hn
    rcases HC.out with ⟨hval, hT⟩ | hc
    · obtain ⟨hTe, hc⟩ := Prod.mk.inj hT; clear hT
      subst hc
      have HT := hid hTe
      have HV := hid hval
      have HTL := hid (text_len2 hval)
      rw [← hTe] at HTL
      clear hval hTe
      (try dsimp only)
      go_wp2_with fail
      obtain ⟨kZ, hkZ⟩ : ∃ k, k = (aft W7 u8).heap.size := ⟨_, rfl⟩
      obtain ⟨W9, hW9⟩ : ∃ X, X = (aft W7 u8).alloc (Obj.cells #[Value.int IntKind.i64 y1, Value.int IntKind.i64 y2, Value.int IntKind.i64 y3, Value.int IntKind.i64 y4] 23) := ⟨_, rfl⟩
      have hYZ : kY < kZ := by omega
      have eZ : ∀ o, W9.cell? ⟨kZ, o, none⟩ = #[Value.int IntKind.i64 y1, Value.int IntKind.i64 y2, Value.int IntKind.i64 y3, Value.int IntKind.i64 y4][o]? := fun o => by rw [hW9, alloc_cell, if_pos hkZ]
      have eY : ∀ o, W9.cell? ⟨kY, o, none⟩ = #[Value.int IntKind.i64 y1, Value.int IntKind.i64 y2, Value.int IntKind.i64 y3, Value.int IntKind.i64 y4][o]? := fun o => by rw [hW9, alloc_cell, if_neg (by omega), aft_cell, if_pos (by omega)]; exact dY o
      have eX : ∀ o, W9.cell? ⟨kX, o, none⟩ = #[Value.int IntKind.i64 x1, Value.int IntKind.i64 x2, Value.int IntKind.i64 x3, Value.int IntKind.i64 x4][o]? := fun o => by rw [hW9, alloc_cell, if_neg (by omega), aft_cell, if_pos (by omega)]; exact dX o
      have hG9 : Hid (Ext w.heap.size w W9) := hid (by rw [hW9]; exact (by repeat (with_reducible first | exact hG.out | apply Ext.aft | apply Ext.alloc | apply Ext.drew)))
      have l9 : W9.heap.size = kZ + 1 := by rw [hW9]; simp; omega
      rw [← hW9, ← hkZ]
      clear hW9 hG hkZ dX dY l7 z8
      have hG := hG9
      clear hG9
      refine (i_ReadPadic T _ (by have := HTL.out; omega) (HLB.out.ext (by repeat (with_reducible first | exact hG.out | apply Ext.aft | apply Ext.alloc | apply Ext.drew)))).mono ?_
      rintro e wB ⟨q, f, rfl, hq, hb⟩
      obtain ⟨uB, rfl⟩ := aft_ex hb
      rw [HT.out] at hq
      obtain ⟨hq1, rfl⟩ := res_text (x := ⟨x1, x2, x3, x4⟩) HV.out hq
      subst hq1
      clear hq hb
      (try dsimp only)
      have zB := size_aft W9 uB
      go_wp2_with fail
      go_ret
      exact ⟨by simp, Ext.bel (by repeat (with_reducible first | exact hG.out | apply Ext.aft | apply Ext.alloc | apply Ext.drew))⟩
    · (try dsimp only at hc)
      subst hc
      (try dsimp only)
      go_wp2_with fail
      go_ret
      exact ⟨rfl, Ext.bel (by repeat (with_reducible first | exact hG.out | apply Ext.aft | apply Ext.alloc | apply Ext.drew))⟩
end Go.Proofs.YtdnfefkkbckmgaaGreatDoor
