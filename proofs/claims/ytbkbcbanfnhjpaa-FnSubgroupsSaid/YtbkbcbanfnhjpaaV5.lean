/- Draws of groups. -/
import Derived.Test.YtbkbcbanfnhjpaaV4
import Derived.Test.YtbkbcbanfnhjpaaW8
namespace Go.Proofs.Ytbkbcbanfnhjpaa
open Go Go.RowKit

theorem ownE.keptG {B : Nat} {w w' : World} {v : Value} {es : List Value} {xss : List (List Int)} (h : ownE B w v es xss) (hk : ∀ k, k < w.heap.size → B ≤ k → w'.heap[k]? = w.heap[k]?) : ownE B w' v es xss :=
  ⟨h.1, owns_kept h.2.1 fun k hlt hb => hk k hlt (World.ownsRow.lt h.2.1 k hb).1, fun i hi => by
    obtain ⟨e, h1, h2⟩ := h.2.2 i hi
    exact ⟨e, h1, h2.kept fun k hlt hb => hk k hlt (own_row_ge h2 k hb)⟩⟩
theorem ownE.aftD {B b : Nat} {w : World} {v : Value} {es : List Value} {xss : List (List Int)} (h : ownE B w v es xss) (u : World) (hb : b < B) : ownE B (Go.Proofs.Ytbkbcbanfnhjpaa.aftD b w u) v es xss :=
  h.keptG fun k hk hB => aftD_blk ⟨hk, by omega⟩
theorem rdI.aftD {b L : Nat} {w : World} {v : Value} {xs : List Int} (h : rdI w v xs) (u : World) (hv : ∀ k, v.ownBlock = some k → L ≤ k) (hb : b < L) : rdI (Go.Proofs.Ytbkbcbanfnhjpaa.aftD b w u) v xs := by
  obtain ⟨a, cap, rfl, hm, hc⟩ := h
  refine ⟨a, cap, rfl, hm, fun hne => ?_⟩
  obtain ⟨b', o, rfl, hcell⟩ := hc hne
  refine ⟨b', o, rfl, fun i hi => ?_⟩
  have h1 := hcell i hi
  have hlt := World.block_lt_of_cell? w _ h1
  simp only at hlt
  have := hv b' rfl
  rw [aftD_cell, if_pos ⟨hlt, by omega⟩]
  exact h1
theorem resOK.grownD {n0 b : Nat} {w w' : World} (h : resOK n0 w) (hg : w.grownBy w' (some b)) (hl : n0 < w.heap.size) (hne : n0 ≠ b) : resOK n0 w' := fun k hk => by
  have hb := hg.block n0 hl (fun e => by injection e with e; exact hne e)
  rw [World.cell?_of_block (a := ⟨n0, k, none⟩) hb, World.frozen?_of_block (a := ⟨n0, k, none⟩) hb]
  exact h k hk
theorem genR_pos {n : Nat} {gs : List (List Int)} (hn : n ≤ 6) (hs : ∀ a ∈ gs, PermP n a) : 0 < (genR n gs).length := (genR_dvd hn hs).1

theorem grown_newD {b : Nat} {wo w w' : World} {own : Option Nat} (h : Gr b wo w) (h2 : w.grownBy w' own) (ho : ∀ k, own = some k → wo.heap.size ≤ k) : Gr b wo w' :=
  ⟨h2.os.trans h.os, h2.tape.trans h.tape, h2.output.trans h.output, Nat.le_trans h.size h2.size, fun k hk hne => (h2.block k (Nat.lt_of_lt_of_le hk h.size) (fun e => absurd (ho k e.symm) (by omega))).trans (h.block k hk hne)⟩
theorem src.grown {B b : Nat} {w w' : World} {own : Option Nat} (h : src B b w) (hg : w.grownBy w' own) (hne : some b ≠ own) (hB : ∀ k, own = some k → B ≤ k) : src B b w' := by
  obtain ⟨a, len, cap, i, sd, hB', hb, hc, hf, h0, h1, h2, h3, h4, h5⟩ := h
  have hbl := hg.block b hb hne
  exact ⟨a, len, cap, i, sd, hB', Nat.lt_of_lt_of_le hb hg.size, fun o => (World.cell?_of_block (a := ⟨b, o, none⟩) hbl).trans (hc o), fun o => (World.frozen?_of_block (a := ⟨b, o, none⟩) hbl).trans (hf o), h0, h1, h2, h3, h4, h5.of fun j o v hj hv => hg.cell hv fun e => by have := hB j e.symm; (try simp only at this); omega⟩
theorem rowShV {B T n : Nat} {w : World} {v : Value} {cs : List Value} (h : w.ownsRow B T 1 v n cs) : ∃ a c, v = .slice a n c := by
  rcases h.2 with ⟨e, hn⟩ | ⟨g, cap, cur, e, _⟩
  · subst hn; exact ⟨_, _, e⟩
  · exact ⟨_, _, e⟩
set_option maxRecDepth 20000 in
set_option maxHeartbeats 8000000 in
theorem s_valid22 (B b : Nat) (w : World) (h : src B b w) :
    Calls Try.prog 108 #[.pointer (some ⟨b, 0, none⟩)] w (DrawX B b w (fun w' v => ∃ (m : Nat) (s : Value) (rs : List Int), v = .agg #[.int .i64 (m : Int), s] ∧ (1 ≤ m ∧ m ≤ 6) ∧ ownR w.heap.size w' s rs ∧ 0 < rs.length ∧ rs.length ≤ 720)) := by
  obtain ⟨i1, hj, hy0, hy1, hy2⟩ := info_parts infoS
  have hb := h.lt
  have hB := h.ge
  go_enter Try.func108, Try.ntmps108
  go_wp2_with fail
  obtain ⟨W0, hW0⟩ : ∃ W0, W0 = w.alloc (Obj.cells #[.int .i64 0, .slice none 0 0] 26) := ⟨_, rfl⟩
  have hsz0 : W0.heap.size = w.heap.size + 1 := by rw [hW0]; simp
  have hres : resOK w.heap.size W0 := by
    intro k hk
    obtain rfl | rfl : k = 0 ∨ k = 1 := by omega
    all_goals (rw [hW0]; simp [go_sem])
  have HR0 := hid hres
  have HSZ := hid hsz0
  have HGW : Hid (Gr b w W0) := hid (by rw [hW0]; exact (Gr.refl b w).alloc _)
  have hs0 : src B b W0 := by rw [hW0]; exact h.alloc _
  rw [← hW0]
  have hbW : b < W0.heap.size := by omega
  have hwW : w.heap.size < W0.heap.size := by omega
  clear hW0 hres h hsz0
  refine viaDr (s_next B b _ _ hs0 (by omega)) ?_
  intro x u hx hs hl
  (try dsimp only at hx)
  go_wp2_with fail
  refine viaDr (s_pickA B b _ _ _ [3, 4, 4, 5, 1 + x] _ _ _ (by simp) rfl rfl hs (by decide) (by decide)) ?_
  intro n v hn hs2 hl2
  (try simp at hn hl2)
  have hn6 : 1 ≤ n ∧ n ≤ 6 := by omega
  obtain ⟨m, rfl⟩ : ∃ m : Nat, n = (m : Int) := ⟨n.toNat, by omega⟩
  have hf := facN_pos m
  have hf7 := facN_le (show m ≤ 6 by omega)
  obtain ⟨F, hF⟩ : ∃ F, F = facN m := ⟨_, rfl⟩
  have HF := hid hF
  rw [← hF] at hf hf7
  obtain ⟨V, hV⟩ : ∃ V, V = aftD b ((aftD b W0 u).alloc (Obj.cells #[Value.int IntKind.i64 3, Value.int IntKind.i64 4, Value.int IntKind.i64 4, Value.int IntKind.i64 5, Value.int IntKind.i64 (1 + x)] 2)) v := ⟨_, rfl⟩
  have HGV : Hid (Gr b W0 V) := hid (by rw [hV]; exact (((Gr.refl b W0).aftD _).alloc _).aftD _)
  rw [← hV] at hs2 hl2 ⊢
  clear hV hn hx hF hs hl hl2
  go_wp2_with fail
  have HOE : Hid (ownE V.heap.size (V.alloc (Obj.cells #[] 24)) (.slice (some ⟨V.heap.size, 0, none⟩) 0 0) [] []) := hid (own_made2 V)
  have hVs := HGV.out.size
  refine viaDr (s_next B b _ _ (hs2.alloc _) (by omega)) ?_
  intro y v2 hy hs3 hl3
  (try dsimp only at hy)
  obtain ⟨V3, hV3⟩ : ∃ V3, V3 = aftD b (V.alloc (Obj.cells #[] 24)) v2 := ⟨_, rfl⟩
  have HG3 : Hid (Gr b W0 V3) := hid (by rw [hV3]; exact (HGV.out.alloc _).aftD _)
  have HO3 : Hid (ownE W0.heap.size V3 (.slice (some ⟨V.heap.size, 0, none⟩) 0 0) [] []) := hid (by rw [hV3]; exact (HOE.out.mono hVs).aftD _ (by omega))
  rw [← hV3] at hs3 ⊢
  have HS3 := hid hs3
  clear hV3 hs2 hs3 hl3
  go_wp2_with fail
  go_loopw [4, 5] (fun l k wr => ∃ (z : Nat) (es : List Value) (gs : List (List Int)), z ≤ 2 ∧ k = .int .i64 (z : Int) ∧ gs.length + z ≤ 2 ∧ Hid (ownE W0.heap.size wr l es gs) ∧ Hid (∀ a ∈ gs, PermP m a) ∧ Hid (Gr b W0 wr) ∧ Hid (src B b wr)) (fun _ k _ => (intOf k).toNat)
  case atStart => exact ⟨(1 + y).toNat, [], [], by omega, by rw [Int.toNat_of_nonneg (by omega)], by simp; omega, HO3, hid (fun a ha => by simp at ha), HG3, HS3⟩
  case round =>
    obtain ⟨z, es, gs, hz, rfl, hgz, HO, HP, HG, HS⟩ := hrel
    have hws := HG.out.size
    by_cases h0 : 0 < z
    · have h0z : (0 : Int) < (z : Int) := by omega
      go_wp2_with (go_at_call 84; refine pur (s_fact m _ (by omega)) ?_; rw [← HF.out])
      refine viaDr (s_next B b _ _ HS.out (by omega)) ?_
      intro q v4 hq hs4 hl4
      (try dsimp only at hq)
      have hr1 : 0 ≤ q ∧ q < (facN m : Int) := by rw [← HF.out]; omega
      have hpw := with_perm (n := m) (show m ≤ 6 by omega) hr1.1 hr1.2
      go_wp2_with fail
      refine viaI (g := id) (s_with m q _ (by omega) hr1.1 hr1.2) ?_
      intro t u5 z5 own5
      try simp at z5
      obtain ⟨X, hX⟩ : ∃ X, X = withF m q := ⟨_, rfl⟩
      rw [← hX] at own5 hpw
      obtain ⟨a1, c1, hsh1, _, _⟩ := own5.rd
      subst hsh1
      obtain ⟨U, hU⟩ : ∃ U, U = aft (aftD b wr v4) u5 := ⟨_, rfl⟩
      have HOU : Hid (ownE W0.heap.size U _ es gs) := hid (by rw [hU]; exact (HO.out.aftD v4 (by omega)).below (below_aft _ _))
      have HGU : Hid (Gr b W0 U) := hid (by rw [hU]; exact (HG.out.aftD _).aft _)
      have HSU : Hid (src B b U) := hid (by rw [hU]; exact hs4.aft _)
      have HO5 : Hid (ownR W0.heap.size U (.slice a1 X.length c1) X) := hid (by rw [hU]; exact own5.mono (by omega))
      have hwU := HGU.out.size
      rw [← hU]
      clear hU own5 hs4 hl4 hX z5
      have hgl : gs.length ≤ 2 := by omega
      have HPX := hid hpw
      clear hpw hr1 hq
      go_wp2_with (at_builtin; refine wpList_append_own _ rfl _ _ 37 rfl W0.heap.size 24 i1 (.slice none 0 0) 1 24 Try.underlying37 hj hy0 hy1 hy2 rfl (by decide) _ _ _ rfl (HOU.out.below ((Below.refl _ _).alloc (Nat.le_refl _) _)).2.1 ⟨_, 0, none⟩ 1 1 [.slice a1 X.length c1] rfl rfl ?c1 ?c2 ?c3 ?c4 ?c5 ?_)
      case c1 => exact one_new
      case c2 => first | exact own_one HO5.out | (intro u hu; simp at hu; subst hu; exact own_one HO5.out)
      case c3 => unfold maxLen; omega
      case c4 => omega
      case c5 => first | omega | (simp; omega)
      intro v' w3 hown' hgrow _
      have HN : Hid (ownE W0.heap.size w3 v' (es ++ [.slice a1 X.length c1]) (gs ++ [X])) := hid (ownE.snoc (HOU.out.below ((Below.refl _ _).alloc (Nat.le_refl _) _)) (HO5.out.alloc _) hown' hgrow)
      have HUA : Gr b W0 (U.alloc (.cells #[Value.slice a1 X.length c1] 24)) := HGU.out.alloc _
      have HGN : Hid (Gr b W0 w3) := hid (grown_newD HUA hgrow (ownE.row HOU.out))
      have HSN : Hid (src B b w3) := hid (src.grown (HSU.out.alloc _) hgrow (fun e => by have := ownE.row HOU.out b e.symm; omega) (fun k hk => by have := ownE.row HOU.out k hk; omega))
      have HPN : Hid (∀ a ∈ gs ++ [X], PermP m a) := hid (fun a ha => by
        rcases List.mem_append.1 ha with ha | ha
        · exact HP.out a ha
        · rw [List.mem_singleton.1 ha]; exact HPX.out)
      clear hown' hgrow HUA
      go_wp2_with fail
      go_roundw
      case rel => exact ⟨z - 1, _, gs ++ [X], by omega, by rw [show ((z - 1 : Nat) : Int) = (z : Int) - 1 by omega], by simp; omega, HN, HPN, HGN, HSN⟩
      case measure => simp only [intOf]; omega
    · obtain rfl : z = 0 := by omega
      obtain ⟨a, c, hsh⟩ := rowShV HO.out.2.1
      subst hsh
      obtain ⟨zs, hzs⟩ : ∃ zs, genR m gs = zs := ⟨_, rfl⟩
      have HZ := hid hzs
      have hzp : 0 < zs.length := by rw [← hzs]; exact genR_pos (by omega) HP.out
      have hzl : zs.length ≤ 720 := by rw [← hzs]; exact Nat.le_trans genM_len (facN_le (by omega))
      have hrr := ownRR.rd ⟨es, HO.out⟩
      have hR9 := HR0.out.grownD HG.out (by omega) (by omega)
      have HR9 := hid hR9
      clear hzs hR9
      go_wp2_with fail
      refine viaG (s_generate m _ gs _ zs hrr (by omega) (fun a ha => (HP.out a ha).1) (by omega) HZ.out) ?_
      intro v3 u3 z3 own3
      try simp at z3
      have hR10 := HR9.out.below (below_aft wr u3) (by omega)
      obtain ⟨y0, hy0'⟩ := Option.isSome_iff_exists.1 (hR10 0 (by omega)).2
      obtain ⟨y1, hy1'⟩ := Option.isSome_iff_exists.1 (hR10 1 (by omega)).2
      have hf0 := (hR10 0 (by omega)).1
      have hf1 := (hR10 1 (by omega)).1
      obtain ⟨a9, c9, hsh9, _, _⟩ := own3.rd
      subst hsh9
      clear hR10
      go_wp2_with fail
      exact bodyPost_ret (v := .agg #[.int .i64 (m : Int), .slice a9 zs.length c9]) (by simp [results, go_sem, hy0', hy1']) rfl ⟨_, rfl, ⟨m, _, zs, rfl, by omega, ((own3.setCell _ _ _ _ (by omega)).setCell _ _ _ _ (by omega)).mono (by omega), hzp, hzl⟩, Gr.set (Gr.set (show Gr b w (aft wr u3) from grownBy_trans HGW.out (HG.out.aft u3)) (by omega)) (by omega), ((HS.out.aft u3).set (by omega) (by omega) _).set (by omega) (by omega) _⟩
end Go.Proofs.Ytbkbcbanfnhjpaa
