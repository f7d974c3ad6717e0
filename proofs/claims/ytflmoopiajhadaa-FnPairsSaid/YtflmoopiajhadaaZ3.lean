/- Draws of polynomials, rarely one that is none; polynomials in a ring. -/
import Derived.Test.YtflmoopiajhadaaZ2
namespace Go.Proofs.Ytflmoopiajhadaa
open Go Go.RowKit

set_option maxRecDepth 20000 in
set_option maxHeartbeats 8000000 in
theorem s_valid12 (B b : Nat) (p n d : Int) (w : World) (h : src B b w) (hr : ringB p n = true) (hd : 0 ≤ d ∧ d ≤ 9) :
    Calls Try.prog 65 #[.pointer (some ⟨b, 0, none⟩), (.agg #[.int .i64 p, .int .i64 n]), .int .i64 d] w (DrawX B b w (fun w' v => ∃ xs, ownR w.heap.size w' v xs ∧ xs.length = d.toNat + 1 ∧ (∀ x ∈ xs, 0 ≤ x ∧ x ≤ p ^ n.toNat - 1) ∧ xs.getD d.toNat 0 = 1)) := by
  obtain ⟨i0, hi, hz0, hz1, hz2⟩ := info_parts infoI
  obtain ⟨D, rfl⟩ : ∃ D : Nat, d = (D : Int) := ⟨d.toNat, by omega⟩
  have hb := h.lt
  have hB := h.ge
  obtain ⟨r1, r2, r3, r4, _, _, _⟩ := ring_facts2 hr
  have HM : Hid (∀ W : World, Calls Try.prog 50 #[.int .i64 p, .int .i64 n] W fun e w' => e = .returned (.int .i64 (p ^ n.toNat)) ∧ W = w') := hid fun W => by
    have := s_modulus p n W (by omega) (by omega) (by omega)
    rw [modu_ring hr] at this
    exact this
  obtain ⟨M, hM⟩ : ∃ M, M = p ^ n.toNat := ⟨_, rfl⟩
  rw [← hM] at HM r3 r4 ⊢
  clear hM
  go_enter Try.func65, Try.ntmps65
  go_wp2_with (go_at_call 50; refine pur (HM.out _) ?_)
  obtain ⟨W0, hW0⟩ : ∃ W0, W0 = w.alloc (Obj.cells #[Value.int .i64 p, .int .i64 n] 25) := ⟨_, rfl⟩
  have hGr0 : Gr b w W0 := by rw [hW0]; exact (Gr.refl b w).alloc _
  have hs0 : src B b W0 := by rw [hW0]; exact h.alloc _
  have hsz0 : W0.heap.size = w.heap.size + 1 := by rw [hW0]; simp
  have HSZ := hid hsz0
  rw [← hW0]
  have hl0 := hGr0.size
  have HGr0 := hid hGr0
  clear hW0 hGr0 hsz0
  go_loopw [8, 9] (fun r i wr => ∃ (k : Nat) (xs : List Int), k ≤ D ∧ i = .int .i64 k ∧ xs.length = k ∧ (∀ x ∈ xs, 0 ≤ x ∧ x ≤ M - 1) ∧ Hid (ownR w.heap.size wr r xs ∧ Gr b w wr ∧ src B b wr)) (fun _ i _ => D - (intOf i).toNat)
  case atStart => exact ⟨0, [], by omega, rfl, rfl, by simp, hid ⟨(by have := (own_made W0).mono hl0; rw [HSZ.out] at this; exact this), HGr0.out.alloc _, hs0.alloc _⟩⟩
  case round =>
    obtain ⟨k, xs, hk, rfl, hxl, hxb, HO⟩ := hrel
    have HXB := hid hxb
    clear hxb hs0 h
    have hs0 := HO.out.2.2
    have hz0' := HO.out.2.1.size
    by_cases hlt : k < D
    · have hltz : (k : Int) < (D : Int) := by omega
      (go_wp2_with fail; refine viaDr (s_next B b _ _ (by assumption) (by omega)) ?_)
      intro x1 u1 hx1 hs1 hl1
      (try dsimp only at hx1)
      go_wp2_with fail
      all_goals (
        refine viaDr (s_next B b _ _ (by assumption) (by omega)) ?_
        intro x2 u2 hx2 hs2 hl2
        (try dsimp only at hx2)
        have hx2' : 0 ≤ x2 ∧ x2 ≤ M - 1 := by omega
        clear hx2
        go_wp2_with fail
        refine viaDr (s_pickA B b _ _ _ [x1, x2, 0] _ _ _ (by simp) rfl rfl hs2 (by decide) (by decide)) ?_
        intro y u4 hy hs4 hl4
        have hyb : 0 ≤ y ∧ y ≤ M - 1 := by
          simp at hy
          omega
        clear hy hx1 hx2' hs1 hs2
        (try simp at hl4)
        have hown := (((HO.out.1.aftD u1 (by omega)).aftD u2 (by omega)).alloc (Obj.cells #[.int .i64 x1, .int .i64 x2, .int .i64 0] 2)).aftD u4 (by omega)
        have hgr := (((HO.out.2.1.aftD u1).aftD u2).alloc (Obj.cells #[.int .i64 x1, .int .i64 x2, .int .i64 0] 2)).aftD u4
        obtain ⟨W, hW⟩ : ∃ W, W = aftD b ((aftD b (aftD b wr u1) u2).alloc (Obj.cells #[.int .i64 x1, .int .i64 x2, .int .i64 0] 2)) u4 := ⟨_, rfl⟩
        rw [← hW] at hown hgr hs4 ⊢
        have HG := hid hgr
        have HS := hid hs4
        have hge := own_row_ge hown
        have HGE := hid hge
        clear hW hl1 hl2 hl4 hs0 HO hgr hs4 hge
        go_wp2_with (at_builtin; refine wpList_append_own _ rfl _ _ 26 rfl (w.heap.size) 2 i0 (.int .i64 0) 1 8 Try.underlying26 hi hz0 hz1 hz2 rfl (by decide) _ _ _ rfl (hown.alloc _) ⟨_, 0, none⟩ 1 1 [.int .i64 (y)] rfl rfl ?c1 ?c2 ?c3 ?c4 ?c5 ?_)
        try case c1 => exact cell_one_new _ _ _
        case c2 => first | rfl | (intro u hu; simp at hu; subst hu; rfl)
        case c3 => first | (unfold maxLen; omega) | (rw [hxl]; unfold maxLen; omega)
        case c4 => first | omega | (rw [hxl]; omega)
        case c5 => first | (have := HG.out.size; omega) | (have := HG.out.size; simp; omega)
        intro v' w1 hown' hgrow _
        have HG1 := hid (grown_newD (HG.out.alloc _) hgrow HGE.out)
        have HS1 := hid (src.grown (HS.out.alloc _) hgrow (fun e => by have := HGE.out b e.symm; omega) (fun k hk => by have := HGE.out k hk; omega))
        have HO1 : Hid (ownR w.heap.size w1 v' (xs ++ [y])) := hid (by first | exact ownR.snocK (xs := xs) hxl hown' | exact ownR.snocK (xs := xs) rfl hown')
        clear hown' hgrow hown
        go_wp2_with fail
        go_roundw
        case rel => exact ⟨k + 1, xs ++ [y], by omega, by go_num, by simp; omega, (fun x hx => (List.mem_append.1 hx).elim (HXB.out x) (fun hx => by simp at hx; omega)), hid ⟨HO1.out, HG1.out, HS1.out⟩⟩
        case measure => simp only [intOf]; omega)
    · obtain rfl : k = D := by omega
      have hltz : ¬ (k : Int) < (k : Int) := by omega
      have hown := HO.out.1
      have hgr := HO.out.2.1
      have HG := hid hgr
      have HS := hid hs0
      have hge := own_row_ge hown
      have HGE := hid hge
      clear hs0 HO hgr hge
      go_wp2_with (at_builtin; refine wpList_append_own _ rfl _ _ 26 rfl (w.heap.size) 2 i0 (.int .i64 0) 1 8 Try.underlying26 hi hz0 hz1 hz2 rfl (by decide) _ _ _ rfl (hown.alloc _) ⟨_, 0, none⟩ 1 1 [.int .i64 (1)] rfl rfl ?c1 ?c2 ?c3 ?c4 ?c5 ?_)
      try case c1 => exact cell_one_new _ _ _
      case c2 => first | rfl | (intro u hu; simp at hu; subst hu; rfl)
      case c3 => first | (unfold maxLen; omega) | (rw [hxl]; unfold maxLen; omega)
      case c4 => first | omega | (rw [hxl]; omega)
      case c5 => first | (have := HG.out.size; omega) | (have := HG.out.size; simp; omega)
      intro v' w1 hown' hgrow _
      have HG1 := hid (grown_newD (HG.out.alloc _) hgrow HGE.out)
      have HS1 := hid (src.grown (HS.out.alloc _) hgrow (fun e => by have := HGE.out b e.symm; omega) (fun k hk => by have := HGE.out k hk; omega))
      have HO1 : Hid (ownR w.heap.size w1 v' (xs ++ [1])) := hid (by first | exact ownR.snocK (xs := xs) hxl hown' | exact ownR.snocK (xs := xs) rfl hown')
      clear hown' hgrow hown
      go_wp2_with fail
      go_ret
      exact ⟨_, rfl, ⟨_, HO1.out, by simp; omega, (fun x hx => (List.mem_append.1 hx).elim (HXB.out x) (fun hx => by simp at hx; omega)), by rw [Int.toNat_natCast, ← hxl]; simp [List.getD_eq_getElem?_getD]⟩, HG1.out, HS1.out⟩
end Go.Proofs.Ytflmoopiajhadaa
