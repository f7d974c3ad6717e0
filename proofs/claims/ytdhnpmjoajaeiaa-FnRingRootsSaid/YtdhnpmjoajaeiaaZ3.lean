/- Draws of polynomials, rarely one that is none; polynomials in a ring. -/
import Derived.Test.YtdhnpmjoajaeiaaZ2
namespace Go.Proofs.Ytdhnpmjoajaeiaa
open Go Go.RowKit

set_option maxRecDepth 20000 in
set_option maxHeartbeats 8000000 in
theorem s_draw6 (B b : Nat) (w : World) (h : src B b w) :
    Calls Try.prog 59 #[.pointer (some ⟨b, 0, none⟩)] w (DrawX B b w (fun w' v => ∃ xs, ownR w.heap.size w' v xs ∧ xs.length ≤ 11)) := by
  obtain ⟨i0, hi, hz0, hz1, hz2⟩ := info_parts infoI
  have hb := h.lt
  have hB := h.ge
  go_enter Try.func59, Try.ntmps59
  (go_wp2_with fail; refine viaDr (s_next B b _ _ (by assumption) (by omega)) ?_)
  intro d u0 hd hs0 hl0
  (try dsimp only at hd)
  go_wp2_with fail
  refine viaDX (s_valid6 B b _ _ hs0 (by omega)) ?_
  intro t u1 ht hs1 hl1
  obtain ⟨xs, own1, hxl⟩ := ht
  obtain ⟨a5, c5, hsh, _, _⟩ := own1.rd
  subst hsh
  obtain ⟨g, rfl, hg1, hg2⟩ := own_head own1 (by omega)
  have hx10 : 1 ≤ xs.length ∧ xs.length ≤ 10 := by omega
  have own2 : ownR w.heap.size (aftD b (aftD b w u0) u1) (.slice (some ⟨g, 0, none⟩) xs.length c5) xs := own1.mono (by omega)
  have hgr := ((Gr.refl b w).aftD u0).aftD u1
  obtain ⟨W, hW⟩ : ∃ W, W = aftD b (aftD b w u0) u1 := ⟨_, rfl⟩
  rw [← hW] at own2 hs1 hgr ⊢
  have HG := hid hgr
  have HO := hid own2
  have hWl : w.heap.size ≤ W.heap.size := hgr.size
  clear hW own1 own2 hs0 hl0 hl1 hgr hxl hd hg2 hg1
  (go_wp2_with fail; refine viaDr (s_next B b _ _ (by assumption) (by omega)) ?_)
  intro x v hx hs2 hl2
  (try dsimp only at hx)
  have own3 := HO.out.aftD v (by omega)
  have hgr := HG.out.aftD v
  obtain ⟨V, hV⟩ : ∃ V, V = aftD b W v := ⟨_, rfl⟩
  rw [← hV] at own3 hs2 hgr ⊢
  have HG3 := hid hgr
  have HO3 := hid own3
  have hge := own_row_ge own3
  have HGE := hid hge
  have hVl : w.heap.size ≤ V.heap.size := hgr.size
  have hgg := hge g rfl
  clear hV hs1 HG HO hl2 hgr own3 hge
  by_cases h0 : x = 0
  · subst h0
    have HS := hid hs2
    go_wp2_with (at_builtin; refine wpList_append_own _ rfl _ _ 24 rfl (w.heap.size) 2 i0 (.int .i64 0) 1 8 Try.underlying24 hi hz0 hz1 hz2 rfl (by decide) _ _ _ rfl (HO3.out.alloc _) ⟨_, 0, none⟩ 1 1 [.int .i64 (0)] rfl rfl ?c1 ?c2 ?c3 ?c4 ?c5 ?_)
    try case c1 => exact cell_one_new _ _ _
    case c2 => first | rfl | (intro u hu; simp at hu; subst hu; rfl)
    case c3 => unfold maxLen; omega
    case c4 => omega
    case c5 => first | omega | (simp; omega)
    intro v' w1 hown' hgrow _
    have HG1 := hid (grown_newD (HG3.out.alloc _) hgrow HGE.out)
    have HS1 := hid (src.grown (HS.out.alloc _) hgrow (fun e => by have := HGE.out b e.symm; omega) (fun k hk => by have := HGE.out k hk; omega))
    have HO1 : Hid (ownR w.heap.size w1 v' (xs ++ [0])) := hid (ownR.snocK (xs := xs) rfl hown')
    clear hown' hgrow
    go_wp2_with fail
    go_ret
    exact ⟨_, rfl, ⟨_, HO1.out, by simp; omega⟩, HG1.out, HS1.out⟩
  have h0' : (x == 0) = false := by simpa using h0
  by_cases h1 : x = 1
  · subst h1
    go_wp2_with fail
    refine viaDr (s_pickA B b _ _ _ [1000000, 1000001, -1000000] _ _ _ (by simp) rfl rfl hs2 (by decide) (by decide)) ?_
    intro y u4 hy hs4 hl4
    clear hy
    (try simp at hl4)
    have own4 := (HO3.out.alloc (Obj.cells #[.int .i64 1000000, .int .i64 1000001, .int .i64 (-1000000)] 2)).aftD u4 (by omega)
    have hgr4 := (HG3.out.alloc (Obj.cells #[.int .i64 1000000, .int .i64 1000001, .int .i64 (-1000000)] 2)).aftD u4
    obtain ⟨U, hU⟩ : ∃ U, U = aftD b (V.alloc (Obj.cells #[.int .i64 1000000, .int .i64 1000001, .int .i64 (-1000000)] 2)) u4 := ⟨_, rfl⟩
    rw [← hU] at own4 hgr4 hs4 ⊢
    have hc0 := own_cell own4 (j := 0) (by omega)
    have hst := own_set own4 0 y
    obtain ⟨hc1, hc2⟩ := hc0
    have HST := hid hst
    have HG4 := hid hgr4
    have hz : (0 : Int) < (xs.length : Int) := by omega
    clear hU hs2 hl4 own4 hst hgr4
    go_wp2_with fail
    go_ret
    exact ⟨_, rfl, ⟨_, HST.out.1, by rw [List.length_set]; omega⟩, HG4.out.set (by omega), hs4.set (by omega) (by omega) _⟩
  have h1' : (x == 1) = false := by simpa using h1
  by_cases h2 : x = 2
  · subst h2
    (go_wp2_with fail; refine viaDr (s_next B b _ _ (by assumption) (by omega)) ?_)
    intro q u4 hq hs4 hl4
    (try dsimp only at hq)
    go_wp2_with fail
    refine viaDX (s_valid6 B b _ _ hs4 (by omega)) ?_
    intro t u5 ht hs5 hl5
    obtain ⟨ys, own5, hyl⟩ := ht
    go_wp2_with fail
    go_ret
    exact ⟨_, rfl, ⟨ys, own5.mono (by omega), by omega⟩, (HG3.out.aftD _).aftD _, hs5⟩
  have h2' : (x == 2) = false := by simpa using h2
  by_cases h3 : x = 3
  · subst h3
    go_wp2_with fail
    go_ret
    exact ⟨_, rfl, ⟨[], (own_made V).mono hVl, by simp⟩, HG3.out.alloc _, hs2.alloc _⟩
  have h3' : (x == 3) = false := by simpa using h3
  go_wp2_with fail
  go_ret
  exact ⟨_, rfl, ⟨xs, HO3.out, by omega⟩, HG3.out, hs2⟩

end Go.Proofs.Ytdhnpmjoajaeiaa
