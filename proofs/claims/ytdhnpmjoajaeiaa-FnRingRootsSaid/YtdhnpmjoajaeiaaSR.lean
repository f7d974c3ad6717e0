/- Draws for the law on roots: a ring and a polynomial. -/
import Derived.Test.YtdhnpmjoajaeiaaZH
namespace Go.Proofs.Ytdhnpmjoajaeiaa
open Go Go.RowKit

set_option maxRecDepth 20000 in
set_option maxHeartbeats 8000000 in
theorem s_DrawRootsInRing (B : Nat) (a : Option Addr) (len cap : Nat) (w : World) (h : rdB B w a len) (hl : len ≤ 4096) (hB : B ≤ w.heap.size) :
    Calls Try.prog 12 #[.slice a len cap] w fun e w' => ∃ (p n : Int) (s : Value) (xs : List Int), e = .returned (.tuple #[.agg #[.int .i64 p, .int .i64 n], s]) ∧ ownR w.heap.size w' s xs ∧ xs.length ≤ 11 ∧ Below w.heap.size w w' := by
  go_enter Try.func12, Try.ntmps12
  go_wp2_with fail
  refine viaF (s_from B a len cap _ (h.of fun j o v hj hv => by rw [alloc_cell, if_neg (by omega)]; exact hv) hl (by simp; omega)) ?_
  intro b u0 hs0 hb0 hl0 hl1
  simp at hb0 hl0
  go_wp2_with fail
  refine viaDX (s_draw11 B b _ hs0) ?_
  intro v u hv hs hl2
  obtain ⟨p, n, s, xs, rfl, own, hxl⟩ := hv
  obtain ⟨a5, c5, hsh, _, _⟩ := own.rd
  subst hsh
  have hres : resR w.heap.size (aftD b (aft (w.alloc (Obj.cells #[Value.int IntKind.i64 0, Value.int IntKind.i64 0] 27)) u0) u) := by
    intro j hj
    obtain rfl | rfl : j = 0 ∨ j = 1 := by omega
    all_goals (rw [aftD_frozen, aftD_cell, if_pos (by omega), if_pos (by omega), aft_cell, aft_frozen, if_pos (by simp), if_pos (by simp)]; simp [go_sem])
  have hE : Ext w.heap.size w (aftD b (aft (w.alloc (Obj.cells #[Value.int IntKind.i64 0, Value.int IntKind.i64 0] 27)) u0) u) := (((Ext.refl w).alloc _).aft _).aftD _ (by omega)
  obtain ⟨V, hV⟩ : ∃ V, V = aftD b (aft (w.alloc (Obj.cells #[Value.int IntKind.i64 0, Value.int IntKind.i64 0] 27)) u0) u := ⟨_, rfl⟩
  have own2 : ownR (w.heap.size + 1) V (.slice a5 xs.length c5) xs := by rw [hV]; exact own.mono (by omega)
  rw [← hV] at hres hE ⊢
  obtain ⟨e0, he0⟩ := Option.isSome_iff_exists.1 (hres 0 (by omega)).2
  obtain ⟨e1, he1⟩ := Option.isSome_iff_exists.1 (hres 1 (by omega)).2
  have hf0 := (hres 0 (by omega)).1
  have hf1 := (hres 1 (by omega)).1
  have HO := hid own2
  have HE := hid hE
  clear hV hs0 hs hres own own2 hE
  go_wp2_with fail
  exact bodyPost_ret (v := .tuple #[.agg #[Value.int IntKind.i64 p, Value.int IntKind.i64 n], .slice a5 xs.length c5]) (by first | (simp [results, go_sem, he0, he1]; done) | simp [results, go_sem, he0, he1, ↓IntWalk.iteOmega]) rfl ⟨p, n, _, xs, rfl, ((HO.out.setCell _ _ _ _ (by omega)).setCell _ _ _ _ (by omega)).mono (by omega), hxl, Ext.bel ((HE.out.setCell _ _ _ _ (by omega)).setCell _ _ _ _ (by omega))⟩

theorem ownR.setOff {B : Nat} {w : World} {v : Value} {xs : List Int} (h : ownR B w v xs) (b o : Nat) (k : Option Nat) (x : Value) (hb : ∀ j, v.ownBlock = some j → j ≠ b) : ownR B (w.setCell ⟨b, o, k⟩ x) v xs := by
  refine ownR.kept h fun j _ hj => ?_
  have h1 := hb j hj
  simp only [World.setCell, Array.getElem?_modify]
  rw [if_neg (by show ¬ b = j; omega)]
/-- The ring's own cells can be written. -/
structure stC (B b : Nat) (p n : Int) (K : Nat) (w X : World) : Prop where
  l : stL B b p n K w X
  fz : X.frozen? ⟨K, 1, none⟩ = false
theorem stC.next {B b K : Nat} {p n : Int} {w X Y : World} (h : stC B b p n K w X) (hg : Gr b X Y) (hs : src B b Y) : stC B b p n K w Y := by
  have h2 := h.l.kx
  have h3 := h.l.bk
  exact ⟨h.l.next hg hs, by rw [World.frozen?_of_block (a := ⟨K, 1, none⟩) (hg.block K h2 (fun e => by injection e with e; omega))]; exact h.fz⟩
theorem stC.put {B b K : Nat} {p n : Int} {w X : World} (h : stC B b p n K w X) (v : Int) : stC B b p v K w (X.setCell ⟨K, 1, none⟩ (.int .i64 v)) := by
  have h1 := h.l.wb
  have h2 := h.l.kx
  have h3 := h.l.bk
  have h4 := h.l.srcw.ge
  have hw := h.l.ext.2
  have hb9 := h.l.srcw.lt
  refine ⟨⟨h.l.ext.setCell _ _ _ _ (by omega), h.l.srcw.set (by omega) (by omega) _, fun o => ?_, fun k hk => ?_, h1, h3, by simp [World.setCell]; omega⟩, by rw [World.frozen?_setCell]; exact h.fz⟩
  · rw [set_cell]
    have e1 := h.l.ring 1
    simp at e1
    split
    · rename_i hq
      rw [← hq.2, e1]
      rfl
    · rename_i hq
      rw [h.l.ring o]
      match o with
      | 0 => rfl
      | 1 => exact absurd ⟨rfl, rfl⟩ hq
      | o + 2 => rfl
  · rw [World.frozen?_setCell, set_cell, if_neg (by omega)]
    exact h.l.res k hk
/-- The number that a ring's cells hold as precision. -/
def cz (k : Nat) (w : World) : Nat := match w.cell? ⟨k, 1, none⟩ with | some (.int _ n) => n.toNat | _ => 0
theorem stC.cz {B b K : Nat} {p n : Int} {w X : World} (h : stC B b p n K w X) : cz K X = n.toNat := by
  have := h.l.ring 1
  simp at this
  unfold Go.Proofs.Ytdhnpmjoajaeiaa.cz
  rw [this]
set_option maxRecDepth 20000 in
set_option maxHeartbeats 16000000 in
theorem s_DrawCountRootsInRing (B : Nat) (a : Option Addr) (len cap : Nat) (w : World) (h : rdB B w a len) (hl : len ≤ 4096) (hB : B ≤ w.heap.size) :
    Calls Try.prog 15 #[.slice a len cap] w fun e w' => ∃ (p n : Int) (s : Value) (xs : List Int), e = .returned (.tuple #[.agg #[.int .i64 p, .int .i64 n], s]) ∧ ownR w.heap.size w' s xs ∧ xs.length ≤ 11 ∧ Below w.heap.size w w' := by
  go_enter Try.func15, Try.ntmps15
  go_wp2_with fail
  refine viaF (s_from B a len cap _ (h.of fun j o v hj hv => by rw [alloc_cell, if_neg (by omega)]; exact hv) hl (by simp; omega)) ?_
  intro b u0 hs0 hb0 hl0 hl1
  simp at hb0 hl0
  go_wp2_with fail
  refine viaDX (s_draw11 B b _ hs0) ?_
  intro v u hv hs hl2
  obtain ⟨p, n, s, xs, rfl, own, hxl⟩ := hv
  obtain ⟨a5, c5, hsh, _, _⟩ := own.rd
  subst hsh
  have HXL := hid hxl
  clear hxl
  go_wp2_with fail
  obtain ⟨V, hV⟩ : ∃ V, V = aftD b (aft (w.alloc (Obj.cells #[Value.int IntKind.i64 0, Value.int IntKind.i64 0] 27)) u0) u := ⟨_, rfl⟩
  obtain ⟨K, hK⟩ : ∃ K, K = V.heap.size := ⟨_, rfl⟩
  have hres : resR w.heap.size V := by
    intro j hj
    obtain rfl | rfl : j = 0 ∨ j = 1 := by omega
    all_goals (rw [hV, aftD_frozen, aftD_cell, if_pos (by omega), if_pos (by omega), aft_cell, aft_frozen, if_pos (by simp), if_pos (by simp)]; simp [go_sem])
  have hE : Ext w.heap.size w V := by rw [hV]; exact (((Ext.refl w).alloc _).aft _).aftD _ (by omega)
  have own2 : ownR (b + 1) V (.slice a5 xs.length c5) xs := by rw [hV]; exact own.mono (by omega)
  rw [← hV] at hs hl2 ⊢
  have hbK : b < K := by omega
  clear hV own
  obtain ⟨X, hX⟩ : ∃ X, X = V.alloc (Obj.cells #[Value.int IntKind.i64 p, Value.int IntKind.i64 n] 27) := ⟨_, rfl⟩
  have hST9 : stC B b p n K w X := by
    refine ⟨⟨by rw [hX]; exact hE.alloc _, by rw [hX]; exact hs.alloc _, fun o => by rw [hX, alloc_cell, if_pos hK], fun k hk => ?_, by omega, hbK, by rw [hX, hK]; simp⟩, by rw [hX, alloc_frozen, if_pos hK]⟩
    rw [hX, alloc_frozen, alloc_cell, if_neg (by omega), if_neg (by omega)]
    exact hres k hk
  -- the row lies beside the ring's cells
  have hga : ∀ k, (Value.slice a5 xs.length c5).ownBlock = some k → k ≠ K := fun k hk => by
    have := (World.ownsRow.lt own2 k hk).2
    omega
  have own3 : ownR (b + 1) X (.slice a5 xs.length c5) xs := by rw [hX]; exact own2.alloc _
  rw [← hX, ← hK]
  have hwb : w.heap.size < b := by omega
  clear hX hK hs hres hE hl2 hl1 hl0 hs0 own2 hb0
  have HGA := hid hga
  have HST0 := hid hST9
  have HF0 := hid own3
  clear hST9 own3 hga
  have hKb : K ≠ b := by omega
  have hKR : K ≠ w.heap.size := by omega
  go_loopw [] (fun wr => ∃ (n' : Int), Hid (stC B b p n' K w wr) ∧ Hid (ownR (b + 1) wr (.slice a5 xs.length c5) xs)) (fun wr => cz K wr)
  case atStart => exact ⟨n, HST0, HF0⟩
  case round =>
    clear HST0 HF0
    obtain ⟨n', HST, HF⟩ := hrel
    obtain ⟨n, hn⟩ : ∃ n, n = n' := ⟨_, rfl⟩
    obtain ⟨X, hX⟩ : ∃ X, X = wr := ⟨_, rfl⟩
    rw [← hn, ← hX] at HST
    rw [← hX] at HF ⊢
    have hcz := HST.out.cz
    clear hn hX
    obtain ⟨c0, hc0⟩ : ∃ c0, c0 = cz K X := ⟨_, rfl⟩
    rw [← hc0] at hcz ⊢
    clear hc0
    cases hr : ringB p n
    · (obtain ⟨e0, he0, e1, he1, hf0, hf1, gX, hKX, hfK⟩ : ∃ e0, X.cell? ⟨w.heap.size, 0, none⟩ = some e0 ∧ ∃ e1, X.cell? ⟨w.heap.size, 1, none⟩ = some e1 ∧ X.frozen? ⟨w.heap.size, 0, none⟩ = false ∧ X.frozen? ⟨w.heap.size, 1, none⟩ = false ∧ (∀ o, X.cell? ⟨K, o, none⟩ = #[Value.int .i64 p, .int .i64 n][o]?) ∧ K < X.heap.size ∧ X.frozen? ⟨K, 1, none⟩ = false := (by obtain ⟨q1, q2⟩ := HST.out.l.res 0 (by omega); obtain ⟨q3, q4⟩ := HST.out.l.res 1 (by omega); obtain ⟨e0, h0⟩ := Option.isSome_iff_exists.1 q2; obtain ⟨e1, h1⟩ := Option.isSome_iff_exists.1 q4; exact ⟨e0, h0, e1, h1, q1, q3, HST.out.l.ring, HST.out.l.kx, HST.out.fz⟩)); have g0 := gX 0; have g1 := gX 1; simp at g0 g1
      go_wp2_with fail
      refine via (s_IsRing _ _ _) ?_
      rw [hr]
      intro uu zz
      try simp at zz
      (obtain ⟨X9, hX9⟩ : ∃ Y, Y = aft X uu := ⟨_, rfl⟩); have hST9 : stC B b p n K w X9 := (by rw [hX9]; exact HST.out.next ((Gr.refl b _).aft _) (HST.out.l.srcw.aft _)); have own9 : ownR (b + 1) X9 (.slice a5 xs.length c5) xs := (by rw [hX9]; exact (by repeat (with_reducible first | exact HF.out | apply ownR.drew | apply ownR.aft | (refine ownR.aftD ?_ _ (by omega)) | apply ownR.alloc | (refine ownR.setCell ?_ _ _ _ _ (by omega))))); rw [← hX9]; clear hX9 HST HF zz; (obtain ⟨X, hX9⟩ : ∃ X, X = X9 := ⟨_, rfl⟩); rw [← hX9] at hST9 own9 ⊢; clear hX9; have HST := hid hST9; have HF := hid own9; clear hST9 own9
      (obtain ⟨e0, he0, e1, he1, hf0, hf1, gX, hKX, hfK⟩ : ∃ e0, X.cell? ⟨w.heap.size, 0, none⟩ = some e0 ∧ ∃ e1, X.cell? ⟨w.heap.size, 1, none⟩ = some e1 ∧ X.frozen? ⟨w.heap.size, 0, none⟩ = false ∧ X.frozen? ⟨w.heap.size, 1, none⟩ = false ∧ (∀ o, X.cell? ⟨K, o, none⟩ = #[Value.int .i64 p, .int .i64 n][o]?) ∧ K < X.heap.size ∧ X.frozen? ⟨K, 1, none⟩ = false := (by obtain ⟨q1, q2⟩ := HST.out.l.res 0 (by omega); obtain ⟨q3, q4⟩ := HST.out.l.res 1 (by omega); obtain ⟨e0, h0⟩ := Option.isSome_iff_exists.1 q2; obtain ⟨e1, h1⟩ := Option.isSome_iff_exists.1 q4; exact ⟨e0, h0, e1, h1, q1, q3, HST.out.l.ring, HST.out.l.kx, HST.out.fz⟩)); have g0 := gX 0; have g1 := gX 1; simp at g0 g1
      go_wp2_with fail
      exact bodyPost_ret (v := .tuple #[.agg #[Value.int IntKind.i64 p, Value.int IntKind.i64 n], .slice a5 xs.length c5]) (by first | (simp [results, go_sem, he0, he1]; done) | simp [results, go_sem, he0, he1, ↓IntWalk.iteOmega]) rfl ⟨p, n, _, xs, rfl, ownR.mono (show ownR (b + 1) _ _ _ from (by repeat (with_reducible first | exact HF.out | apply ownR.drew | apply ownR.aft | (refine ownR.aftD ?_ _ (by omega)) | apply ownR.alloc | (refine ownR.setCell ?_ _ _ _ _ (by omega))))) (by omega), HXL.out, (Ext.bel (by repeat (with_reducible first | exact HST.out.l.ext | apply Ext.drew | apply Ext.alloc | apply Ext.aft | (refine Ext.aftD ?_ _ (by omega)) | (refine Ext.setCell ?_ _ _ _ _ (by omega)))))⟩
    · obtain ⟨r1, r2, r3, r4, _, _, _⟩ := ring_facts2 hr
      have HM : Hid (∀ W : World, Calls Try.prog 38 #[.int .i64 p, .int .i64 n] W fun e w' => e = .returned (.int .i64 (p ^ n.toNat)) ∧ W = w') := hid fun W => by
        have := s_modulus p n W (by omega) (by omega) (by omega)
        rw [modu_ring hr] at this
        exact this
      obtain ⟨M, hM⟩ : ∃ M, M = p ^ n.toNat := ⟨_, rfl⟩
      rw [← hM] at HM r3 r4
      clear hM
      have HRB := hid hr
      clear hr
      (obtain ⟨e0, he0, e1, he1, hf0, hf1, gX, hKX, hfK⟩ : ∃ e0, X.cell? ⟨w.heap.size, 0, none⟩ = some e0 ∧ ∃ e1, X.cell? ⟨w.heap.size, 1, none⟩ = some e1 ∧ X.frozen? ⟨w.heap.size, 0, none⟩ = false ∧ X.frozen? ⟨w.heap.size, 1, none⟩ = false ∧ (∀ o, X.cell? ⟨K, o, none⟩ = #[Value.int .i64 p, .int .i64 n][o]?) ∧ K < X.heap.size ∧ X.frozen? ⟨K, 1, none⟩ = false := (by obtain ⟨q1, q2⟩ := HST.out.l.res 0 (by omega); obtain ⟨q3, q4⟩ := HST.out.l.res 1 (by omega); obtain ⟨e0, h0⟩ := Option.isSome_iff_exists.1 q2; obtain ⟨e1, h1⟩ := Option.isSome_iff_exists.1 q4; exact ⟨e0, h0, e1, h1, q1, q3, HST.out.l.ring, HST.out.l.kx, HST.out.fz⟩)); have g0 := gX 0; have g1 := gX 1; simp at g0 g1
      go_wp2_with fail
      refine via (s_IsRing _ _ _) ?_
      rw [HRB.out]
      intro uu zz
      try simp at zz
      clear he0 he1 hf0 hf1 gX g0 g1 hKX hfK
      (obtain ⟨X9, hX9⟩ : ∃ Y, Y = aft X uu := ⟨_, rfl⟩); have hST9 : stC B b p n K w X9 := (by rw [hX9]; exact HST.out.next ((Gr.refl b _).aft _) (HST.out.l.srcw.aft _)); have own9 : ownR (b + 1) X9 (.slice a5 xs.length c5) xs := (by rw [hX9]; exact (by repeat (with_reducible first | exact HF.out | apply ownR.drew | apply ownR.aft | (refine ownR.aftD ?_ _ (by omega)) | apply ownR.alloc | (refine ownR.setCell ?_ _ _ _ _ (by omega))))); rw [← hX9]; clear hX9 HST HF zz; (obtain ⟨X, hX9⟩ : ∃ X, X = X9 := ⟨_, rfl⟩); rw [← hX9] at hST9 own9 ⊢; clear hX9; have HST := hid hST9; have HF := hid own9; clear hST9 own9
      by_cases hgo : 20000 < M
      case neg =>
        have hgo' : decide (20000 < M) = false := by simpa using hgo
        (obtain ⟨e0, he0, e1, he1, hf0, hf1, gX, hKX, hfK⟩ : ∃ e0, X.cell? ⟨w.heap.size, 0, none⟩ = some e0 ∧ ∃ e1, X.cell? ⟨w.heap.size, 1, none⟩ = some e1 ∧ X.frozen? ⟨w.heap.size, 0, none⟩ = false ∧ X.frozen? ⟨w.heap.size, 1, none⟩ = false ∧ (∀ o, X.cell? ⟨K, o, none⟩ = #[Value.int .i64 p, .int .i64 n][o]?) ∧ K < X.heap.size ∧ X.frozen? ⟨K, 1, none⟩ = false := (by obtain ⟨q1, q2⟩ := HST.out.l.res 0 (by omega); obtain ⟨q3, q4⟩ := HST.out.l.res 1 (by omega); obtain ⟨e0, h0⟩ := Option.isSome_iff_exists.1 q2; obtain ⟨e1, h1⟩ := Option.isSome_iff_exists.1 q4; exact ⟨e0, h0, e1, h1, q1, q3, HST.out.l.ring, HST.out.l.kx, HST.out.fz⟩)); have g0 := gX 0; have g1 := gX 1; simp at g0 g1
        go_wp2_with (go_at_call 38; refine pur (HM.out _) ?_)
        exact bodyPost_ret (v := .tuple #[.agg #[Value.int IntKind.i64 p, Value.int IntKind.i64 n], .slice a5 xs.length c5]) (by first | (simp [results, go_sem, he0, he1]; done) | simp [results, go_sem, he0, he1, ↓IntWalk.iteOmega]) rfl ⟨p, n, _, xs, rfl, ownR.mono (show ownR (b + 1) _ _ _ from (by repeat (with_reducible first | exact HF.out | apply ownR.drew | apply ownR.aft | (refine ownR.aftD ?_ _ (by omega)) | apply ownR.alloc | (refine ownR.setCell ?_ _ _ _ _ (by omega))))) (by omega), HXL.out, (Ext.bel (by repeat (with_reducible first | exact HST.out.l.ext | apply Ext.drew | apply Ext.alloc | apply Ext.aft | (refine Ext.aftD ?_ _ (by omega)) | (refine Ext.setCell ?_ _ _ _ _ (by omega)))))⟩
      have hgo' : decide (20000 < M) = true := by simpa using hgo
      by_cases hn1 : 1 < n
      case neg =>
        have hn1' : decide (1 < n) = false := by simpa using hn1
        (obtain ⟨e0, he0, e1, he1, hf0, hf1, gX, hKX, hfK⟩ : ∃ e0, X.cell? ⟨w.heap.size, 0, none⟩ = some e0 ∧ ∃ e1, X.cell? ⟨w.heap.size, 1, none⟩ = some e1 ∧ X.frozen? ⟨w.heap.size, 0, none⟩ = false ∧ X.frozen? ⟨w.heap.size, 1, none⟩ = false ∧ (∀ o, X.cell? ⟨K, o, none⟩ = #[Value.int .i64 p, .int .i64 n][o]?) ∧ K < X.heap.size ∧ X.frozen? ⟨K, 1, none⟩ = false := (by obtain ⟨q1, q2⟩ := HST.out.l.res 0 (by omega); obtain ⟨q3, q4⟩ := HST.out.l.res 1 (by omega); obtain ⟨e0, h0⟩ := Option.isSome_iff_exists.1 q2; obtain ⟨e1, h1⟩ := Option.isSome_iff_exists.1 q4; exact ⟨e0, h0, e1, h1, q1, q3, HST.out.l.ring, HST.out.l.kx, HST.out.fz⟩)); have g0 := gX 0; have g1 := gX 1; simp at g0 g1
        go_wp2_with (go_at_call 38; refine pur (HM.out _) ?_)
        exact bodyPost_ret (v := .tuple #[.agg #[Value.int IntKind.i64 p, Value.int IntKind.i64 n], .slice a5 xs.length c5]) (by first | (simp [results, go_sem, he0, he1]; done) | simp [results, go_sem, he0, he1, ↓IntWalk.iteOmega]) rfl ⟨p, n, _, xs, rfl, ownR.mono (show ownR (b + 1) _ _ _ from (by repeat (with_reducible first | exact HF.out | apply ownR.drew | apply ownR.aft | (refine ownR.aftD ?_ _ (by omega)) | apply ownR.alloc | (refine ownR.setCell ?_ _ _ _ _ (by omega))))) (by omega), HXL.out, (Ext.bel (by repeat (with_reducible first | exact HST.out.l.ext | apply Ext.drew | apply Ext.alloc | apply Ext.aft | (refine Ext.aftD ?_ _ (by omega)) | (refine Ext.setCell ?_ _ _ _ _ (by omega)))))⟩
      have hn1' : decide (1 < n) = true := by simpa using hn1
      (obtain ⟨e0, he0, e1, he1, hf0, hf1, gX, hKX, hfK⟩ : ∃ e0, X.cell? ⟨w.heap.size, 0, none⟩ = some e0 ∧ ∃ e1, X.cell? ⟨w.heap.size, 1, none⟩ = some e1 ∧ X.frozen? ⟨w.heap.size, 0, none⟩ = false ∧ X.frozen? ⟨w.heap.size, 1, none⟩ = false ∧ (∀ o, X.cell? ⟨K, o, none⟩ = #[Value.int .i64 p, .int .i64 n][o]?) ∧ K < X.heap.size ∧ X.frozen? ⟨K, 1, none⟩ = false := (by obtain ⟨q1, q2⟩ := HST.out.l.res 0 (by omega); obtain ⟨q3, q4⟩ := HST.out.l.res 1 (by omega); obtain ⟨e0, h0⟩ := Option.isSome_iff_exists.1 q2; obtain ⟨e1, h1⟩ := Option.isSome_iff_exists.1 q4; exact ⟨e0, h0, e1, h1, q1, q3, HST.out.l.ring, HST.out.l.kx, HST.out.fz⟩)); have g0 := gX 0; have g1 := gX 1; simp at g0 g1
      go_wp2_with (go_at_call 38; refine pur (HM.out _) ?_)
      refine viaDr (s_next B b _ _ HST.out.l.srcw (by omega)) ?_
      intro x7 v7 hx7 hs7 hl7
      (try dsimp only at hx7)
      clear he0 he1 hf0 hf1 gX g0 g1 hKX hfK e0 e1
      obtain ⟨X9, hX9⟩ : ∃ Y, Y = aftD b X v7 := ⟨_, rfl⟩
      have hST9 : stC B b p n K w X9 := by rw [hX9]; exact HST.out.next ((Gr.refl b _).aftD _) hs7
      have own9 : ownR (b + 1) X9 (.slice a5 xs.length c5) xs := by rw [hX9]; exact (by repeat (with_reducible first | exact HF.out | apply ownR.drew | apply ownR.aft | (refine ownR.aftD ?_ _ (by omega)) | apply ownR.alloc | (refine ownR.setCell ?_ _ _ _ _ (by omega))))
      rw [← hX9]
      clear hX9 HST HF hs7 hl7
      obtain ⟨X, hX9⟩ : ∃ X, X = X9 := ⟨_, rfl⟩
      rw [← hX9] at hST9 own9 ⊢
      clear hX9
      have HST := hid hST9
      have HF := hid own9
      clear hST9 own9
      by_cases h7 : 0 < x7
      case neg =>
        have h7' : decide (0 < x7) = false := by simpa using h7
        (obtain ⟨e0, he0, e1, he1, hf0, hf1, gX, hKX, hfK⟩ : ∃ e0, X.cell? ⟨w.heap.size, 0, none⟩ = some e0 ∧ ∃ e1, X.cell? ⟨w.heap.size, 1, none⟩ = some e1 ∧ X.frozen? ⟨w.heap.size, 0, none⟩ = false ∧ X.frozen? ⟨w.heap.size, 1, none⟩ = false ∧ (∀ o, X.cell? ⟨K, o, none⟩ = #[Value.int .i64 p, .int .i64 n][o]?) ∧ K < X.heap.size ∧ X.frozen? ⟨K, 1, none⟩ = false := (by obtain ⟨q1, q2⟩ := HST.out.l.res 0 (by omega); obtain ⟨q3, q4⟩ := HST.out.l.res 1 (by omega); obtain ⟨e0, h0⟩ := Option.isSome_iff_exists.1 q2; obtain ⟨e1, h1⟩ := Option.isSome_iff_exists.1 q4; exact ⟨e0, h0, e1, h1, q1, q3, HST.out.l.ring, HST.out.l.kx, HST.out.fz⟩)); have g0 := gX 0; have g1 := gX 1; simp at g0 g1
        go_wp2_with fail
        exact bodyPost_ret (v := .tuple #[.agg #[Value.int IntKind.i64 p, Value.int IntKind.i64 n], .slice a5 xs.length c5]) (by first | (simp [results, go_sem, he0, he1]; done) | simp [results, go_sem, he0, he1, ↓IntWalk.iteOmega]) rfl ⟨p, n, _, xs, rfl, ownR.mono (show ownR (b + 1) _ _ _ from (by repeat (with_reducible first | exact HF.out | apply ownR.drew | apply ownR.aft | (refine ownR.aftD ?_ _ (by omega)) | apply ownR.alloc | (refine ownR.setCell ?_ _ _ _ _ (by omega))))) (by omega), HXL.out, (Ext.bel (by repeat (with_reducible first | exact HST.out.l.ext | apply Ext.drew | apply Ext.alloc | apply Ext.aft | (refine Ext.aftD ?_ _ (by omega)) | (refine Ext.setCell ?_ _ _ _ _ (by omega)))))⟩
      have h7' : decide (0 < x7) = true := by simpa using h7
      have hq : n.tdiv 2 = n / 2 := Int.tdiv_eq_ediv_of_nonneg (by omega)
      (obtain ⟨e0, he0, e1, he1, hf0, hf1, gX, hKX, hfK⟩ : ∃ e0, X.cell? ⟨w.heap.size, 0, none⟩ = some e0 ∧ ∃ e1, X.cell? ⟨w.heap.size, 1, none⟩ = some e1 ∧ X.frozen? ⟨w.heap.size, 0, none⟩ = false ∧ X.frozen? ⟨w.heap.size, 1, none⟩ = false ∧ (∀ o, X.cell? ⟨K, o, none⟩ = #[Value.int .i64 p, .int .i64 n][o]?) ∧ K < X.heap.size ∧ X.frozen? ⟨K, 1, none⟩ = false := (by obtain ⟨q1, q2⟩ := HST.out.l.res 0 (by omega); obtain ⟨q3, q4⟩ := HST.out.l.res 1 (by omega); obtain ⟨e0, h0⟩ := Option.isSome_iff_exists.1 q2; obtain ⟨e1, h1⟩ := Option.isSome_iff_exists.1 q4; exact ⟨e0, h0, e1, h1, q1, q3, HST.out.l.ring, HST.out.l.kx, HST.out.fz⟩)); have g0 := gX 0; have g1 := gX 1; simp at g0 g1
      go_wp2_with fail
      go_roundw
      case rel => exact ⟨_, hid (HST.out.put (n / 2)), hid (HF.out.setOff _ _ _ _ HGA.out)⟩
      case measure => rw [(HST.out.put (n / 2)).cz]; omega
end Go.Proofs.Ytdhnpmjoajaeiaa
