/- Draws of digits: a number, digits, a number and places. -/
import Derived.Test.YtehdkbopkkgabaaT56
import Derived.Test.YtehdkbopkkgabaaC7
namespace Go.Proofs.Ytehdkbopkkgabaa
open Go Go.RowKit

set_option maxHeartbeats 1000000 in
theorem s_DrawDigitsOf (B : Nat) (a : Option Addr) (len cap : Nat) (w : World) (h : rdB B w a len) (hl : len ≤ 4096) (hB : B ≤ w.heap.size) :
    Calls Try.prog 20 #[.slice a len cap] w fun e w' => ∃ z : Pd, e = .returned ((fun x : Pd => .agg #[.int .i64 x.p, .int .i64 x.v, .int .i64 x.u, .int .i64 x.n]) z) ∧ Below w.heap.size w w' := by
  go_enter Try.func20, Try.ntmps20
  go_wp2_with fail
  refine viaF (s_from B a len cap _ (h.of fun j o v hj hv => by rw [alloc_cell, if_neg (by omega)]; exact hv) hl (by simp; omega)) ?_
  intro b u0 hs0 hb0 hl0 hl1
  simp at hb0 hl0
  go_wp2_with fail
  refine viaDr (s_draw3 B b _ hs0) ?_
  intro x u1 htr hs1 hl2
  clear htr
  obtain ⟨x1, x2, x3, x4⟩ := x
  dsimp only
  go_wp2_with fail
  exact bodyPost_ret (v := .agg #[.int .i64 x1, .int .i64 x2, .int .i64 x3, .int .i64 x4]) (by first | (simp [results, go_sem]; done) | simp [results, go_sem, ↓IntWalk.iteOmega]) rfl ⟨⟨x1, x2, x3, x4⟩, rfl, (by refine Ext.bel ?_; exact ((((((((Ext.refl w).alloc _).aft _).aftD _ (by omega)).setCell _ _ _ _ (by omega)).setCell _ _ _ _ (by omega)).setCell _ _ _ _ (by omega)).setCell _ _ _ _ (by omega)))⟩
set_option maxHeartbeats 1000000 in
theorem s_DrawSumOfDigits (B : Nat) (a : Option Addr) (len cap : Nat) (w : World) (h : rdB B w a len) (hl : len ≤ 4096) (hB : B ≤ w.heap.size) :
    Calls Try.prog 29 #[.slice a len cap] w fun e w' => ∃ z : Pd, e = .returned ((fun x : Pd => .agg #[.int .i64 x.p, .int .i64 x.v, .int .i64 x.u, .int .i64 x.n]) z) ∧ Below w.heap.size w w' := by
  go_enter Try.func29, Try.ntmps29
  go_wp2_with fail
  refine viaF (s_from B a len cap _ (h.of fun j o v hj hv => by rw [alloc_cell, if_neg (by omega)]; exact hv) hl (by simp; omega)) ?_
  intro b u0 hs0 hb0 hl0 hl1
  simp at hb0 hl0
  go_wp2_with fail
  refine viaDr (s_draw3 B b _ hs0) ?_
  intro x u1 htr hs1 hl2
  clear htr
  obtain ⟨x1, x2, x3, x4⟩ := x
  dsimp only
  go_wp2_with fail
  exact bodyPost_ret (v := .agg #[.int .i64 x1, .int .i64 x2, .int .i64 x3, .int .i64 x4]) (by first | (simp [results, go_sem]; done) | simp [results, go_sem, ↓IntWalk.iteOmega]) rfl ⟨⟨x1, x2, x3, x4⟩, rfl, (by refine Ext.bel ?_; exact ((((((((Ext.refl w).alloc _).aft _).aftD _ (by omega)).setCell _ _ _ _ (by omega)).setCell _ _ _ _ (by omega)).setCell _ _ _ _ (by omega)).setCell _ _ _ _ (by omega)))⟩

theorem src.grown {B b : Nat} {w w' : World} {row : Option Nat} (h : src B b w) (hg : w.grownBy w' row) (hr : ∀ k, row = some k → b < k) : src B b w' := by
  have hb := h.lt
  have hB := h.ge
  have blk : ∀ k, k ≤ b → w'.heap[k]? = w.heap[k]? := fun k hk => hg.block k (by omega) (fun e => by have := hr k e.symm; omega)
  obtain ⟨a, len, cap, i, sd, hB, hb, hc, hf, h0, h1, h2, h3, h4, h5⟩ := h
  refine ⟨a, len, cap, i, sd, hB, Nat.lt_of_lt_of_le hb hg.size, fun o => ?_, fun o => ?_, h0, h1, h2, h3, h4, h5.of fun j o v hj hv => ?_⟩
  · rw [← hc o]; unfold World.cell?; rw [blk b (Nat.le_refl _)]
  · rw [← hf o]; unfold World.frozen?; rw [blk b (Nat.le_refl _)]
  · rw [← hv]; unfold World.cell?; rw [blk j (by omega)]
theorem ownR.aftD {B b : Nat} {w : World} {v : Value} {xs : List Int} (h : ownR B w v xs) (u : World) (hb : b < B) : ownR B (aftD b w u) v xs :=
  h.kept fun k hk he => aftD_blk ⟨hk, fun e => by have := own_row_ge h k he; omega⟩
theorem Ext.grown {B : Nat} {w W W' : World} {row : Option Nat} (h : Ext B w W) (hg : W.grownBy W' row) (hr : ∀ k, row = some k → B ≤ k) : Ext B w W' :=
  ⟨Below.grown h.1 hg h.2 hr, Nat.le_trans h.2 hg.size⟩
def lenOf : Value → Nat | .slice _ l _ => l | _ => 0
theorem lenOf_own {B : Nat} {w : World} {v : Value} {xs : List Int} (h : ownR B w v xs) : lenOf v = xs.length := by
  obtain ⟨a, cap, rfl, _⟩ := h.rd; rfl

/-- A call that makes a row, known up to what was drawn. -/
theorem viaL {P : Program} {f : FuncId} {args : Array Value} {w : World} {α : Type} {g : α → Value → Value} {R : Ending → World → Prop}
    (h : Calls P f args w fun e w' => ∃ x r xs, e = .returned (g x r) ∧ ownR w.heap.size w' r xs ∧ xs.length ≤ 40 ∧ Below w.heap.size w w') (hR : ∀ x r xs u, ownR w.heap.size (aft w u) r xs → xs.length ≤ 40 → w.heap.size ≤ (aft w u).heap.size → R (.returned (g x r)) (aft w u)) : Calls P f args w R :=
  h.mono fun e w' ⟨x, r, xs, he, ho, hl, hb⟩ => by subst he; obtain ⟨u, rfl⟩ := aft_ex hb; exact hR x r xs u ho hl (size_aft w u)

set_option maxRecDepth 20000 in
set_option maxHeartbeats 8000000 in
theorem s_DrawFromDigits (B : Nat) (a : Option Addr) (len cap : Nat) (w : World) (h : rdB B w a len) (hl : len ≤ 4096) (hB : B ≤ w.heap.size) :
    Calls Try.prog 23 #[.slice a len cap] w fun e w' => ∃ (z : Int × Int) (r : Value) (xs : List Int), e = .returned ((fun (z : Int × Int) (r : Value) => .tuple #[.int .i64 z.1, .int .i64 z.2, r]) z r) ∧ ownR w.heap.size w' r xs ∧ xs.length ≤ 40 ∧ Below w.heap.size w w' := by
  obtain ⟨i0, hi, hz0, hz1, hz2⟩ := info_parts infoI
  go_enter Try.func23, Try.ntmps23
  go_wp2_with fail
  refine viaF (s_from B a len cap _ h hl hB) ?_
  intro b u0 hs0 hb0 hl0 hl1
  (try simp at hb0 hl0)
  go_wp2_with fail
  refine viaDr (s_drawPrime B b _ hs0) ?_
  intro p u1 hx hs1 hl2
  (try dsimp only at hx)
  go_wp2_with fail
  refine viaDr (s_next B b _ _ (hs1.alloc _) (by omega)) ?_
  intro n0 u2 hn0 hs2 hl3
  (try dsimp only at hn0)
  go_wp2_with fail
  obtain ⟨V, hV⟩ : ∃ V, V = aftD b ((aftD b (aft w u0) u1).alloc (Obj.cells #[] 2)) u2 := ⟨_, rfl⟩
  have hE : Hid (Ext w.heap.size w V) := hid (by rw [hV]; exact (((((Ext.refl w).aft _).aftD _ (by omega)).alloc _).aftD _ (by omega)))
  have HO : Hid (ownR (b + 1) V (.slice (some ⟨(aftD b (aft w u0) u1).heap.size, 0, none⟩) 0 0) []) := hid (by rw [hV]; exact ((own_empty (aftD b (aft w u0) u1)).mono (by omega)).aftD _ (by omega))
  have HS := hid hs2
  rw [← hV] at HS ⊢
  obtain ⟨r0, hr0⟩ : ∃ r, r = Value.slice (some ⟨(aftD b (aft w u0) u1).heap.size, 0, none⟩) 0 0 := ⟨_, rfl⟩
  rw [← hr0] at HO ⊢
  clear hr0 hV hs0 hs1 hs2 hl0 hl1 hl2 hl3 h hl
  obtain ⟨N, rfl⟩ : ∃ N : Nat, n0 = (N : Int) := ⟨n0.toNat, by omega⟩
  go_loopw [7, 8] (fun r i wr => ∃ (k : Nat) (xs : List Int), i = .int .i64 k ∧ xs.length + k ≤ 7 ∧ ownR (b + 1) wr r xs ∧ src B b wr ∧ Ext w.heap.size w wr) (fun _ i _ => (intOf i).toNat)
  case atStart => exact ⟨N, [], rfl, by simp; omega, HO.out, HS.out, hE.out⟩
  case round =>
    obtain ⟨k, xs, rfl, hkl, hown, hsr, hext⟩ := hrel
    have HX := hid hext
    clear hext
    by_cases hk : 0 < k
    · have hk' : decide ((0 : Int) < (k : Int)) = true := by simp; omega
      rcases (show 1 < p ∨ p ≤ 1 by omega) with hp1 | hp1 <;> (
        go_wp2_with fail
        refine viaDr (s_next B b _ _ hsr (by omega)) ?_
        intro x1 v1 hx1 hs1 ls1
        (try dsimp only at hx1)
        go_wp2_with fail
        refine viaDr (s_next B b _ _ hs1 (by omega)) ?_
        intro x2 v2 hx2 hs2 ls2
        (try dsimp only at hx2)
        have hown2 := (hown.aftD v1 (Nat.lt_succ_self b)).aftD v2 (Nat.lt_succ_self b)
        have hm : 0 ≤ x1 * x2 ∧ x1 * x2 ≤ 200 := by
          rcases (show x2 = 0 ∨ x2 = 1 by omega) with e | e
          · subst e; rw [Int.mul_zero]; omega
          · subst e; rw [Int.mul_one]; omega
        have HX2 : Hid (Ext w.heap.size w (aftD b (aftD b wr v1) v2)) := hid ((HX.out.aftD _ (by omega)).aftD _ (by omega))
        go_wp2_with (at_builtin; refine wpList_append_own _ rfl _ _ 40 rfl (b + 1) 2 i0 (.int .i64 0) 1 8 Try.underlying40 hi hz0 hz1 hz2 rfl (by decide) _ _ _ rfl (hown2.alloc _) ⟨_, 0, none⟩ 1 1 [.int .i64 (x1 * x2)] rfl rfl ?c1 ?c2 ?c3 ?c4 ?c5 ?_)
        case c1 => exact cell_one_new _ _ _
        case c2 => intro u hu; simp at hu; subst hu; rfl
        case c3 => unfold maxLen; omega
        case c4 => omega
        case c5 => have := hs2.lt; simp; omega
        intro v' w1 hown' hgrow _
        have hrow := own_row_ge hown
        have hs3 := (hs2.alloc (Obj.cells #[.int .i64 (x1 * x2)] 2)).grown hgrow (fun k e => hrow k e)
        have hX3 := (HX2.out.alloc (Obj.cells #[.int .i64 (x1 * x2)] 2)).grown hgrow (fun k e => by have := hrow k e; omega)
        have HO2 := hid hown'
        clear hown' hgrow hown hown2
        go_wp2_with fail
        go_roundw
        case rel => exact ⟨k - 1, xs ++ [x1 * x2], by go_num, by simp; omega, (ownR.snoc HO2.out).mono (by simp), hs3, hX3⟩
        case measure => simp only [intOf]; omega)
    · have hxl : xs.length ≤ 7 := by omega
      obtain rfl : k = 0 := by omega
      clear hkl hk
      go_wp2_with fail
      refine viaDr (s_next B b _ _ hsr (by omega)) ?_
      intro x0 v0 hx0 hs1 ls1
      (try dsimp only at hx0)
      have hown1 := hown.aftD v0 (Nat.lt_succ_self b)
      have HX1 : Hid (Ext w.heap.size w (aftD b wr v0)) := hid (HX.out.aftD _ (by omega))
      clear hown hsr
      by_cases c0 : x0 = 0
      · subst c0
        go_wp2_with fail
        refine viaDr (s_pickA B b _ _ _ [p, -1, 0] _ _ _ (by simp) rfl rfl hs1 (by decide) (by decide)) ?_
        intro y v1 hy hs2 ls2
        have hy' : -3 ≤ y ∧ y ≤ 101 := by simp at hy; omega
        clear hy
        have hown2 := (hown1.alloc (Obj.cells #[Value.int IntKind.i64 p, Value.int IntKind.i64 (-1), Value.int IntKind.i64 0] 2)).aftD v1 (Nat.lt_succ_self b)
        have HX2 : Hid (Ext w.heap.size w (aftD b ((aftD b wr v0).alloc (Obj.cells #[Value.int IntKind.i64 p, Value.int IntKind.i64 (-1), Value.int IntKind.i64 0] 2)) v1)) := hid ((HX1.out.alloc _).aftD _ (by omega))
        go_wp2_with (at_builtin; refine wpList_append_own _ rfl _ _ 40 rfl (b + 1) 2 i0 (.int .i64 0) 1 8 Try.underlying40 hi hz0 hz1 hz2 rfl (by decide) _ _ _ rfl (hown2.alloc _) ⟨_, 0, none⟩ 1 1 [.int .i64 (y)] rfl rfl ?c1 ?c2 ?c3 ?c4 ?c5 ?_)
        case c1 => exact cell_one_new _ _ _
        case c2 => intro u hu; simp at hu; subst hu; rfl
        case c3 => unfold maxLen; omega
        case c4 => omega
        case c5 => have := hs2.lt; simp; omega
        intro v' w1 hown' hgrow _
        have hrow := own_row_ge hown1
        have hs3 := (hs2.alloc (Obj.cells #[.int .i64 y] 2)).grown hgrow (fun k e => hrow k e)
        have HX3 := hid ((HX2.out.alloc (Obj.cells #[.int .i64 y] 2)).grown hgrow (fun k e => by have := hrow k e; omega))
        have HO3 : Hid (ownR (b + 1) w1 v' (xs ++ [y])) := hid ((ownR.snoc hown').mono (by first | exact Nat.le_refl _ | (simp; omega) | omega))
        have HL : Hid ((xs ++ [y]).length ≤ 40) := hid (by simp; omega)
        obtain ⟨ys, hys⟩ : ∃ ys, ys = xs ++ [y] := ⟨_, rfl⟩
        rw [← hys] at HO3 HL
        clear hown' hgrow hown1 hown2 hys
        go_wp2_with fail
        refine viaDr (s_next B b _ _ hs3 (by omega)) ?_
        intro y1 v5 hy1 hs4 ls4
        (try dsimp only at hy1)
        go_wp2_with fail
        refine viaDr (s_next B b _ _ hs4 (by omega)) ?_
        intro y2 v6 hy2 hs5 ls5
        (try dsimp only at hy2)
        go_wp2_with fail
        refine viaDr (s_pickA B b _ _ _ [0, y1 - 6, y2 - 6, 60, 61, -60] _ _ _ (by simp) rfl rfl hs5 (by decide) (by decide)) ?_
        intro z v7 hz hs6 ls6
        clear hz
        go_wp2_with fail
        exact bodyPost_ret (v := .tuple #[.int .i64 p, .int .i64 z, v']) (by first | (simp [results, go_sem]; done) | simp [results, go_sem, ↓IntWalk.iteOmega]) rfl ⟨(p, z), v', ys, rfl, ((((HO3.out.aftD _ (Nat.lt_succ_self b)).aftD _ (Nat.lt_succ_self b)).alloc _).aftD _ (Nat.lt_succ_self b)).mono (by omega), HL.out, Ext.bel ((((HX3.out.aftD _ (by omega)).aftD _ (by omega)).alloc _).aftD _ (by omega))⟩
      · by_cases c1 : x0 = 1
        · subst c1
          go_wp2_with fail
          go_loopw [7] (fun r wr => ∃ (xs : List Int), xs.length ≤ 30 ∧ ownR (b + 1) wr r xs ∧ src B b wr ∧ Ext w.heap.size w wr) (fun r _ => 40 - lenOf r)
          case atStart => exact ⟨xs, by omega, hown1, hs1, HX1.out⟩
          case round =>
            clear hown1 hs1 HX1 hxl
            obtain ⟨zs, hz30, hown, hsz, hXz⟩ := hrel
            have HXz := hid hXz
            have HM := hid (lenOf_own hown)
            clear hXz
            obtain ⟨aa, cc, he, _, _⟩ := hown.rd
            subst he
            go_wp2_with fail
            refine viaDr (s_next B b _ _ hsz (by omega)) ?_
            intro y0 v2 hy0 hs2 ls2
            (try dsimp only at hy0)
            have hown2 := hown.aftD v2 (Nat.lt_succ_self b)
            have HX2 : Hid (Ext w.heap.size w (aftD b wr v2)) := hid (HXz.out.aftD _ (by omega))
            by_cases hlt : (zs.length : Int) < 29 + y0
            · have hd : decide ((zs.length : Int) < 29 + y0) = true := by simpa using hlt
              go_wp2_with (at_builtin; refine wpList_append_own _ rfl _ _ 40 rfl (b + 1) 2 i0 (.int .i64 0) 1 8 Try.underlying40 hi hz0 hz1 hz2 rfl (by decide) _ _ _ rfl (hown2.alloc _) ⟨_, 0, none⟩ 1 1 [.int .i64 (1)] rfl rfl ?c1 ?c2 ?c3 ?c4 ?c5 ?_)
              case c1 => exact cell_one_new _ _ _
              case c2 => intro u hu; simp at hu; subst hu; rfl
              case c3 => unfold maxLen; omega
              case c4 => omega
              case c5 => have := hs2.lt; simp; omega
              intro v' w1 hown' hgrow _
              have hrow := own_row_ge hown
              have hs3 := (hs2.alloc (Obj.cells #[.int .i64 1] 2)).grown hgrow (fun k e => hrow k e)
              have hX3 := (HX2.out.alloc (Obj.cells #[.int .i64 1] 2)).grown hgrow (fun k e => by have := hrow k e; omega)
              have HO2 : Hid (ownR (b + 1) w1 v' (zs ++ [1])) := hid ((ownR.snoc hown').mono (by first | exact Nat.le_refl _ | (simp; omega) | omega))
              have HM2 := lenOf_own HO2.out
              clear hown' hgrow hown hown2 hrow
              go_wp2_with fail
              go_roundw
              case rel => exact ⟨zs ++ [1], by simp; omega, HO2.out, hs3, hX3⟩
              case measure => rw [HM2, HM.out]; simp; omega
            · have hd : decide ((zs.length : Int) < 29 + y0) = false := by simpa using hlt
              have HL : Hid (zs.length ≤ 40) := hid (by omega)
              have HO3 := hid hown2
              clear hown hown2 HM
              go_wp2_with fail
              refine viaDr (s_next B b _ _ hs2 (by omega)) ?_
              intro y1 v5 hy1 hs4 ls4
              (try dsimp only at hy1)
              go_wp2_with fail
              refine viaDr (s_next B b _ _ hs4 (by omega)) ?_
              intro y2 v6 hy2 hs5 ls5
              (try dsimp only at hy2)
              go_wp2_with fail
              refine viaDr (s_pickA B b _ _ _ [0, y1 - 6, y2 - 6, 60, 61, -60] _ _ _ (by simp) rfl rfl hs5 (by decide) (by decide)) ?_
              intro z v7 hz hs6 ls6
              clear hz
              go_wp2_with fail
              exact bodyPost_ret (v := .tuple #[.int .i64 p, .int .i64 z, (.slice aa zs.length cc)]) (by first | (simp [results, go_sem]; done) | simp [results, go_sem, ↓IntWalk.iteOmega]) rfl ⟨(p, z), (.slice aa zs.length cc), zs, rfl, ((((HO3.out.aftD _ (Nat.lt_succ_self b)).aftD _ (Nat.lt_succ_self b)).alloc _).aftD _ (Nat.lt_succ_self b)).mono (by omega), HL.out, Ext.bel ((((HX2.out.aftD _ (by omega)).aftD _ (by omega)).alloc _).aftD _ (by omega))⟩
        · have c0' : (x0 == 0) = false := by simpa using c0
          have c1' : (x0 == 1) = false := by simpa using c1
          have HO3 := hid hown1
          have HL : Hid (xs.length ≤ 40) := hid (by omega)
          clear hown1 c0 c1
          go_wp2_with fail
          refine viaDr (s_next B b _ _ hs1 (by omega)) ?_
          intro y1 v5 hy1 hs4 ls4
          (try dsimp only at hy1)
          go_wp2_with fail
          refine viaDr (s_next B b _ _ hs4 (by omega)) ?_
          intro y2 v6 hy2 hs5 ls5
          (try dsimp only at hy2)
          go_wp2_with fail
          refine viaDr (s_pickA B b _ _ _ [0, y1 - 6, y2 - 6, 60, 61, -60] _ _ _ (by simp) rfl rfl hs5 (by decide) (by decide)) ?_
          intro z v7 hz hs6 ls6
          clear hz
          go_wp2_with fail
          exact bodyPost_ret (v := .tuple #[.int .i64 p, .int .i64 z, u7]) (by first | (simp [results, go_sem]; done) | simp [results, go_sem, ↓IntWalk.iteOmega]) rfl ⟨(p, z), u7, xs, rfl, ((((HO3.out.aftD _ (Nat.lt_succ_self b)).aftD _ (Nat.lt_succ_self b)).alloc _).aftD _ (Nat.lt_succ_self b)).mono (by omega), HL.out, Ext.bel ((((HX1.out.aftD _ (by omega)).aftD _ (by omega)).alloc _).aftD _ (by omega))⟩
end Go.Proofs.Ytehdkbopkkgabaa
