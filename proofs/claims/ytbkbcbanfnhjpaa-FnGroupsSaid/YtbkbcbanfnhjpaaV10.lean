/- Draws: what generates a group. -/
import Derived.Test.YtbkbcbanfnhjpaaV9
namespace Go.Proofs.Ytbkbcbanfnhjpaa
open Go Go.RowKit

theorem ownE.snoc' {B : Nat} {w w1 : World} {v v' e : Value} {es : List Value} {xss : List (List Int)} {xs : List Int} (h : ownE B w v es xss) (he : ownR B w e xs) (o : Obj)
    (hown : w1.ownsRow B 24 1 v' (xss.length + 1) (es ++ [e])) (hgr : (w.alloc o).grownBy w1 v.ownBlock) : ownE B w1 v' (es ++ [e]) (xss ++ [xs]) :=
  ownE.snoc (h.below ((Below.refl _ _).alloc (Nat.le_refl _) _)) (he.alloc _) hown hgr
def lenQ : Value → Nat
  | .slice _ n _ => n
  | _ => 0
set_option maxRecDepth 20000 in
set_option maxHeartbeats 16000000 in
theorem s_DrawGenerateGroup (B : Nat) (a : Option Addr) (len cap : Nat) (w : World) (h : rdB B w a len) (hl : len ≤ 4096) (hB : B ≤ w.heap.size) :
    Calls Try.prog 36 #[.slice a len cap] w fun e w' => ∃ (n : Int) (v : Value) (gs : List (List Int)), e = .returned (.tuple #[.int .i64 n, v]) ∧ (∃ es, ownE w.heap.size w' v es gs) ∧ (0 ≤ n ∧ n ≤ 7) ∧ gs.length ≤ 5 ∧ (∀ x ∈ gs, x.length ≤ 7) ∧ Below w.heap.size w w' := by
  obtain ⟨i1, hj, hy0, hy1, hy2⟩ := info_parts infoS
  go_enter Try.func36, Try.ntmps36
  go_wp2_with fail
  refine viaF (s_from B a len cap _ h hl hB) ?_
  intro b u0 hs0 hb0 hl0 hl1
  go_wp2_with fail
  refine viaDr (s_pickA B b _ _ _ [3, 4, 5, 6, 1, 4, 0, 7] _ _ _ (by simp) rfl rfl hs0 (by decide) (by decide)) ?_
  intro n u1 hn hs1 hl2
  (try simp at hn hl2)
  have hn7 : 0 ≤ n ∧ n ≤ 7 := by omega
  obtain ⟨V, hV⟩ : ∃ V, V = aftD b ((aft w u0).alloc (Obj.cells #[Value.int IntKind.i64 3, Value.int IntKind.i64 4, Value.int IntKind.i64 5, Value.int IntKind.i64 6, Value.int IntKind.i64 1, Value.int IntKind.i64 4, Value.int IntKind.i64 0, Value.int IntKind.i64 7] 2)) u1 := ⟨_, rfl⟩
  have HEV : Hid (Ext w.heap.size w V) := hid (by rw [hV]; exact (((Ext.refl w).aft _).alloc _).aftD _ hb0)
  rw [← hV] at hs1 hl2 ⊢
  have hbV := hs1.lt
  obtain ⟨m, rfl⟩ : ∃ m : Nat, n = (m : Int) := ⟨n.toNat, by omega⟩
  clear hV hn hs0 hl0 hl1 hl2
  go_wp2_with fail
  have HOE : Hid (ownE V.heap.size (V.alloc (Obj.cells #[] 24)) (.slice (some ⟨V.heap.size, 0, none⟩) 0 0) [] []) := hid (own_made2 V)
  refine viaDr (s_next B b _ _ (hs1.alloc _) (by omega)) ?_
  intro y v2 hy hs3 hl3
  (try dsimp only at hy)
  obtain ⟨V3, hV3⟩ : ∃ V3, V3 = aftD b (V.alloc (Obj.cells #[] 24)) v2 := ⟨_, rfl⟩
  have HG3 : Hid (Gr b V V3) := hid (by rw [hV3]; exact ((Gr.refl b V).alloc _).aftD _)
  have HO3 : Hid (ownE V.heap.size V3 (.slice (some ⟨V.heap.size, 0, none⟩) 0 0) [] []) := hid (by rw [hV3]; exact HOE.out.aftD _ hbV)
  rw [← hV3] at hs3 ⊢
  have HS3 := hid hs3
  clear hV3 hs1 hs3 hl3
  go_wp2_with fail
  go_loopw [6, 7] (fun l k wr => ∃ (z : Nat) (es : List Value) (gs : List (List Int)), z ≤ 3 ∧ k = .int .i64 (z : Int) ∧ gs.length + z ≤ 3 ∧ Hid (ownE V.heap.size wr l es gs) ∧ Hid (∀ x ∈ gs, x.length ≤ 7) ∧ Hid (Gr b V wr) ∧ Hid (src B b wr)) (fun _ k _ => (intOf k).toNat)
  case atStart => exact ⟨y.toNat, [], [], by omega, by rw [Int.toNat_of_nonneg (by omega)], by simp; omega, HO3, hid (fun x hx => by simp at hx), HG3, HS3⟩
  case round =>
    obtain ⟨z, es, gs, hz, rfl, hgz, HO, HP, HG, HS⟩ := hrel
    have hws := HG.out.size
    by_cases h0 : 0 < z
    · have h0z : (0 : Int) < (z : Int) := by omega
      cases hin : inB (m : Int) 1 6
      · go_wp2_with (go_at_call 69; refine pur (s_in _ _ _ _) ?_)
        refine viaDX (s_draw21 B b _ HS.out) ?_
        intro t u5 ht hs5 hl5
        obtain ⟨X, own5, hX7⟩ := ht
        obtain ⟨a1, c1, hsh1, _, _⟩ := own5.rd
        subst hsh1
        obtain ⟨U, hU⟩ : ∃ U, U = aftD b wr u5 := ⟨_, rfl⟩
        have HOU : Hid (ownE V.heap.size U _ es gs) := hid (by rw [hU]; exact HO.out.aftD u5 hbV)
        have HGU : Hid (Gr b V U) := hid (by rw [hU]; exact HG.out.aftD _)
        have HSU : Hid (src B b U) := hid (by rw [hU]; exact hs5)
        have HO5 : Hid (ownR V.heap.size U (.slice a1 X.length c1) X) := hid (by rw [hU]; exact own5.mono (by omega))
        have hwU := HGU.out.size
        have hgl : gs.length ≤ 4 := by omega
        rw [← hU]
        clear hU hs5 hl5 own5
        go_wp2_with (at_builtin; refine wpList_append_own _ rfl _ _ 37 rfl V.heap.size 24 i1 (.slice none 0 0) 1 24 Try.underlying37 hj hy0 hy1 hy2 rfl (by decide) _ _ _ rfl (HOU.out.below ((Below.refl _ _).alloc (Nat.le_refl _) _)).2.1 ⟨_, 0, none⟩ 1 1 [.slice a1 X.length c1] rfl rfl ?c1b ?c2b ?c3b ?c4b ?c5b ?_)
        case c1b => exact one_new
        case c2b => first | exact own_one HO5.out | (intro u hu; simp at hu; subst hu; exact own_one HO5.out)
        case c3b => unfold maxLen; omega
        case c4b => omega
        case c5b => first | omega | (simp; omega)
        intro v' w3 hown' hgrow _
        have HN : Hid (ownE V.heap.size w3 v' (es ++ [.slice a1 X.length c1]) (gs ++ [X])) := hid (ownE.snoc' HOU.out HO5.out _ hown' hgrow)
        have HUA : Gr b V (U.alloc (.cells #[Value.slice a1 X.length c1] 24)) := HGU.out.alloc _
        have HGN : Hid (Gr b V w3) := hid (grown_newD HUA hgrow (ownE.row HOU.out))
        have HSN : Hid (src B b w3) := hid (src.grown (HSU.out.alloc _) hgrow (fun e => by have := ownE.row HOU.out b e.symm; omega) (fun k hk => by have := ownE.row HOU.out k hk; have := HSU.out.ge; omega))
        have HPN : Hid (∀ x ∈ gs ++ [X], x.length ≤ 7) := hid (fun x hx => by
          rcases List.mem_append.1 hx with hx | hx
          · exact HP.out x hx
          · rw [List.mem_singleton.1 hx]; exact hX7)
        clear hown' hgrow HUA
        go_wp2_with fail
        go_roundw
        case rel => exact ⟨z - 1, _, gs ++ [X], by omega, by rw [show ((z - 1 : Nat) : Int) = (z : Int) - 1 by omega], by simp; omega, HN, HPN, HGN, HSN⟩
        case measure => simp only [intOf]; omega
      · have hm6 := inB_iff.1 hin
        go_wp2_with (go_at_call 69; refine pur (s_in _ _ _ _) ?_)
        refine viaDr (s_next B b _ _ HS.out (by omega)) ?_
        intro y2 v4 hyy hs4 hl4
        (try dsimp only at hyy)
        by_cases hyz : y2 = 0
        · subst hyz
          go_wp2_with fail
          refine viaDX (s_draw21 B b _ hs4) ?_
          intro t u5 ht hs5 hl5
          obtain ⟨X, own5, hX7⟩ := ht
          obtain ⟨a1, c1, hsh1, _, _⟩ := own5.rd
          subst hsh1
          obtain ⟨U, hU⟩ : ∃ U, U = aftD b (aftD b wr v4) u5 := ⟨_, rfl⟩
          have HOU : Hid (ownE V.heap.size U _ es gs) := hid (by rw [hU]; exact (HO.out.aftD v4 hbV).aftD u5 hbV)
          have HGU : Hid (Gr b V U) := hid (by rw [hU]; exact (HG.out.aftD _).aftD _)
          have HSU : Hid (src B b U) := hid (by rw [hU]; exact hs5)
          have HO5 : Hid (ownR V.heap.size U (.slice a1 X.length c1) X) := hid (by rw [hU]; exact own5.mono (by omega))
          have hwU := HGU.out.size
          have hgl : gs.length ≤ 4 := by omega
          rw [← hU]
          clear hU hs5 hl5 own5 hs4 hl4
          go_wp2_with (at_builtin; refine wpList_append_own _ rfl _ _ 37 rfl V.heap.size 24 i1 (.slice none 0 0) 1 24 Try.underlying37 hj hy0 hy1 hy2 rfl (by decide) _ _ _ rfl (HOU.out.below ((Below.refl _ _).alloc (Nat.le_refl _) _)).2.1 ⟨_, 0, none⟩ 1 1 [.slice a1 X.length c1] rfl rfl ?c1c ?c2c ?c3c ?c4c ?c5c ?_)
          case c1c => exact one_new
          case c2c => first | exact own_one HO5.out | (intro u hu; simp at hu; subst hu; exact own_one HO5.out)
          case c3c => unfold maxLen; omega
          case c4c => omega
          case c5c => first | omega | (simp; omega)
          intro v' w3 hown' hgrow _
          have HN : Hid (ownE V.heap.size w3 v' (es ++ [.slice a1 X.length c1]) (gs ++ [X])) := hid (ownE.snoc' HOU.out HO5.out _ hown' hgrow)
          have HUA : Gr b V (U.alloc (.cells #[Value.slice a1 X.length c1] 24)) := HGU.out.alloc _
          have HGN : Hid (Gr b V w3) := hid (grown_newD HUA hgrow (ownE.row HOU.out))
          have HSN : Hid (src B b w3) := hid (src.grown (HSU.out.alloc _) hgrow (fun e => by have := ownE.row HOU.out b e.symm; omega) (fun k hk => by have := ownE.row HOU.out k hk; have := HSU.out.ge; omega))
          have HPN : Hid (∀ x ∈ gs ++ [X], x.length ≤ 7) := hid (fun x hx => by
            rcases List.mem_append.1 hx with hx | hx
            · exact HP.out x hx
            · rw [List.mem_singleton.1 hx]; exact hX7)
          clear hown' hgrow HUA
          go_wp2_with fail
          go_roundw
          case rel => exact ⟨z - 1, _, gs ++ [X], by omega, by rw [show ((z - 1 : Nat) : Int) = (z : Int) - 1 by omega], by simp; omega, HN, HPN, HGN, HSN⟩
          case measure => simp only [intOf]; omega
        · have hyp3 : 0 < y2 := by omega
          have hf := facN_pos m
          have hf7 := facN_le (show m ≤ 6 by omega)
          obtain ⟨F, hF⟩ : ∃ F, F = facN m := ⟨_, rfl⟩
          have HF := hid hF
          rw [← hF] at hf hf7
          clear hF hyz
          go_wp2_with (go_at_call 84; refine pur (s_fact m _ (by omega)) ?_; rw [← HF.out])
          refine viaDr (s_next B b _ _ hs4 (by omega)) ?_
          intro q v5 hq hs6 hl6
          (try dsimp only at hq)
          have hr0 : 0 ≤ q := by omega
          have hr1 : q < (facN m : Int) := by rw [← HF.out]; omega
          go_wp2_with fail
          refine viaI (g := id) (s_with m q _ (by omega) hr0 hr1) ?_
          intro t u5 z5 own5
          try simp at z5
          have hwl := (with_ok (n := m) (r := q) (by omega) hr0 hr1).len
          obtain ⟨X, hX⟩ : ∃ X, X = withF m q := ⟨_, rfl⟩
          rw [← hX] at own5 hwl
          have hX7 : X.length ≤ 7 := by omega
          obtain ⟨a1, c1, hsh1, _, _⟩ := own5.rd
          subst hsh1
          clear hX hr1 hwl
          obtain ⟨U, hU⟩ : ∃ U, U = aft (aftD b (aftD b wr v4) v5) u5 := ⟨_, rfl⟩
          have HOU : Hid (ownE V.heap.size U _ es gs) := hid (by rw [hU]; exact ((HO.out.aftD v4 hbV).aftD v5 hbV).below (below_aft _ _))
          have HGU : Hid (Gr b V U) := hid (by rw [hU]; exact ((HG.out.aftD _).aftD _).aft _)
          have HSU : Hid (src B b U) := hid (by rw [hU]; exact hs6.aft _)
          have HO5 : Hid (ownR V.heap.size U (.slice a1 X.length c1) X) := hid (by rw [hU]; exact own5.mono (by omega))
          have hwU := HGU.out.size
          have hgl : gs.length ≤ 4 := by omega
          rw [← hU]
          clear hU hs6 hl6 own5 hs4 hl4 z5
          go_wp2_with (at_builtin; refine wpList_append_own _ rfl _ _ 37 rfl V.heap.size 24 i1 (.slice none 0 0) 1 24 Try.underlying37 hj hy0 hy1 hy2 rfl (by decide) _ _ _ rfl (HOU.out.below ((Below.refl _ _).alloc (Nat.le_refl _) _)).2.1 ⟨_, 0, none⟩ 1 1 [.slice a1 X.length c1] rfl rfl ?c1d ?c2d ?c3d ?c4d ?c5d ?_)
          case c1d => exact one_new
          case c2d => first | exact own_one HO5.out | (intro u hu; simp at hu; subst hu; exact own_one HO5.out)
          case c3d => unfold maxLen; omega
          case c4d => omega
          case c5d => first | omega | (simp; omega)
          intro v' w3 hown' hgrow _
          have HN : Hid (ownE V.heap.size w3 v' (es ++ [.slice a1 X.length c1]) (gs ++ [X])) := hid (ownE.snoc' HOU.out HO5.out _ hown' hgrow)
          have HUA : Gr b V (U.alloc (.cells #[Value.slice a1 X.length c1] 24)) := HGU.out.alloc _
          have HGN : Hid (Gr b V w3) := hid (grown_newD HUA hgrow (ownE.row HOU.out))
          have HSN : Hid (src B b w3) := hid (src.grown (HSU.out.alloc _) hgrow (fun e => by have := ownE.row HOU.out b e.symm; omega) (fun k hk => by have := ownE.row HOU.out k hk; have := HSU.out.ge; omega))
          have HPN : Hid (∀ x ∈ gs ++ [X], x.length ≤ 7) := hid (fun x hx => by
            rcases List.mem_append.1 hx with hx | hx
            · exact HP.out x hx
            · rw [List.mem_singleton.1 hx]; exact hX7)
          clear hown' hgrow HUA
          go_wp2_with fail
          go_roundw
          case rel => exact ⟨z - 1, _, gs ++ [X], by omega, by rw [show ((z - 1 : Nat) : Int) = (z : Int) - 1 by omega], by simp; omega, HN, HPN, HGN, HSN⟩
          case measure => simp only [intOf]; omega
    · obtain rfl : z = 0 := by omega
      go_wp2_with fail
      refine viaDr (s_next B b _ _ HS.out (by omega)) ?_
      intro x v4 hx hs4 hl4
      (try dsimp only at hx)
      obtain ⟨U, hU⟩ : ∃ U, U = aftD b wr v4 := ⟨_, rfl⟩
      have HOU : Hid (ownE V.heap.size U _ es gs) := hid (by rw [hU]; exact HO.out.aftD v4 hbV)
      have HGU : Hid (Gr b V U) := hid (by rw [hU]; exact HG.out.aftD _)
      have HSU : Hid (src B b U) := hid (by rw [hU]; exact hs4)
      rw [← hU]
      obtain ⟨aq, cq, hshq⟩ := rowShV HOU.out.2.1
      subst hshq
      clear hU hs4 hl4 HO HG HS
      have HEU : Hid (∀ U : World, Gr b V U → Ext w.heap.size w U) := hid fun U hU => ⟨HEV.out.1.trans (Below.grown (Below.refl _ _) hU HEV.out.2 (fun k hk => by injection hk with hk; omega)), Nat.le_trans HEV.out.2 hU.size⟩
      have hVw := HEV.out.2
      by_cases hx0 : x = 0
      · subst hx0
        go_wp2_with fail
        go_loopw [6] (fun l wr => ∃ (es : List Value) (gs : List (List Int)), gs.length ≤ 5 ∧ Hid (ownE V.heap.size wr l es gs) ∧ Hid (∀ x ∈ gs, x.length ≤ 7) ∧ Hid (Gr b V wr) ∧ Hid (src B b wr)) (fun l _ => 6 - lenQ l)
        case atStart => exact ⟨es, gs, by omega, HOU, HP, HGU, HSU⟩
        case round =>
          clear hgz HP
          obtain ⟨es, gs, hg5, HO, HP, HG, HS⟩ := hrel
          have hws := HG.out.size
          obtain ⟨aq, cq, hshq⟩ := rowShV HO.out.2.1
          subst hshq
          go_wp2_with fail
          refine viaDr (s_next B b _ _ HS.out (by omega)) ?_
          intro t9 v9 ht9 hs9 hl9
          (try dsimp only at ht9)
          by_cases hlt : (gs.length : Int) < 4 + t9
          · have hd9 : decide ((gs.length : Int) < 4 + t9) = true := by simpa using hlt
            go_wp2_with fail
            refine viaX (Φ := fun w' v => ∃ xs, ownR (aftD b wr v9).heap.size w' v xs ∧ xs.length ≤ 7) (g := id) ((s_idE m _ (by omega)).mono fun e w' ⟨v, xs, h1, h2, h3, h4⟩ => ⟨v, h1, ⟨xs, h2, h3⟩, h4⟩) ?_
            intro t u5 z5 ht5
            try simp at z5
            obtain ⟨X, own5, hX7⟩ := ht5
            obtain ⟨a1, c1, hsh1, _, _⟩ := own5.rd
            subst hsh1
            obtain ⟨U, hU⟩ : ∃ U, U = aft (aftD b wr v9) u5 := ⟨_, rfl⟩
            have HOU : Hid (ownE V.heap.size U _ es gs) := hid (by rw [hU]; exact (HO.out.aftD v9 hbV).below (below_aft _ _))
            have HGU : Hid (Gr b V U) := hid (by rw [hU]; exact (HG.out.aftD _).aft _)
            have HSU : Hid (src B b U) := hid (by rw [hU]; exact hs9.aft _)
            have HO5 : Hid (ownR V.heap.size U (.slice a1 X.length c1) X) := hid (by rw [hU]; exact own5.mono (by omega))
            have hwU := HGU.out.size
            have hgl : gs.length ≤ 4 := by omega
            rw [← hU]
            clear hU own5 hs9 hl9 z5
            go_wp2_with (at_builtin; refine wpList_append_own _ rfl _ _ 37 rfl V.heap.size 24 i1 (.slice none 0 0) 1 24 Try.underlying37 hj hy0 hy1 hy2 rfl (by decide) _ _ _ rfl (HOU.out.below ((Below.refl _ _).alloc (Nat.le_refl _) _)).2.1 ⟨_, 0, none⟩ 1 1 [.slice a1 X.length c1] rfl rfl ?c1e ?c2e ?c3e ?c4e ?c5e ?_)
            case c1e => exact one_new
            case c2e => first | exact own_one HO5.out | (intro u hu; simp at hu; subst hu; exact own_one HO5.out)
            case c3e => unfold maxLen; omega
            case c4e => omega
            case c5e => first | omega | (simp; omega)
            intro v' w3 hown' hgrow _
            have HN : Hid (ownE V.heap.size w3 v' (es ++ [.slice a1 X.length c1]) (gs ++ [X])) := hid (ownE.snoc' HOU.out HO5.out _ hown' hgrow)
            have HUA : Gr b V (U.alloc (.cells #[Value.slice a1 X.length c1] 24)) := HGU.out.alloc _
            have HGN : Hid (Gr b V w3) := hid (grown_newD HUA hgrow (ownE.row HOU.out))
            have HSN : Hid (src B b w3) := hid (src.grown (HSU.out.alloc _) hgrow (fun e => by have := ownE.row HOU.out b e.symm; omega) (fun k hk => by have := ownE.row HOU.out k hk; have := HSU.out.ge; omega))
            have HPN : Hid (∀ x ∈ gs ++ [X], x.length ≤ 7) := hid (fun x hx => by
              rcases List.mem_append.1 hx with hx | hx
              · exact HP.out x hx
              · rw [List.mem_singleton.1 hx]; exact hX7)
            obtain ⟨aq, cq, hshq⟩ := rowShV hown'
            have hq9 : lenQ v' = gs.length + 1 := by rw [hshq]; rfl
            clear hown' hgrow HUA
            go_wp2_with fail
            go_roundw
            case rel => exact ⟨_, gs ++ [X], by simp; omega, HN, HPN, HGN, HSN⟩
            case measure => rw [hq9]; simp only [lenQ]; omega
          · have hd9 : decide ((gs.length : Int) < 4 + t9) = false := by simpa using hlt
            have HOF := hid (HO.out.aftD v9 hbV)
            have HEF := hid (HEU.out _ (HG.out.aftD v9))
            go_wp2_with fail
            exact bodyPost_ret (v := .tuple #[.int .i64 (m : Int), .slice aq gs.length cq]) (by first | (simp [results, go_sem]; done) | simp [results, go_sem, ↓IntWalk.iteOmega]) rfl ⟨(m : Int), _, gs, rfl, ⟨es, HOF.out.mono hVw⟩, by omega, hg5, HP.out, HEF.out.1⟩
      · have hx1 : (x == 0) = false := by simpa using hx0
        have HEF := hid (HEU.out _ HGU.out)
        go_wp2_with fail
        exact bodyPost_ret (v := .tuple #[.int .i64 (m : Int), .slice aq gs.length cq]) (by first | (simp [results, go_sem]; done) | simp [results, go_sem, ↓IntWalk.iteOmega]) rfl ⟨(m : Int), _, gs, rfl, ⟨es, HOU.out.mono hVw⟩, by omega, by omega, HP.out, HEF.out.1⟩
end Go.Proofs.Ytbkbcbanfnhjpaa
