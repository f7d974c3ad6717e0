/- Laws over slices of slices of numbers: what they call. -/
import Derived.Test.YtbkbcbanfnhjpaaW3
import Derived.Test.YtbkbcbanfnhjpaaMB
import Derived.Test.YtbkbcbanfnhjpaaO0
import Derived.Test.YtbkbcbanfnhjpaaMA
import Derived.Deep.Matrix
namespace Go.Proofs.Ytbkbcbanfnhjpaa
open Go Go.ChangeShapes Go.WideShapes Go.ChangeAt Go.RowKit

/-- v reads as these lists; the rows may lie anywhere. -/
def rdSS (w : World) (v : Value) (xss : List (List Int)) : Prop :=
  ∃ a cap, v = .slice a xss.length cap ∧ xss.length ≤ maxLen ∧ (xss ≠ [] → ∃ b o, a = some ⟨b, o, none⟩ ∧ ∀ i, (h : i < xss.length) → ∃ e, w.cell? ⟨b, o + i, none⟩ = some e ∧ rdI w e xss[i])
theorem rdSS.below {w w' : World} {v : Value} {xss : List (List Int)} (h : rdSS w v xss) (hb : Below w.heap.size w w') : rdSS w' v xss := by
  obtain ⟨a, cap, rfl, hm, hc⟩ := h
  refine ⟨a, cap, rfl, hm, fun hne => ?_⟩
  obtain ⟨b, o, rfl, hcell⟩ := hc hne
  refine ⟨b, o, rfl, fun i hi => ?_⟩
  obtain ⟨e, h1, h2⟩ := hcell i hi
  exact ⟨e, by rw [hb.cell (p := ⟨b, o + i, none⟩) (World.block_lt_of_cell? w _ h1)]; exact h1, h2.below hb⟩
theorem rdRR.ss {w : World} {v : Value} {xss : List (List Int)} (h : rdRR w v xss) : rdSS w v xss := by
  obtain ⟨a, cap, rfl, hm, hc⟩ := h
  refine ⟨a, cap, rfl, hm, fun hne => ?_⟩
  obtain ⟨b, o, rfl, hcell⟩ := hc hne
  exact ⟨b, o, rfl, fun i hi => by obtain ⟨e, h1, h2⟩ := hcell i hi; exact ⟨e, h1, h2.rd⟩⟩
theorem cellsRow : Try.prog.cellsOf 24 = 1 := by kernel_rfl
set_option maxRecDepth 100000 in
theorem rdSS_open {H : Type} {enc : TypeId × Value → H} {W : World} {base : Nat} {v : Value} {d : DataW H} {p : List MemPlace} (hval : Value.okWide Try.prog W .any base 37 v) (h : DataW.Trod enc Try.prog W 0 (fun _ => true) true 37 v d p) :
    ∃ xss, rdSS W v xss := by
  obtain ⟨a1, len, cap, rfl⟩ := okWide_slice Try.underlying37 hval
  obtain ⟨fuel, hf⟩ := h
  rcases Go.Deep.open_int_rows Try.underlying37 Try.underlying24 Try.underlying2 cellsRow cellsInt hf with ⟨hcs, hx⟩ | ⟨a, len', cap', A, L, C, Z, hcs, _, hl, hm, hx, hrow⟩
  · simp [Value.cells] at hcs
    obtain ⟨rfl, rfl, rfl⟩ := hcs
    exact ⟨[], none, 0, rfl, by simp [maxLen], fun h => absurd rfl h⟩
  · simp [Value.cells] at hcs
    obtain ⟨rfl, rfl, rfl⟩ := hcs
    have hxl : ((List.range len).map fun r => (Z r).take (L r)).length = len := by simp
    refine ⟨(List.range len).map fun r => (Z r).take (L r), some a, cap, by rw [hxl], by rw [hxl]; omega, fun hne => ?_⟩
    have hpos : 0 < len := by
      rcases Nat.eq_zero_or_pos len with h0 | h0
      · subst h0; exact absurd rfl hne
      · exact h0
    obtain ⟨ab, ao, spot⟩ := a
    have h0 := (hrow 0 (by omega)).1
    have hspot : spot = none := by simpa [Addr.add] using World.cell?_spot h0
    subst hspot
    refine ⟨ab, ao, rfl, fun i hi => ?_⟩
    rw [hxl] at hi
    obtain ⟨q1, q2, q3, q4, q5, q6, q7⟩ := hrow i (by omega)
    rw [Addr.add_lit] at q1
    refine ⟨_, q1, ?_⟩
    simp only [List.getElem_map, List.getElem_range]
    have hzl : ((Z i).take (L i)).length = L i := by rw [List.length_take]; omega
    refine ⟨A i, C i, by rw [hzl], by omega, fun hne2 => ?_⟩
    have hLp : 0 < L i := by
      rcases Nat.eq_zero_or_pos (L i) with h1 | h1
      · exact absurd (by rw [h1]; simp) hne2
      · exact h1
    cases hA : A i with
    | none => have := q6 hA; omega
    | some a' =>
      obtain ⟨_, hc⟩ := q7 a' hA
      obtain ⟨b2, o2, s2⟩ := a'
      have hs2 : s2 = none := by simpa [Addr.add] using World.cell?_spot (hc 0 (by omega))
      subst hs2
      refine ⟨b2, o2, rfl, fun c hc2 => ?_⟩
      have h3 := hc c (by omega)
      rw [Addr.add_lit] at h3
      rw [h3]
      simp [List.getD, List.getElem?_eq_getElem (show c < (Z i).length by omega)]
/-- The rows of a slice of slices lie apart. -/
def distR (es : List Value) : Prop := ∀ (i j : Nat) (e f : Value) (k : Nat), i < j → es[i]? = some e → es[j]? = some f → e.ownBlock = some k → f.ownBlock ≠ some k
theorem ownE.set {B g cap n k : Nat} {w : World} {es : List Value} {xss : List (List Int)} {e : Value} {x : List Int} (h : ownE B w (.slice (some ⟨g, 0, none⟩) n cap) es xss) (hk : k < xss.length) (he : ownR B w e x) :
    ownE B (w.setCell ⟨g, k, none⟩ e) (.slice (some ⟨g, 0, none⟩) n cap) (es.set k e) (xss.set k x) ∧ w.grownBy (w.setCell ⟨g, k, none⟩ e) (some g) := by
  have hn : n = xss.length := by
    rcases h.2.1.2 with ⟨e, h1⟩ | ⟨g', c, cur, e, _⟩
    · cases e
    · cases e; rfl
  subst hn
  have hst := h.2.1.stored k e
  refine ⟨⟨by simp [h.1], by simpa using hst.1, fun i hi => ?_⟩, hst.2⟩
  have keep : ∀ {e' x'}, ownR B w e' x' → ownR B (w.setCell ⟨g, k, none⟩ e) e' x' := fun ho => ho.kept fun b hb hbe => hst.2.block b hb fun q => own_apart h.2.1 ho b hbe q.symm
  simp at hi
  by_cases hik : k = i
  · subst hik
    exact ⟨e, by rw [List.getElem?_set_self (by rw [h.1]; exact hk)], by rw [List.getElem_set_self]; exact keep he⟩
  · obtain ⟨e', h1, h2⟩ := h.2.2 i hi
    exact ⟨e', by rw [List.getElem?_set_ne hik]; exact h1, by rw [List.getElem_set_ne hik]; exact keep h2⟩
theorem ownE.cellK {B g cap n : Nat} {w : World} {es : List Value} {xss : List (List Int)} (h : ownE B w (.slice (some ⟨g, 0, none⟩) n cap) es xss) {i : Nat} (hi : i < xss.length) :
    ∃ e, es[i]? = some e ∧ w.cell? ⟨g, i, none⟩ = some e ∧ w.frozen? ⟨g, i, none⟩ = false ∧ ownR B w e xss[i] := by
  have hn : n = xss.length := by
    rcases h.2.1.2 with ⟨e, h1⟩ | ⟨g', c, cur, e, _⟩
    · cases e
    · cases e; rfl
  subst hn
  obtain ⟨e, he, ho⟩ := h.2.2 i hi
  exact ⟨e, he, by rw [h.2.1.cellAt i (by omega)]; exact he, h.2.1.frozenAt i, ho⟩
/-- The lists as far as the first k, the others empty. -/
def partR (xss : List (List Int)) (k : Nat) : List (List Int) := xss.take k ++ List.replicate (xss.length - k) []
theorem partR_len {xss : List (List Int)} {k : Nat} (h : k ≤ xss.length) : (partR xss k).length = xss.length := by simp [partR]; omega
theorem partR_set {xss : List (List Int)} {k : Nat} (h : k < xss.length) : (partR xss k).set k xss[k] = partR xss (k + 1) := by
  unfold partR
  rw [List.set_append_right _ _ (by rw [List.length_take]; omega), List.length_take, Nat.min_eq_left (by omega), Nat.sub_self, show xss.length - k = (xss.length - (k + 1)) + 1 by omega, List.replicate_succ, List.set_cons_zero, List.take_succ_eq_append_getElem h, List.append_assoc]
  rfl
theorem partR_all (xss : List (List Int)) : partR xss xss.length = xss := by simp [partR]
theorem ownE_nils (w : World) (B g n : Nat) (h : w.ownsRow B 24 1 (.slice (some ⟨g, 0, none⟩) n n) n (List.replicate n (.slice none 0 0))) : ownE B w (.slice (some ⟨g, 0, none⟩) n n) (List.replicate n (.slice none 0 0)) (List.replicate n []) :=
  ⟨by simp, by simpa using h, fun i hi => ⟨.slice none 0 0, by simp at hi; simp [hi], by simp; exact ownR.nil _ _⟩⟩
theorem sl_no (n : Nat) : (madeCells #[Value.slice none 0 0] n).toList = List.replicate n (.slice none 0 0) := by
  rw [toList_madeCells_one]
set_option maxRecDepth 20000 in
set_option maxHeartbeats 4000000 in
theorem l_toSS (r : Value) (xss : List (List Int)) (w : World) (h : rdSS w r xss) (hl : xss.length ≤ 1048576) (hx : ∀ xs ∈ xss, xs.length ≤ 1048576) :
    Calls Try.prog 24 #[r] w fun e w' => ∃ v, e = .returned v ∧ (∃ es, ownE w.heap.size w' v es xss ∧ distR es) ∧ Below w.heap.size w w' := by
  obtain ⟨i1, hj, hy0, hy1, hy2⟩ := info_parts infoS
  obtain ⟨a, cap, rfl, hm, hc⟩ := h
  have Hc := hid hc
  have Hx := hid hx
  clear hc hm hx
  go_enter Try.func24, Try.ntmps24
  go_wp2_with (at_make; refine wpList_make_full _ rfl _ _ 37 rfl w.heap.size 24 i1 (.slice none 0 0) 1 Try.underlying37 hj hy0 hy1 _ _ _ _ xss.length rfl rfl rfl rfl (by rw [hy2]; omega) (by unfold maxLen; omega) (Nat.le_refl _) ?_)
  intro w1 hown hgr
  rw [sl_no] at hown
  have hoE := ownE_nils _ _ _ _ hown
  have HB : Hid (Ext w.heap.size w w1) := hid ⟨Below.grown (Below.refl _ _) hgr (Nat.le_refl _) (fun k hk => by cases hk), hgr.size⟩
  have HO := hid hoE
  have hl1 := (World.ownsRow.lt hown w.heap.size rfl).2
  clear hown hgr hoE
  go_wp2_with fail
  go_loopw [4] (fun i wr => ∃ (j : Nat) (es : List Value), j ≤ xss.length ∧ i = .int .i64 j ∧ Hid (ownE w.heap.size wr (.slice (some ⟨w.heap.size, 0, none⟩) xss.length xss.length) es (partR xss j)) ∧ Hid (distR es) ∧ Hid (∀ (i : Nat) (e : Value), es[i]? = some e → rowLt wr.heap.size e) ∧ Hid (∀ (i : Nat) (e : Value), es[i]? = some e → j ≤ i → e = .slice none 0 0) ∧ Hid (Ext w.heap.size w wr)) (fun i _ => xss.length - (intOf i).toNat)
  case atStart => exact ⟨0, _, by omega, rfl, hid (by rw [show partR xss 0 = List.replicate xss.length [] by simp [partR]]; exact HO.out), hid (fun i j e f k _ he hf hk => by
      have := (List.mem_replicate.1 (List.mem_of_getElem? he)).2
      subst this; simp [Value.ownBlock] at hk), hid (fun i e he => by
      have := (List.mem_replicate.1 (List.mem_of_getElem? he)).2
      subst this
      intro k hk; simp [Value.ownBlock] at hk), hid (fun i e he _ => (List.mem_replicate.1 (List.mem_of_getElem? he)).2), HB⟩
  case round =>
    obtain ⟨j, es, hjl, rfl, HO, HD, HLT, HNL, HE⟩ := hrel
    by_cases hlt : j < xss.length
    · have hltz : (j : Int) < (xss.length : Int) := by omega
      obtain ⟨b, o, rfl, hcell⟩ := Hc.out (by intro e; rw [e] at hlt; simp at hlt)
      obtain ⟨e1, h1, ho1⟩ := hcell j hlt
      have hb1 := World.block_lt_of_cell? w _ h1
      simp only at hb1
      have h2 := (HE.out.1.cell (p := ⟨b, o + j, none⟩) hb1).trans h1
      have ho2 := ho1.below HE.out.1
      have hxl := Hx.out _ (List.getElem_mem hlt)
      have hset := partR_set hlt
      have hpl := partR_len (xss := xss) (k := j) (by omega)
      obtain ⟨A, hA⟩ : ∃ A, A = xss[j] := ⟨_, rfl⟩
      rw [← hA] at ho2 hxl hset
      have HSET := hid hset
      have HO2 := hid ho2
      have hsz := HE.out.2
      clear hcell h1 ho1 ho2 hset hA
      go_wp2_with fail
      refine viaI (g := id) (l_toI e1 A _ HO2.out hxl) ?_
      intro t1 u1 z1 own1
      try simp at z1
      obtain ⟨a1, c1, hsh1, _, _⟩ := own1.rd
      subst hsh1
      obtain ⟨V, hV⟩ : ∃ V, V = aft wr u1 := ⟨_, rfl⟩
      have HBV : Hid (Below wr.heap.size wr V) := hid (by rw [hV]; exact below_aft wr u1)
      rw [← hV] at own1 z1 ⊢
      have hOV := HO.out.below HBV.out
      obtain ⟨eo, q1, q2, q3, _⟩ := ownE.cellK hOV (i := j) (by rw [hpl]; exact hlt)
      have hst := ownE.set hOV (k := j) (by rw [hpl]; exact hlt) (own1.mono hsz)
      rw [HSET.out] at hst
      have HST := hid hst
      have HNR := hid (own_row_ge own1)
      have HRL := hid own1.rowLt
      have HEV : Hid (Ext w.heap.size w V) := hid ⟨HE.out.1.trans (HBV.out.mono HE.out.2), Nat.le_trans HE.out.2 HBV.out.size⟩
      have hel : es.length = xss.length := by rw [HO.out.1, hpl]
      have HEL := hid hel
      clear hV hst hOV own1 q1 hel
      go_wp2_with fail
      go_roundw
      case rel =>
        refine ⟨j + 1, es.set j (.slice a1 A.length c1), by omega, by go_num, hid HST.out.1, hid ?_, hid ?_, hid ?_, hid (Ext.grown (o := .slice (some ⟨w.heap.size, 0, none⟩) 0 0) HEV.out HST.out.2 (fun k hk => by simp [Value.ownBlock] at hk; omega))⟩
        · intro i i2 e f k hii he hf hk
          have hel := HEL.out
          by_cases hi : i = j
          · subst hi
            rw [List.getElem?_set_ne (by omega)] at hf
            rw [HNL.out i2 f hf (by omega)]
            simp [Value.ownBlock]
          · rw [List.getElem?_set_ne (by omega)] at he
            by_cases hi2 : i2 = j
            · subst hi2
              rw [List.getElem?_set_self (by omega)] at hf
              injection hf with hf
              subst hf
              intro hk2
              have := HLT.out i e he k hk
              have := HNR.out k hk2
              omega
            · rw [List.getElem?_set_ne (by omega)] at hf
              exact HD.out i i2 e f k hii he hf hk
        · intro i e he
          have hel := HEL.out
          have hzz : (V.setCell ⟨w.heap.size, j, none⟩ (.slice a1 A.length c1)).heap.size = V.heap.size := by simp [World.setCell]
          rw [hzz]
          by_cases hi : i = j
          · subst hi
            rw [List.getElem?_set_self (by omega)] at he
            injection he with he
            subst he
            exact HRL.out
          · rw [List.getElem?_set_ne (by omega)] at he
            exact (HLT.out i e he).mono HBV.out.size
        · intro i e he hi
          rw [List.getElem?_set_ne (by omega)] at he
          exact HNL.out i e he (by omega)
      case measure => simp only [intOf]; omega
    · obtain rfl : j = xss.length := by omega
      have hltz : ¬ (xss.length : Int) < (xss.length : Int) := by omega
      rw [partR_all] at HO
      go_wp2_with fail
      go_ret
      exact ⟨_, rfl, ⟨es, HO.out, HD.out⟩, HE.out.1⟩
end Go.Proofs.Ytbkbcbanfnhjpaa
