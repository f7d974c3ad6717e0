/- Splitting by Berlekamp's kernel: the statement's text. -/
import Derived.Test.YtflmoopiajhadaaYC
import Derived.Laws.AppendOwnNone
namespace Go.Proofs.Ytflmoopiajhadaa
open Go Go.RowKit

/-- The sum of the degrees. -/
def degS : List (List Int) → Nat
  | [] => 0
  | h :: L => (h.length - 1) + degS L
theorem degS_app (L L' : List (List Int)) : degS (L ++ L') = degS L + degS L' := by
  induction L with
  | nil => simp [degS]
  | cons h L ih => simp [degS, ih]; omega
theorem degS_len {L : List (List Int)} (h : ∀ x ∈ L, 2 ≤ x.length) : L.length ≤ degS L := by
  induction L with
  | nil => simp [degS]
  | cons x L ih =>
    have := ih fun y hy => h y (by simp [hy])
    have := h x (by simp)
    simp only [degS, List.length_cons]; omega
/-- The factors of a monic polynomial that are told. -/
def fcs (p : Int) (f : List Int) (L : List (List Int)) : Prop := ∀ h ∈ L, mon p h ∧ 2 ≤ h.length ∧ mg p (co h) (co f)
/-- v owns a row of slices that read as these lists. -/
def ownZ (B : Nat) (w : World) (v : Value) (es : List Value) (L : List (List Int)) : Prop :=
  es.length = L.length ∧ w.ownsRow B 26 1 v L.length es ∧ ∀ i, (h : i < L.length) → ∃ e, es[i]? = some e ∧ ownR 0 w e L[i]
theorem ownZ.below {B : Nat} {w w' : World} {v : Value} {es : List Value} {L : List (List Int)} (h : ownZ B w v es L) (hb : Below w.heap.size w w') : ownZ B w' v es L :=
  ⟨h.1, owns_kept h.2.1 fun k hk _ => hb.block k hk, fun i hi => by obtain ⟨e, h1, h2⟩ := h.2.2 i hi; exact ⟨e, h1, h2.below hb⟩⟩
theorem ownZ.mono {B B' : Nat} {w : World} {v : Value} {es : List Value} {L : List (List Int)} (h : ownZ B w v es L) (hB : B' ≤ B) : ownZ B' w v es L := by
  refine ⟨h.1, ⟨h.2.1.1, ?_⟩, h.2.2⟩
  rcases h.2.1.2 with hn | ⟨g, cap, cur, rfl, hg, r⟩
  · exact .inl hn
  · exact .inr ⟨g, cap, cur, rfl, Nat.le_trans hB hg, r⟩
theorem ownZ.row {B : Nat} {w : World} {v : Value} {es : List Value} {L : List (List Int)} (h : ownZ B w v es L) : ∀ k, v.ownBlock = some k → B ≤ k := fun k hk => (World.ownsRow.lt h.2.1 k hk).1
theorem ownZ.app {B B2 : Nat} {w w1 : World} {v v2 v' : Value} {es es2 : List Value} {L L2 : List (List Int)} (h : ownZ B w v es L) (h2 : ownZ B2 w v2 es2 L2)
    (hown : w1.ownsRow B 26 1 v' (L.length + L2.length) (es ++ es2)) (hgr : w.grownBy w1 v.ownBlock) : ownZ B w1 v' (es ++ es2) (L ++ L2) := by
  have keep : ∀ {e xs}, ownR 0 w e xs → ownR 0 w1 e xs := fun he => he.kept fun k hk hb => hgr.block k hk (fun x => own_apart h.2.1 he k hb x.symm)
  refine ⟨by simp [h.1, h2.1], by simpa using hown, fun i hi => ?_⟩
  rcases Nat.lt_or_ge i L.length with hlt | hge
  · obtain ⟨e', k1, k2⟩ := h.2.2 i hlt
    exact ⟨e', by rw [List.getElem?_append_left (by rw [h.1]; exact hlt)]; exact k1, by rw [List.getElem_append_left hlt]; exact keep k2⟩
  · obtain ⟨e', k1, k2⟩ := h2.2.2 (i - L.length) (by simp at hi; omega)
    exact ⟨e', by rw [List.getElem?_append_right (by rw [h.1]; exact hge), h.1]; exact k1, by rw [List.getElem_append_right hge]; exact keep k2⟩
theorem ownZ.one (w : World) (e : Value) (xs : List Int) (k : Nat) (hk : k = w.heap.size) (he : ownR 0 w e xs) : ownZ w.heap.size (w.alloc (.cells #[e] 26)) (.slice (some ⟨k, 0, none⟩) 1 1) [e] [xs] := by
  subst hk
  refine ⟨rfl, ⟨rfl, .inr ⟨w.heap.size, 1, #[e], rfl, Nat.le_refl _, heap_alloc_new w _, Nat.le_refl _, by unfold maxLen; omega, rfl, rfl⟩⟩, fun i hi => ?_⟩
  obtain rfl : i = 0 := by simpa using hi
  exact ⟨e, rfl, he.alloc _⟩
theorem ownZ.oneCell {B : Nat} {w : World} {v : Value} {es : List Value} {L : List (List Int)} (h : ownZ B w v es L) : ∀ u ∈ es, u.oneCell' = true := fun u hu => by
  obtain ⟨i, hi, rfl⟩ := List.mem_iff_getElem.1 hu
  obtain ⟨e, k1, k2⟩ := h.2.2 i (by have := h.1; omega)
  rw [List.getElem?_eq_getElem hi] at k1
  have := Option.some.inj k1
  rw [this]
  exact own_one k2
theorem wpList_app_rows {P : Program} {w : World} {ops : Array Oper} {rest : List Oper} {o : Oper} {a : Act} {Q : Exit → Act → World → Prop} (hgd : o.guard = none) (s x : Operand) (t : TypeId)
    (ho : o.op = .call { callee := .builtin .append, args := #[s, x], argTypes := #[t, t] })
    (base : Nat) (e : TypeId) (i : TypeInfo) (z : Value) (size bytes : Nat) (ht : P.underlying t = some (.slice e)) (hi : P.info? e = some i) (hz : i.zero = some z)
    (hsize : i.size = size) (hby : i.bytes = bytes) (hzs : z.cells.size = size) (hsz : 0 < size)
    (v : Value) (n : Nat) (xs : List Value) (hs : a.eval s = v) (hown : w.ownsRow base e size v n xs)
    (B2 : Nat) (v2 : Value) (m : Nat) (news : List Value) (hx : a.eval x = v2) (h2 : w.ownsRow B2 e size v2 m news) (h1 : ∀ u ∈ news, u.oneCell' = true)
    (h63 : n + m ≤ maxLen) (hbytes : (n + m) * bytes ≤ 140737488355328) (hbase : base ≤ w.heap.size)
    (h : ∀ v' w', w'.ownsRow base e size v' (n + m) (xs ++ news) → w.grownBy w' v.ownBlock → wpList P ops Q rest (a.put o.dst v') w') : wpList P ops Q (o :: rest) a w := by
  have hl := h2.1
  rcases h2.2 with ⟨rfl, rfl⟩ | ⟨g, cap, cur, rfl, hg, hh, h3, h4, h5, h6⟩
  · rw [Nat.zero_mul] at hl
    obtain rfl := List.eq_nil_of_length_eq_zero hl
    refine wpList_append_own_none hgd s x t ho base e i size ht hi v n xs hs hown hx ?_
    exact h v w (by rw [Nat.add_zero, List.append_nil]; exact hown) ⟨rfl, rfl, rfl, Nat.le_refl _, fun _ _ _ => rfl⟩
  · refine wpList_append_own w hgd s x t ho base e i z size bytes ht hi hz hsize hby hzs hsz v n xs hs hown ⟨g, 0, none⟩ m cap news hx hl ?_ h1 h63 hbytes hbase (fun v' w' k1 k2 _ => h v' w' k1 k2)
    intro j u hj
    have hjl : j < news.length := (List.getElem?_eq_some_iff.1 hj).1
    have := h2.cellAt j (by omega)
    rw [hj] at this
    rw [Addr.add_lit, Nat.zero_add]
    exact this
theorem gS_facts {p : Int} {v : List Int} (hs : smallP p = true) (hv : isMod p v) (hl : 2 ≤ v.length) (s : Int) : isMod p (gS p v s) ∧ 1 ≤ (gS p v s).length ∧ (gS p v s).length ≤ v.length := by
  have hp := smallP_bd hs
  have h1 := gS_co (p := p) v s (v.length - 1)
  have h2 := isMod_last hv (by omega)
  have h3 : co (gS p v s) (v.length - 1) ≠ 0 := fun e => by
    rw [e] at h1
    have e2 : ad (co v) (sc (-s) one) (v.length - 1) = v.getD (v.length - 1) 0 := by
      simp only [ad, sc, one]; rw [if_neg (by omega)]; simp [co]
    rw [e2, show (0 : Int) - v.getD (v.length - 1) 0 = -(v.getD (v.length - 1) 0) by omega] at h1
    have h4 := neg0 h1
    rw [Int.neg_neg, Int.emod_eq_of_lt (by omega) (by omega)] at h4
    omega
  have h4 := co_ge h3
  have h5 : (gS p v s).length ≤ v.length := by
    have := red_len p (addK (-1) v [s])
    have h6 := addK_len (-1) v [s]
    unfold gS
    simp at h6; omega
  exact ⟨isMod_red (by omega) _, by omega, h5⟩
theorem viaZ {P : Program} {f : FuncId} {args : Array Value} {w : World} {φ : List (List Int) → Prop} {R : Ending → World → Prop}
    (h : Calls P f args w fun e w' => ∃ v es L, e = .returned v ∧ ownZ w.heap.size w' v es L ∧ φ L ∧ Below w.heap.size w w')
    (hR : ∀ v es L u, w.heap.size ≤ (aft w u).heap.size → ownZ w.heap.size (aft w u) v es L → φ L → R (.returned v) (aft w u)) : Calls P f args w R :=
  h.mono fun e w' ⟨v, es, L, he, ho, hp, hb⟩ => by subst he; obtain ⟨u, rfl⟩ := aft_ex hb; exact hR v es L u (size_aft w u) ho hp

set_option maxRecDepth 20000 in
set_option maxHeartbeats 16000000 in
theorem s_split (p : Int) (hs : smallP p = true) : ∀ (d : Nat) (r2 : Value) (f : List Int) (w : World), f.length ≤ d → ownR 0 w r2 f → mon p f → 2 ≤ f.length → f.length ≤ 9 →
    Calls Try.prog 85 #[.int .i64 p, r2] w fun e w' => ∃ v es L, e = .returned v ∧ ownZ w.heap.size w' v es L ∧ (L ≠ [] ∧ fcs p f L ∧ degS L + 1 ≤ f.length) ∧ Below w.heap.size w w' := by
  obtain ⟨i1, hj, hy0, hy1, hy2⟩ := info_parts infoS
  have hp := smallP_bd hs
  intro d
  induction d with
  | zero => intro r2 f w h1 _ _ h4; omega
  | succ d ih =>
    intro r2 f w hd h2 hf hl hlf
    have IH := hid ih
    clear ih
    obtain ⟨ra, rc, rfl⟩ := own_len h2
    have H2 := hid h2
    have Hf := hid hf
    have HKE := hid (s_kernel p _ f w h2.rd hs hf.1 hl hlf)
    obtain ⟨Fl, hFl⟩ : ∃ F, F = f.length := ⟨_, rfl⟩
    rw [← hFl] at H2 hd hl hlf HKE ⊢
    have HFL := hid hFl
    clear h2 hf hFl
    go_enter Try.func85, Try.ntmps85
    go_wp2_with fail
    refine viaR HKE.out ?_
    intro kv vs u1 z1 ownK hvs
    obtain ⟨ka, kc, rfl⟩ := own_len ownK
    have HK := hid ownK
    clear ownK HKE
    obtain ⟨W1, hW1⟩ : ∃ X, X = aft w u1 := ⟨_, rfl⟩
    have HE : Hid (Ext w.heap.size w W1) := hid (by rw [hW1]; exact (Ext.refl w).aft _)
    have H21 : Hid (ownR 0 W1 (.slice ra Fl rc) f) := hid (by rw [hW1]; exact H2.out.aft _)
    rw [← hW1] at HK z1 ⊢
    clear hW1 H2
    by_cases hv0 : vs = []
    · subst hv0
      have hz : Hid (ownZ W1.heap.size (W1.alloc (.cells #[.slice ra Fl rc] 26)) (.slice (some ⟨W1.heap.size, 0, none⟩) 1 1) [.slice ra Fl rc] [f]) := hid (ownZ.one W1 _ f _ rfl H21.out)
      clear hvs
      go_wp2_with fail
      go_ret
      refine ⟨_, _, [f], rfl, hz.out.mono HE.out.2, ⟨by simp, fun h hh => ?_, ?_⟩, (HE.out.alloc _).1⟩
      · simp at hh; subst hh; exact ⟨Hf.out, by have := HFL.out; omega, mg_refl p _⟩
      · simp only [degS]; have := HFL.out; omega
    have hvs2 := hvs.resolve_left hv0
    obtain ⟨mv, lv, lv2, dv⟩ := hvs2
    have MV := hid mv
    have DV := hid dv
    obtain ⟨vl, hvl⟩ : ∃ x, x = vs.length := ⟨_, rfl⟩
    rw [← hvl] at HK lv lv2 ⊢
    have HVL := hid hvl
    have hvd : ((vl : Int) == 0) = false := by rw [beq_eq_false_iff_ne]; omega
    have hvd2 : (vl == 0) = false := by rw [beq_eq_false_iff_ne]; omega
    clear mv dv hvs hv0 hvl
    go_wp2_with fail
    go_loopw [6, 7] (fun ov sv wr => ∃ (s : Nat) (es : List Value) (L : List (List Int)) (uu : World), wr = aft W1 uu ∧ sv = .int .i64 s ∧ (s : Int) ≤ p ∧ Hid (ownZ W1.heap.size wr ov es L) ∧ Hid (fcs p f L) ∧ degS L ≤ sumD p f vs s ∧ Hid (L = [] → ∀ t : Nat, t < s → (commonP p f (gS p vs (t : Int))).length < 2)) (fun _ sv _ => (p - intOf sv).toNat)
    case atStart =>
      refine ⟨0, [], [], W1.alloc (Obj.cells #[] 26), (aft_of (Below.alloc (Below.refl _ _) (Nat.le_refl _) _)).symm, rfl, by omega, hid ⟨rfl, ?_, fun i h => by simp at h⟩, hid (fun h hh => by simp at hh), by simp [degS], hid fun _ t ht => by omega⟩
      exact World.ownsRow_made W1 #[] 0 (Nat.le_refl _) (by simp [maxLen]) (by simp)
    case round =>
      obtain ⟨s, es, L, uu, rfl, rfl, hsp, HZ, HF, hdg, HN⟩ := hrel
      have zs := size_aft W1 uu
      by_cases hlt : (s : Int) < p
      case neg =>
        have es2 : (s : Int) = p := by omega
        have hne : L ≠ [] := fun e => by
          obtain ⟨t, ht1, ht2⟩ := split_ex hs Hf.out.1 (by have := HFL.out; omega) DV.out
          have := HN.out e t (by omega)
          omega
        have hdg2 := sumD_le (v := vs) hs Hf.out.1 (by have := HFL.out; omega) s (by omega)
        have HNE := hid hne
        have hfin : degS L + 1 ≤ Fl := by have := HFL.out; omega
        have hdd : decide ((s : Int) < p) = false := by simp; omega
        clear hne hdg hdg2 HN es2
        go_wp2_with fail
        go_ret
        first | exact ⟨_, es, L, rfl, HZ.out.mono HE.out.2, ⟨HNE.out, HF.out, hfin⟩, (HE.out.aft _).1⟩ | exact ⟨_, rfl, es, L, HZ.out.mono HE.out.2, ⟨HNE.out, HF.out, hfin⟩, (HE.out.aft _).1⟩
      have hdd : decide ((s : Int) < p) = true := by simp; omega
      obtain ⟨g1, g2, g3⟩ := gS_facts hs MV.out (by have := HVL.out; omega) (s : Int)
      have hcf := common_facts hs Hf.out.1 g1 (by have := HFL.out; omega)
      have hgl := mg_len hs hcf.1.1 hcf.1.2.1 g1 g2 hcf.2.2
      have HG1 := hid g1
      have HCF := hid hcf
      have hbs : ∀ j, 0 ≤ vs.getD j 0 ∧ vs.getD j 0 ≤ p - 1 := fun j => getD_bd (b := p - 1) (by omega) MV.out.1 j
      have hss : ∀ j, 0 ≤ [(s : Int)].getD j 0 ∧ [(s : Int)].getD j 0 ≤ p - 1 := fun j => getD_bd (b := p - 1) (by omega) (by intro x hx; simp at hx; omega) j
      have HADD : Hid (∀ (W : World) (r : Value), rdI W r [(s : Int)] → rdI W (.slice ka vl kc) vs → Calls Try.prog 80 #[.slice ka vl kc, r, .int .i64 (-1)] W fun e w' => ∃ v, e = .returned v ∧ ownR W.heap.size w' v (addK (-1) vs [(s : Int)]) ∧ Below W.heap.size W w') := hid fun W r q1 q2 =>
        s_add _ r vs [(s : Int)] (-1) W q2 q1 (by have := HVL.out; omega) (by simp) (fun j => by have := hbs j; unfold i64B; omega) (fun j => by have := hss j; unfold i64B; omega) (fun j => by have := hbs j; have := hss j; unfold i64B; omega)
      have hal := addK_len (-1) vs [(s : Int)]
      have HAL : Hid ((addK (-1) vs [(s : Int)]).length ≤ 9) := hid (by have := HVL.out; simp at hal; omega)
      clear g1 hcf hbs hss hal
      go_wp2_with fail
      refine viaI (g := id) (HADD.out _ _ (rd_one _ _) ((HK.out.rd.aft _).alloc _)) ?_
      intro t1 v1 y1 own1
      have HX1 := hid own1.rd
      clear own1
      go_wp2_with fail
      refine viaI (g := id) (s_reduce p _ (addK (-1) vs [(s : Int)]) _ HX1.out (by omega) (by have := HAL.out; omega)) ?_
      intro t2 v2 y2 own2
      have HX2 := hid own2.rd
      clear own2
      go_wp2_with fail
      refine viaI (g := id) (s_common p _ _ f (redF p (addK (-1) vs [(s : Int)])) _ (((((H21.out.rd).aft _).alloc _).aft _).aft _) HX2.out hs Hf.out.1 HG1.out (by have := HFL.out; omega) (by have := HVL.out; unfold gS at g3; omega)) ?_
      intro t3 v3 y3 own3
      obtain ⟨ga, gc, rfl⟩ := own_len own3
      have HG3 : Hid (ownR 0 (aft (aft (aft ((aft W1 uu).alloc (Obj.cells #[Value.int IntKind.i64 s] 2)) v1) v2) v3) (.slice ga (commonP p f (gS p vs (s : Int))).length gc) (commonP p f (gS p vs (s : Int)))) := hid (own3.mono (Nat.zero_le _))
      clear own3
      have hfold : commonP p f (redF p (addK (-1) vs [(s : Int)])) = commonP p f (gS p vs (s : Int)) := rfl
      rw [hfold]
      have hz3 : Hid (Ext W1.heap.size W1 (aft (aft (aft ((aft W1 uu).alloc (Obj.cells #[Value.int IntKind.i64 s] 2)) v1) v2) v3)) := hid ((((((Ext.refl W1).aft _).alloc _).aft _).aft _).aft _)
      have HZ3 := hid ((((HZ.out.below ((Below.refl _ _).alloc (Nat.le_refl _) (Obj.cells #[Value.int IntKind.i64 s] 2))).below (below_aft _ v1)).below (below_aft _ v2)).below (below_aft _ v3))
      obtain ⟨W4, hW4⟩ : ∃ X, X = aft (aft (aft ((aft W1 uu).alloc (Obj.cells #[Value.int IntKind.i64 s] 2)) v1) v2) v3 := ⟨_, rfl⟩
      rw [← hW4] at HG3 hz3 HZ3 ⊢
      clear hW4 HX1 HX2 HADD hfold
      obtain ⟨G, hG⟩ : ∃ G, G = commonP p f (gS p vs (s : Int)) := ⟨_, rfl⟩
      rw [← hG] at HG3 HCF hgl ⊢
      have hGl9 : G.length + 1 ≤ Fl := by have := HVL.out; omega
      have hG1 : 1 ≤ G.length := HCF.out.1.2.1
      have hsD : sumD p f vs (s + 1) = sumD p f vs s + (G.length - 1) := by rw [hG]; rfl
      by_cases hGl : 1 < G.length
      case neg =>
        have hGd : decide ((1 : Int) < (G.length : Int)) = false := by simp; omega
        have hGd2 : decide (1 < G.length) = false := by simp; omega
        have HN2 : Hid (L = [] → ∀ t : Nat, t < s + 1 → (commonP p f (gS p vs (t : Int))).length < 2) := hid fun e t ht => by
          by_cases e2 : t = s
          · subst e2; rw [← hG]; omega
          · exact HN.out e t (by omega)
        have hdg2 : degS L ≤ sumD p f vs (s + 1) := by omega
        clear hG hGl hsD
        go_wp2_with fail
        go_roundw
        case rel => exact ⟨s + 1, es, L, W4, (aft_of hz3.out.1).symm, by go_num, by omega, HZ3, HF, hdg2, HN2⟩
        case measure => simp only [intOf]; omega
      have hGd : decide ((1 : Int) < (G.length : Int)) = true := by simp; omega
      have hGd2 : decide (1 < G.length) = true := by simp; omega
      have HIH := hid (IH.out (.slice ga G.length gc) G W4 (by omega) HG3.out HCF.out.1 hGl (by omega))
      clear hG hGl
      go_wp2_with fail
      refine viaZ HIH.out ?_
      intro zv es2 L2 u5 z5 ownZ2 hL2
      obtain ⟨hL2a, hL2b, hL2c⟩ := hL2
      have HZ5 := hid (HZ3.out.below (below_aft W4 u5))
      have HO2 := hid ownZ2
      have hlL : L.length ≤ 8 ∧ L2.length ≤ 8 := by
        have h1 := degS_len (L := L) fun x hx => (HF.out x hx).2.1
        have h2 := degS_len (L := L2) fun x hx => (hL2b x hx).2.1
        have h3 := sumD_le (v := vs) hs Hf.out.1 (by have := HFL.out; omega) s (by omega)
        have := HFL.out
        omega
      have HF2 : Hid (fcs p f (L ++ L2)) := hid fun h hh => by
        rcases List.mem_append.1 hh with h1 | h1
        · exact HF.out h h1
        · obtain ⟨q1, q2, q3⟩ := hL2b h h1
          exact ⟨q1, q2, HCF.out.2.1.trans q3⟩
      have hdg3 : degS (L ++ L2) ≤ sumD p f vs (s + 1) := by rw [degS_app]; omega
      have HN3 : Hid (L ++ L2 = [] → ∀ t : Nat, t < s + 1 → (commonP p f (gS p vs (t : Int))).length < 2) := hid fun e => absurd (List.append_eq_nil_iff.1 e).2 hL2a
      have hbase5 : W1.heap.size ≤ (aft W4 u5).heap.size := Nat.le_trans hz3.out.2 z5
      clear ownZ2 hL2a hL2b hL2c hsD HIH
      go_wp2_with (at_builtin; refine wpList_app_rows rfl _ _ 77 rfl W1.heap.size 26 i1 (.slice none 0 0) 1 24 Try.underlying77 hj hy0 hy1 hy2 rfl (by decide) _ _ _ rfl HZ5.out.2.1 _ _ _ _ rfl HO2.out.2.1 HO2.out.oneCell ?c3 ?c4 ?c5 ?_)
      case c3 => unfold maxLen; omega
      case c4 => omega
      case c5 => exact hbase5
      intro v' w' hown' hgrow
      have HZn := hid (HZ5.out.app HO2.out hown' hgrow)
      have hEx : Ext W1.heap.size W1 (aft W4 u5) := hz3.out.aft _
      obtain ⟨u', rfl⟩ := grown_aft (W := W1) hEx hgrow HZ5.out.row
      clear hown' hgrow hEx
      go_wp2_with fail
      exact ⟨⟨s + 1, es ++ es2, L ++ L2, u', rfl, by go_num, by omega, HZn, HF2, hdg3, HN3⟩, by simp only [intOf]; omega⟩
end Go.Proofs.Ytflmoopiajhadaa
