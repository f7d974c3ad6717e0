/- The permutation with a rank: the statement's text. -/
import Derived.Test.YtbkbcbanfnhjpaaMA
import Derived.Deep.AppendLies
import Derived.Maps.AppendAt
namespace Go.Proofs.Ytbkbcbanfnhjpaa
open Go Go.RowKit

def apart (v o : Value) : Prop := ∀ k, v.ownBlock = some k → o.ownBlock ≠ some k
theorem apart_lt {L : Nat} {v o : Value} (h : ∀ k, v.ownBlock = some k → L ≤ k) (ho : rowLt L o) : apart v o := fun k hk e => by have := h k hk; have := ho k e; omega
theorem own_apart' {B : Nat} {w w' : World} {v o : Value} {xs : List Int} (h : ownR B w v xs) (ha : apart v o) (hg : w.grownBy w' o.ownBlock) : ownR B w' v xs :=
  h.kept fun k hk hb => hg.block k hk fun e => ha k hb e.symm
/-- x[:l] and x[l:] of a row of the call's own. -/
theorem cutH_rule {B g cap n : Nat} {w : World} {xs : List Int} {q : Nat} (h : ownR B w (.slice (some ⟨g, 0, none⟩) n cap) xs) (hq : q ≤ xs.length) :
    (∀ wx, (Instr.slice 24 (.slice (some ⟨g, 0, none⟩) n cap) none (some (.int .i64 (q : Int))) none).run Try.prog wx = .ok (.slice (some ⟨g, 0, none⟩) q cap) wx) ∧ ownR B w (.slice (some ⟨g, 0, none⟩) q cap) (xs.take q) := by
  have ht' : Try.prog.underlying 24 = some (.slice (Try.prog.elem 24)) := by kernel_rfl
  have hn : n = xs.length := by
    rcases h.2 with ⟨e, h1⟩ | ⟨g', c, cur, e, _⟩
    · cases e
    · cases e; rfl
  subst hn
  have hc := h.le
  refine ⟨fun wx => ?_, own_cut h hq⟩
  rw [run_slice_h wx _ _ _ _ ht' .i64 _ (by omega) (by omega)]
  have he : Try.prog.elem 24 = 2 := by kernel_rfl
  rw [he, sizeI]
  simp [sliced, Result.andThen, Addr.add]
theorem cutL_rule {B g cap n : Nat} {w : World} {xs : List Int} {q : Nat} (h : ownR B w (.slice (some ⟨g, 0, none⟩) n cap) xs) (hq : q ≤ xs.length) :
    ∃ ad c, (∀ wx, (Instr.slice 24 (.slice (some ⟨g, 0, none⟩) n cap) (some (.int .i64 (q : Int))) none none).run Try.prog wx = .ok (.slice (some ad) (xs.length - q) c) wx) ∧ ∀ j u, (vI (xs.drop q))[j]? = some u → w.cell? (ad.add j) = some u := by
  have hn : n = xs.length := by
    rcases h.2 with ⟨e, h1⟩ | ⟨g', c, cur, e, _⟩
    · cases e
    · cases e; rfl
  subst hn
  have ht' : Try.prog.underlying 24 = some (.slice (Try.prog.elem 24)) := by kernel_rfl
  have he : Try.prog.elem 24 = 2 := by kernel_rfl
  have hc := h.le
  refine ⟨if cap = q then ⟨g, 0, none⟩ else (⟨g, 0, none⟩ : Addr).add q, cap - q, fun wx => ?_, fun j u hj => ?_⟩
  · rw [run_slice_l wx _ _ _ _ ht' .i64 _ (by omega) (by omega), he, sizeI]
    simp only [Result.andThen, sliced, Nat.mul_one, Int.toNat_natCast]
    split <;> simp
  · obtain ⟨hlt, hu⟩ := List.getElem?_eq_some_iff.1 hj
    have hlt' : q + j < xs.length := by rw [vI_len, List.length_drop] at hlt; omega
    rw [if_neg (by omega)]
    have h2 := own_cell h hlt'
    have e : ((⟨g, 0, none⟩ : Addr).add q).add j = ⟨g, q + j, none⟩ := by rw [Addr.add_lit, Addr.add_lit, Nat.zero_add]
    rw [e, h2, ← hu]
    simp [vI, List.getD, List.getElem?_eq_getElem hlt']

/-- An append at a step of a region that draws its order. -/
theorem step_append_own {P : Program} {w : World} {ops : Array Oper} {o : Oper} {a : Act} {K : Act → World → Prop} {Q : Exit → Act → World → Prop} {E : Prop} (hgd : o.guard = none) (s x : Operand) (t : TypeId)
    (ho : o.op = .call { callee := .builtin .append, args := #[s, x], argTypes := #[t, t] })
    (base : Nat) (e : TypeId) (i : TypeInfo) (z : Value) (size bytes : Nat) (ht : P.underlying t = some (.slice e)) (hi : P.info? e = some i) (hz : i.zero = some z)
    (hsize : i.size = size) (hby : i.bytes = bytes) (hzs : z.cells.size = size) (hsz : 0 < size)
    (v : Value) (n : Nat) (xs : List Value) (hs : a.eval s = v) (hown : w.ownsRow base e size v n xs)
    (ad : Addr) (m c : Nat) (news : List Value) (hx : a.eval x = .slice (some ad) m c) (hl : news.length = m * size) (hnews : ∀ j u, news[j]? = some u → w.cell? (ad.add j) = some u) (h1 : ∀ u ∈ news, u.oneCell' = true)
    (h63 : n + m ≤ maxLen) (hbytes : (n + m) * bytes ≤ 140737488355328) (hbase : base ≤ w.heap.size)
    (h : ∀ v' w', w'.ownsRow base e size v' (n + m) (xs ++ news) → w.grownBy w' v.ownBlock → K (a.put o.dst v') w') :
    if Region.wanted o (yielded ops a.tmps) = true then Oper.wp P o a w K Q else E := by
  have hw : Region.wanted o (yielded ops a.tmps) = true := by simp [Region.wanted, hgd]
  rw [if_pos hw]
  exact wp_append_own w s x t ho base e i z size bytes ht hi hz hsize hby hzs hsz v n xs hs hown ad m c news hx hl hnews h1 h63 hbytes hbase fun v' w' h2 h3 _ => h v' w' h2 h3
theorem rd_keep {w w' : World} {ad : Addr} {vs : List Value} (h : ∀ j u, vs[j]? = some u → w.cell? (ad.add j) = some u) (hb : Below w.heap.size w w') : ∀ j u, vs[j]? = some u → w'.cell? (ad.add j) = some u :=
  fun j u hj => by rw [hb.cell (p := ad.add j) (World.block_lt_of_cell? w _ (h j u hj))]; exact h j u hj
theorem ext_grown {w0 w w' : World} {o : Value} (h : Ext w0.heap.size w0 w) (hg : w.grownBy w' o.ownBlock) (ho : ∀ k, o.ownBlock = some k → w0.heap.size ≤ k) : Ext w0.heap.size w0 w' :=
  ⟨h.1.grown hg h.2 ho, Nat.le_trans h.2 hg.size⟩

set_option maxRecDepth 20000 in
set_option maxHeartbeats 8000000 in
theorem s_with (n : Nat) (r0 : Int) (w : World) (hn : n ≤ 6) (hr0 : 0 ≤ r0) (hr1 : r0 < (facN n : Int)) :
    Calls Try.prog 96 #[.int .i64 n, .int .i64 r0] w fun e w' => ∃ v, e = .returned v ∧ ownR w.heap.size w' v (withF n r0) ∧ Below w.heap.size w w' := by
  obtain ⟨i0, hi, hz0, hz1, hz2⟩ := info_parts infoI
  go_enter Try.func96, Try.ntmps96
  go_wp2_with fail
  refine viaI (g := id) (s_id n _ hn) ?_
  intro l0 u0 z0 ownl
  try simp at z0
  go_wp2_with fail
  go_loopw [6, 5, 7, 1] (fun o l k r wr => ∃ (m : Nat) (rr : Int) (left dn : List Int), m ≤ n ∧ k = .int .i64 m ∧ r = .int .i64 rr ∧ 0 ≤ rr ∧ rr < (facN m : Int) ∧ left.length = m ∧ w.heap.size ≤ wr.heap.size ∧ dn.length + m = n ∧ Hid (dn ++ withG m rr left = withF n r0) ∧ Hid (ownR w.heap.size wr l left ∧ apart l o) ∧ Hid (ownR w.heap.size wr o dn) ∧ Hid (Below w.heap.size w wr)) (fun _ _ k _ _ => (intOf k).toNat)
  case atStart => exact ⟨n, r0, idP n, [], by omega, rfl, rfl, hr0, hr1, idP_len n, by simp; omega, by simp, hid rfl, hid ⟨ownl.alloc _, fun k hk e => by have := ownl.rowLt k hk; simp [Value.ownBlock] at e; omega⟩, hid ((own_made _).mono z0), hid (by refine Ext.bel ?_; repeat (with_reducible first | exact Ext.refl _ | apply Ext.alloc | apply Ext.aft | apply Ext.drew | apply Ext.drewN))⟩
  case round =>
    obtain ⟨m, rr, left, dn, hm, rfl, rfl, h0, h1, hl, hsz, hdn, HW, HL, HO, HB⟩ := hrel
    cases m with
    | zero =>
      have E := hid (show dn = withF n r0 by have := HW.out; simpa [withG] using this)
      have hz : ¬ (0 : Int) < 0 := by omega
      go_wp2_with fail
      go_ret
      exact ⟨_, rfl, by rw [← E.out]; exact HO.out, HB.out⟩
    | succ j =>
      obtain ⟨q, hqe, hq, hr2, hr3, hel, hst⟩ := with_step h0 h1 hl HW.out
      have hf := facN_pos j
      have hf7 := facN_le (show j ≤ 6 by omega)
      have hqt : rr.tdiv (facN j : Int) = q := by rw [Int.tdiv_eq_ediv_of_nonneg h0]; exact hqe
      have hq6 : (q : Int) ≤ 6 := by omega
      clear hqe
      obtain ⟨g, cap, rfl, hgl, hlc, hcm⟩ := own_some HL.out.1 (by intro e; subst e; simp at hl)
      rw [hl] at HL ⊢
      have hc := own_cell HL.out.1 hq
      obtain ⟨x, hx⟩ : ∃ x, x = left.getD q 0 := ⟨_, rfl⟩
      rw [← hx] at hc hst
      obtain ⟨r2, hr2e⟩ : ∃ r2, rr % (facN j : Int) = r2 := ⟨_, rfl⟩
      rw [hr2e] at hr2 hr3 hst
      have HS := hid hst
      have HE := hid hel
      have hkz : (0 : Int) < ((j + 1 : Nat) : Int) := by omega
      have hf0 : ((facN j : Int) == 0) = false := by simp; omega
      have hown := HO.out
      have hql : (q : Int) < left.length := by omega
      clear hx hst hel HW
      go_wp2_with (first | (go_at_call 84; refine pur (s_factE j _ _ (by omega) (by omega)) ?_) | (at_builtin; refine wpList_append_own _ rfl _ _ 24 rfl (w.heap.size) 2 i0 (.int .i64 0) 1 8 Try.underlying24 hi hz0 hz1 hz2 rfl (by decide) _ _ _ rfl (hown.alloc _) ⟨_, 0, none⟩ 1 1 [.int .i64 (x)] rfl rfl ?c1 ?c2 ?c3 ?c4 ?c5 ?_))
      try case c1 => exact cell_one_new _ _ _
      case c2 => first | rfl | (intro u hu; simp at hu; subst hu; rfl)
      case c3 => first | (unfold maxLen; omega) | (simp; unfold maxLen; omega)
      case c4 => first | omega | (simp; omega)
      case c5 => first | omega | (simp; omega)
      intro v' w1 hown' hgrow _
      have hL1 : ownR w.heap.size w1 (.slice (some ⟨g, 0, none⟩) (j + 1) cap) left := own_apart' (HL.out.1.alloc _) HL.out.2 hgrow
      have HB1 : Hid (Below w.heap.size w w1) := hid ((HB.out.alloc HB.out.size _).grown hgrow (by simp; omega) (fun k hk => own_row_ge hown k hk))
      have hs1 : w.heap.size ≤ w1.heap.size := by have := hgrow.size; simp at this; omega
      have HO1 : Hid (ownR w.heap.size w1 v' (dn ++ [x])) := hid (ownR.snoc hown')
      obtain ⟨hs1r, hok⟩ := cutH_rule (q := q) hL1 (by omega)
      obtain ⟨ad, c2, hs2r, hnews⟩ := cutL_rule (q := q + 1) hL1 (by omega)
      have HN := hid hnews
      have HK := hid hok.rd
      have e1 : ((q + 1 : Nat) : Int) = (q : Int) + 1 := by omega
      rw [e1, hl, show j + 1 - (q + 1) = j - q by omega] at hs2r
      have hm1 : left.length - (q + 1) = j - q := by omega
      have H1 := hid (vI_one (left.drop (q + 1)))
      have HD : Hid ((vI (left.drop (q + 1))).length = (j - q) * 1) := hid (by rw [vI_len, List.length_drop]; omega)
      have HT : Hid ((left.take q).length = q) := hid (by rw [List.length_take]; omega)
      have hj6 : j ≤ 6 := by omega
      have HEX : Hid (Ext w1.heap.size w1 w1) := hid (Ext.refl _)
      clear hown' hgrow hown hc hnews hok hq hql hL1 e1 hl
      go_wp2_with fail
      obtain ⟨lv, hlv⟩ : ∃ lv, lv = Value.slice (some ⟨g, 0, none⟩) (j + 1) cap := ⟨_, rfl⟩
      rw [← hlv] at hs1r hs2r ⊢
      clear hlv
      have hwq : IntKind.i64.wrap ((q : Int) + 1) = (q : Int) + 1 := by rw [IntKind.wrap_i64]; omega
      go_region_held3 (fun w' => Ext w1.heap.size w1 w') ((repeat (with_reducible first | assumption | exact Ext.refl _ | apply Ext.aft | apply Ext.alloc | apply Ext.drew | apply Ext.drewN))) (first | (go_at_call 109; refine viaI (g := id) (s_own _ _ _ (HK.out.below (Ext.bel (by assumption))) (by have := HT.out; omega)) ?_; intro t1 u1 z1 own1; (try simp at z1)) | (refine step_append_own (by rfl) _ _ 24 (by rfl) w1.heap.size 2 i0 (.int .i64 0) 1 8 Try.underlying24 hi hz0 hz1 hz2 rfl (by decide) t1 (left.take q).length (vI (left.take q)) (by rfl) (ownR.mono own1 (by first | exact Nat.le_refl _ | omega)) ad (j - q) c2 (vI (left.drop (q + 1))) (by rfl) HD.out (rd_keep HN.out (Ext.bel (by assumption))) H1.out (by have := HT.out; unfold maxLen; omega) (by have := HT.out; omega) (by omega) ?_; intro v3 w3 hw3 hg3; have hE3 := ext_grown (by assumption) hg3 (own_row_ge (ownR.mono own1 (by first | exact Nat.le_refl _ | omega)))))
      have HLn : Hid (ownR w1.heap.size w3 v3 (left.eraseIdx q)) := hid (by
        have e : left.eraseIdx q = left.take q ++ left.drop (q + 1) := List.eraseIdx_eq_take_drop_succ ..
        rw [e]
        unfold ownR
        have hl3 : (left.take q ++ left.drop (q + 1)).length = (left.take q).length + (j - q) := by
          have := HD.out
          rw [vI_len] at this
          rw [List.length_append]; omega
        rw [hl3]
        have h4 := hw3
        unfold vI at h4 ⊢
        rw [List.map_append]; exact h4)
      have HE3 := hid hE3
      clear hw3 hg3 own1
      go_wp2_with fail
      go_roundw
      case rel => exact ⟨j, r2, left.eraseIdx q, dn ++ [x], by omega, by go_num, by first | rfl | (simp [hr2e]), hr2, hr3, HE.out, Nat.le_trans hs1 HE3.out.2, by simp; omega, HS, hid ⟨HLn.out.mono hs1, apart_lt (own_row_ge HLn.out) HO1.out.rowLt⟩, hid (HO1.out.below HE3.out.1), hid (HB1.out.trans (HE3.out.1.mono hs1))⟩
      case measure => simp only [intOf]; omega
end Go.Proofs.Ytbkbcbanfnhjpaa
