/- slices.DeleteFunc over slices of slices; the group of some permutations: the program's text. -/
import Derived.Test.YtbkbcbanfnhjpaaK8
import Derived.Test.YtbkbcbanfnhjpaaP1
import Derived.Test.YtbkbcbanfnhjpaaO1
namespace Go.Proofs.Ytbkbcbanfnhjpaa
open Go Go.RowKit

/-- What is asked of a predicate while a row is rewritten: in every world in which all but that row lies as in w, at each of these lists, it tells p, and all that lay lies. -/
def predG (g : Nat) (lb : Array Value) (p : List Int → Bool) (xss : List (List Int)) (row : Option Nat) (w : World) : Prop :=
  ∀ (W : World) (v : Value) (xs : List Int), w.grownBy W row → xs ∈ xss → ownR 0 W v xs → Calls Try.prog g (#[v] ++ lb) W fun e w' => e = .returned (.bool (p xs)) ∧ Below W.heap.size W w'
theorem below_grownBy {w w' : World} (h : Below w.heap.size w w') (row : Option Nat) : w.grownBy w' row := ⟨h.os, h.tape, h.output, h.size, fun k hk _ => h.block k hk⟩
set_option maxRecDepth 20000 in
set_option maxHeartbeats 2000000 in
theorem lib_indexX (g : Nat) (lb : Array Value) (p : List Int → Bool) (row : Option Nat) (eg : ∀ args w, (callFunc g args).run Try.prog w = .ok (.enter g args) w) (r : Value) (xs : List (List Int)) (w : World) (h : rdRR w r xs) (hp : predG g lb p xs row w) :
    Calls Try.prog 126 #[r, .func (.func g) #[] lb] w fun e w' => (∃ k : Int, e = .returned (.int .i64 k) ∧ ((k = -1 ∧ xs.any p = false) ∨ ∃ (i : Nat) (h : i < xs.length), k = i ∧ (xs.take i).any p = false ∧ p xs[i] = true)) ∧ Below w.heap.size w w' := by
  obtain ⟨a, cap, rfl, hm, hc⟩ := h
  have Hc := hid hc
  have Hp := hid hp
  unfold maxLen at hm
  clear hc hp
  go_enter Try.func126, Try.ntmps126
  go_wp2_with fail
  go_loopw [5, 8] (fun _ i wr => ∃ k : Nat, k ≤ xs.length ∧ i = .int .i64 k ∧ Hid (Below w.heap.size w wr) ∧ Hid ((xs.take k).any p = false)) (fun _ i _ => xs.length - (intOf i).toNat)
  case atStart => exact ⟨0, by omega, rfl, hid (Below.refl _ _), hid (by simp)⟩
  case round =>
    obtain ⟨k, hk, rfl, HB, HA⟩ := hrel
    by_cases hlt : k < xs.length
    · obtain ⟨b, o, rfl, hcell⟩ := Hc.out (by intro e; subst e; simp at hlt)
      obtain ⟨e1, h1, ho⟩ := hcell k hlt
      have hbl := World.block_lt_of_cell? w _ h1
      have h2 := HB.out.cell (p := ⟨b, o + k, none⟩) hbl
      rw [h1] at h2
      have ho2 : ownR 0 wr e1 xs[k] := ho.kept fun j hj _ => HB.out.block j hj
      have hcall := Hp.out _ e1 xs[k] (below_grownBy HB.out row) (List.getElem_mem hlt) ho2
      have hltz : (k : Int) < (xs.length : Int) := by omega
      clear hcell h1 ho ho2
      cases hq : p xs[k] with
      | true =>
        rw [hq] at hcall
        have HQ := hid hq
        clear hq
        go_wp2_with fail
        refine hcall.mono ?_
        rintro e w' ⟨rfl, hb'⟩
        have HB' := hid (HB.out.trans (hb'.mono HB.out.size))
        clear hb'
        go_wp2_with fail
        go_ret
        exact ⟨⟨_, rfl, .inr ⟨k, hlt, rfl, HA.out, HQ.out⟩⟩, HB'.out⟩
      | false =>
        rw [hq] at hcall
        have HQ := hid hq
        clear hq
        go_wp2_with fail
        refine hcall.mono ?_
        rintro e w' ⟨rfl, hb'⟩
        have HB' := hid (HB.out.trans (hb'.mono HB.out.size))
        clear hb'
        go_wp2_with fail
        go_roundw
        case rel => exact ⟨k + 1, by omega, by go_num, HB', hid (anyR_take_f hlt HA.out HQ.out)⟩
        case measure => simp only [intOf]; omega
    · obtain rfl : k = xs.length := by omega
      have hltz : ¬ (xs.length : Int) < (xs.length : Int) := by omega
      have HN := hid (show xs.any p = false by have := HA.out; rwa [List.take_length] at this)
      go_wp2
      go_ret
      refine ⟨⟨_, rfl, .inl ⟨rfl, ?_⟩⟩, HB.out⟩
      first | exact HN.out | (have := HN.out; simpa using this)

/-- What a round of the deletion keeps: what is kept so far stands in front, what is not yet seen stands as it was. -/
structure DelInv (p : List Int → Bool) (es : List Value) (xss : List (List Int)) (cs fs : List Value) (i j : Nat) : Prop where
  len : cs.length = es.length
  ij : i ≤ j
  jn : j ≤ xss.length
  pre : cs.take i = fs
  flen : fs.length = i
  rest : ∀ t, j ≤ t → cs[t]? = es[t]?
  fl : ((xss.take j).filter fun x => !p x).length = i
theorem DelInv.skip {p : List Int → Bool} {es : List Value} {xss : List (List Int)} {cs fs : List Value} {i j : Nat} (h : DelInv p es xss cs fs i j) (hj : j < xss.length) (hp : p xss[j] = true) : DelInv p es xss cs fs i (j + 1) :=
  ⟨h.len, by have := h.ij; omega, hj, h.pre, h.flen, fun t ht => h.rest t (by omega), by rw [List.take_succ_eq_append_getElem hj, List.filter_append, List.length_append, h.fl]; simp [hp]⟩
theorem DelInv.keep {p : List Int → Bool} {es : List Value} {xss : List (List Int)} {cs fs : List Value} {i j : Nat} {e : Value} (h : DelInv p es xss cs fs i j) (hl : es.length = xss.length) (hj : j < xss.length) (hp : p xss[j] = false) : DelInv p es xss (cs.set i e) (fs ++ [e]) (i + 1) (j + 1) := by
  have hij := h.ij
  have hil : i < cs.length := by rw [h.len, hl]; omega
  refine ⟨by rw [List.length_set]; exact h.len, by omega, hj, ?_, by rw [List.length_append, h.flen]; rfl, fun t ht => by rw [List.getElem?_set_ne (by omega)]; exact h.rest t (by omega), by rw [List.take_succ_eq_append_getElem hj, List.filter_append, List.length_append, h.fl]; simp [hp]⟩
  rw [List.take_succ_eq_append_getElem (by rw [List.length_set]; exact hil), List.take_set_of_le (by omega), h.pre]
  simp

theorem own_setCells {B g cap n : Nat} {T : TypeId} : ∀ (vs : List Value) (o i : Nat) (w : World) (cs : List Value), i ≤ o → w.ownsRow B T 1 (.slice (some ⟨g, 0, none⟩) n cap) n cs →
    ∃ cs', (w.setCells g o vs).ownsRow B T 1 (.slice (some ⟨g, 0, none⟩) n cap) n cs' ∧ cs'.take i = cs.take i ∧ w.grownBy (w.setCells g o vs) (some g) := by
  intro vs
  induction vs with
  | nil => intro o i w cs _ h; exact ⟨cs, h, rfl, grownBy_refl _ _⟩
  | cons v r ih =>
    intro o i w cs hi h
    obtain ⟨h1, h2⟩ := h.stored o v
    obtain ⟨cs', h3, h4, h5⟩ := ih (o + 1) i _ _ (by omega) h1
    exact ⟨cs', h3, by rw [h4, List.take_set_of_le hi], grownBy_trans h2 h5⟩
theorem own_prefix {B g cap n m : Nat} {T : TypeId} {w : World} {cs : List Value} (h : w.ownsRow B T 1 (.slice (some ⟨g, 0, none⟩) n cap) n cs) (hm : m ≤ n) : w.ownsRow B T 1 (.slice (some ⟨g, 0, none⟩) m cap) m (cs.take m) := by
  have hl := h.1
  rcases h.2 with ⟨e, _⟩ | ⟨g', c, cur, e, hb, hh, h1, h2, h3, h4⟩
  · cases e
  · cases e
    refine ⟨by rw [List.length_take]; omega, .inr ⟨g, cap, cur, rfl, hb, hh, by omega, h2, h3, ?_⟩⟩
    have e : cur.toList.take (m * 1) = (cur.toList.take (n * 1)).take (m * 1) := by rw [List.take_take]; congr 1; omega
    rw [e, h4, Nat.mul_one]
theorem zeroS : ∀ w, (zeroValue 24).run Try.prog w = .ok (.slice none 0 0) w := fun w => by simp [go_sem]
set_option maxRecDepth 20000 in
set_option maxHeartbeats 8000000 in
theorem lib_deleteX (B g0 : Nat) (lb : Array Value) (p : List Int → Bool) (eg : ∀ args w, (callFunc g0 args).run Try.prog w = .ok (.enter g0 args) w) (v : Value) (xss : List (List Int)) (w : World) (h : ownRR B w v xss) (hp : predG g0 lb p xss v.ownBlock w) :
    Calls Try.prog 111 #[v, .func (.func g0) #[] lb] w fun e w' => ∃ v', e = .returned v' ∧ ownRR B w' v' (xss.filter fun x => !p x) ∧ w.grownBy w' v.ownBlock := by
  have hrd := h.rd
  obtain ⟨es, hel, hrow, hee⟩ := h
  obtain ⟨a, cap, hsh, hm, _⟩ := id hrd
  unfold maxLen at hm
  have Hp := hid hp
  have Hel := hid hel
  have Hrow := hid hrow
  have Hee := hid hee
  have HRD := hid hrd
  subst hsh
  clear hp hel hrow hee hrd
  go_enter Try.func111, Try.ntmps111
  go_wp2_with fail
  refine (lib_indexX g0 lb p _ eg _ xss _ HRD.out Hp.out).mono ?_
  rintro e w1 ⟨⟨k, rfl, hk⟩, hb1⟩
  have HB1 := hid hb1
  clear hb1
  rcases hk with ⟨rfl, hno⟩ | ⟨i, hi, rfl, hpre, hit⟩
  · have hfe : Hid ((xss.filter fun x => !p x) = xss) := hid (List.filter_eq_self.2 fun x hx => by
      have := (List.any_eq_false.1 hno) x hx; simpa using this)
    clear hno
    go_wp2_with fail
    go_ret
    refine ⟨_, rfl, ?_, below_grownBy HB1.out _⟩
    rw [hfe.out]
    exact ownRR.below ⟨es, Hel.out, Hrow.out, Hee.out⟩ HB1.out
  · obtain ⟨g, hag, hgB⟩ : ∃ g, a = some ⟨g, 0, none⟩ ∧ B ≤ g := by
      rcases Hrow.out.2 with ⟨e0, hn⟩ | ⟨g, cap', cur, e0, hg, _⟩
      · omega
      · injection e0 with e1; exact ⟨g, e1, hg⟩
    subst hag
    have hcap : xss.length ≤ cap := by
      rcases Hrow.out.2 with ⟨e0, hn⟩ | ⟨g', cap', cur, e0, hg, hh, h1, _⟩
      · cases e0
      · injection e0 with e1 e2 e3; omega
    have hG1 : w.grownBy w1 (some g) := below_grownBy HB1.out _
    have HI0 : Hid (DelInv p es xss es (es.take i) i (i + 1)) := hid ⟨rfl, by omega, hi, rfl, by rw [List.length_take, Hel.out]; omega, fun _ _ => rfl, by
      rw [List.take_succ_eq_append_getElem hi, List.filter_append, List.length_append]
      have e1 : ((xss.take i).filter fun x => !p x) = xss.take i := List.filter_eq_self.2 fun x hx => by
        have := (List.any_eq_false.1 hpre) x hx; simpa using this
      rw [e1, List.length_take]; simp [hit]; omega⟩
    have HF0 : Hid (∀ t, (h : t < ((xss.take (i + 1)).filter fun x => !p x).length) → ∃ e, (es.take i)[t]? = some e ∧ ownR B w e ((xss.take (i + 1)).filter fun x => !p x)[t]) := hid (by
      have e1 : ((xss.take (i + 1)).filter fun x => !p x) = xss.take i := by
        rw [List.take_succ_eq_append_getElem hi, List.filter_append]
        have e1 : ((xss.take i).filter fun x => !p x) = xss.take i := List.filter_eq_self.2 fun x hx => by
          have := (List.any_eq_false.1 hpre) x hx; simpa using this
        rw [e1]; simp [hit]
      rw [e1]
      intro t ht
      have ht' : t < i := by rw [List.length_take] at ht; omega
      obtain ⟨e, he1, he2⟩ := Hee.out t (by omega)
      exact ⟨e, by rw [List.getElem?_take_of_lt ht']; exact he1, by rw [List.getElem_take]; exact he2⟩)
    have HR1 : Hid (w1.ownsRow B 24 1 (.slice (some ⟨g, 0, none⟩) xss.length cap) xss.length es) := hid (owns_kept Hrow.out fun k hk _ => HB1.out.block k hk)
    have HG1 := hid hG1
    have hik : ((i : Int) == -1) = false := by rw [beq_eq_false_iff_ne]; omega
    clear hpre hit hG1
    go_wp2_with fail
    go_loopw [5, 6] (fun s t wr => ∃ (i j : Nat) (cs fs : List Value), s = .int .i64 i ∧ t = .int .i64 j ∧ i < j ∧ j ≤ xss.length ∧ Hid (DelInv p es xss cs fs i j) ∧ Hid (∀ t, (h : t < ((xss.take j).filter fun x => !p x).length) → ∃ e, fs[t]? = some e ∧ ownR B w e ((xss.take j).filter fun x => !p x)[t]) ∧ Hid (wr.ownsRow B 24 1 (.slice (some ⟨g, 0, none⟩) xss.length cap) xss.length cs) ∧ Hid (w.grownBy wr (some g))) (fun _ t _ => xss.length - (intOf t).toNat)
    case atStart => exact ⟨i, i + 1, es, es.take i, rfl, by go_num, by omega, by omega, HI0, HF0, HR1, HG1⟩
    case round =>
      obtain ⟨i, j, cs, fs, rfl, rfl, hij, hj, HI, HF, HR, HG⟩ := hrel
      by_cases hlt : j < xss.length
      · have hltz : (j : Int) < (xss.length : Int) := by omega
        obtain ⟨e1, he1, ho1⟩ := Hee.out j hlt
        have hcj := HR.out.cellAt j (by omega)
        rw [HI.out.rest j (Nat.le_refl _), he1] at hcj
        have hci := HR.out.cellAt i (by omega)
        have hcl := HI.out.len
        have hel := Hel.out
        obtain ⟨y, hy⟩ : ∃ y, cs[i]? = some y := ⟨_, List.getElem?_eq_getElem (by omega)⟩
        rw [hy] at hci
        have hfi := HR.out.frozenAt i
        have ho2 : ownR 0 wr e1 xss[j] := (ho1.mono (Nat.zero_le _)).kept fun k hk hb => HG.out.block k hk fun e => by
          injection e with e; subst e
          exact own_apart Hrow.out ho1 k hb rfl
        have hcall := Hp.out _ e1 xss[j] HG.out (List.getElem_mem hlt) ho2
        obtain ⟨a1, c1, hsh1, _, _⟩ := ho1.rd
        subst hsh1
        have hiz : (i : Int) < (xss.length : Int) := by omega
        cases hq : p xss[j] with
        | true =>
          rw [hq] at hcall
          have HI2 := hid (HI.out.skip hlt hq)
          have HF2 : Hid (∀ t, (h : t < ((xss.take (j + 1)).filter fun x => !p x).length) → ∃ e, fs[t]? = some e ∧ ownR B w e ((xss.take (j + 1)).filter fun x => !p x)[t]) := hid (by
            have e1 : ((xss.take (j + 1)).filter fun x => !p x) = ((xss.take j).filter fun x => !p x) := by rw [List.take_succ_eq_append_getElem hlt, List.filter_append]; simp [hq]
            rw [e1]; exact HF.out)
          clear hq hy he1 ho1 ho2 hci hfi
          go_wp2_with fail
          refine hcall.mono ?_
          rintro e w' ⟨rfl, hb'⟩
          have HR2 := hid (owns_kept HR.out fun k hk _ => hb'.block k hk)
          have HG2 := hid (grownBy_trans HG.out (below_grownBy hb' (some g)))
          clear hb'
          go_wp2_with fail
          go_roundw
          case rel => exact ⟨i, j + 1, cs, fs, rfl, by go_num, by omega, by omega, HI2, HF2, HR2, HG2⟩
          case measure => simp only [intOf]; omega
        | false =>
          rw [hq] at hcall
          have HI2 := hid (HI.out.keep (e := .slice a1 (xss[j]).length c1) Hel.out hlt hq)
          have HF2 : Hid (∀ t, (h : t < ((xss.take (j + 1)).filter fun x => !p x).length) → ∃ e, (fs ++ [.slice a1 (xss[j]).length c1])[t]? = some e ∧ ownR B w e ((xss.take (j + 1)).filter fun x => !p x)[t]) := hid (by
            have e1 : ((xss.take (j + 1)).filter fun x => !p x) = ((xss.take j).filter fun x => !p x) ++ [xss[j]] := by rw [List.take_succ_eq_append_getElem hlt, List.filter_append]; simp [hq]
            rw [e1]
            have hfl := HI.out.fl
            have hfl2 := HI.out.flen
            intro t ht
            rcases Nat.lt_or_ge t ((xss.take j).filter fun x => !p x).length with h1 | h1
            · obtain ⟨e, h2, h3⟩ := HF.out t h1
              exact ⟨e, by rw [List.getElem?_append_left (by omega)]; exact h2, by rw [List.getElem_append_left h1]; exact h3⟩
            · obtain rfl : t = ((xss.take j).filter fun x => !p x).length := by simp at ht; omega
              exact ⟨_, by rw [List.getElem?_append_right (by omega), show ((xss.take j).filter fun x => !p x).length - fs.length = 0 by omega]; rfl, by simpa using ho1⟩)
          clear hq hy he1 ho2
          go_wp2_with fail
          refine hcall.mono ?_
          rintro e w' ⟨rfl, hb'⟩
          have hR2 := owns_kept HR.out fun k hk _ => hb'.block k hk
          have HG2 := hid (grownBy_trans HG.out (below_grownBy hb' (some g)))
          have hcc := hR2.cellAt i (by omega)
          have hff := hR2.frozenAt i
          obtain ⟨y, hy⟩ : ∃ y, cs[i]? = some y := ⟨_, List.getElem?_eq_getElem (by omega)⟩
          rw [hy] at hcc
          have HS := hid (hR2.stored i (.slice a1 (xss[j]).length c1))
          clear hb' hci hfi hy hR2
          go_wp2_with fail
          go_roundw
          case rel => exact ⟨i + 1, j + 1, _, _, by go_num, by go_num, by omega, by omega, HI2, HF2, hid HS.out.1, hid (grownBy_trans HG2.out HS.out.2)⟩
          case measure => simp only [intOf]; omega
      · obtain rfl : j = xss.length := by omega
        have hltz : ¬ (xss.length : Int) < (xss.length : Int) := by omega
        have hcl : ∀ ty, (Builtin.clear_ #[37] ty #[.slice (some ⟨g, i, none⟩) (xss.length - i) (cap - i)]).run Try.prog wr = .ok (.tuple #[]) (wr.setCells g i (List.replicate (xss.length - i) (.slice none 0 0))) :=
          fun ty => Lib.run_clear_slice wr _ _ ty _ Try.underlying37 zeroS rfl rfl g i _ _ (by omega) (fun t ht => by
            rw [HR.out.cellAt (i + t) (by omega), List.getElem?_eq_getElem (by have := HI.out.len; have := Hel.out; omega)]; rfl) (fun t ht => HR.out.frozenAt (i + t))
        have hne : ¬ cap = i := by omega
        have hiz : (i : Int) ≤ (xss.length : Int) := by omega
        go_wp2_with fail
        go_ret
        have hI := HI.out
        have htk : xss.take xss.length = xss := List.take_length
        obtain ⟨cs', h1, h2, h3⟩ := own_setCells (List.replicate (xss.length - i) (.slice none 0 0)) i i _ _ (Nat.le_refl _) HR.out
        have hfl := hI.fl
        rw [htk] at hfl
        have hF := HF.out
        rw [htk] at hF
        refine ⟨_, rfl, ⟨fs, ?_, ?_, ?_⟩, grownBy_trans HG.out h3⟩
        · rw [hI.flen, hfl]
        · rw [hfl]
          have := own_prefix h1 (m := i) (by omega)
          rw [h2, hI.pre] at this
          exact this
        · intro t ht
          obtain ⟨e, he1, he2⟩ := hF t ht
          refine ⟨e, he1, he2.kept fun k hk hb => (grownBy_trans HG.out h3).block k hk fun e => ?_⟩
          injection e with e; subst e
          exact own_apart Hrow.out he2 k hb rfl

theorem i_rankE (B : Nat) (r : Value) (xs : List Int) (w : World) (q : Int) (h : ownR B w r xs) (hl : xs.length ≤ 6) (hq : rankF xs = q) :
    Calls Try.prog 91 #[r] w fun e w' => e = .returned (.int .i64 q) ∧ w = w' := by subst hq; exact i_rank B r xs w h hl
theorem map_snoc {xss : List (List Int)} {k : Nat} (h : k < xss.length) : (xss.take (k + 1)).map rankF = (xss.take k).map rankF ++ [rankF xss[k]] := by
  rw [List.take_succ_eq_append_getElem h, List.map_append]; rfl
theorem row_shape {B T n : Nat} {w : World} {v : Value} {cs : List Value} (h : w.ownsRow B T 1 v n cs) : ∃ a c, v = .slice a n c := by
  rcases h.2 with ⟨e, hn⟩ | ⟨g, cap, cur, e, _⟩
  · subst hn; exact ⟨_, _, e⟩
  · exact ⟨_, _, e⟩
theorem store_cell {B b o : Nat} {wr w1 w3 : World} {s x : Value} {xs : List Int} (h : wr.cell? ⟨b, o, none⟩ = some x) (hg : w1.grownBy w3 s.ownBlock) (hs : ownR B wr s xs) (hb : b < B) (he : Below wr.heap.size wr w1 := by (refine Ext.bel ?_; repeat (with_reducible first | exact Ext.refl _ | apply Ext.alloc | apply Ext.aft | apply Ext.drew | apply Ext.drewN))) : w3.cell? ⟨b, o, none⟩ = some x :=
  hg.cell (by rw [he.cell (p := ⟨b, o, none⟩) (World.block_lt_of_cell? wr _ h)]; exact h) fun e => by have := own_row_ge hs b e.symm; omega
theorem store_frozen {B b o : Nat} {wr w1 w3 : World} {s : Value} {xs : List Int} (h : wr.frozen? ⟨b, o, none⟩ = false) (hg : w1.grownBy w3 s.ownBlock) (hs : ownR B wr s xs) (hb : b < B) (hl : b < wr.heap.size) (he : Below wr.heap.size wr w1 := by (refine Ext.bel ?_; repeat (with_reducible first | exact Ext.refl _ | apply Ext.alloc | apply Ext.aft | apply Ext.drew | apply Ext.drewN))) : w3.frozen? ⟨b, o, none⟩ = false := by
  rw [World.frozen?_of_block (hg.block b (Nat.lt_of_lt_of_le hl he.size) fun e => by have := own_row_ge hs b e.symm; omega), he.frozen (p := ⟨b, o, none⟩) hl]
  exact h
def boxOK (n0 : Nat) (wr : World) : Prop := ∀ b k, b = n0 ∨ b = n0 + 1 → k < 2 → wr.frozen? ⟨b, k, none⟩ = false ∧ (wr.cell? ⟨b, k, none⟩).isSome = true
theorem boxOK.below {n0 : Nat} {w w' : World} (h : boxOK n0 w) (hb : Below w.heap.size w w') (hl : n0 + 2 ≤ w.heap.size) : boxOK n0 w' := fun b k hbk hk => by
  have hlt : b < w.heap.size := by omega
  rw [hb.cell (p := ⟨b, k, none⟩) hlt, hb.frozen (p := ⟨b, k, none⟩) hlt]; exact h b k hbk hk
theorem boxOK.grown {n0 : Nat} {w w' : World} {s : Value} (h : boxOK n0 w) (hg : w.grownBy w' s.ownBlock) (hs : ∀ k, s.ownBlock = some k → n0 + 2 ≤ k) (hl : n0 + 2 ≤ w.heap.size) : boxOK n0 w' := fun b k hbk hk => by
  have hlt : b < w.heap.size := by omega
  have hne : some b ≠ s.ownBlock := fun e => by have := hs b e.symm; omega
  have hbl := hg.block b hlt hne
  rw [World.cell?_of_block (a := ⟨b, k, none⟩) hbl, World.frozen?_of_block (a := ⟨b, k, none⟩) hbl]; exact h b k hbk hk
theorem boxOK.set {n0 : Nat} {w : World} (h : boxOK n0 w) (b o : Nat) (v : Value) : boxOK n0 (w.setCell ⟨b, o, none⟩ v) := fun b' k hbk hk => by
  obtain ⟨h1, h2⟩ := h b' k hbk hk
  refine ⟨by simpa using h1, ?_⟩
  rw [set_cell]
  split
  · rename_i e; obtain ⟨rfl, rfl⟩ := e; simpa using h2
  · exact h2
set_option maxRecDepth 20000 in
set_option maxHeartbeats 8000000 in
theorem i_groupOf (m : Nat) (v : Value) (xss : List (List Int)) (w : World) (h : rdRR w v xss) (hm6 : m ≤ 6) (hx : ∀ xs ∈ xss, xs.length = m) (hl : xss.length ≤ 1000) :
    Calls Try.prog 110 #[.int .i64 (m : Int), v] w fun e w' => ∃ s, e = .returned (.agg #[.int .i64 (m : Int), s]) ∧ ownR w.heap.size w' s (listedU (xss.map rankF) (facN m)) ∧ Below w.heap.size w w' := by
  obtain ⟨i0, hi, hz0, hz1, hz2⟩ := info_parts infoI
  obtain ⟨a, cap, hsh, hm, hc⟩ := h
  subst hsh
  have Hc := hid hc
  have Hx := hid hx
  have HRK : Hid (∀ x ∈ xss.map rankF, 0 ≤ x ∧ x < (facN m : Int)) := hid (fun x hx' => by
    obtain ⟨y, hy, rfl⟩ := List.mem_map.1 hx'
    have := rankF_bd y
    rw [hx y hy] at this
    exact this)
  clear hc hx hm
  go_enter Try.func110, Try.ntmps110
  go_wp2_with fail
  go_loopw [12, 7] (fun i _ wr => ∃ (k : Nat) (s : Value), k ≤ xss.length ∧ i = .int .i64 k ∧ wr.cell? ⟨w.heap.size + 1, 0, none⟩ = some (.int .i64 (m : Int)) ∧ wr.cell? ⟨w.heap.size + 1, 1, none⟩ = some s ∧ Hid (ownR (w.heap.size + 2) wr s ((xss.take k).map rankF)) ∧ Hid (Ext w.heap.size w wr) ∧ w.heap.size + 2 ≤ wr.heap.size ∧ Hid (boxOK w.heap.size wr)) (fun i _ _ => xss.length - (intOf i).toNat)
  case atStart => exact ⟨0, .slice none 0 0, by omega, rfl, by simp [go_sem], by simp [go_sem], hid (ownR.nil _ _), hid (by repeat (with_reducible first | exact Ext.refl _ | apply Ext.alloc | apply Ext.aft | apply Ext.drew | apply Ext.drewN | apply Ext.setCell | exact Nat.le_add_right _ _ | exact Nat.le_refl _ | (simp; done) | omega)), by simp, hid (fun b k hb hk => by
    rcases hb with rfl | rfl <;> (obtain rfl | rfl : k = 0 ∨ k = 1 := by omega) <;> simp [go_sem])⟩
  case round =>
    obtain ⟨k, s, hk, rfl, c0, c1, HO, HE, hsz, HFz⟩ := hrel
    by_cases hlt : k < xss.length
    · have hltz : (k : Int) < (xss.length : Int) := by omega
      obtain ⟨b, o, rfl, hcel⟩ := Hc.out (by intro e; subst e; simp at hlt)
      obtain ⟨e1, hc1, ho1⟩ := hcel k hlt
      have hb1 := World.block_lt_of_cell? w _ hc1
      have hc2 := HE.out.1.cell (p := ⟨b, o + k, none⟩) hb1
      rw [hc1] at hc2
      have ho2 : ownR 0 wr e1 xss[k] := ho1.kept fun j hj _ => HE.out.1.block j hj
      have hxl := Hx.out _ (List.getElem_mem hlt)
      obtain ⟨q, hq⟩ : ∃ q, rankF xss[k] = q := ⟨_, rfl⟩
      have HQ := hid hq
      have HS := hid (map_snoc hlt)
      have HO2 := hid ho2
      have hsl : ((xss.take k).map rankF).length = k := by rw [List.length_map, List.length_take]; omega
      obtain ⟨sa, sc, hss, _, _⟩ := HO.out.rd
      subst hss
      have hfz := HFz.out (w.heap.size + 1) 1 (.inr rfl) (by omega)
      clear hcel hc1 ho1 ho2 hq
      go_wp2_with fail
      have hne1 : (w.heap.size + 1 = wr.heap.size) = False := by simp; omega
      have hne2 : (w.heap.size + 1 == wr.heap.size) = false := by rw [beq_eq_false_iff_ne]; omega
      have hal1 : ∀ o, (wr.alloc o).cell? ⟨w.heap.size + 1, 1, none⟩ = some (.slice sa ((xss.take k).map rankF).length sc) := fun o => by
        rw [World.cell?_alloc_old wr o ⟨w.heap.size + 1, 1, none⟩ (show w.heap.size + 1 ≠ wr.heap.size by omega)]; exact c1
      have hss := hsl
      go_region_law (first | (go_simp; go_at_call 91; refine pur (i_rankE 0 _ xss[k] _ q (by first | exact HO2.out | exact HO2.out.drew | exact HO2.out.alloc _ | exact HO2.out.drew.alloc _) (by omega) HQ.out) ?_; dsimp only) | (refine step_append_own (by rfl) _ _ 24 (by rfl) (w.heap.size + 2) 2 i0 (.int .i64 0) 1 8 Try.underlying24 hi hz0 hz1 hz2 rfl (by decide) (.slice sa ((xss.take k).map rankF).length sc) ((xss.take k).map rankF).length (vI ((xss.take k).map rankF)) (by first | rfl | (rw [hsl]; rfl)) (HO.out.below (by refine Ext.bel ?_; repeat (with_reducible first | exact Ext.refl _ | apply Ext.alloc | apply Ext.aft | apply Ext.drew | apply Ext.drewN))) ⟨wr.heap.size, 0, none⟩ 1 1 [.int .i64 q] (by rfl) (by rfl) (by exact one_new) (by intro u hu; simp at hu; subst hu; rfl) (by rw [hsl]; unfold maxLen; omega) (by rw [hsl]; omega) (by simp; omega) ?_; intro v3 w3 hw3 hg3; obtain ⟨a3, k3, hsh3⟩ := row_shape hw3; subst hsh3; have b0 := store_cell c0 hg3 HO.out (by omega); have b1 := store_cell c1 hg3 HO.out (by omega); have b2 := store_frozen hfz.1 hg3 HO.out (by omega) (by omega)))
      all_goals
        have HN : Hid (ownR (w.heap.size + 2) (w3.setCell ⟨w.heap.size + 1, 1, none⟩ (.slice a3 (((xss.take k).map rankF).length + 1) k3)) (.slice a3 (((xss.take k).map rankF).length + 1) k3) ((xss.take (k + 1)).map rankF)) := hid (by
          refine ownR.setCell ?_ _ _ _ _ (by omega)
          rw [HS.out, HQ.out]
          exact ownR.snoc hw3)
        have HE3 : Hid (Ext w.heap.size w (w3.setCell ⟨w.heap.size + 1, 1, none⟩ (.slice a3 (((xss.take k).map rankF).length + 1) k3))) := hid (Ext.setCell (Ext.grown (by repeat (with_reducible first | exact HE.out | apply Ext.alloc | apply Ext.drew | apply Ext.aft | apply Ext.drewN)) hg3 (fun b hb => by have := own_row_ge HO.out b hb; omega)) _ _ _ _ (by omega))
        have HF3 : Hid (boxOK w.heap.size (w3.setCell ⟨w.heap.size + 1, 1, none⟩ (.slice a3 (((xss.take k).map rankF).length + 1) k3))) := hid (((HFz.out.below (by refine Ext.bel ?_; repeat (with_reducible first | exact Ext.refl _ | apply Ext.alloc | apply Ext.aft | apply Ext.drew | apply Ext.drewN)) hsz).grown hg3 (own_row_ge HO.out) (by simp; omega)).set _ _ _)
        have hsz3 : w.heap.size + 2 ≤ w3.heap.size := by have := hg3.size; simp at this; omega
        rw [hsl] at HN HE3 HF3
        clear hw3 hg3
        go_wp2_with fail
        go_roundw
        case rel => exact ⟨k + 1, _, by omega, by go_num, by simp [go_sem, b0], by simp [go_sem, b1], HN, HE3, by simpa using hsz3, HF3⟩
        case measure => simp only [intOf]; omega
    · obtain rfl : k = xss.length := by omega
      rw [List.take_length] at HO
      have hltz : ¬ (xss.length : Int) < (xss.length : Int) := by omega
      go_wp2_with fail
      refine (lib_sort HO.out (by rw [List.length_map]; omega)).mono ?_
      rintro e w2 ⟨rfl, hso, hgr⟩
      have HO2 := hid hso
      have f0 : w2.cell? ⟨w.heap.size + 1, 0, none⟩ = some (.int .i64 (m : Int)) := hgr.cell c0 fun e => by have := own_row_ge HO.out _ e.symm; simp only at this; omega
      have f1 : w2.cell? ⟨w.heap.size + 1, 1, none⟩ = some s := hgr.cell c1 fun e => by have := own_row_ge HO.out _ e.symm; simp only at this; omega
      have HE2 : Hid (Ext w.heap.size w w2) := hid (Ext.grown HE.out hgr (fun b hb => by have := own_row_ge HO.out b hb; omega))
      have HF2 : Hid (boxOK w.heap.size w2) := hid (HFz.out.grown hgr (own_row_ge HO.out) hsz)
      have hs2 : w.heap.size + 2 ≤ w2.heap.size := Nat.le_trans hsz hgr.size
      clear hso hgr c0 c1
      go_wp2_with fail
      refine (lib_compact HO2.out).mono ?_
      rintro e w3 ⟨v3, rfl, hso3, hgr3, _⟩
      rw [sort_compact (F := facN m) HRK.out] at hso3
      obtain ⟨a3, k3, hsh3, _, _⟩ := hso3.rd
      subst hsh3
      have HO3 := hid hso3
      have g0 : w3.cell? ⟨w.heap.size + 1, 0, none⟩ = some (.int .i64 (m : Int)) := hgr3.cell f0 fun e => by have := own_row_ge HO2.out _ e.symm; simp only at this; omega
      have g1 : w3.cell? ⟨w.heap.size + 1, 1, none⟩ = some s := hgr3.cell f1 fun e => by have := own_row_ge HO2.out _ e.symm; simp only at this; omega
      have HE4 : Hid (Ext w.heap.size w w3) := hid (Ext.grown HE2.out hgr3 (fun b hb => by have := own_row_ge HO2.out b hb; omega))
      have hF3 : boxOK w.heap.size w3 := HF2.out.grown hgr3 (own_row_ge HO2.out) hs2
      obtain ⟨q1, _⟩ := hF3 (w.heap.size + 1) 1 (.inr rfl) (by omega)
      obtain ⟨q2, q3⟩ := hF3 w.heap.size 0 (.inl rfl) (by omega)
      obtain ⟨q4, q5⟩ := hF3 w.heap.size 1 (.inl rfl) (by omega)
      obtain ⟨y0, hy0⟩ := Option.isSome_iff_exists.1 q3
      obtain ⟨y1, hy1⟩ := Option.isSome_iff_exists.1 q5
      clear hso3 hgr3 f0 f1 q3 q5 hF3
      go_wp2_with fail
      exact bodyPost_ret (v := .agg #[.int .i64 (m : Int), .slice a3 (listedU (xss.map rankF) (facN m)).length k3]) (by simp [results, go_sem, hy0, hy1]) rfl ⟨_, rfl, ownR.mono (((HO3.out.setCell _ _ _ _ (by omega)).setCell _ _ _ _ (by omega)).setCell _ _ _ _ (by omega)) (by omega), Ext.bel (((HE4.out.setCell _ _ _ _ (by omega)).setCell _ _ _ _ (by omega)).setCell _ _ _ _ (by omega))⟩
end Go.Proofs.Ytbkbcbanfnhjpaa
