/- Cycles: the statement's text. -/
import Derived.Test.YtbkbcbanfnhjpaaMA
namespace Go.Proofs.Ytbkbcbanfnhjpaa
open Go Go.RowKit

def stepF (a : List Int) : Nat → List Bool → Nat → List Bool
  | 0, s, _ => s
  | f + 1, s, k => if s.getD k true = true then s else stepF a f (s.set k true) (a.getD k 0).toNat
/-- How many points are not seen. -/
def unF (s : List Bool) : Nat := s.countP (fun b => !b)
def cirF (a : List Int) (s : List Bool) (k : Nat) : List Bool := stepF a (unF s) s k
theorem unF_set : ∀ {s : List Bool} {k : Nat}, s.getD k true = false → unF s = unF (s.set k true) + 1
  | [], k, h => by simp at h
  | b :: t, 0, h => by simp at h; subst h; simp [unF]
  | b :: t, k + 1, h => by
    have ih := unF_set (s := t) (k := k) (by simpa using h)
    unfold unF at ih ⊢
    rw [List.set_cons_succ, List.countP_cons, List.countP_cons, ih]; omega
theorem cir_hit {a : List Int} {s : List Bool} {k : Nat} (h : s.getD k true = true) : cirF a s k = s := by
  unfold cirF
  cases unF s with
  | zero => rfl
  | succ f => unfold stepF; rw [if_pos h]
theorem cir_step {a : List Int} {s : List Bool} {k : Nat} (h : s.getD k true = false) : cirF a s k = cirF a (s.set k true) (a.getD k 0).toNat := by
  unfold cirF
  rw [unF_set h]
  conv => lhs; unfold stepF
  rw [if_neg (by rw [h]; simp)]
theorem step_len (a : List Int) : ∀ (f : Nat) (s : List Bool) (k : Nat), (stepF a f s k).length = s.length
  | 0, s, k => rfl
  | f + 1, s, k => by
    unfold stepF
    split
    · rfl
    · rw [step_len a f]; simp
theorem cir_len {a : List Int} {s : List Bool} {k : Nat} : (cirF a s k).length = s.length := step_len _ _ _ _
def cycF (a : List Int) : Nat → List Bool × Nat
  | 0 => (List.replicate a.length false, 0)
  | i + 1 => if (cycF a i).1.getD i true = true then cycF a i else (cirF a (cycF a i).1 i, (cycF a i).2 + 1)
theorem cyc_len (a : List Int) : ∀ i, (cycF a i).1.length = a.length
  | 0 => by simp [cycF]
  | i + 1 => by
    unfold cycF
    split
    · exact cyc_len a i
    · simp only [cir_len]; exact cyc_len a i
theorem cyc_le (a : List Int) : ∀ i, (cycF a i).2 ≤ i
  | 0 => by simp [cycF]
  | i + 1 => by
    have := cyc_le a i
    unfold cycF
    split
    · omega
    · simp only; omega
theorem cyc_seen {a : List Int} {i : Nat} (h : (cycF a i).1.getD i true = true) : cycF a (i + 1) = cycF a i := by
  rw [cycF]; rw [if_pos h]
theorem cyc_new {a : List Int} {i : Nat} (h : (cycF a i).1.getD i true = false) : cycF a (i + 1) = (cirF a (cycF a i).1 i, (cycF a i).2 + 1) := by
  rw [cycF]; rw [if_neg (by rw [h]; simp)]
theorem vB_set (s : List Bool) (k : Nat) : vB (s.set k true) = (vB s).set k (.bool true) := by unfold vB; rw [List.map_set]
/-- A row of slices of which only the number counts. -/
def outR (B : Nat) (w : World) (v : Value) (c : Nat) : Prop := ∃ es : List Value, es.length = c ∧ w.ownsRow B 24 1 v c es
theorem rowSh {B T n : Nat} {w : World} {v : Value} {cs : List Value} (h : w.ownsRow B T 1 v n cs) : ∃ a c, v = .slice a n c := by
  rcases h.2 with ⟨e, hn⟩ | ⟨g, cap, cur, e, _⟩
  · subst hn; exact ⟨_, _, e⟩
  · exact ⟨_, _, e⟩
def lenV : Value → Nat
  | .slice _ n _ => n
  | _ => 0
theorem cyc_at {s : List Bool} {k : Nat} (h : k < s.length) : (vB s)[k]? = some (.bool (s.getD k true)) := by
  unfold vB; simp [List.getD, List.getElem?_eq_getElem h]

theorem grown_new {wo w w' : World} {row own : Option Nat} (h : wo.grownBy w row) (h2 : w.grownBy w' own) (ho : ∀ k, own = some k → wo.heap.size ≤ k) : wo.grownBy w' row :=
  ⟨h2.os.trans h.os, h2.tape.trans h.tape, h2.output.trans h.output, Nat.le_trans h.size h2.size, fun k hk hne => (h2.block k (Nat.lt_of_lt_of_le hk h.size) (fun e => absurd (ho k e.symm) (by omega))).trans (h.block k hk hne)⟩
/-- The row of what is seen. -/
def seenR (b n : Nat) (w : World) (s : List Bool) : Prop := w.ownsRow b 4 1 (.slice (some ⟨b, 0, none⟩) n n) n (vB s)
theorem seenR.kept {b n : Nat} {w w' : World} {s : List Bool} (h : seenR b n w s) (hb : ∀ k, k < w.heap.size → k = b → w'.heap[k]? = w.heap[k]?) : seenR b n w' s :=
  owns_kept h fun k hk e => hb k hk (by injection e with e1; exact e1.symm)
theorem outR.kept {B c : Nat} {w w' : World} {v : Value} (h : outR B w v c) (hb : ∀ k, k < w.heap.size → B ≤ k → w'.heap[k]? = w.heap[k]?) : outR B w' v c := by
  obtain ⟨es, h1, h2⟩ := h
  exact ⟨es, h1, owns_kept h2 fun k hk e => hb k hk (World.ownsRow.lt h2 k e).1⟩
set_option maxRecDepth 20000 in
set_option maxHeartbeats 8000000 in
theorem s_cycles (r : Value) (xs : List Int) (w : World) (h : rdI w r xs) (hl : xs.length ≤ 6) (h0 : 0 < xs.length) (hr : ∀ y ∈ xs, 0 ≤ y ∧ y < (xs.length : Int)) :
    Calls Try.prog 133 #[r] w fun e w' => ∃ a cap, e = .returned (.slice a (cycF xs xs.length).2 cap) ∧ Below w.heap.size w w' := by
  obtain ⟨ib, hib, hb0, hb1, hb2⟩ := info_parts infoB
  obtain ⟨i0, hi, hz0, hz1, hz2⟩ := info_parts infoI
  obtain ⟨is, his, hs0, hs1, hs2⟩ := info_parts infoS
  obtain ⟨a, cap, rfl, hm, hc⟩ := h
  obtain ⟨b, o, rfl, hcell⟩ := hc (by intro e; rw [e] at h0; simp at h0)
  unfold maxLen at hm
  obtain ⟨n, hn⟩ : ∃ n, n = xs.length := ⟨_, rfl⟩
  have HN := hid hn
  have Hc := hid hcell
  have Hr := hid hr
  rw [← hn] at hl h0 hm ⊢
  clear hcell hr hc hn
  go_enter Try.func133, Try.ntmps133
  go_wp2_with (at_make; refine wpList_make_full _ rfl _ _ 80 rfl w.heap.size 4 ib (.bool false) 1 Try.underlying80 hib hb0 hb1 _ _ _ _ n rfl rfl rfl rfl (by rw [hb2]; omega) (by unfold maxLen; omega) (Nat.le_refl _) ?_)
  intro w1 hown hgr
  have hown : w1.ownsRow w.heap.size 4 1 (.slice (some ⟨w.heap.size, 0, none⟩) n n) n (vB (cycF xs 0).1) := by
    have e : (cycF xs 0).1 = List.replicate n false := by unfold cycF; rw [← HN.out]
    rw [e, ← vB_no]; exact hown
  have HB : Hid (Below w.heap.size w w1) := hid (Below.grown (Below.refl _ _) hgr (Nat.le_refl _) (fun k hk => by cases hk))
  have HO := hid hown
  have hs1' : w.heap.size < w1.heap.size := by
    rcases hown.2 with ⟨e, _⟩ | ⟨g, cap, cur, e, _, hh, _⟩
    · cases e
    · injection e with e1; injection e1 with e2; injection e2 with e3; subst e3; exact (Array.getElem?_eq_some_iff.1 hh).1
  clear hown hgr
  have HO : Hid (seenR w.heap.size n w1 (cycF xs 0).1) := HO
  go_wp2_with fail
  go_loopw [4, 5] (fun o i wr => ∃ k : Nat, k ≤ n ∧ i = .int .i64 k ∧ Hid (seenR w.heap.size n wr (cycF xs k).1) ∧ Hid (outR (w.heap.size + 1) wr o (cycF xs k).2) ∧ Hid (Below w.heap.size w wr) ∧ w.heap.size < wr.heap.size) (fun _ i _ => n - (intOf i).toNat)
  case atStart => exact ⟨0, by omega, rfl, hid (HO.out.kept fun k hk _ => ((Below.refl _ w1).alloc (Nat.le_refl _) _).block k hk), hid ⟨[], rfl, World.ownsRow_made w1 #[] 0 hs1' (by simp [maxLen]) (by simp)⟩, hid (HB.out.alloc (by omega) _), by simp; omega⟩
  case round =>
    obtain ⟨k, hk, rfl, HS, HU, HB2, hsz⟩ := hrel
    have hcle := cyc_le xs k
    by_cases hlt : k < n
    · have hltz : (k : Int) < (n : Int) := by omega
      have hsl : (cycF xs k).1.length = n := by rw [cyc_len, ← HN.out]
      have hcl := HS.out.cellAt k (by omega)
      rw [cyc_at (by omega)] at hcl
      obtain ⟨T, hT⟩ : ∃ T, (cycF xs k).1.getD k true = T := ⟨_, rfl⟩
      rw [hT] at hcl
      have hbs := World.block_lt_of_cell? wr _ hcl
      cases T
      · have HC := hid (cyc_new hT)
        obtain ⟨S, hS⟩ : ∃ S, S = (cycF xs k).1 := ⟨_, rfl⟩
        obtain ⟨c, hcc⟩ : ∃ c, c = (cycF xs k).2 := ⟨_, rfl⟩
        rw [← hS] at HS HC hsl hT
        rw [← hcc] at HU HC hcle
        obtain ⟨FIN, hFIN⟩ : ∃ FIN, cirF xs S k = FIN := ⟨_, rfl⟩
        rw [hFIN] at HC
        have HF := hid hFIN
        obtain ⟨wo, rfl⟩ : ∃ wo : World, wo = wr := ⟨_, rfl⟩
        clear hS hcc hFIN hT
        go_wp2_with fail
        go_loopw [6, 7] (fun v j wr2 => ∃ (q : Nat) (s : List Bool) (cyc : List Int), q < n ∧ j = .int .i64 q ∧ s.length = n ∧ Hid (cirF xs s q = FIN) ∧ Hid (seenR w.heap.size n wr2 s) ∧ Hid (ownR wo.heap.size wr2 v cyc) ∧ cyc.length + unF s ≤ n ∧ Hid (wo.grownBy wr2 (some w.heap.size))) (fun v _ _ => n - lenV v)
        case atStart => exact ⟨k, S, [], hlt, rfl, hsl, HF, hid (HS.out.kept fun k hk _ => ((Below.refl _ wo).alloc (Nat.le_refl _) _).block k hk), hid (own_made wo), by
          have : unF S ≤ S.length := List.countP_le_length
          simp; omega, hid (World.grownBy_alloc _ _ _)⟩
        case round =>
          obtain ⟨q, s, cyc, hq, rfl, hsl2, HT, HSn, HCy, hle, HG⟩ := hrel
          obtain ⟨av, cv, hshv⟩ := rowSh HCy.out
          subst hshv
          have hsz2 : w.heap.size < wr.heap.size := Nat.lt_of_lt_of_le hsz HG.out.size
          have hclq := HSn.out.cellAt q (by omega)
          rw [cyc_at (by omega)] at hclq
          obtain ⟨T, hTq⟩ : ∃ T, s.getD q true = T := ⟨_, rfl⟩
          rw [hTq] at hclq
          have hqz : (q : Int) < (n : Int) := by omega
          cases T
          · have hst1 := cir_step (a := xs) hTq
            rw [HT.out] at hst1
            have hun := unF_set hTq
            have hfr := HSn.out.frozenAt q
            have hst := HSn.out.stored q (.bool true)
            rw [← vB_set] at hst
            have HST := hid hst
            have hqx : q < xs.length := by rw [← HN.out]; exact hq
            have hx1 := Hc.out q hqx
            have hxr := Hr.out _ (List.getElem_mem hqx)
            rw [← HN.out] at hxr
            have hgd : xs.getD q 0 = xs[q] := by simp [List.getD, List.getElem?_eq_getElem hqx]
            rw [hgd] at hst1
            obtain ⟨y, hy⟩ : ∃ y : Nat, xs[q] = (y : Int) := ⟨(xs[q]).toNat, by omega⟩
            rw [hy] at hx1 hxr hst1
            rw [Int.toNat_natCast] at hst1
            have hbx := World.block_lt_of_cell? w _ hx1
            simp only at hbx
            have hxo := (HB2.out.cell (p := ⟨b, o + q, none⟩) hbx).trans hx1
            have HXO := hid hxo
            have HS1 := hid hst1
            have hown := HCy.out.setCell w.heap.size q none (.bool true) hsz
            have hge := hid (own_row_ge HCy.out)
            clear hst hst1 hxo hx1 hgd hy hqx
            go_wp2_with (at_builtin; refine wpList_append_own _ rfl _ _ 24 rfl (wo.heap.size) 2 i0 (.int .i64 0) 1 8 Try.underlying24 hi hz0 hz1 hz2 rfl (by decide) _ _ _ rfl (hown.alloc _) ⟨_, 0, none⟩ 1 1 [.int .i64 ((q : Int))] rfl rfl ?c1 ?c2 ?c3 ?c4 ?c5 ?_)
            case c1 =>
              have e : wr.heap.size = (wr.setCell ⟨w.heap.size, q, none⟩ (.bool true)).heap.size := by simp [World.setCell]
              rw [e]
              exact cell_one_new _ _ _
            case c2 => first | rfl | (intro u hu; simp at hu; subst hu; rfl)
            case c3 => unfold maxLen; omega
            case c4 => omega
            case c5 => first | (have := HG.out.size; simp; omega) | omega
            intro v' w2 hown' hgrow _
            have HG1 : Hid (wo.grownBy w2 (some w.heap.size)) := hid (grown_new (grownBy_trans (grownBy_trans HG.out HST.out.2) (World.grownBy_alloc _ _ _)) hgrow hge.out)
            have HS2 : Hid (seenR w.heap.size n w2 (s.set q true)) := hid (seenR.kept (seenR.kept HST.out.1 fun k hk _ => ((Below.refl _ _).alloc (Nat.le_refl _) _).block k hk) fun k hk e => hgrow.block k hk fun e2 => by have := hge.out k e2.symm; omega)
            have HCy2 : Hid (ownR wo.heap.size w2 v' (cyc ++ [(q : Int)])) := hid (ownR.snoc hown')
            obtain ⟨av2, cv2, hshv2⟩ := rowSh hown'
            have hxn := HG1.out.cell HXO.out (fun e => by injection e with e1; simp only at e1; omega)
            clear hown' hgrow hown
            go_wp2_with fail
            go_roundw
            case rel => exact ⟨y, s.set q true, cyc ++ [(q : Int)], by omega, rfl, by simp; exact hsl2, hid HS1.out.symm, HS2, HCy2, by simp; omega, HG1⟩
            case measure => rw [hshv2]; simp only [lenV]; omega
          · have hFs : FIN = s := by rw [← HT.out]; exact cir_hit hTq
            have HU2 := HU.out.kept (w' := wr) fun k hk hB => HG.out.block k hk fun e => by injection e with e1; omega
            obtain ⟨es, hel, how⟩ := HU2
            have HEL := hid hel
            have HCN : Hid (cycF xs (k + 1) = (s, c + 1)) := hid (by rw [← hFs]; exact HC.out)
            have hge := hid (fun j (e : (_ : Value).ownBlock = some j) => (World.ownsRow.lt how j e).1)
            clear hFs hel
            go_wp2_with (at_builtin; refine wpList_append_own _ rfl _ _ 37 rfl (w.heap.size + 1) 24 is (.slice none 0 0) 1 24 Try.underlying37 his hs0 hs1 hs2 rfl (by decide) _ _ _ rfl (owns_kept how fun k hk _ => ((Below.refl _ _).alloc (Nat.le_refl _) _).block k hk) ⟨_, 0, none⟩ 1 1 [_] rfl rfl one_new ?c2 ?c3 ?c4 ?c5 ?_)
            case c2 => first | rfl | (intro u hu; simp at hu; subst hu; rfl)
            case c3 => unfold maxLen; omega
            case c4 => omega
            case c5 => first | omega | (simp; omega)
            intro v' w2 hown' hgrow _
            have HGA : Hid (wo.grownBy (wr.alloc (.cells #[.slice av cyc.length cv] 24)) (some w.heap.size)) := hid (grownBy_trans HG.out (World.grownBy_alloc _ _ _))
            have HB9 : Hid (Below w.heap.size w w2) := hid (Below.grown (Below.grown HB2.out HGA.out (by omega) (fun k hk => by injection hk with hk; omega)) hgrow (by simp; omega) (fun k hk => by have := hge.out k hk; omega))
            have HS2 : Hid (seenR w.heap.size n w2 s) := hid (seenR.kept (seenR.kept HSn.out fun k hk _ => ((Below.refl _ _).alloc (Nat.le_refl _) _).block k hk) fun k hk e => hgrow.block k hk fun e2 => by have := hge.out k e2.symm; omega)
            have hsz9 : w.heap.size < w2.heap.size := by have := hgrow.size; simp at this; omega
            have HO9 : Hid (outR (w.heap.size + 1) w2 v' (c + 1)) := hid ⟨_, by rw [List.length_append, HEL.out]; rfl, hown'⟩
            clear hown' hgrow how
            go_wp2_with fail
            go_roundw
            case rel => exact ⟨k + 1, by omega, by go_num, hid (by rw [HCN.out]; exact HS2.out), hid (by rw [HCN.out]; exact HO9.out), HB9, hsz9⟩
            case measure => simp only [intOf]; omega
      · have HC := hid (cyc_seen hT)
        go_wp2_with fail
        go_roundw
        case rel => exact ⟨k + 1, by omega, by go_num, hid (by rw [HC.out]; exact HS.out), hid (by rw [HC.out]; exact HU.out), HB2, hsz⟩
        case measure => simp only [intOf]; omega
    · obtain rfl : k = n := by omega
      have hltz : ¬ (k : Int) < (k : Int) := by omega
      obtain ⟨es, h1, h2⟩ := HU.out
      obtain ⟨ar, cr, hshr⟩ := rowSh h2
      subst hshr
      go_wp2_with fail
      go_ret
      exact ⟨⟨ar, cr, rfl⟩, HB2.out⟩
end Go.Proofs.Ytbkbcbanfnhjpaa
