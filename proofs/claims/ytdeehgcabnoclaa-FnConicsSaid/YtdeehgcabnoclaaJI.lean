/- The table of symbols, and whether a conic has all symbols 1: the program's text. (Printed by mkJI.py.) -/
import Derived.Test.YtdeehgcabnoclaaJH
import Derived.Laws.AppendOwnNone
namespace Go.Proofs.Ytdeehgcabnoclaa
open Go Go.RowKit

theorem wpList_append_rows {P : Program} {w : World} {ops : Array Oper} {rest : List Oper} {o : Oper} {a : Act} {Q : Exit → Act → World → Prop} (hgd : o.guard = none) (s x : Operand) (t : TypeId)
    (ho : o.op = .call { callee := .builtin .append, args := #[s, x], argTypes := #[t, t] })
    (base : Nat) (e : TypeId) (i : TypeInfo) (z : Value) (size bytes : Nat) (ht : P.underlying t = some (.slice e)) (hi : P.info? e = some i) (hz : i.zero = some z)
    (hsize : i.size = size) (hby : i.bytes = bytes) (hzs : z.cells.size = size) (hsz : 0 < size)
    (v : Value) (n : Nat) (xs : List Value) (hs : a.eval s = v) (hown : w.ownsRow base e size v n xs)
    (B2 : Nat) (v2 : Value) (m : Nat) (news : List Value) (hx : a.eval x = v2) (h2 : w.ownsRow B2 e size v2 m news) (h1 : ∀ u ∈ news, u.oneCell' = true)
    (h63 : n + m ≤ maxLen) (hbytes : (n + m) * bytes ≤ 140737488355328) (hbase : base ≤ w.heap.size)
    (h : ∀ v' w', w'.ownsRow base e size v' (n + m) (xs ++ news) → w.grownBy w' v.ownBlock → wpList P ops Q rest (a.put o.dst v') w') : wpList P ops Q (o :: rest) a w := by
  have hl := h2.1
  rcases h2.2 with ⟨rfl, rfl⟩ | ⟨g, cap, cur, rfl, hg, hh, h3, h4, h5, h6⟩
  · rw [Nat.zero_mul] at hl
    obtain rfl := List.eq_nil_of_length_eq_zero hl
    refine wpList_append_own_none hgd s x t ho base e i size ht hi v n xs hs hown hx ?_
    exact h v w (by rw [Nat.add_zero, List.append_nil]; exact hown) ⟨rfl, rfl, rfl, Nat.le_refl _, fun _ _ _ => rfl⟩
  · refine wpList_append_own w hgd s x t ho base e i z size bytes ht hi hz hsize hby hzs hsz v n xs hs hown ⟨g, 0, none⟩ m cap news hx hl ?_ h1 h63 hbytes hbase (fun v' w' k1 k2 _ => h v' w' k1 k2)
    intro j u hj
    have hjl : j < news.length := (List.getElem?_eq_some_iff.1 hj).1
    have := h2.cellAt j (by omega)
    rw [hj] at this
    rw [Addr.add_lit, Nat.zero_add]
    exact this
theorem own_cells1 (w : World) (x : Int) : ownR w.heap.size (w.alloc (.cells #[.int .i64 x] 2)) (.slice (some ⟨w.heap.size, 0, none⟩) 1 1) [x] :=
  ⟨rfl, .inr ⟨w.heap.size, 1, #[.int .i64 x], rfl, Nat.le_refl _, heap_alloc_new w _, Nat.le_refl _, by unfold maxLen; omega, rfl, rfl⟩⟩
theorem own_cells1K {w : World} {x : Int} {k : Nat} (hk : k = w.heap.size) : ownR w.heap.size (w.alloc (.cells #[.int .i64 x] 2)) (.slice (some ⟨k, 0, none⟩) 1 1) [x] := by subst hk; exact own_cells1 w x

set_option maxHeartbeats 2000000 in
theorem lib_idx (r : Value) (xs : List Int) (x : Int) (w : World) (h : rdI w r xs) :
    Calls Try.prog 74 #[r, .int .i64 x] w fun e w' => ∃ k : Int, e = .returned (.int .i64 k) ∧ decide (0 ≤ k) = xs.contains x ∧ w = w' := by
  obtain ⟨a, cap, rfl, hm, hc⟩ := h
  have Hc := hid hc
  unfold maxLen at hm
  obtain ⟨B, hB⟩ : ∃ B, B = xs.contains x := ⟨_, rfl⟩
  rw [← hB]
  have HB := hid hB
  clear hc hB
  go_enter Try.func74, Try.ntmps74
  go_wp2_with fail
  go_loop [8] (fun i => ∃ k : Nat, k ≤ xs.length ∧ i = .int .i64 k ∧ Hid (x ∉ xs.take k)) (fun i => xs.length - (intOf i).toNat)
  case atStart => exact ⟨0, by omega, rfl, hid (by simp)⟩
  case round =>
    obtain ⟨k, hk, rfl, HA⟩ := hrel
    by_cases hlt : k < xs.length
    · obtain ⟨b, o, rfl, hcell⟩ := Hc.out (by intro e; subst e; simp at hlt)
      have h1 := hcell k hlt
      have hltz : (k : Int) < (xs.length : Int) := by omega
      have hmem := List.getElem_mem hlt
      have htk : xs.take (k + 1) = xs.take k ++ [xs[k]] := by rw [List.take_add_one, List.getElem?_eq_getElem hlt]; rfl
      obtain ⟨y, hy⟩ : ∃ y, y = xs[k] := ⟨_, rfl⟩
      rw [← hy] at h1 hmem htk
      have HM := hid hmem
      have HT := hid htk
      clear hy hcell hmem htk
      by_cases e : x = y
      · subst e
        have hc : Hid (xs.contains x = true) := hid (List.contains_iff_mem.2 HM.out)
        go_wp2_with fail
        go_ret
        exact ⟨_, rfl, by rw [HB.out, hc.out]; simp, rfl⟩
      · have e' : (x == y) = false := by rw [beq_eq_false_iff_ne]; exact e
        have HN : Hid (x ∉ xs.take (k + 1)) := hid (by
          rw [HT.out]
          intro hh
          rcases List.mem_append.1 hh with h | h
          · exact HA.out h
          · exact e (by simpa using h))
        clear e
        go_wp2_with fail
        go_round
        case rel => exact ⟨k + 1, by omega, by go_num, HN⟩
        case measure => simp only [intOf]; omega
    · obtain rfl : k = xs.length := by omega
      have hltz : ¬ (xs.length : Int) < (xs.length : Int) := by omega
      have HN : Hid (xs.contains x = false) := hid (by
        have := HA.out
        rw [List.take_length] at this
        rw [← Bool.not_eq_true]
        simpa [List.contains_iff_mem] using this)
      go_wp2
      go_ret
      exact ⟨_, rfl, by rw [HB.out, HN.out]; simp, rfl⟩
set_option maxHeartbeats 1000000 in
theorem lib_has (r : Value) (xs : List Int) (x : Int) (w : World) (h : rdI w r xs) :
    Calls Try.prog 58 #[r, .int .i64 x] w fun e w' => e = .returned (.bool (xs.contains x)) ∧ w = w' := by
  obtain ⟨B, hB⟩ : ∃ B, B = xs.contains x := ⟨_, rfl⟩
  rw [← hB]
  have HI : Hid (∀ W, W = w → Calls Try.prog 74 #[r, .int .i64 x] W fun e w' => ∃ k : Int, e = .returned (.int .i64 k) ∧ decide (0 ≤ k) = B ∧ W = w') := hid fun W e => by
    subst e
    have := lib_idx r xs x W h
    rw [← hB] at this
    exact this
  clear hB
  go_enter Try.func58, Try.ntmps58
  go_wp2_with fail
  refine (HI.out _ rfl).mono ?_
  rintro e w' ⟨k, rfl, hk, rfl⟩
  subst hk
  go_wp2_with fail
  go_ret
  exact ⟨rfl, rfl⟩

set_option maxRecDepth 20000 in
set_option maxHeartbeats 4000000 in
theorem i_table (a b : Int) (w : World) (ha : a ≠ 0 ∧ -1000000000000 ≤ a ∧ a ≤ 1000000000000) (hb : b ≠ 0 ∧ -1000000000000 ≤ b ∧ b ≤ 1000000000000) (hc : ∀ p, p = 0 ∨ smallP p = true → hilF p a b = 1) :
    Calls Try.prog 57 #[.int .i64 a, .int .i64 b] w fun e w' => ∃ (v : Value) (c : Int) (ys : List Int), e = .returned (.tuple #[v, .int .i64 c]) ∧ ownR w.heap.size w' v ys ∧ (∀ y ∈ ys, y = 1) ∧ Below w.heap.size w w' := by
  obtain ⟨i0, hi, hz0, hz1, hz2⟩ := info_parts infoI
  have HBP : Hid (∀ W : World, Calls Try.prog 72 #[.int .i64 a, .int .i64 b] W fun e w' => ∃ (v : Value) (c : Int) (ps : List Int), e = .returned (.tuple #[v, .int .i64 c]) ∧ ownR W.heap.size w' v ps ∧ (∀ p ∈ ps, smallP p = true) ∧ ps.length ≤ 97 ∧ Below W.heap.size W w') := hid fun W => i_badPrimes a b W ha hb
  have HH : Hid (∀ (p : Int) (W : World), (p = 0 ∨ smallP p = true) → Calls Try.prog 73 #[.int .i64 p, .int .i64 a, .int .i64 b] W fun e w' => e = .returned (.int .i64 1) ∧ Below W.heap.size W w') := hid fun p W hp => by
    have := i_hilbert p a b W hp ha.1 hb.1 ha.2 hb.2
    rw [hc p hp] at this
    exact this
  clear ha hb hc
  go_enter Try.func57, Try.ntmps57
  go_wp2_with fail
  refine (HBP.out _).mono ?_
  rintro e w' ⟨v, c, ps, rfl, hown, hps, hl, hbel⟩
  obtain ⟨u1, rfl⟩ := aft_ex hbel
  have z1 := size_aft w u1
  have HW := hid hown
  have HPS := hid hps
  clear hbel hown hps
  by_cases hc0 : c = 0
  case neg =>
    have d1 : (c == 0) = false := by rw [beq_eq_false_iff_ne]; exact hc0
    have d2 : (c != 0) = true := by rw [bne_iff_ne]; exact hc0
    clear hc0
    go_wp2_with fail
    go_ret2
    exact ⟨_, _, [], rfl, ownR.nil _ _, by simp, (by refine Ext.bel ?_; repeat (with_reducible first | exact Ext.refl _ | apply Ext.alloc | apply Ext.aft | apply Ext.drew | apply Ext.drewN | apply Ext.setCell | exact Nat.le_add_right _ _ | exact Nat.le_refl _ | (simp; done) | omega))⟩
  subst hc0
  obtain ⟨W1, hW1⟩ : ∃ X, X = aft w u1 := ⟨_, rfl⟩
  have HE1 : Hid (Ext w.heap.size w W1) := hid (by rw [hW1]; exact (Ext.refl w).aft _)
  rw [← hW1] at HW ⊢
  clear hW1 z1
  have HN : Hid (ownR W1.heap.size (W1.alloc (.cells #[.int .i64 0] 2)) (.slice (some ⟨W1.heap.size, 0, none⟩) 1 1) [0]) := hid (own_cells1 W1 0)
  have HP2 : Hid (ownR w.heap.size (W1.alloc (.cells #[.int .i64 0] 2)) v ps) := hid (HW.out.alloc _)
  go_wp2_with (at_builtin; refine wpList_append_rows rfl _ _ 44 rfl (W1.heap.size) 2 i0 (.int .i64 0) 1 8 Try.underlying44 hi hz0 hz1 hz2 rfl (by decide) _ _ _ rfl HN.out _ _ _ _ rfl HP2.out ?d1 ?d2 ?d3 ?d4 ?_)
  case d1 => (intro u hu; simp [vI] at hu; obtain ⟨y, _, rfl⟩ := hu; rfl)
  case d2 => (simp; unfold maxLen; omega)
  case d3 => (simp; omega)
  case d4 => simp
  intro v' w1 hown' hgrow
  obtain ⟨u', rfl⟩ := grown_aft (W := W1) (by repeat (with_reducible first | exact Ext.refl _ | apply Ext.alloc | apply Ext.aft | apply Ext.drew | apply Ext.drewN | apply Ext.setCell | exact Nat.le_add_right _ _ | exact Nat.le_refl _ | (simp; done) | omega)) hgrow (own_row_ge HN.out)
  have HO' : Hid (ownR W1.heap.size (aft W1 u') v' (0 :: ps)) := hid (by
    unfold ownR
    have : (0 :: ps).length = 1 + ps.length := by simp; omega
    rw [this]
    exact hown')
  clear hown' hgrow HN HP2
  obtain ⟨W0, hW0⟩ : ∃ X, X = aft W1 u' := ⟨_, rfl⟩
  have HE0 : Hid (Ext w.heap.size w W0) := hid (by rw [hW0]; exact HE1.out.aft _)
  rw [← hW0] at HO' ⊢
  have hrd := HO'.out.rd
  clear hW0 HO' HW HE1
  obtain ⟨sa, cap, rfl, hlen, hcells⟩ := hrd
  have HC := hid hcells
  have HX : Hid (∀ x ∈ (0 :: ps), x = 0 ∨ smallP x = true) := hid fun x hx => by
    rcases List.mem_cons.1 hx with h | h
    · exact .inl h
    · exact .inr (HPS.out x h)
  have hl2 : (0 :: ps).length ≤ 98 := by simp; omega
  clear hcells hlen HPS
  obtain ⟨xs, hxs⟩ : ∃ xs, xs = (0 :: ps) := ⟨_, rfl⟩
  rw [← hxs] at HC HX hl2 ⊢
  clear hxs hl
  go_wp2_with fail
  go_loopw [8, 24] (fun t i wr => ∃ (k : Nat) (uu : World), wr = aft W0 uu ∧ k ≤ xs.length ∧ i = .int .i64 k ∧ Hid (ownR W0.heap.size wr t (List.replicate k 1))) (fun _ i _ => xs.length - (intOf i).toNat)
  case atStart => exact ⟨0, W0, (aft_of (Below.refl _ _)).symm, by omega, rfl, hid (ownR.nil _ _)⟩
  case round =>
    obtain ⟨k, uu, rfl, hk, rfl, HO⟩ := hrel
    have zs := size_aft W0 uu
    by_cases hlt : k < xs.length
    · have hltz : (k : Int) < (xs.length : Int) := by omega
      have hd : decide ((k : Int) < (xs.length : Int)) = true := by simp; omega
      obtain ⟨bb, o, rfl, hcell⟩ := HC.out (by intro e; subst e; simp at hlt)
      have h1 := hcell k hlt
      have hb1 := World.block_lt_of_cell? W0 _ h1
      have hx := HX.out xs[k] (List.getElem_mem hlt)
      obtain ⟨x, hxx⟩ : ∃ x, x = xs[k] := ⟨_, rfl⟩
      rw [← hxx] at h1 hx
      have HXP := hid hx
      clear hxx hcell hx
      go_wp2_with fail
      refine via (HH.out _ _ HXP.out) ?_
      intro u2 z2
      (try simp at z2)
      have hown := HO.out.aft u2
      go_wp2_with (at_builtin; refine wpList_append_own _ rfl _ _ 44 rfl (W0.heap.size) 2 i0 (.int .i64 0) 1 8 Try.underlying44 hi hz0 hz1 hz2 rfl (by decide) _ _ _ rfl (((hown).alloc _)) ⟨_, 0, none⟩ 1 1 [.int .i64 (1)] rfl rfl ?c1 ?c2 ?c3 ?c4 ?c5 ?_)
      first | (case c1 => (intro j u hj; match j with | 0 => (simp at hj; subst hj; simp [Addr.add, alloc_cell]) | n + 1 => simp at hj)) | skip
      case c2 => first | rfl | (intro u hu; simp at hu; subst hu; rfl)
      case c3 => rw [List.length_replicate]; unfold maxLen; omega
      case c4 => rw [List.length_replicate]; omega
      case c5 => first | omega | (simp; omega)
      intro v'' w1 hown'' hgrow _
      obtain ⟨u3, rfl⟩ := grown_aft (W := W0) (by repeat (with_reducible first | exact Ext.refl _ | apply Ext.alloc | apply Ext.aft | apply Ext.drew | apply Ext.drewN | apply Ext.setCell | exact Nat.le_add_right _ _ | exact Nat.le_refl _ | (simp; done) | omega)) hgrow (own_row_ge hown)
      have HO'' := hid (ownR.snoc (xs := List.replicate k 1) (x := 1) (by rw [List.length_replicate]; exact hown''))
      clear hown'' hgrow hown
      go_wp2_with fail
      go_roundw
      case rel => exact ⟨k + 1, u3, rfl, by omega, by go_num, hid (by rw [List.replicate_succ']; exact HO''.out)⟩
      case measure => simp only [intOf]; omega
    · obtain rfl : k = xs.length := by omega
      have hltz : ¬ (xs.length : Int) < (xs.length : Int) := by omega
      have hd : decide ((xs.length : Int) < (xs.length : Int)) = false := by simp
      go_wp2_with fail
      go_ret2
      exact ⟨_, ⟨_, rfl⟩, _, HO.out.mono HE0.out.2, fun y hy => List.eq_of_mem_replicate hy, Ext.bel (HE0.out.aft _)⟩

set_option maxHeartbeats 2000000 in
theorem i_HasConic (a b : Int) (w : World) (ha : a ≠ 0 ∧ -1000000000000 ≤ a ∧ a ≤ 1000000000000) (hb : b ≠ 0 ∧ -1000000000000 ≤ b ∧ b ≤ 1000000000000) (hc : ∀ p, p = 0 ∨ smallP p = true → hilF p a b = 1) :
    Calls Try.prog 19 #[.int .i64 a, .int .i64 b] w fun e w' => ∃ (c : Int), e = .returned (.tuple #[.bool (c == 0), .int .i64 c]) ∧ Below w.heap.size w w' := by
  have HT : Hid (∀ W : World, Calls Try.prog 57 #[.int .i64 a, .int .i64 b] W fun e w' => ∃ (v : Value) (c : Int) (ys : List Int), e = .returned (.tuple #[v, .int .i64 c]) ∧ ownR W.heap.size w' v ys ∧ (∀ y ∈ ys, y = 1) ∧ Below W.heap.size W w') := hid fun W => i_table a b W ha hb hc
  clear ha hb hc
  go_enter Try.func19, Try.ntmps19
  go_wp2_with fail
  refine (HT.out _).mono ?_
  rintro e w' ⟨v, c, ys, rfl, hown, hys, hbel⟩
  obtain ⟨u1, rfl⟩ := aft_ex hbel
  have z1 := size_aft w u1
  have HL : Hid (∀ W, W = aft w u1 → Calls Try.prog 58 #[v, .int .i64 (-1)] W fun e w' => e = .returned (.bool false) ∧ W = w') := hid fun W e => by
    have := lib_has v ys (-1) W (by subst e; exact hown.rd)
    have h2 : ys.contains (-1) = false := by
      rw [← Bool.not_eq_true]
      simp only [List.contains_iff_mem]
      exact fun h => by have := hys _ h; omega
    rw [h2] at this
    exact this
  clear hown hys hbel
  by_cases hc0 : c = 0
  · subst hc0
    go_wp2_with fail
    refine pur (HL.out _ rfl) ?_
    go_wp2_with fail
    go_ret2
    exact ⟨0, by rfl, (by refine Ext.bel ?_; repeat (with_reducible first | exact Ext.refl _ | apply Ext.alloc | apply Ext.aft | apply Ext.drew | apply Ext.drewN | apply Ext.setCell | exact Nat.le_add_right _ _ | exact Nat.le_refl _ | (simp; done) | omega))⟩
  · have d1 : (c == 0) = false := by rw [beq_eq_false_iff_ne]; exact hc0
    clear hc0
    go_wp2_with fail
    go_ret2
    exact ⟨c, by rw [d1]; rfl, (by refine Ext.bel ?_; repeat (with_reducible first | exact Ext.refl _ | apply Ext.alloc | apply Ext.aft | apply Ext.drew | apply Ext.drewN | apply Ext.setCell | exact Nat.le_add_right _ _ | exact Nat.le_refl _ | (simp; done) | omega))⟩
end Go.Proofs.Ytdeehgcabnoclaa
