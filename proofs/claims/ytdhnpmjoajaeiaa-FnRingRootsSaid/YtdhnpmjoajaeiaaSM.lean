/- Numbers put in order: the statement's text. -/
import Derived.Test.YtdhnpmjoajaeiaaSG
import Derived.Test.YtdhnpmjoajaeiaaMA
import Derived.Test.YtdhnpmjoajaeiaaSE
import Derived.Deep.AppendLies
import Derived.Maps.AppendAt
namespace Go.Proofs.Ytdhnpmjoajaeiaa
open Go Go.RowKit

theorem own_cut {B g cap : Nat} {w : World} {xs : List Int} {m : Nat} (h : ownR B w (.slice (some ⟨g, 0, none⟩) xs.length cap) xs) (hm : m ≤ xs.length) : ownR B w (.slice (some ⟨g, 0, none⟩) m cap) (xs.take m) := by
  rcases h.2 with ⟨e, h1⟩ | ⟨g', c, cur, e, hb, hh, h1, h2, h3, h4⟩
  · cases e
  · cases e
    have hl : (xs.take m).length = m := by rw [List.length_take]; omega
    unfold ownR
    rw [hl]
    refine ⟨by simp [vI]; omega, .inr ⟨g, cap, cur, rfl, hb, hh, by omega, h2, h3, ?_⟩⟩
    have e : cur.toList.take (m * 1) = (cur.toList.take (xs.length * 1)).take (m * 1) := by rw [List.take_take]; congr 1; omega
    rw [e, h4]
    simp [vI]
theorem ownR.le {B : Nat} {w : World} {a : Option Addr} {n cap : Nat} {xs : List Int} (h : ownR B w (.slice a n cap) xs) : xs.length ≤ cap := by
  rcases h.2 with ⟨e, h1⟩ | ⟨g, c, cur, e, _, _, h2, _⟩
  · cases e; omega
  · cases e; exact h2
theorem sizeI (w : World) : (Go.sizeOf 2).run Try.prog w = .ok 1 w := by
  simp [Go.sizeOf, go_sem]
  rfl
/-- x[:l] and x[l:] of a row of the call's own. -/
theorem cutH_rule {B g cap n : Nat} {w : World} {xs : List Int} {q : Nat} (h : ownR B w (.slice (some ⟨g, 0, none⟩) n cap) xs) (hq : q ≤ xs.length) :
    (∀ wx, (Instr.slice 24 (.slice (some ⟨g, 0, none⟩) n cap) none (some (.int .i64 (q : Int))) none).run Try.prog wx = .ok (.slice (some ⟨g, 0, none⟩) q cap) wx) ∧ ownR B w (.slice (some ⟨g, 0, none⟩) q cap) (xs.take q) := by
  have ht' : Try.prog.underlying 24 = some (.slice (Try.prog.elem 24)) := by kernel_rfl
  have hn : n = xs.length := by
    rcases h.2 with ⟨e, h1⟩ | ⟨g', c, cur, e, _⟩
    · cases e
    · cases e; rfl
  subst hn
  have hc := h.le
  refine ⟨fun wx => ?_, own_cut h hq⟩
  rw [run_slice_h wx _ _ _ _ ht' .i64 _ (by omega) (by omega)]
  have he : Try.prog.elem 24 = 2 := by kernel_rfl
  rw [he, sizeI]
  simp [sliced, Result.andThen, Addr.add]
theorem cutL_rule {B g cap n : Nat} {w : World} {xs : List Int} {q : Nat} (h : ownR B w (.slice (some ⟨g, 0, none⟩) n cap) xs) (hq : q ≤ xs.length) :
    ∃ ad c, (∀ wx, (Instr.slice 24 (.slice (some ⟨g, 0, none⟩) n cap) (some (.int .i64 (q : Int))) none none).run Try.prog wx = .ok (.slice (some ad) (xs.length - q) c) wx) ∧ ∀ j u, (vI (xs.drop q))[j]? = some u → w.cell? (ad.add j) = some u := by
  have hn : n = xs.length := by
    rcases h.2 with ⟨e, h1⟩ | ⟨g', c, cur, e, _⟩
    · cases e
    · cases e; rfl
  subst hn
  have ht' : Try.prog.underlying 24 = some (.slice (Try.prog.elem 24)) := by kernel_rfl
  have he : Try.prog.elem 24 = 2 := by kernel_rfl
  have hc := h.le
  refine ⟨if cap = q then ⟨g, 0, none⟩ else (⟨g, 0, none⟩ : Addr).add q, cap - q, fun wx => ?_, fun j u hj => ?_⟩
  · rw [run_slice_l wx _ _ _ _ ht' .i64 _ (by omega) (by omega), he, sizeI]
    simp only [Result.andThen, sliced, Nat.mul_one, Int.toNat_natCast]
    split <;> simp
  · obtain ⟨hlt, hu⟩ := List.getElem?_eq_some_iff.1 hj
    have hlt' : q + j < xs.length := by rw [vI_len, List.length_drop] at hlt; omega
    rw [if_neg (by omega)]
    have h2 := (own_cell h hlt').1
    have e : ((⟨g, 0, none⟩ : Addr).add q).add j = ⟨g, q + j, none⟩ := by rw [Addr.add_lit, Addr.add_lit, Nat.zero_add]
    rw [e, h2, ← hu]
    simp [vI, List.getD, List.getElem?_eq_getElem hlt']

/-- An append at a step of a region that draws its order. -/
theorem step_append_own {P : Program} {w : World} {ops : Array Oper} {o : Oper} {a : Act} {K : Act → World → Prop} {Q : Exit → Act → World → Prop} {E : Prop} (hgd : o.guard = none) (s x : Operand) (t : TypeId)
    (ho : o.op = .call { callee := .builtin .append, args := #[s, x], argTypes := #[t, t] })
    (base : Nat) (e : TypeId) (i : TypeInfo) (z : Value) (size bytes : Nat) (ht : P.underlying t = some (.slice e)) (hi : P.info? e = some i) (hz : i.zero = some z)
    (hsize : i.size = size) (hby : i.bytes = bytes) (hzs : z.cells.size = size) (hsz : 0 < size)
    (v : Value) (n : Nat) (xs : List Value) (hs : a.eval s = v) (hown : w.ownsRow base e size v n xs)
    (ad : Addr) (m c : Nat) (news : List Value) (hx : a.eval x = .slice (some ad) m c) (hl : news.length = m * size) (hnews : ∀ j u, news[j]? = some u → w.cell? (ad.add j) = some u) (h1 : ∀ u ∈ news, u.oneCell' = true)
    (h63 : n + m ≤ maxLen) (hbytes : (n + m) * bytes ≤ 140737488355328) (hbase : base ≤ w.heap.size)
    (h : ∀ v' w', w'.ownsRow base e size v' (n + m) (xs ++ news) → w.grownBy w' v.ownBlock → K (a.put o.dst v') w') :
    if Region.wanted o (yielded ops a.tmps) = true then Oper.wp P o a w K Q else E := by
  have hw : Region.wanted o (yielded ops a.tmps) = true := by simp [Region.wanted, hgd]
  rw [if_pos hw]
  exact wp_append_own w s x t ho base e i z size bytes ht hi hz hsize hby hzs hsz v n xs hs hown ad m c news hx hl hnews h1 h63 hbytes hbase fun v' w' h2 h3 _ => h v' w' h2 h3
theorem rd_keep {w w' : World} {ad : Addr} {vs : List Value} (h : ∀ j u, vs[j]? = some u → w.cell? (ad.add j) = some u) (hb : Below w.heap.size w w') : ∀ j u, vs[j]? = some u → w'.cell? (ad.add j) = some u :=
  fun j u hj => by rw [hb.cell (p := ad.add j) (World.block_lt_of_cell? w _ (h j u hj))]; exact h j u hj
theorem heldS.grown {W w1 w2 : World} {own : Option Nat} (h : Ext W.heap.size W w1) (hg : w1.grownBy w2 own) (ho : ∀ k, own = some k → W.heap.size ≤ k) : Ext W.heap.size W w2 := ⟨h.1.grown hg h.2 ho, Nat.le_trans h.2 hg.size⟩
theorem held_of {W w' : World} {b o : Nat} {v : Value} (hb : b < W.heap.size) (hc : W.cell? ⟨b, o, none⟩ = some v) (h : Ext W.heap.size W w') : w'.cell? ⟨b, o, none⟩ = some v ∧ W.heap.size ≤ w'.heap.size := ⟨(h.1.cell (p := ⟨b, o, none⟩) hb).trans hc, h.2⟩
theorem foldl_take {xs : List Int} {k : Nat} (h : k < xs.length) : (xs.take (k + 1)).foldl insF [] = insF ((xs.take k).foldl insF []) (xs[k]) := by
  rw [take_snocI _ _ h, List.foldl_append]; rfl
theorem foldl_len (xs : List Int) : ((xs).foldl insF []).length = xs.length := sortF_len xs
theorem one_kept (W : World) (x : Int) (u : World) : ∀ j q, ([Value.int .i64 x] : List Value)[j]? = some q → (aft (W.alloc (.cells #[.int .i64 x] 2)).drew u).cell? ((⟨W.heap.size, 0, none⟩ : Addr).add j) = some q := by
  intro j q hj
  cases j with
  | zero =>
    simp at hj
    subst hj
    rw [Addr.add_lit, aft_cell, if_pos (by show W.heap.size < (W.alloc _).heap.size; simp)]
    show (W.alloc _).cell? _ = _
    rw [alloc_cell, if_pos rfl]; rfl
  | succ j => simp at hj
set_option maxRecDepth 20000 in
set_option maxHeartbeats 16000000 in
theorem s_sorted (r : Value) (xs : List Int) (w : World) (h : rdI w r xs) (hl : xs.length ≤ 1000) :
    Calls Try.prog 29 #[r] w fun e w' => ∃ v, e = .returned v ∧ ownR w.heap.size w' v (sortF xs) ∧ Below w.heap.size w w' := by
  obtain ⟨i0, hi, hz0, hz1, hz2⟩ := info_parts infoI
  obtain ⟨a, cap, rfl, _, _⟩ := id h
  have H1 := hid h
  clear h
  go_enter Try.func29, Try.ntmps29
  go_wp2_with fail
  go_loopw [3, 4] (fun o3 i_ wr => ∃ (k : Nat) (uu : World) (g c : Nat) (OUT : List Int), wr = aft w uu ∧ k ≤ xs.length ∧ i_ = .int .i64 k ∧ o3 = .slice (some ⟨g, 0, none⟩) OUT.length c ∧ OUT.length = k ∧ Hid (ownR w.heap.size wr (.slice (some ⟨g, 0, none⟩) OUT.length c) OUT) ∧ Hid (OUT = (xs.take k).foldl insF [])) (fun _ i_ _ => (xs.length - intOf i_).toNat)
  case atStart => exact ⟨0, _, w.heap.size, 0, [], (aft_of ((Ext.refl w).alloc _).1).symm, by omega, rfl, rfl, rfl, hid (own_made w), hid rfl⟩
  case round =>
    obtain ⟨k, uu, g, c, OUT, rfl, hk, rfl, rfl, hOl, HO, HE⟩ := hrel
    have zs := size_aft w uu
    by_cases hlt : k < xs.length
    · have hltz : (k : Int) < (xs.length : Int) := by omega
      obtain ⟨lb, lo, e9⟩ := rd_head H1.out (by intro e; rw [e] at hlt; simp at hlt)
      subst e9
      have hlc0 := rd_at H1.out hlt
      have hlb0 := World.block_lt_of_cell? w _ hlc0
      rw [getD_lt hlt] at hlc0
      obtain ⟨x, hx⟩ : ∃ x, x = xs[k] := ⟨_, rfl⟩
      rw [← hx] at hlc0
      have HNX := hid (show insF OUT x = (xs.take (k + 1)).foldl insF [] by rw [foldl_take hlt, ← HE.out, ← hx])
      clear hx HE
      obtain ⟨W, hW⟩ : ∃ W, W = aft w uu := ⟨_, rfl⟩
      have hlc : W.cell? ⟨lb, lo + k, none⟩ = some (.int .i64 x) := by rw [hW, aft_cell, if_pos hlb0]; exact hlc0
      have hlb1 : lb < w.heap.size := hlb0
      have hlb : lb < W.heap.size := by rw [hW]; omega
      have EW : Hid (Ext w.heap.size w W) := hid (by rw [hW]; exact (Ext.refl w).aft _)
      have hWz : w.heap.size ≤ W.heap.size := EW.out.2
      rw [← hW] at HO ⊢
      clear hW zs hlc0 hlb0
      have hO9 : OUT.length ≤ 1000 := by omega
      have hOl1 : OUT.length ≤ k := by omega
      have hOl2 : k ≤ OUT.length := by omega
      clear hOl
      obtain ⟨A, hA⟩ : ∃ A, A = insN OUT x OUT.length := ⟨_, rfl⟩
      have hAle : A ≤ OUT.length := by rw [hA]; exact insN_le _ _ _
      have HA := hid hA.symm
      have HIN : Hid (insF OUT x = OUT.take A ++ [x] ++ OUT.drop A) := hid (by rw [hA]; rfl)
      clear hA
      go_wp2_with fail
      go_loopw [5] (fun at_ wr => ∃ (j : Nat) (u7 : World), wr = aft W u7 ∧ j ≤ OUT.length ∧ at_ = .int .i64 j ∧ Hid (insN OUT x j = A)) (fun at_ _ => (intOf at_).toNat)
      case atStart => exact ⟨OUT.length, W, (aft_of (Below.refl _ _)).symm, Nat.le_refl _, rfl, HA⟩
      case round =>
        obtain ⟨j, u7, rfl, hj, rfl, HJ⟩ := hrel
        have zs7 := size_aft W u7
        have hlc2 : (aft W u7).cell? ⟨lb, lo + k, none⟩ = some (.int .i64 x) := by rw [aft_cell, if_pos hlb]; exact hlc
        have hlb2 : lb < (aft W u7).heap.size := by omega
        rcases Nat.eq_zero_or_pos j with hj0 | hj0
        · subst hj0
          have hA0 : A = 0 := by have := HJ.out; simp [insN] at this; omega
          have HIN : Hid (insF OUT x = OUT.take 0 ++ [x] ++ OUT.drop 0) := hid (by rw [HIN.out, hA0])
          clear hA0
          go_wp2_with fail
          refine wp_region_calm (by kernel_rfl) (by kernel_rfl) ?_
          repeat (go_big_quiet_step (fail))
          refine wpQuiet_nil ?_; intro uq zq; try simp at zq
          go_wp2_with fail
          have hAz : ((0 : Nat) : Int) ≤ (OUT.length : Int) := by omega
          obtain ⟨V, hV⟩ : ∃ V, V = aft (aft W u7) uq := ⟨_, rfl⟩
          have EV : Hid (Ext W.heap.size W V) := hid (by rw [hV]; exact (((Ext.refl W).aft _).aft _))
          have HOV : Hid (ownR w.heap.size V (.slice (some ⟨g, 0, none⟩) OUT.length c) OUT) := hid (HO.out.below EV.out.1)
          have hlcV : V.cell? ⟨lb, lo + k, none⟩ = some (.int .i64 x) := (EV.out.1.cell (p := ⟨lb, lo + k, none⟩) hlb).trans hlc
          have hlbV : lb < V.heap.size := Nat.lt_of_lt_of_le hlb EV.out.2
          rw [← hV]
          clear hV
          have hAle2 : 0 ≤ OUT.length := by omega
          obtain ⟨hs1r, hcut⟩ := cutH_rule HOV.out hAle2
          obtain ⟨ad, c2, hs2r, hnews⟩ := cutL_rule HOV.out hAle2
          rw [show ((0 : Nat) : Int) = 0 from rfl] at hs1r hs2r
          have HC := hid hcut
          have HN := hid hnews
          have HD := hid (show (vI (OUT.drop 0)).length = (OUT.length - 0) * 1 by rw [vI_len, List.length_drop]; omega)
          have HD1 := hid (vI_one (OUT.drop 0))
          have HL2 := hid (show (OUT.take 0 ++ [x]).length + (OUT.length - 0) ≤ 2000 by rw [List.length_append, List.length_take]; simp; omega)
          clear hcut hnews
          (refine wp_region_held_drew (S := (fun w' => w'.cell? ⟨lb, lo + k, none⟩ = some (.int .i64 x) ∧ V.heap.size ≤ w'.heap.size)) (by kernel_rfl) ?_ (fun hHeld => ?_); focus ((try dsimp only); (refine held_of hlbV hlcV ?_; (repeat (with_reducible first | assumption | exact Ext.refl _ | apply Ext.drew | apply Ext.aft | apply Ext.alloc)))))
          (refine wpAnyH_take (i := 0) (oi := ?ho1) (v := ?hv1) ?hi1 (by kernel_rfl) (by kernel_rfl) (by kernel_rfl) ?hq1 ?hy1 (by assumption) ?hr1; (case hi1 => (simp only [List.getElem?_toArray, List.getElem?_cons_zero]; first | done | rfl)); (case hq1 => exact fun _ _ _ h => h); (case hy1 => (refine Or.inl ⟨by rfl, ?_⟩; intro w hSw; (try dsimp only at hSw); go_simp; first | done | with_reducible rfl)); (try simp only [Act.put, List.setIfInBounds_toArray, List.set_cons_zero, List.set_cons_succ]))
          (refine wpAnyH_take (i := 1) (oi := ?ho2) (v := ?hv2) ?hi2 (by kernel_rfl) (by kernel_rfl) (by kernel_rfl) ?hq2 ?hy2 (by assumption) ?hr2; (case hi2 => (simp only [List.getElem?_toArray, List.getElem?_cons_succ, List.getElem?_cons_zero]; first | done | rfl)); (case hq2 => exact fun _ _ _ h => h); (case hy2 => (refine Or.inl ⟨by rfl, ?_⟩; intro w hSw; (try dsimp only at hSw); go_simp; first | done | with_reducible rfl)); (try simp only [Act.put, List.setIfInBounds_toArray, List.set_cons_zero, List.set_cons_succ]))
          (refine wpAnyH_take (i := 2) (oi := ?ho3) (v := ?hv3) ?hi3 (by kernel_rfl) (by kernel_rfl) (by kernel_rfl) ?hq3 ?hy3 (by assumption) ?hr3; (case hi3 => (simp only [List.getElem?_toArray, List.getElem?_cons_succ, List.getElem?_cons_zero]; first | done | rfl)); (case hq3 => exact fun _ _ _ h => h); (case hy3 => (refine Or.inl ⟨by rfl, ?_⟩; intro w hSw; (try dsimp only at hSw); go_simp; first | done | with_reducible rfl)); (try simp only [Act.put, List.setIfInBounds_toArray, List.set_cons_zero, List.set_cons_succ]))
          (refine wpAnyH_take (i := 4) (oi := ?ho4) (v := ?hv4) ?hi4 (by kernel_rfl) (by kernel_rfl) (by kernel_rfl) ?hq4 ?hy4 (by assumption) ?hr4; (case hi4 => (simp only [List.getElem?_toArray, List.getElem?_cons_succ, List.getElem?_cons_zero]; first | done | rfl)); (case hq4 => exact fun _ _ _ h => h); (case hy4 => (refine Or.inl ⟨by rfl, ?_⟩; intro w hSw; (try dsimp only at hSw); go_simp; first | done | with_reducible rfl)); (try simp only [Act.put, List.setIfInBounds_toArray, List.set_cons_zero, List.set_cons_succ]))
          (refine wpAnyH_take (i := 5) (oi := ?ho5) (v := ?hv5) ?hi5 (by kernel_rfl) (by kernel_rfl) (by kernel_rfl) ?hq5 ?hy5 (by assumption) ?hr5; (case hi5 => (simp only [List.getElem?_toArray, List.getElem?_cons_succ, List.getElem?_cons_zero]; first | done | rfl)); (case hq5 => exact fun _ _ _ h => h); (case hy5 => (refine Or.inl ⟨by rfl, ?_⟩; intro w hSw; (try dsimp only at hSw); go_simp; first | done | with_reducible rfl)); (try simp only [Act.put, List.setIfInBounds_toArray, List.set_cons_zero, List.set_cons_succ]))
          (refine wpAnyH_take (i := 6) (oi := ?ho6) (v := ?hv6) ?hi6 (by kernel_rfl) (by kernel_rfl) (by kernel_rfl) ?hq6 ?hy6 (by assumption) ?hr6; (case hi6 => (simp only [List.getElem?_toArray, List.getElem?_cons_succ, List.getElem?_cons_zero]; first | done | rfl)); (case hq6 => exact fun _ _ _ h => h); (case hy6 => (refine Or.inl ⟨by rfl, ?_⟩; intro w hSw; (try dsimp only at hSw); go_simp; first | done | with_reducible rfl)); (try simp only [Act.put, List.setIfInBounds_toArray, List.set_cons_zero, List.set_cons_succ]))
          (refine wpAnyH_take (i := 7) (oi := ?ho7) (v := ?hv7) ?hi7 (by kernel_rfl) (by kernel_rfl) (by kernel_rfl) ?hq7 ?hy7 (by assumption) ?hr7; (case hi7 => (simp only [List.getElem?_toArray, List.getElem?_cons_succ, List.getElem?_cons_zero]; first | done | rfl)); (case hq7 => exact fun _ _ _ h => h); (case hy7 => (refine Or.inl ⟨by rfl, ?_⟩; intro w hSw; (try dsimp only at hSw); go_simp; first | done | with_reducible rfl)); (try simp only [Act.put, List.setIfInBounds_toArray, List.set_cons_zero, List.set_cons_succ]))
          (refine wpAnyH_take (i := 10) (oi := ?ho8) (v := ?hv8) ?hi8 (by kernel_rfl) (by kernel_rfl) (by kernel_rfl) ?hq8 ?hy8 (by assumption) ?hr8; (case hi8 => (simp only [List.getElem?_toArray, List.getElem?_cons_succ, List.getElem?_cons_zero]; first | done | rfl)); (case hq8 => exact fun _ _ _ h => h); (case hy8 => (refine Or.inl ⟨by rfl, ?_⟩; intro w hSw; (try dsimp only at hSw); go_simp; first | done | with_reducible rfl)); (try simp only [Act.put, List.setIfInBounds_toArray, List.set_cons_zero, List.set_cons_succ]))
          (refine wpAnyH_take (i := 11) (oi := ?ho9) (v := ?hv9) ?hi9 (by kernel_rfl) (by kernel_rfl) (by kernel_rfl) ?hq9 ?hy9 (by assumption) ?hr9; (case hi9 => (simp only [List.getElem?_toArray, List.getElem?_cons_succ, List.getElem?_cons_zero]; first | done | rfl)); (case hq9 => exact fun _ _ _ h => h); (case hy9 => (refine Or.inl ⟨by rfl, ?_⟩; intro w hSw; (try dsimp only at hSw); go_simp; first | done | with_reducible rfl)); (try simp only [Act.put, List.setIfInBounds_toArray, List.set_cons_zero, List.set_cons_succ]))
          (refine wpAnyH_take (i := 12) (oi := ?ho10) (v := ?hv10) ?hi10 (by kernel_rfl) (by kernel_rfl) (by kernel_rfl) ?hq10 ?hy10 (by assumption) ?hr10; (case hi10 => (simp only [List.getElem?_toArray, List.getElem?_cons_succ, List.getElem?_cons_zero]; first | done | rfl)); (case hq10 => exact fun _ _ _ h => h); (case hy10 => (refine Or.inl ⟨by rfl, ?_⟩; intro w hSw; (try dsimp only at hSw); go_simp; first | done | with_reducible rfl)); (try simp only [Act.put, List.setIfInBounds_toArray, List.set_cons_zero, List.set_cons_succ]))
          (refine wpAnyH_ready (rs := [3, 8]) (by decide +kernel) (by simp) ?_; refine AllReadyH.cons (o := ?oa) ?ha (fun K hK => ?ra) (AllReadyH.cons (o := ?ob) ?hb (fun K hK => ?rb) AllReadyH.nil); (case ha => (simp only [List.getElem?_toArray, List.getElem?_cons_succ, List.getElem?_cons_zero]; first | done | rfl)); (case hb => (simp only [List.getElem?_toArray, List.getElem?_cons_succ, List.getElem?_cons_zero]; first | done | rfl)))
          case ra =>
            (go_simp; go_at_call 54; refine viaI (g := id) (s_own _ (OUT.take 0) _ (HC.out.rd.below (Ext.bel (Ext.refl V).drew)) (by rw [List.length_take]; omega)) ?_; intro v1 u1 z1 o1; (try simp at z1); have O1 := hid o1; clear o1; go_wp2_with fail)
            (refine hK.out _ _ ?_ (fun hHeld => ?_); focus ((try dsimp only); (refine held_of hlbV hlcV ?_; (repeat (with_reducible first | assumption | exact Ext.refl _ | apply Ext.drew | apply Ext.aft | apply Ext.alloc)))))
            (clear hK K; (try simp only [Act.put, List.setIfInBounds_toArray, List.set_cons_zero, List.set_cons_succ]))
            (refine wpAnyH_ready (rs := [8]) (by decide +kernel) (by simp) ?_; refine AllReadyH.cons (o := ?ho25) ?hi25 (fun K hK => ?hr25) AllReadyH.nil; (case hi25 => (simp only [List.getElem?_toArray, List.getElem?_cons_succ, List.getElem?_cons_zero]; first | done | rfl)))
            (go_wp2_with fail)
            (refine hK.out _ _ ?_ (fun hHeld => ?_); focus ((try dsimp only); (refine held_of hlbV hlcV ?_; (repeat (with_reducible first | assumption | exact Ext.refl _ | apply Ext.drew | apply Ext.aft | apply Ext.alloc)))))
            (clear hK K; (try simp only [Act.put, List.setIfInBounds_toArray, List.set_cons_zero, List.set_cons_succ]))
            (refine wpAnyH_ready (rs := [9]) (by decide +kernel) (by simp) ?_; refine AllReadyH.cons (o := ?ho26) ?hi26 (fun K hK => ?hr26) AllReadyH.nil; (case hi26 => (simp only [List.getElem?_toArray, List.getElem?_cons_succ, List.getElem?_cons_zero]; first | done | rfl)))
            (refine step_append_own (by rfl) _ _ 24 (by rfl) V.heap.size 2 i0 (.int .i64 0) 1 8 Try.underlying24 hi hz0 hz1 hz2 rfl (by decide) _ _ _ (by rfl) (ownR.mono (O1.out.alloc _) (by simp)) _ 1 1 [.int .i64 x] (by rfl) rfl (cell_one_new _ _ _) (by intro u hu; simp at hu; subst hu; rfl) (by rw [List.length_take]; unfold maxLen; omega) (by rw [List.length_take]; omega) (by omega) ?_; intro v2 w2 hown2 hg2; have H2 := heldS.grown (W := V) (((Ext.refl V).drew.aft u1).alloc _) hg2 (own_row_ge (ownR.mono (B' := V.heap.size) (O1.out.alloc (Obj.cells #[.int .i64 x] 2)) (by simp))); have O2 := hid (ownR.snoc hown2); clear hown2 hg2)
            (refine hK.out _ _ ?_ (fun hHeld => ?_); focus ((try dsimp only); (refine held_of hlbV hlcV ?_; (repeat (with_reducible first | assumption | exact Ext.refl _ | apply Ext.drew | apply Ext.aft | apply Ext.alloc)))))
            (clear hK K; (try simp only [Act.put, List.setIfInBounds_toArray, List.set_cons_zero, List.set_cons_succ]))
            (refine wpAnyH_ready (rs := [13]) (by decide +kernel) (by simp) ?_; refine AllReadyH.cons (o := ?ho27) ?hi27 (fun K hK => ?hr27) AllReadyH.nil; (case hi27 => (simp only [List.getElem?_toArray, List.getElem?_cons_succ, List.getElem?_cons_zero]; first | done | rfl)))
            (refine step_append_own (by rfl) _ _ 24 (by rfl) V.heap.size 2 i0 (.int .i64 0) 1 8 Try.underlying24 hi hz0 hz1 hz2 rfl (by decide) _ _ _ (by rfl) O2.out ad (OUT.length - 0) c2 (vI (OUT.drop 0)) (by rfl) HD.out (rd_keep HN.out (Ext.bel H2)) HD1.out (by have := HL2.out; unfold maxLen; omega) (by have := HL2.out; omega) (by have := H2.2; omega) ?_; intro v3 w3 hown3 hg3; have H3 := heldS.grown (W := V) H2 hg3 (own_row_ge O2.out); have O3 := hid hown3; clear hown3 hg3)
            (refine hK.out _ _ ?_ (fun hHeld => ?_); focus ((try dsimp only); (refine held_of hlbV hlcV ?_; (repeat (with_reducible first | assumption | exact Ext.refl _ | apply Ext.drew | apply Ext.aft | apply Ext.alloc)))))
            (clear hK K; (try simp only [Act.put, List.setIfInBounds_toArray, List.set_cons_zero, List.set_cons_succ]))
            (refine wpAnyH_take (i := 14) (oi := ?ho11) (v := ?hv11) ?hi11 (by kernel_rfl) (by kernel_rfl) (by kernel_rfl) ?hq11 ?hy11 (by assumption) ?hr11; (case hi11 => (simp only [List.getElem?_toArray, List.getElem?_cons_succ, List.getElem?_cons_zero]; first | done | rfl)); (case hq11 => exact fun _ _ _ h => h); (case hy11 => (refine Or.inl ⟨by rfl, ?_⟩; intro w hSw; (try dsimp only at hSw); go_simp; first | done | with_reducible rfl)); (try simp only [Act.put, List.setIfInBounds_toArray, List.set_cons_zero, List.set_cons_succ]))
            (refine wpAnyH_done (by kernel_rfl) ?_ _)
            have HNL : Hid (ownR V.heap.size w3 v3 (insF OUT x)) := hid (by
              rw [HIN.out]
              have h4 := O3.out
              unfold ownR
              unfold vI at h4 ⊢
              rw [List.map_append, List.length_append, List.length_drop]
              exact h4)
            obtain ⟨g', c', e', _⟩ := own_some HNL.out (by intro e; have := congrArg List.length e; rw [insF_len] at this; simp at this)
            subst e'
            have hE3 : Ext w.heap.size w w3 := ⟨(EW.out.1.trans ((EV.out.1.trans (H3.1.mono EV.out.2)).mono hWz)), by have := H3.2; have := EV.out.2; omega⟩
            obtain ⟨uf, huf⟩ := aft_ex hE3.1
            have HUF := hid huf
            have hVz : w.heap.size ≤ V.heap.size := by have := EV.out.2; omega
            have hil := insF_len OUT x
            obtain ⟨NL, hNL⟩ : ∃ NL, NL = insF OUT x := ⟨_, rfl⟩
            rw [← hNL] at HNL HNX hil ⊢
            clear hNL huf hE3
            go_wp2_with fail
            go_roundw
            case rel => exact ⟨k + 1, uf, g', c', NL, HUF.out, hlt, by go_num, rfl, by omega, hid (HNL.out.mono hVz), HNX⟩
            case measure => simp only [intOf]; omega
          case rb =>
            (go_wp2_with fail)
            (refine hK.out _ _ ?_ (fun hHeld => ?_); focus ((try dsimp only); (refine held_of hlbV hlcV ?_; (repeat (with_reducible first | assumption | exact Ext.refl _ | apply Ext.drew | apply Ext.aft | apply Ext.alloc)))))
            (clear hK K; (try simp only [Act.put, List.setIfInBounds_toArray, List.set_cons_zero, List.set_cons_succ]))
            (refine wpAnyH_ready (rs := [3]) (by decide +kernel) (by simp) ?_; refine AllReadyH.cons (o := ?ho28) ?hi28 (fun K hK => ?hr28) AllReadyH.nil; (case hi28 => (simp only [List.getElem?_toArray, List.getElem?_cons_succ, List.getElem?_cons_zero]; first | done | rfl)))
            (go_simp; go_at_call 54; refine viaI (g := id) (s_own _ (OUT.take 0) _ (HC.out.rd.below (Ext.bel ((Ext.refl V).drew.alloc _))) (by rw [List.length_take]; omega)) ?_; intro v1 u1 z1 o1; (try simp at z1); have O1 := hid o1; clear o1; go_wp2_with fail)
            (refine hK.out _ _ ?_ (fun hHeld => ?_); focus ((try dsimp only); (refine held_of hlbV hlcV ?_; (repeat (with_reducible first | assumption | exact Ext.refl _ | apply Ext.drew | apply Ext.aft | apply Ext.alloc)))))
            (clear hK K; (try simp only [Act.put, List.setIfInBounds_toArray, List.set_cons_zero, List.set_cons_succ]))
            (refine wpAnyH_ready (rs := [9]) (by decide +kernel) (by simp) ?_; refine AllReadyH.cons (o := ?ho29) ?hi29 (fun K hK => ?hr29) AllReadyH.nil; (case hi29 => (simp only [List.getElem?_toArray, List.getElem?_cons_succ, List.getElem?_cons_zero]; first | done | rfl)))
            (refine step_append_own (by rfl) _ _ 24 (by rfl) V.heap.size 2 i0 (.int .i64 0) 1 8 Try.underlying24 hi hz0 hz1 hz2 rfl (by decide) _ _ _ (by rfl) (ownR.mono O1.out (by simp)) _ 1 1 [.int .i64 x] (by rfl) rfl (one_kept _ _ _) (by intro u hu; simp at hu; subst hu; rfl) (by rw [List.length_take]; unfold maxLen; omega) (by rw [List.length_take]; omega) (by omega) ?_; intro v2 w2 hown2 hg2; have H2 := heldS.grown (W := V) (((Ext.refl V).drew.alloc _).aft u1) hg2 (own_row_ge (ownR.mono (B' := V.heap.size) O1.out (by simp))); have O2 := hid (ownR.snoc hown2); clear hown2 hg2)
            (refine hK.out _ _ ?_ (fun hHeld => ?_); focus ((try dsimp only); (refine held_of hlbV hlcV ?_; (repeat (with_reducible first | assumption | exact Ext.refl _ | apply Ext.drew | apply Ext.aft | apply Ext.alloc)))))
            (clear hK K; (try simp only [Act.put, List.setIfInBounds_toArray, List.set_cons_zero, List.set_cons_succ]))
            (refine wpAnyH_ready (rs := [13]) (by decide +kernel) (by simp) ?_; refine AllReadyH.cons (o := ?ho30) ?hi30 (fun K hK => ?hr30) AllReadyH.nil; (case hi30 => (simp only [List.getElem?_toArray, List.getElem?_cons_succ, List.getElem?_cons_zero]; first | done | rfl)))
            (refine step_append_own (by rfl) _ _ 24 (by rfl) V.heap.size 2 i0 (.int .i64 0) 1 8 Try.underlying24 hi hz0 hz1 hz2 rfl (by decide) _ _ _ (by rfl) O2.out ad (OUT.length - 0) c2 (vI (OUT.drop 0)) (by rfl) HD.out (rd_keep HN.out (Ext.bel H2)) HD1.out (by have := HL2.out; unfold maxLen; omega) (by have := HL2.out; omega) (by have := H2.2; omega) ?_; intro v3 w3 hown3 hg3; have H3 := heldS.grown (W := V) H2 hg3 (own_row_ge O2.out); have O3 := hid hown3; clear hown3 hg3)
            (refine hK.out _ _ ?_ (fun hHeld => ?_); focus ((try dsimp only); (refine held_of hlbV hlcV ?_; (repeat (with_reducible first | assumption | exact Ext.refl _ | apply Ext.drew | apply Ext.aft | apply Ext.alloc)))))
            (clear hK K; (try simp only [Act.put, List.setIfInBounds_toArray, List.set_cons_zero, List.set_cons_succ]))
            (refine wpAnyH_take (i := 14) (oi := ?ho12) (v := ?hv12) ?hi12 (by kernel_rfl) (by kernel_rfl) (by kernel_rfl) ?hq12 ?hy12 (by assumption) ?hr12; (case hi12 => (simp only [List.getElem?_toArray, List.getElem?_cons_succ, List.getElem?_cons_zero]; first | done | rfl)); (case hq12 => exact fun _ _ _ h => h); (case hy12 => (refine Or.inl ⟨by rfl, ?_⟩; intro w hSw; (try dsimp only at hSw); go_simp; first | done | with_reducible rfl)); (try simp only [Act.put, List.setIfInBounds_toArray, List.set_cons_zero, List.set_cons_succ]))
            (refine wpAnyH_done (by kernel_rfl) ?_ _)
            have HNL : Hid (ownR V.heap.size w3 v3 (insF OUT x)) := hid (by
              rw [HIN.out]
              have h4 := O3.out
              unfold ownR
              unfold vI at h4 ⊢
              rw [List.map_append, List.length_append, List.length_drop]
              exact h4)
            obtain ⟨g', c', e', _⟩ := own_some HNL.out (by intro e; have := congrArg List.length e; rw [insF_len] at this; simp at this)
            subst e'
            have hE3 : Ext w.heap.size w w3 := ⟨(EW.out.1.trans ((EV.out.1.trans (H3.1.mono EV.out.2)).mono hWz)), by have := H3.2; have := EV.out.2; omega⟩
            obtain ⟨uf, huf⟩ := aft_ex hE3.1
            have HUF := hid huf
            have hVz : w.heap.size ≤ V.heap.size := by have := EV.out.2; omega
            have hil := insF_len OUT x
            obtain ⟨NL, hNL⟩ : ∃ NL, NL = insF OUT x := ⟨_, rfl⟩
            rw [← hNL] at HNL HNX hil ⊢
            clear hNL huf hE3
            go_wp2_with fail
            go_roundw
            case rel => exact ⟨k + 1, uf, g', c', NL, HUF.out, hlt, by go_num, rfl, by omega, hid (HNL.out.mono hVz), HNX⟩
            case measure => simp only [intOf]; omega
        · obtain ⟨t, rfl⟩ : ∃ t, j = t + 1 := ⟨j - 1, by omega⟩
          have hoc := (own_cell (HO.out.aft u7) (j := t) (by omega)).1
          have hob := World.block_lt_of_cell? _ _ hoc
          obtain ⟨y, hy⟩ : ∃ y, y = OUT.getD t 0 := ⟨_, rfl⟩
          rw [← hy] at hoc
          have htz : (0 : Int) < ((t + 1 : Nat) : Int) := by omega
          have hte : ((t + 1 : Nat) : Int) - 1 = (t : Int) := by omega
          have htl : (t : Int) < (OUT.length : Int) := by omega
          have htn : (0 : Int) ≤ (t : Int) := by omega
          have htw : (t : Int) + 1 - 1 = (t : Int) := by omega
          have htz2 : (0 : Int) < (t : Int) + 1 := by omega
          by_cases hxy : x < y
          · have HJ2 := hid (show insN OUT x t = A by have := HJ.out; rw [insN, if_pos (by rw [← hy]; exact hxy)] at this; exact this)
            clear hy
            go_wp2_with fail
            refine wp_region_calm (by kernel_rfl) (by kernel_rfl) ?_
            repeat (go_big_quiet_step (fail))
            refine wpQuiet_nil ?_; intro uq zq; try simp at zq
            go_wp2_with fail
            go_roundw
            case rel => exact ⟨t, _, (aft_of (((Ext.refl W).aft _).aft _).1).symm, by omega, by go_num, HJ2⟩
            case measure => simp only [intOf]; omega
          · have hA1 : t + 1 = A := by have := HJ.out; rw [insN, if_neg (by rw [← hy]; exact hxy)] at this; exact this
            have HIN : Hid (insF OUT x = OUT.take (t + 1) ++ [x] ++ OUT.drop (t + 1)) := hid (by rw [HIN.out, hA1])
            clear hA1
            clear hy
            go_wp2_with fail
            refine wp_region_calm (by kernel_rfl) (by kernel_rfl) ?_
            repeat (go_big_quiet_step (fail))
            refine wpQuiet_nil ?_; intro uq zq; try simp at zq
            go_wp2_with fail
            have hAz : (((t + 1) : Nat) : Int) ≤ (OUT.length : Int) := by omega
            obtain ⟨V, hV⟩ : ∃ V, V = aft (aft W u7) uq := ⟨_, rfl⟩
            have EV : Hid (Ext W.heap.size W V) := hid (by rw [hV]; exact (((Ext.refl W).aft _).aft _))
            have HOV : Hid (ownR w.heap.size V (.slice (some ⟨g, 0, none⟩) OUT.length c) OUT) := hid (HO.out.below EV.out.1)
            have hlcV : V.cell? ⟨lb, lo + k, none⟩ = some (.int .i64 x) := (EV.out.1.cell (p := ⟨lb, lo + k, none⟩) hlb).trans hlc
            have hlbV : lb < V.heap.size := Nat.lt_of_lt_of_le hlb EV.out.2
            rw [← hV]
            clear hV
            have hAle2 : (t + 1) ≤ OUT.length := by omega
            obtain ⟨hs1r, hcut⟩ := cutH_rule HOV.out hAle2
            obtain ⟨ad, c2, hs2r, hnews⟩ := cutL_rule HOV.out hAle2
            rw [show ((t + 1 : Nat) : Int) = (t : Int) + 1 by omega] at hs1r hs2r
            have HC := hid hcut
            have HN := hid hnews
            have HD := hid (show (vI (OUT.drop (t + 1))).length = (OUT.length - (t + 1)) * 1 by rw [vI_len, List.length_drop]; omega)
            have HD1 := hid (vI_one (OUT.drop (t + 1)))
            have HL2 := hid (show (OUT.take (t + 1) ++ [x]).length + (OUT.length - (t + 1)) ≤ 2000 by rw [List.length_append, List.length_take]; simp; omega)
            clear hcut hnews
            (refine wp_region_held_drew (S := (fun w' => w'.cell? ⟨lb, lo + k, none⟩ = some (.int .i64 x) ∧ V.heap.size ≤ w'.heap.size)) (by kernel_rfl) ?_ (fun hHeld => ?_); focus ((try dsimp only); (refine held_of hlbV hlcV ?_; (repeat (with_reducible first | assumption | exact Ext.refl _ | apply Ext.drew | apply Ext.aft | apply Ext.alloc)))))
            (refine wpAnyH_take (i := 0) (oi := ?ho13) (v := ?hv13) ?hi13 (by kernel_rfl) (by kernel_rfl) (by kernel_rfl) ?hq13 ?hy13 (by assumption) ?hr13; (case hi13 => (simp only [List.getElem?_toArray, List.getElem?_cons_zero]; first | done | rfl)); (case hq13 => exact fun _ _ _ h => h); (case hy13 => (refine Or.inl ⟨by rfl, ?_⟩; intro w hSw; (try dsimp only at hSw); go_simp; first | done | with_reducible rfl)); (try simp only [Act.put, List.setIfInBounds_toArray, List.set_cons_zero, List.set_cons_succ]))
            (refine wpAnyH_take (i := 1) (oi := ?ho14) (v := ?hv14) ?hi14 (by kernel_rfl) (by kernel_rfl) (by kernel_rfl) ?hq14 ?hy14 (by assumption) ?hr14; (case hi14 => (simp only [List.getElem?_toArray, List.getElem?_cons_succ, List.getElem?_cons_zero]; first | done | rfl)); (case hq14 => exact fun _ _ _ h => h); (case hy14 => (refine Or.inl ⟨by rfl, ?_⟩; intro w hSw; (try dsimp only at hSw); go_simp; first | done | with_reducible rfl)); (try simp only [Act.put, List.setIfInBounds_toArray, List.set_cons_zero, List.set_cons_succ]))
            (refine wpAnyH_take (i := 2) (oi := ?ho15) (v := ?hv15) ?hi15 (by kernel_rfl) (by kernel_rfl) (by kernel_rfl) ?hq15 ?hy15 (by assumption) ?hr15; (case hi15 => (simp only [List.getElem?_toArray, List.getElem?_cons_succ, List.getElem?_cons_zero]; first | done | rfl)); (case hq15 => exact fun _ _ _ h => h); (case hy15 => (refine Or.inl ⟨by rfl, ?_⟩; intro w hSw; (try dsimp only at hSw); go_simp; first | done | with_reducible rfl)); (try simp only [Act.put, List.setIfInBounds_toArray, List.set_cons_zero, List.set_cons_succ]))
            (refine wpAnyH_take (i := 4) (oi := ?ho16) (v := ?hv16) ?hi16 (by kernel_rfl) (by kernel_rfl) (by kernel_rfl) ?hq16 ?hy16 (by assumption) ?hr16; (case hi16 => (simp only [List.getElem?_toArray, List.getElem?_cons_succ, List.getElem?_cons_zero]; first | done | rfl)); (case hq16 => exact fun _ _ _ h => h); (case hy16 => (refine Or.inl ⟨by rfl, ?_⟩; intro w hSw; (try dsimp only at hSw); go_simp; first | done | with_reducible rfl)); (try simp only [Act.put, List.setIfInBounds_toArray, List.set_cons_zero, List.set_cons_succ]))
            (refine wpAnyH_take (i := 5) (oi := ?ho17) (v := ?hv17) ?hi17 (by kernel_rfl) (by kernel_rfl) (by kernel_rfl) ?hq17 ?hy17 (by assumption) ?hr17; (case hi17 => (simp only [List.getElem?_toArray, List.getElem?_cons_succ, List.getElem?_cons_zero]; first | done | rfl)); (case hq17 => exact fun _ _ _ h => h); (case hy17 => (refine Or.inl ⟨by rfl, ?_⟩; intro w hSw; (try dsimp only at hSw); go_simp; first | done | with_reducible rfl)); (try simp only [Act.put, List.setIfInBounds_toArray, List.set_cons_zero, List.set_cons_succ]))
            (refine wpAnyH_take (i := 6) (oi := ?ho18) (v := ?hv18) ?hi18 (by kernel_rfl) (by kernel_rfl) (by kernel_rfl) ?hq18 ?hy18 (by assumption) ?hr18; (case hi18 => (simp only [List.getElem?_toArray, List.getElem?_cons_succ, List.getElem?_cons_zero]; first | done | rfl)); (case hq18 => exact fun _ _ _ h => h); (case hy18 => (refine Or.inl ⟨by rfl, ?_⟩; intro w hSw; (try dsimp only at hSw); go_simp; first | done | with_reducible rfl)); (try simp only [Act.put, List.setIfInBounds_toArray, List.set_cons_zero, List.set_cons_succ]))
            (refine wpAnyH_take (i := 7) (oi := ?ho19) (v := ?hv19) ?hi19 (by kernel_rfl) (by kernel_rfl) (by kernel_rfl) ?hq19 ?hy19 (by assumption) ?hr19; (case hi19 => (simp only [List.getElem?_toArray, List.getElem?_cons_succ, List.getElem?_cons_zero]; first | done | rfl)); (case hq19 => exact fun _ _ _ h => h); (case hy19 => (refine Or.inl ⟨by rfl, ?_⟩; intro w hSw; (try dsimp only at hSw); go_simp; first | done | with_reducible rfl)); (try simp only [Act.put, List.setIfInBounds_toArray, List.set_cons_zero, List.set_cons_succ]))
            (refine wpAnyH_take (i := 10) (oi := ?ho20) (v := ?hv20) ?hi20 (by kernel_rfl) (by kernel_rfl) (by kernel_rfl) ?hq20 ?hy20 (by assumption) ?hr20; (case hi20 => (simp only [List.getElem?_toArray, List.getElem?_cons_succ, List.getElem?_cons_zero]; first | done | rfl)); (case hq20 => exact fun _ _ _ h => h); (case hy20 => (refine Or.inl ⟨by rfl, ?_⟩; intro w hSw; (try dsimp only at hSw); go_simp; first | done | with_reducible rfl)); (try simp only [Act.put, List.setIfInBounds_toArray, List.set_cons_zero, List.set_cons_succ]))
            (refine wpAnyH_take (i := 11) (oi := ?ho21) (v := ?hv21) ?hi21 (by kernel_rfl) (by kernel_rfl) (by kernel_rfl) ?hq21 ?hy21 (by assumption) ?hr21; (case hi21 => (simp only [List.getElem?_toArray, List.getElem?_cons_succ, List.getElem?_cons_zero]; first | done | rfl)); (case hq21 => exact fun _ _ _ h => h); (case hy21 => (refine Or.inl ⟨by rfl, ?_⟩; intro w hSw; (try dsimp only at hSw); go_simp; first | done | with_reducible rfl)); (try simp only [Act.put, List.setIfInBounds_toArray, List.set_cons_zero, List.set_cons_succ]))
            (refine wpAnyH_take (i := 12) (oi := ?ho22) (v := ?hv22) ?hi22 (by kernel_rfl) (by kernel_rfl) (by kernel_rfl) ?hq22 ?hy22 (by assumption) ?hr22; (case hi22 => (simp only [List.getElem?_toArray, List.getElem?_cons_succ, List.getElem?_cons_zero]; first | done | rfl)); (case hq22 => exact fun _ _ _ h => h); (case hy22 => (refine Or.inl ⟨by rfl, ?_⟩; intro w hSw; (try dsimp only at hSw); go_simp; first | done | with_reducible rfl)); (try simp only [Act.put, List.setIfInBounds_toArray, List.set_cons_zero, List.set_cons_succ]))
            (refine wpAnyH_ready (rs := [3, 8]) (by decide +kernel) (by simp) ?_; refine AllReadyH.cons (o := ?oa) ?ha (fun K hK => ?ra) (AllReadyH.cons (o := ?ob) ?hb (fun K hK => ?rb) AllReadyH.nil); (case ha => (simp only [List.getElem?_toArray, List.getElem?_cons_succ, List.getElem?_cons_zero]; first | done | rfl)); (case hb => (simp only [List.getElem?_toArray, List.getElem?_cons_succ, List.getElem?_cons_zero]; first | done | rfl)))
            case ra =>
              (go_simp; go_at_call 54; refine viaI (g := id) (s_own _ (OUT.take (t + 1)) _ (HC.out.rd.below (Ext.bel (Ext.refl V).drew)) (by rw [List.length_take]; omega)) ?_; intro v1 u1 z1 o1; (try simp at z1); have O1 := hid o1; clear o1; go_wp2_with fail)
              (refine hK.out _ _ ?_ (fun hHeld => ?_); focus ((try dsimp only); (refine held_of hlbV hlcV ?_; (repeat (with_reducible first | assumption | exact Ext.refl _ | apply Ext.drew | apply Ext.aft | apply Ext.alloc)))))
              (clear hK K; (try simp only [Act.put, List.setIfInBounds_toArray, List.set_cons_zero, List.set_cons_succ]))
              (refine wpAnyH_ready (rs := [8]) (by decide +kernel) (by simp) ?_; refine AllReadyH.cons (o := ?ho31) ?hi31 (fun K hK => ?hr31) AllReadyH.nil; (case hi31 => (simp only [List.getElem?_toArray, List.getElem?_cons_succ, List.getElem?_cons_zero]; first | done | rfl)))
              (go_wp2_with fail)
              (refine hK.out _ _ ?_ (fun hHeld => ?_); focus ((try dsimp only); (refine held_of hlbV hlcV ?_; (repeat (with_reducible first | assumption | exact Ext.refl _ | apply Ext.drew | apply Ext.aft | apply Ext.alloc)))))
              (clear hK K; (try simp only [Act.put, List.setIfInBounds_toArray, List.set_cons_zero, List.set_cons_succ]))
              (refine wpAnyH_ready (rs := [9]) (by decide +kernel) (by simp) ?_; refine AllReadyH.cons (o := ?ho32) ?hi32 (fun K hK => ?hr32) AllReadyH.nil; (case hi32 => (simp only [List.getElem?_toArray, List.getElem?_cons_succ, List.getElem?_cons_zero]; first | done | rfl)))
              (refine step_append_own (by rfl) _ _ 24 (by rfl) V.heap.size 2 i0 (.int .i64 0) 1 8 Try.underlying24 hi hz0 hz1 hz2 rfl (by decide) _ _ _ (by rfl) (ownR.mono (O1.out.alloc _) (by simp)) _ 1 1 [.int .i64 x] (by rfl) rfl (cell_one_new _ _ _) (by intro u hu; simp at hu; subst hu; rfl) (by rw [List.length_take]; unfold maxLen; omega) (by rw [List.length_take]; omega) (by omega) ?_; intro v2 w2 hown2 hg2; have H2 := heldS.grown (W := V) (((Ext.refl V).drew.aft u1).alloc _) hg2 (own_row_ge (ownR.mono (B' := V.heap.size) (O1.out.alloc (Obj.cells #[.int .i64 x] 2)) (by simp))); have O2 := hid (ownR.snoc hown2); clear hown2 hg2)
              (refine hK.out _ _ ?_ (fun hHeld => ?_); focus ((try dsimp only); (refine held_of hlbV hlcV ?_; (repeat (with_reducible first | assumption | exact Ext.refl _ | apply Ext.drew | apply Ext.aft | apply Ext.alloc)))))
              (clear hK K; (try simp only [Act.put, List.setIfInBounds_toArray, List.set_cons_zero, List.set_cons_succ]))
              (refine wpAnyH_ready (rs := [13]) (by decide +kernel) (by simp) ?_; refine AllReadyH.cons (o := ?ho33) ?hi33 (fun K hK => ?hr33) AllReadyH.nil; (case hi33 => (simp only [List.getElem?_toArray, List.getElem?_cons_succ, List.getElem?_cons_zero]; first | done | rfl)))
              (refine step_append_own (by rfl) _ _ 24 (by rfl) V.heap.size 2 i0 (.int .i64 0) 1 8 Try.underlying24 hi hz0 hz1 hz2 rfl (by decide) _ _ _ (by rfl) O2.out ad (OUT.length - (t + 1)) c2 (vI (OUT.drop (t + 1))) (by rfl) HD.out (rd_keep HN.out (Ext.bel H2)) HD1.out (by have := HL2.out; unfold maxLen; omega) (by have := HL2.out; omega) (by have := H2.2; omega) ?_; intro v3 w3 hown3 hg3; have H3 := heldS.grown (W := V) H2 hg3 (own_row_ge O2.out); have O3 := hid hown3; clear hown3 hg3)
              (refine hK.out _ _ ?_ (fun hHeld => ?_); focus ((try dsimp only); (refine held_of hlbV hlcV ?_; (repeat (with_reducible first | assumption | exact Ext.refl _ | apply Ext.drew | apply Ext.aft | apply Ext.alloc)))))
              (clear hK K; (try simp only [Act.put, List.setIfInBounds_toArray, List.set_cons_zero, List.set_cons_succ]))
              (refine wpAnyH_take (i := 14) (oi := ?ho23) (v := ?hv23) ?hi23 (by kernel_rfl) (by kernel_rfl) (by kernel_rfl) ?hq23 ?hy23 (by assumption) ?hr23; (case hi23 => (simp only [List.getElem?_toArray, List.getElem?_cons_succ, List.getElem?_cons_zero]; first | done | rfl)); (case hq23 => exact fun _ _ _ h => h); (case hy23 => (refine Or.inl ⟨by rfl, ?_⟩; intro w hSw; (try dsimp only at hSw); go_simp; first | done | with_reducible rfl)); (try simp only [Act.put, List.setIfInBounds_toArray, List.set_cons_zero, List.set_cons_succ]))
              (refine wpAnyH_done (by kernel_rfl) ?_ _)
              have HNL : Hid (ownR V.heap.size w3 v3 (insF OUT x)) := hid (by
                rw [HIN.out]
                have h4 := O3.out
                unfold ownR
                unfold vI at h4 ⊢
                rw [List.map_append, List.length_append, List.length_drop]
                exact h4)
              obtain ⟨g', c', e', _⟩ := own_some HNL.out (by intro e; have := congrArg List.length e; rw [insF_len] at this; simp at this)
              subst e'
              have hE3 : Ext w.heap.size w w3 := ⟨(EW.out.1.trans ((EV.out.1.trans (H3.1.mono EV.out.2)).mono hWz)), by have := H3.2; have := EV.out.2; omega⟩
              obtain ⟨uf, huf⟩ := aft_ex hE3.1
              have HUF := hid huf
              have hVz : w.heap.size ≤ V.heap.size := by have := EV.out.2; omega
              have hil := insF_len OUT x
              obtain ⟨NL, hNL⟩ : ∃ NL, NL = insF OUT x := ⟨_, rfl⟩
              rw [← hNL] at HNL HNX hil ⊢
              clear hNL huf hE3
              go_wp2_with fail
              go_roundw
              case rel => exact ⟨k + 1, uf, g', c', NL, HUF.out, hlt, by go_num, rfl, by omega, hid (HNL.out.mono hVz), HNX⟩
              case measure => simp only [intOf]; omega
            case rb =>
              (go_wp2_with fail)
              (refine hK.out _ _ ?_ (fun hHeld => ?_); focus ((try dsimp only); (refine held_of hlbV hlcV ?_; (repeat (with_reducible first | assumption | exact Ext.refl _ | apply Ext.drew | apply Ext.aft | apply Ext.alloc)))))
              (clear hK K; (try simp only [Act.put, List.setIfInBounds_toArray, List.set_cons_zero, List.set_cons_succ]))
              (refine wpAnyH_ready (rs := [3]) (by decide +kernel) (by simp) ?_; refine AllReadyH.cons (o := ?ho34) ?hi34 (fun K hK => ?hr34) AllReadyH.nil; (case hi34 => (simp only [List.getElem?_toArray, List.getElem?_cons_succ, List.getElem?_cons_zero]; first | done | rfl)))
              (go_simp; go_at_call 54; refine viaI (g := id) (s_own _ (OUT.take (t + 1)) _ (HC.out.rd.below (Ext.bel ((Ext.refl V).drew.alloc _))) (by rw [List.length_take]; omega)) ?_; intro v1 u1 z1 o1; (try simp at z1); have O1 := hid o1; clear o1; go_wp2_with fail)
              (refine hK.out _ _ ?_ (fun hHeld => ?_); focus ((try dsimp only); (refine held_of hlbV hlcV ?_; (repeat (with_reducible first | assumption | exact Ext.refl _ | apply Ext.drew | apply Ext.aft | apply Ext.alloc)))))
              (clear hK K; (try simp only [Act.put, List.setIfInBounds_toArray, List.set_cons_zero, List.set_cons_succ]))
              (refine wpAnyH_ready (rs := [9]) (by decide +kernel) (by simp) ?_; refine AllReadyH.cons (o := ?ho35) ?hi35 (fun K hK => ?hr35) AllReadyH.nil; (case hi35 => (simp only [List.getElem?_toArray, List.getElem?_cons_succ, List.getElem?_cons_zero]; first | done | rfl)))
              (refine step_append_own (by rfl) _ _ 24 (by rfl) V.heap.size 2 i0 (.int .i64 0) 1 8 Try.underlying24 hi hz0 hz1 hz2 rfl (by decide) _ _ _ (by rfl) (ownR.mono O1.out (by simp)) _ 1 1 [.int .i64 x] (by rfl) rfl (one_kept _ _ _) (by intro u hu; simp at hu; subst hu; rfl) (by rw [List.length_take]; unfold maxLen; omega) (by rw [List.length_take]; omega) (by omega) ?_; intro v2 w2 hown2 hg2; have H2 := heldS.grown (W := V) (((Ext.refl V).drew.alloc _).aft u1) hg2 (own_row_ge (ownR.mono (B' := V.heap.size) O1.out (by simp))); have O2 := hid (ownR.snoc hown2); clear hown2 hg2)
              (refine hK.out _ _ ?_ (fun hHeld => ?_); focus ((try dsimp only); (refine held_of hlbV hlcV ?_; (repeat (with_reducible first | assumption | exact Ext.refl _ | apply Ext.drew | apply Ext.aft | apply Ext.alloc)))))
              (clear hK K; (try simp only [Act.put, List.setIfInBounds_toArray, List.set_cons_zero, List.set_cons_succ]))
              (refine wpAnyH_ready (rs := [13]) (by decide +kernel) (by simp) ?_; refine AllReadyH.cons (o := ?ho36) ?hi36 (fun K hK => ?hr36) AllReadyH.nil; (case hi36 => (simp only [List.getElem?_toArray, List.getElem?_cons_succ, List.getElem?_cons_zero]; first | done | rfl)))
              (refine step_append_own (by rfl) _ _ 24 (by rfl) V.heap.size 2 i0 (.int .i64 0) 1 8 Try.underlying24 hi hz0 hz1 hz2 rfl (by decide) _ _ _ (by rfl) O2.out ad (OUT.length - (t + 1)) c2 (vI (OUT.drop (t + 1))) (by rfl) HD.out (rd_keep HN.out (Ext.bel H2)) HD1.out (by have := HL2.out; unfold maxLen; omega) (by have := HL2.out; omega) (by have := H2.2; omega) ?_; intro v3 w3 hown3 hg3; have H3 := heldS.grown (W := V) H2 hg3 (own_row_ge O2.out); have O3 := hid hown3; clear hown3 hg3)
              (refine hK.out _ _ ?_ (fun hHeld => ?_); focus ((try dsimp only); (refine held_of hlbV hlcV ?_; (repeat (with_reducible first | assumption | exact Ext.refl _ | apply Ext.drew | apply Ext.aft | apply Ext.alloc)))))
              (clear hK K; (try simp only [Act.put, List.setIfInBounds_toArray, List.set_cons_zero, List.set_cons_succ]))
              (refine wpAnyH_take (i := 14) (oi := ?ho24) (v := ?hv24) ?hi24 (by kernel_rfl) (by kernel_rfl) (by kernel_rfl) ?hq24 ?hy24 (by assumption) ?hr24; (case hi24 => (simp only [List.getElem?_toArray, List.getElem?_cons_succ, List.getElem?_cons_zero]; first | done | rfl)); (case hq24 => exact fun _ _ _ h => h); (case hy24 => (refine Or.inl ⟨by rfl, ?_⟩; intro w hSw; (try dsimp only at hSw); go_simp; first | done | with_reducible rfl)); (try simp only [Act.put, List.setIfInBounds_toArray, List.set_cons_zero, List.set_cons_succ]))
              (refine wpAnyH_done (by kernel_rfl) ?_ _)
              have HNL : Hid (ownR V.heap.size w3 v3 (insF OUT x)) := hid (by
                rw [HIN.out]
                have h4 := O3.out
                unfold ownR
                unfold vI at h4 ⊢
                rw [List.map_append, List.length_append, List.length_drop]
                exact h4)
              obtain ⟨g', c', e', _⟩ := own_some HNL.out (by intro e; have := congrArg List.length e; rw [insF_len] at this; simp at this)
              subst e'
              have hE3 : Ext w.heap.size w w3 := ⟨(EW.out.1.trans ((EV.out.1.trans (H3.1.mono EV.out.2)).mono hWz)), by have := H3.2; have := EV.out.2; omega⟩
              obtain ⟨uf, huf⟩ := aft_ex hE3.1
              have HUF := hid huf
              have hVz : w.heap.size ≤ V.heap.size := by have := EV.out.2; omega
              have hil := insF_len OUT x
              obtain ⟨NL, hNL⟩ : ∃ NL, NL = insF OUT x := ⟨_, rfl⟩
              rw [← hNL] at HNL HNX hil ⊢
              clear hNL huf hE3
              go_wp2_with fail
              go_roundw
              case rel => exact ⟨k + 1, uf, g', c', NL, HUF.out, hlt, by go_num, rfl, by omega, hid (HNL.out.mono hVz), HNX⟩
              case measure => simp only [intOf]; omega
    · have hkf : k = xs.length := by omega
      have hltz : ¬ (k : Int) < (xs.length : Int) := by omega
      have HF := hid (show sortF xs = OUT by rw [HE.out, hkf, List.take_length]; rfl)
      have HOX := hid (show ownR w.heap.size (aft w uu) (.slice (some ⟨g, 0, none⟩) xs.length c) OUT by have := HO.out; rw [hOl, hkf] at this; exact this)
      have hOX : OUT.length = xs.length := by omega
      rw [hOX]
      clear HO hOl hOX HE
      go_wp2_with fail
      go_ret
      exact ⟨_, rfl, by rw [HF.out]; exact HOX.out, (by refine Ext.bel ?_; repeat (with_reducible first | exact Ext.refl _ | apply Ext.alloc | apply Ext.aft | apply Ext.drew | apply Ext.drewN | apply Ext.setCell | exact Nat.le_add_right _ _ | exact Nat.le_refl _ | (simp; done) | omega))⟩
end Go.Proofs.Ytdhnpmjoajaeiaa
