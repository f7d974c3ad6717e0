/- A factor is put into a list: the statement's text. -/
import Derived.Test.YtflmoopiajhadaaYE
import Derived.Deep.RegionHeld3
namespace Go.Proofs.Ytflmoopiajhadaa
open Go Go.RowKit

def ownG (B : Nat) (w : World) (v : Value) (ps : List (Value × Int)) : Prop := w.ownsRow B 54 2 v ps.length (cF ps)
theorem ownG.kept {B : Nat} {w w' : World} {v : Value} {ps : List (Value × Int)} (h : ownG B w v ps) (hb : ∀ k, k < w.heap.size → w'.heap[k]? = w.heap[k]?) : ownG B w' v ps := by
  refine ⟨h.1, ?_⟩
  rcases h.2 with hn | ⟨g, cap, cur, rfl, hg, hh, r⟩
  · exact .inl hn
  · have hlt : g < w.heap.size := (Array.getElem?_eq_some_iff.1 hh).1
    exact .inr ⟨g, cap, cur, rfl, hg, by rw [hb g hlt]; exact hh, r⟩
theorem ownG.alloc {B : Nat} {w : World} {v : Value} {ps : List (Value × Int)} (h : ownG B w v ps) (o : Obj) : ownG B (w.alloc o) v ps := h.kept fun k hk => (Below.alloc (Below.refl w.heap.size w) (Nat.le_refl _) o).block k hk
theorem ownG.made {w : World} {k B : Nat} (hk : k = w.heap.size) (hB : B ≤ w.heap.size) : ownG B (w.alloc (.cells #[] 54)) (.slice (some ⟨k, 0, none⟩) 0 0) [] := by
  subst hk
  exact World.ownsRow_made w #[] 0 hB (by simp [maxLen]) (by simp)
theorem ownG.drew {B : Nat} {w : World} {v : Value} {ps : List (Value × Int)} (h : ownG B w v ps) : ownG B w.drew v ps := h.kept fun k hk => rfl
theorem ownG.row {B : Nat} {w : World} {v : Value} {ps : List (Value × Int)} (h : ownG B w v ps) : ∀ k, v.ownBlock = some k → B ≤ k := fun k hk => (World.ownsRow.lt h k hk).1
/-- An append of factors at a step of a region that draws its order. -/
theorem stepFa {V w : World} {ops : Array Oper} {o : Oper} {a : Act} {K : Act → World → Prop} {Q : Exit → Act → World → Prop} {E : Prop} (hgd : o.guard = none) (s x : Operand)
    (ho : o.op = .call { callee := .builtin .append, args := #[s, x], argTypes := #[49, 49] })
    (hE : Ext V.heap.size V w) (v : Value) (ps : List (Value × Int)) (hs : a.eval s = v) (hown : ownG V.heap.size w v ps)
    (ad : Addr) (m c : Nat) (qs : List (Value × Int)) (hx : a.eval x = .slice (some ad) m c) (hm : qs.length = m) (hnews : ∀ j u, (cF qs)[j]? = some u → w.cell? (ad.add j) = some u) (h1 : ∀ u ∈ cF qs, u.oneCell' = true)
    (hl : ps.length + qs.length ≤ 1000)
    (h : ∀ v' w', ownG V.heap.size w' v' (ps ++ qs) → Ext V.heap.size V w' → (∀ k, k < w.heap.size → v.ownBlock ≠ some k → w'.heap[k]? = w.heap[k]?) → K (a.put o.dst v') w') :
    if Region.wanted o (yielded ops a.tmps) = true then Oper.wp Try.prog o a w K Q else E := by
  obtain ⟨i0, hi, hz0, hz1, hz2⟩ := info_parts infoFa
  have hw : Region.wanted o (yielded ops a.tmps) = true := by simp [Region.wanted, hgd]
  rw [if_pos hw]
  refine wp_append_own w s x 49 ho V.heap.size 54 i0 (.agg #[.slice none 0 0, .int .i64 0]) 2 32 Try.underlying49 hi hz0 hz1 hz2 rfl (by decide) v ps.length (cF ps) hs hown ad m c (cF qs) hx (by rw [cF_len, hm, Nat.mul_comm]) hnews h1 (by unfold maxLen; omega) (by omega) hE.2 fun v' w' k1 k2 _ => ?_
  refine h v' w' ?_ ⟨hE.1.grown k2 hE.2 hown.row, Nat.le_trans hE.2 k2.size⟩ fun k hk hn => k2.block k hk fun e => hn e.symm
  unfold ownG
  rw [List.length_append, cF_app, hm]
  exact k1
theorem keep2 {w w' : World} {A : Nat} {vs : List Value} (h : ∀ j u, vs[j]? = some u → w.cell? ((⟨A, 0, none⟩ : Addr).add j) = some u) (hb : w'.heap[A]? = w.heap[A]?) : ∀ j u, vs[j]? = some u → w'.cell? ((⟨A, 0, none⟩ : Addr).add j) = some u := fun j u hj => by
  have := h j u hj
  rw [Addr.add_lit] at this ⊢
  rw [World.cell?_of_block (a := ⟨A, 0 + j, none⟩) hb]
  exact this
theorem keepE {V w : World} {ad : Addr} {vs : List Value} (h : ∀ j u, vs[j]? = some u → V.cell? (ad.add j) = some u) (hb : Ext V.heap.size V w) : ∀ j u, vs[j]? = some u → w.cell? (ad.add j) = some u :=
  fun j u hj => by rw [hb.1.cell (p := ad.add j) (World.block_lt_of_cell? V _ (h j u hj))]; exact h j u hj
theorem two_new {w : World} {a b : Value} {T : TypeId} {k : Nat} (hk : k = w.heap.size) : ∀ j u, [a, b][j]? = some u → (w.alloc (.cells #[a, b] T)).cell? ((⟨k, 0, none⟩ : Addr).add j) = some u := by
  subst hk
  intro j u hj
  match j with
  | 0 => simp at hj; subst hj; simp [Addr.add, alloc_cell]
  | 1 => simp at hj; subst hj; simp [Addr.add, alloc_cell]
  | n + 2 => simp at hj

theorem viaV0 {P : Program} {f : FuncId} {args : Array Value} {w : World} {R : Ending → World → Prop}
    (h : Calls P f args w fun e w' => ∃ z : Int, e = .returned (.int .i64 z) ∧ Below w.heap.size w w') (hR : ∀ z u, w.heap.size ≤ (aft w u).heap.size → R (.returned (.int .i64 z)) (aft w u)) : Calls P f args w R :=
  h.mono fun e w' ⟨z, he, hb⟩ => by subst he; obtain ⟨u, rfl⟩ := aft_ex hb; exact hR z u (size_aft w u)
theorem Ext.bel' {w V : World} (h : Ext w.heap.size w V) : Below w.heap.size w V := h.1
set_option maxRecDepth 20000 in
set_option maxHeartbeats 8000000 in
theorem s_put (B0 : Nat) (r1 r2 : Value) (ps : List (Value × Int)) (F : List Int) (t : Int) (w : World) (h1 : ownF B0 w r1 ps) (h2 : ownR 0 w r2 F) (he : ∀ x ∈ ps, ∃ xs, ownR 0 w x.1 xs ∧ xs.length ≤ 1000) (hl : ps.length ≤ 200) :
    Calls Try.prog 86 #[r1, r2, .int .i64 t] w fun e w' => ∃ v qs, e = .returned v ∧ ownF w.heap.size w' v qs ∧ (qs.length = ps.length + 1 ∧ ∀ x ∈ qs, x ∈ ps ∨ x = (r2, t)) ∧ Below w.heap.size w w' := by
  obtain ⟨g, cap, rfl⟩ := h1.2
  obtain ⟨fa, fc, rfl⟩ := own_len h2
  have H1 := hid h1
  have H2 := hid h2
  have HE := hid he
  have HOC : Hid (∀ u ∈ cF ps, u.oneCell' = true) := hid fun u hu => by
    have : ∀ (l : List (Value × Int)), (∀ x ∈ l, x.1.oneCell' = true) → ∀ u ∈ cF l, u.oneCell' = true := by
      intro l
      induction l with
      | nil => intro _ u hu; simp [cF] at hu
      | cons x l ih =>
        intro hx u hu
        simp [cF] at hu
        rcases hu with rfl | rfl | hu
        · exact hx x (by simp)
        · rfl
        · exact ih (fun y hy => hx y (by simp [hy])) u hu
    exact this ps (fun x hx => by obtain ⟨xs, k, _⟩ := he x hx; exact own_one k) u hu
  obtain ⟨N, hN⟩ : ∃ N, N = ps.length := ⟨_, rfl⟩
  rw [← hN] at H1 hl ⊢
  have HN := hid hN
  obtain ⟨Fl, hFl⟩ : ∃ N, N = F.length := ⟨_, rfl⟩
  rw [← hFl] at H2 ⊢
  have HFL := hid hFl
  clear h1 h2 he hN hFl
  go_enter Try.func86, Try.ntmps86
  go_wp2_with fail
  go_loopw [7] (fun qv wr => ∃ (q : Nat) (uu : World), wr = aft w uu ∧ q ≤ N ∧ qv = .int .i64 q) (fun qv _ => N - (intOf qv).toNat)
  case atStart => exact ⟨0, w, (aft_of (Below.refl _ _)).symm, by omega, rfl⟩
  case round =>
    obtain ⟨q, uu, rfl, hq, rfl⟩ := hrel
    have zs := size_aft w uu
    by_cases hlt : q < N
    case neg =>
      have hd : decide ((q : Int) < (N : Int)) = false := by simp; omega
      have hd2 : decide (q < N) = false := by simp; omega
      obtain ⟨V, hV⟩ : ∃ X, X = aft w uu := ⟨_, rfl⟩
      have EV : Hid (Ext w.heap.size w V) := hid (by rw [hV]; exact (Ext.refl w).aft _)
      rw [← hV] at zs ⊢
      clear hV hlt
      go_wp2_with fail
      have HV : Hid (ownF B0 V (.slice (some ⟨g, 0, none⟩) N cap) ps) := hid (H1.out.below EV.out.bel')
      have hqps : q ≤ ps.length := by have := HN.out; omega
      have hNl : ps.length ≤ 200 := by have := HN.out; omega
      obtain ⟨hs1, hc1⟩ := HV.out.cutH hqps
      obtain ⟨ad, c2', hs2, hc2⟩ := HV.out.cutL hqps
      rw [← HN.out] at hs2
      have HC1 := hid hc1
      have HC2 := hid hc2
      have HO1 : Hid (∀ u ∈ cF (ps.take q), u.oneCell' = true) := hid fun u hu => HOC.out u (by rw [cF_take] at hu; exact List.mem_of_mem_take hu)
      have HO2 : Hid (∀ u ∈ cF (ps.drop q), u.oneCell' = true) := hid fun u hu => HOC.out u (by rw [cF_drop] at hu; exact List.mem_of_mem_drop hu)
      have HO3 : Hid (∀ u ∈ cF [(Value.slice fa Fl fc, t)], u.oneCell' = true) := hid fun u hu => by simp [cF] at hu; rcases hu with rfl | rfl; exact own_one H2.out; rfl
      have hlt1 : (ps.take q).length = q := by rw [List.length_take]; omega
      have hld1 : (ps.drop q).length = N - q := by rw [List.length_drop, HN.out]
      have HMEM : Hid (∀ x ∈ ps.take q ++ [(Value.slice fa Fl fc, t)] ++ ps.drop q, x ∈ ps ∨ x = (Value.slice fa Fl fc, t)) := hid fun x hx => by
        rcases List.mem_append.1 hx with hx | hx
        · rcases List.mem_append.1 hx with hx | hx
          · exact .inl (List.mem_of_mem_take hx)
          · exact .inr (by simpa using hx)
        · exact .inl (List.mem_of_mem_drop hx)
      clear hc1 hc2
      (refine wp_region_held_drew (S := (fun w' => Ext V.heap.size V w')) (by kernel_rfl) ?_ (fun hHeld => ?_); focus ((try dsimp only); (repeat (with_reducible first | assumption | exact Ext.refl _ | apply Ext.drew | apply Ext.aft | apply Ext.alloc))))
      (refine wpAnyH_take (i := 1) (oi := ?ho1) (v := ?hv1) ?hi1 (by kernel_rfl) (by kernel_rfl) (by kernel_rfl) ?hq1 ?hy1 (by assumption) ?hr1; (case hi1 => (simp only [List.getElem?_toArray, List.getElem?_cons_succ, List.getElem?_cons_zero]; first | done | rfl)); (case hq1 => exact fun _ _ _ h => h); (case hy1 => (refine Or.inl ⟨by rfl, ?_⟩; intro w hSw; (try dsimp only at hSw); go_simp; first | done | with_reducible rfl)); (try simp only [Act.put, List.setIfInBounds_toArray, List.set_cons_zero, List.set_cons_succ]))
      (refine wpAnyH_take (i := 2) (oi := ?ho2) (v := ?hv2) ?hi2 (by kernel_rfl) (by kernel_rfl) (by kernel_rfl) ?hq2 ?hy2 (by assumption) ?hr2; (case hi2 => (simp only [List.getElem?_toArray, List.getElem?_cons_succ, List.getElem?_cons_zero]; first | done | rfl)); (case hq2 => exact fun _ _ _ h => h); (case hy2 => (refine Or.inl ⟨by rfl, ?_⟩; intro w hSw; (try dsimp only at hSw); go_simp; first | done | with_reducible rfl)); (try simp only [Act.put, List.setIfInBounds_toArray, List.set_cons_zero, List.set_cons_succ]))
      (refine wpAnyH_take (i := 3) (oi := ?ho3) (v := ?hv3) ?hi3 (by kernel_rfl) (by kernel_rfl) (by kernel_rfl) ?hq3 ?hy3 (by assumption) ?hr3; (case hi3 => (simp only [List.getElem?_toArray, List.getElem?_cons_succ, List.getElem?_cons_zero]; first | done | rfl)); (case hq3 => exact fun _ _ _ h => h); (case hy3 => (refine Or.inl ⟨by rfl, ?_⟩; intro w hSw; (try dsimp only at hSw); go_simp; first | done | with_reducible rfl)); (try simp only [Act.put, List.setIfInBounds_toArray, List.set_cons_zero, List.set_cons_succ]))
      (refine wpAnyH_take (i := 5) (oi := ?ho4) (v := ?hv4) ?hi4 (by kernel_rfl) (by kernel_rfl) (by kernel_rfl) ?hq4 ?hy4 (by assumption) ?hr4; (case hi4 => (simp only [List.getElem?_toArray, List.getElem?_cons_succ, List.getElem?_cons_zero]; first | done | rfl)); (case hq4 => exact fun _ _ _ h => h); (case hy4 => (refine Or.inl ⟨by rfl, ?_⟩; intro w hSw; (try dsimp only at hSw); go_simp; first | done | with_reducible rfl)); (try simp only [Act.put, List.setIfInBounds_toArray, List.set_cons_zero, List.set_cons_succ]))
      (refine wpAnyH_take (i := 6) (oi := ?ho5) (v := ?hv5) ?hi5 (by kernel_rfl) (by kernel_rfl) (by kernel_rfl) ?hq5 ?hy5 (by assumption) ?hr5; (case hi5 => (simp only [List.getElem?_toArray, List.getElem?_cons_succ, List.getElem?_cons_zero]; first | done | rfl)); (case hq5 => exact fun _ _ _ h => h); (case hy5 => (refine Or.inl ⟨by rfl, ?_⟩; intro w hSw; (try dsimp only at hSw); go_simp; first | done | with_reducible rfl)); (try simp only [Act.put, List.setIfInBounds_toArray, List.set_cons_zero, List.set_cons_succ]))
      (refine wpAnyH_take (i := 7) (oi := ?ho6) (v := ?hv6) ?hi6 (by kernel_rfl) (by kernel_rfl) (by kernel_rfl) ?hq6 ?hy6 (by assumption) ?hr6; (case hi6 => (simp only [List.getElem?_toArray, List.getElem?_cons_succ, List.getElem?_cons_zero]; first | done | rfl)); (case hq6 => exact fun _ _ _ h => h); (case hy6 => (refine Or.inl ⟨by rfl, ?_⟩; intro w hSw; (try dsimp only at hSw); go_simp; first | done | with_reducible rfl)); (try simp only [Act.put, List.setIfInBounds_toArray, List.set_cons_zero, List.set_cons_succ]))
      (refine wpAnyH_take (i := 10) (oi := ?ho7) (v := ?hv7) ?hi7 (by kernel_rfl) (by kernel_rfl) (by kernel_rfl) ?hq7 ?hy7 (by assumption) ?hr7; (case hi7 => (simp only [List.getElem?_toArray, List.getElem?_cons_succ, List.getElem?_cons_zero]; first | done | rfl)); (case hq7 => exact fun _ _ _ h => h); (case hy7 => (refine Or.inl ⟨by rfl, ?_⟩; intro w hSw; (try dsimp only at hSw); go_simp; first | done | with_reducible rfl)); (try simp only [Act.put, List.setIfInBounds_toArray, List.set_cons_zero, List.set_cons_succ]))
      (refine wpAnyH_take (i := 11) (oi := ?ho8) (v := ?hv8) ?hi8 (by kernel_rfl) (by kernel_rfl) (by kernel_rfl) ?hq8 ?hy8 (by assumption) ?hr8; (case hi8 => (simp only [List.getElem?_toArray, List.getElem?_cons_succ, List.getElem?_cons_zero]; first | done | rfl)); (case hq8 => exact fun _ _ _ h => h); (case hy8 => (refine Or.inl ⟨by rfl, ?_⟩; intro w hSw; (try dsimp only at hSw); go_simp; first | done | with_reducible rfl)); (try simp only [Act.put, List.setIfInBounds_toArray, List.set_cons_zero, List.set_cons_succ]))
      (refine wpAnyH_take (i := 12) (oi := ?ho9) (v := ?hv9) ?hi9 (by kernel_rfl) (by kernel_rfl) (by kernel_rfl) ?hq9 ?hy9 (by assumption) ?hr9; (case hi9 => (simp only [List.getElem?_toArray, List.getElem?_cons_succ, List.getElem?_cons_zero]; first | done | rfl)); (case hq9 => exact fun _ _ _ h => h); (case hy9 => (refine Or.inl ⟨by rfl, ?_⟩; intro w hSw; (try dsimp only at hSw); go_simp; first | done | with_reducible rfl)); (try simp only [Act.put, List.setIfInBounds_toArray, List.set_cons_zero, List.set_cons_succ]))
      (refine wpAnyH_ready (rs := [0, 8]) (by decide +kernel) (by simp) ?_; refine AllReadyH.cons (o := ?oa) ?ha (fun K hK => ?ra) (AllReadyH.cons (o := ?ob) ?hb (fun K hK => ?rb) AllReadyH.nil); (case ha => (simp only [List.getElem?_toArray, List.getElem?_cons_succ, List.getElem?_cons_zero]; first | done | rfl)); (case hb => (simp only [List.getElem?_toArray, List.getElem?_cons_succ, List.getElem?_cons_zero]; first | done | rfl)))
      case ra =>
        (rw [if_pos (by rfl)]; go_wp2_with fail)
        (refine hK.out _ _ ?_ (fun hHeld => ?_); focus ((try dsimp only); (repeat (with_reducible first | assumption | exact Ext.refl _ | apply Ext.drew | apply Ext.aft | apply Ext.alloc))))
        (clear hK K; (try simp only [Act.put, List.setIfInBounds_toArray, List.set_cons_zero, List.set_cons_succ]))
        have O0 : Hid (ownG V.heap.size ((V.alloc (Obj.cells #[] 54)).drew) (.slice (some ⟨V.heap.size, 0, none⟩) 0 0) []) := hid ((ownG.made rfl (Nat.le_refl _)).drew)
        (refine wpAnyH_ready (rs := [4, 8]) (by decide +kernel) (by simp) ?_; refine AllReadyH.cons (o := ?oc) ?hc (fun K hK => ?rc) (AllReadyH.cons (o := ?od) ?hd (fun K hK => ?re) AllReadyH.nil); (case hc => (simp only [List.getElem?_toArray, List.getElem?_cons_succ, List.getElem?_cons_zero]; first | done | rfl)); (case hd => (simp only [List.getElem?_toArray, List.getElem?_cons_succ, List.getElem?_cons_zero]; first | done | rfl)))
        case rc =>
          (refine stepFa (by rfl) _ _ (by rfl) hHeld _ [] (by rfl) O0.out _ q cap (ps.take q) (by rfl) hlt1 (keepE HC1.out hHeld) HO1.out (by simp; omega) ?_; intro v1 w1 k1 E1 _; have O1 := hid k1; clear k1)
          have O1 : Hid (ownG V.heap.size w1 v1 (ps.take q)) := hid (by have := O1.out; simpa using this)
          (refine hK.out _ _ ?_ (fun hHeld => ?_); focus ((try dsimp only); (repeat (with_reducible first | assumption | exact Ext.refl _ | apply Ext.drew | apply Ext.aft | apply Ext.alloc))))
          (clear hK K; (try simp only [Act.put, List.setIfInBounds_toArray, List.set_cons_zero, List.set_cons_succ]))
          (refine wpAnyH_ready (rs := [8]) (by decide +kernel) (by simp) ?_; refine AllReadyH.cons (o := ?ho25) ?hi25 (fun K hK => ?hr25) AllReadyH.nil; (case hi25 => (simp only [List.getElem?_toArray, List.getElem?_cons_succ, List.getElem?_cons_zero]; first | done | rfl)))
          (rw [if_pos (by rfl)]; go_wp2_with fail)
          (refine hK.out _ _ ?_ (fun hHeld => ?_); focus ((try dsimp only); (repeat (with_reducible first | assumption | exact Ext.refl _ | apply Ext.drew | apply Ext.aft | apply Ext.alloc))))
          (clear hK K; (try simp only [Act.put, List.setIfInBounds_toArray, List.set_cons_zero, List.set_cons_succ]))
          (refine wpAnyH_ready (rs := [9]) (by decide +kernel) (by simp) ?_; refine AllReadyH.cons (o := ?ho26) ?hi26 (fun K hK => ?hr26) AllReadyH.nil; (case hi26 => (simp only [List.getElem?_toArray, List.getElem?_cons_succ, List.getElem?_cons_zero]; first | done | rfl)))
          (refine stepFa (by rfl) _ _ (by rfl) hHeld _ (ps.take q) (by rfl) (O1.out.alloc _) ⟨_, 0, none⟩ 1 1 [(Value.slice fa Fl fc, t)] (by rfl) rfl (two_new rfl) HO3.out (by rw [hlt1]; simp; omega) ?_; intro v2 w2 k2 E2 _; have O2 := hid k2; clear k2)
          (refine hK.out _ _ ?_ (fun hHeld => ?_); focus ((try dsimp only); (repeat (with_reducible first | assumption | exact Ext.refl _ | apply Ext.drew | apply Ext.aft | apply Ext.alloc))))
          (clear hK K; (try simp only [Act.put, List.setIfInBounds_toArray, List.set_cons_zero, List.set_cons_succ]))
          (refine wpAnyH_ready (rs := [13]) (by decide +kernel) (by simp) ?_; refine AllReadyH.cons (o := ?ho27) ?hi27 (fun K hK => ?hr27) AllReadyH.nil; (case hi27 => (simp only [List.getElem?_toArray, List.getElem?_cons_succ, List.getElem?_cons_zero]; first | done | rfl)))
          (refine stepFa (by rfl) _ _ (by rfl) hHeld _ (ps.take q ++ [(Value.slice fa Fl fc, t)]) (by rfl) O2.out ad (N - q) c2' (ps.drop q) (by rfl) hld1 (keepE HC2.out hHeld) HO2.out (by rw [List.length_append, hlt1, hld1]; simp; omega) ?_; intro v3 w3 k3 E3 _; have O3 := hid k3; clear k3)
          (refine hK.out _ _ ?_ (fun hHeld => ?_); focus ((try dsimp only); (repeat (with_reducible first | assumption | exact Ext.refl _ | apply Ext.drew | apply Ext.aft | apply Ext.alloc))))
          (clear hK K; (try simp only [Act.put, List.setIfInBounds_toArray, List.set_cons_zero, List.set_cons_succ]))
          (refine wpAnyH_take (i := 14) (oi := ?ho10) (v := ?hv10) ?hi10 (by kernel_rfl) (by kernel_rfl) (by kernel_rfl) ?hq10 ?hy10 (by assumption) ?hr10; (case hi10 => (simp only [List.getElem?_toArray, List.getElem?_cons_succ, List.getElem?_cons_zero]; first | done | rfl)); (case hq10 => exact fun _ _ _ h => h); (case hy10 => (refine Or.inl ⟨by rfl, ?_⟩; intro w hSw; (try dsimp only at hSw); go_simp; first | done | with_reducible rfl)); (try simp only [Act.put, List.setIfInBounds_toArray, List.set_cons_zero, List.set_cons_succ]))
          (refine wpAnyH_done (by kernel_rfl) ?_ _)
          go_wp2_with fail
          go_ret
          exact ⟨v3, _, rfl, (ownF.ofRow O3.out (by simp)).mono EV.out.2, ⟨by rw [List.length_append, List.length_append, hlt1, hld1]; simp; omega, HMEM.out⟩, EV.out.1.trans (E3.1.mono EV.out.2)⟩
        case re =>
          (rw [if_pos (by rfl)]; go_wp2_with fail)
          (refine hK.out _ _ ?_ (fun hHeld => ?_); focus ((try dsimp only); (repeat (with_reducible first | assumption | exact Ext.refl _ | apply Ext.drew | apply Ext.aft | apply Ext.alloc))))
          (clear hK K; (try simp only [Act.put, List.setIfInBounds_toArray, List.set_cons_zero, List.set_cons_succ]))
          have O0 : Hid (ownG V.heap.size (((V.alloc (Obj.cells #[] 54)).alloc (Obj.cells #[Value.slice fa Fl fc, Value.int IntKind.i64 t] 54)).drew) (.slice (some ⟨V.heap.size, 0, none⟩) 0 0) []) := hid (((ownG.made rfl (Nat.le_refl _)).alloc _).drew)
          have N2 : Hid (∀ j u, [Value.slice fa Fl fc, Value.int IntKind.i64 t][j]? = some u → (((V.alloc (Obj.cells #[] 54)).alloc (Obj.cells #[Value.slice fa Fl fc, Value.int IntKind.i64 t] 54)).drew).cell? ((⟨V.heap.size + 1, 0, none⟩ : Addr).add j) = some u) := hid (two_new (w := V.alloc (Obj.cells #[] 54)) (by simp))
          have NB : Hid (V.heap.size + 1 < (((V.alloc (Obj.cells #[] 54)).alloc (Obj.cells #[Value.slice fa Fl fc, Value.int IntKind.i64 t] 54)).drew).heap.size) := hid (by show V.heap.size + 1 < ((V.alloc _).alloc _).heap.size; simp)
          (refine wpAnyH_ready (rs := [4]) (by decide +kernel) (by simp) ?_; refine AllReadyH.cons (o := ?ho28) ?hi28 (fun K hK => ?hr28) AllReadyH.nil; (case hi28 => (simp only [List.getElem?_toArray, List.getElem?_cons_succ, List.getElem?_cons_zero]; first | done | rfl)))
          (refine stepFa (by rfl) _ _ (by rfl) hHeld _ [] (by rfl) O0.out _ q cap (ps.take q) (by rfl) hlt1 (keepE HC1.out hHeld) HO1.out (by simp; omega) ?_; intro v1 w1 k1 E1 b1; have O1 := hid k1; have N3 := hid (keep2 N2.out (b1 _ NB.out (by simp [Value.ownBlock]))); clear k1 b1)
          (refine hK.out _ _ ?_ (fun hHeld => ?_); focus ((try dsimp only); (repeat (with_reducible first | assumption | exact Ext.refl _ | apply Ext.drew | apply Ext.aft | apply Ext.alloc))))
          (clear hK K; (try simp only [Act.put, List.setIfInBounds_toArray, List.set_cons_zero, List.set_cons_succ]))
          have O1 : Hid (ownG V.heap.size w1 v1 (ps.take q)) := hid (by have := O1.out; simpa using this)
          (refine wpAnyH_ready (rs := [9]) (by decide +kernel) (by simp) ?_; refine AllReadyH.cons (o := ?ho29) ?hi29 (fun K hK => ?hr29) AllReadyH.nil; (case hi29 => (simp only [List.getElem?_toArray, List.getElem?_cons_succ, List.getElem?_cons_zero]; first | done | rfl)))
          (refine stepFa (by rfl) _ _ (by rfl) hHeld _ (ps.take q) (by rfl) O1.out ⟨_, 0, none⟩ 1 1 [(Value.slice fa Fl fc, t)] (by rfl) rfl N3.out HO3.out (by rw [hlt1]; simp; omega) ?_; intro v2 w2 k2 E2 _; have O2 := hid k2; clear k2)
          (refine hK.out _ _ ?_ (fun hHeld => ?_); focus ((try dsimp only); (repeat (with_reducible first | assumption | exact Ext.refl _ | apply Ext.drew | apply Ext.aft | apply Ext.alloc))))
          (clear hK K; (try simp only [Act.put, List.setIfInBounds_toArray, List.set_cons_zero, List.set_cons_succ]))
          (refine wpAnyH_ready (rs := [13]) (by decide +kernel) (by simp) ?_; refine AllReadyH.cons (o := ?ho30) ?hi30 (fun K hK => ?hr30) AllReadyH.nil; (case hi30 => (simp only [List.getElem?_toArray, List.getElem?_cons_succ, List.getElem?_cons_zero]; first | done | rfl)))
          (refine stepFa (by rfl) _ _ (by rfl) hHeld _ (ps.take q ++ [(Value.slice fa Fl fc, t)]) (by rfl) O2.out ad (N - q) c2' (ps.drop q) (by rfl) hld1 (keepE HC2.out hHeld) HO2.out (by rw [List.length_append, hlt1, hld1]; simp; omega) ?_; intro v3 w3 k3 E3 _; have O3 := hid k3; clear k3)
          (refine hK.out _ _ ?_ (fun hHeld => ?_); focus ((try dsimp only); (repeat (with_reducible first | assumption | exact Ext.refl _ | apply Ext.drew | apply Ext.aft | apply Ext.alloc))))
          (clear hK K; (try simp only [Act.put, List.setIfInBounds_toArray, List.set_cons_zero, List.set_cons_succ]))
          (refine wpAnyH_take (i := 14) (oi := ?ho11) (v := ?hv11) ?hi11 (by kernel_rfl) (by kernel_rfl) (by kernel_rfl) ?hq11 ?hy11 (by assumption) ?hr11; (case hi11 => (simp only [List.getElem?_toArray, List.getElem?_cons_succ, List.getElem?_cons_zero]; first | done | rfl)); (case hq11 => exact fun _ _ _ h => h); (case hy11 => (refine Or.inl ⟨by rfl, ?_⟩; intro w hSw; (try dsimp only at hSw); go_simp; first | done | with_reducible rfl)); (try simp only [Act.put, List.setIfInBounds_toArray, List.set_cons_zero, List.set_cons_succ]))
          (refine wpAnyH_done (by kernel_rfl) ?_ _)
          go_wp2_with fail
          go_ret
          exact ⟨v3, _, rfl, (ownF.ofRow O3.out (by simp)).mono EV.out.2, ⟨by rw [List.length_append, List.length_append, hlt1, hld1]; simp; omega, HMEM.out⟩, EV.out.1.trans (E3.1.mono EV.out.2)⟩
      case rb =>
        (rw [if_pos (by rfl)]; go_wp2_with fail)
        (refine hK.out _ _ ?_ (fun hHeld => ?_); focus ((try dsimp only); (repeat (with_reducible first | assumption | exact Ext.refl _ | apply Ext.drew | apply Ext.aft | apply Ext.alloc))))
        (clear hK K; (try simp only [Act.put, List.setIfInBounds_toArray, List.set_cons_zero, List.set_cons_succ]))
        (refine wpAnyH_ready (rs := [0]) (by decide +kernel) (by simp) ?_; refine AllReadyH.cons (o := ?ho31) ?hi31 (fun K hK => ?hr31) AllReadyH.nil; (case hi31 => (simp only [List.getElem?_toArray, List.getElem?_cons_succ, List.getElem?_cons_zero]; first | done | rfl)))
        (rw [if_pos (by rfl)]; go_wp2_with fail)
        (refine hK.out _ _ ?_ (fun hHeld => ?_); focus ((try dsimp only); (repeat (with_reducible first | assumption | exact Ext.refl _ | apply Ext.drew | apply Ext.aft | apply Ext.alloc))))
        (clear hK K; (try simp only [Act.put, List.setIfInBounds_toArray, List.set_cons_zero, List.set_cons_succ]))
        have O0 : Hid (ownG V.heap.size (((V.alloc (Obj.cells #[Value.slice fa Fl fc, Value.int IntKind.i64 t] 54)).alloc (Obj.cells #[] 54)).drew) (.slice (some ⟨V.heap.size + 1, 0, none⟩) 0 0) []) := hid ((ownG.made (by simp) (by simp)).drew)
        have N2 : Hid (∀ j u, [Value.slice fa Fl fc, Value.int IntKind.i64 t][j]? = some u → (((V.alloc (Obj.cells #[Value.slice fa Fl fc, Value.int IntKind.i64 t] 54)).alloc (Obj.cells #[] 54)).drew).cell? ((⟨V.heap.size, 0, none⟩ : Addr).add j) = some u) := hid (keep2 (w := V.alloc (Obj.cells #[Value.slice fa Fl fc, Value.int IntKind.i64 t] 54)) (two_new rfl) ((Below.alloc (Below.refl _ _) (Nat.le_refl _) (Obj.cells #[] 54)).block V.heap.size (by simp)))
        have NB : Hid (V.heap.size < (((V.alloc (Obj.cells #[Value.slice fa Fl fc, Value.int IntKind.i64 t] 54)).alloc (Obj.cells #[] 54)).drew).heap.size) := hid (by show V.heap.size < ((V.alloc _).alloc _).heap.size; simp; omega)
        (refine wpAnyH_ready (rs := [4]) (by decide +kernel) (by simp) ?_; refine AllReadyH.cons (o := ?ho32) ?hi32 (fun K hK => ?hr32) AllReadyH.nil; (case hi32 => (simp only [List.getElem?_toArray, List.getElem?_cons_succ, List.getElem?_cons_zero]; first | done | rfl)))
        (refine stepFa (by rfl) _ _ (by rfl) hHeld _ [] (by rfl) O0.out _ q cap (ps.take q) (by rfl) hlt1 (keepE HC1.out hHeld) HO1.out (by simp; omega) ?_; intro v1 w1 k1 E1 b1; have O1 := hid k1; have N3 := hid (keep2 N2.out (b1 _ NB.out (by simp [Value.ownBlock]))); clear k1 b1)
        (refine hK.out _ _ ?_ (fun hHeld => ?_); focus ((try dsimp only); (repeat (with_reducible first | assumption | exact Ext.refl _ | apply Ext.drew | apply Ext.aft | apply Ext.alloc))))
        (clear hK K; (try simp only [Act.put, List.setIfInBounds_toArray, List.set_cons_zero, List.set_cons_succ]))
        have O1 : Hid (ownG V.heap.size w1 v1 (ps.take q)) := hid (by have := O1.out; simpa using this)
        (refine wpAnyH_ready (rs := [9]) (by decide +kernel) (by simp) ?_; refine AllReadyH.cons (o := ?ho33) ?hi33 (fun K hK => ?hr33) AllReadyH.nil; (case hi33 => (simp only [List.getElem?_toArray, List.getElem?_cons_succ, List.getElem?_cons_zero]; first | done | rfl)))
        (refine stepFa (by rfl) _ _ (by rfl) hHeld _ (ps.take q) (by rfl) O1.out ⟨_, 0, none⟩ 1 1 [(Value.slice fa Fl fc, t)] (by rfl) rfl N3.out HO3.out (by rw [hlt1]; simp; omega) ?_; intro v2 w2 k2 E2 _; have O2 := hid k2; clear k2)
        (refine hK.out _ _ ?_ (fun hHeld => ?_); focus ((try dsimp only); (repeat (with_reducible first | assumption | exact Ext.refl _ | apply Ext.drew | apply Ext.aft | apply Ext.alloc))))
        (clear hK K; (try simp only [Act.put, List.setIfInBounds_toArray, List.set_cons_zero, List.set_cons_succ]))
        (refine wpAnyH_ready (rs := [13]) (by decide +kernel) (by simp) ?_; refine AllReadyH.cons (o := ?ho34) ?hi34 (fun K hK => ?hr34) AllReadyH.nil; (case hi34 => (simp only [List.getElem?_toArray, List.getElem?_cons_succ, List.getElem?_cons_zero]; first | done | rfl)))
        (refine stepFa (by rfl) _ _ (by rfl) hHeld _ (ps.take q ++ [(Value.slice fa Fl fc, t)]) (by rfl) O2.out ad (N - q) c2' (ps.drop q) (by rfl) hld1 (keepE HC2.out hHeld) HO2.out (by rw [List.length_append, hlt1, hld1]; simp; omega) ?_; intro v3 w3 k3 E3 _; have O3 := hid k3; clear k3)
        (refine hK.out _ _ ?_ (fun hHeld => ?_); focus ((try dsimp only); (repeat (with_reducible first | assumption | exact Ext.refl _ | apply Ext.drew | apply Ext.aft | apply Ext.alloc))))
        (clear hK K; (try simp only [Act.put, List.setIfInBounds_toArray, List.set_cons_zero, List.set_cons_succ]))
        (refine wpAnyH_take (i := 14) (oi := ?ho12) (v := ?hv12) ?hi12 (by kernel_rfl) (by kernel_rfl) (by kernel_rfl) ?hq12 ?hy12 (by assumption) ?hr12; (case hi12 => (simp only [List.getElem?_toArray, List.getElem?_cons_succ, List.getElem?_cons_zero]; first | done | rfl)); (case hq12 => exact fun _ _ _ h => h); (case hy12 => (refine Or.inl ⟨by rfl, ?_⟩; intro w hSw; (try dsimp only at hSw); go_simp; first | done | with_reducible rfl)); (try simp only [Act.put, List.setIfInBounds_toArray, List.set_cons_zero, List.set_cons_succ]))
        (refine wpAnyH_done (by kernel_rfl) ?_ _)
        go_wp2_with fail
        go_ret
        exact ⟨v3, _, rfl, (ownF.ofRow O3.out (by simp)).mono EV.out.2, ⟨by rw [List.length_append, List.length_append, hlt1, hld1]; simp; omega, HMEM.out⟩, EV.out.1.trans (E3.1.mono EV.out.2)⟩
    have hd : decide ((q : Int) < (N : Int)) = true := by simp; omega
    have hd2 : decide (q < N) = true := by simp; omega
    have hqz : (q : Int) < (N : Int) := by omega
    have hqlt : q < ps.length := by have := HN.out; omega
    obtain ⟨c1, c2⟩ := (H1.out.aft uu).cells hqlt
    rw [Nat.mul_comm 2 q] at c1 c2
    obtain ⟨xs, hxs, hxl⟩ := HE.out ps[q] (List.getElem_mem hqlt)
    obtain ⟨⟨e, te⟩, het⟩ : ∃ z, z = ps[q] := ⟨_, rfl⟩
    rw [← het] at c1 c2 hxs
    simp only at c1 c2 hxs
    have hcb := World.block_lt_of_cell? _ _ c1
    have HXS := hid ((hxs.aft uu).rd)
    have HCM := hid (s_compare e (.slice fa Fl fc) xs F (aft w uu) HXS.out ((H2.out.aft uu).rd) hxl)
    clear het hxs
    go_wp2_with fail
    refine viaV0 HCM.out ?_
    intro z u2 z2
    by_cases hz0 : z < 0
    · have hzd : decide (z < 0) = true := by simpa using hz0
      have hEx : Hid (Ext w.heap.size w (aft (aft w uu) u2)) := hid (((Ext.refl w).aft _).aft _)
      clear hz0
      go_wp2_with fail
      go_roundw
      case rel => exact ⟨q + 1, _, (aft_of hEx.out.1).symm, by omega, by go_num⟩
      case measure => simp only [intOf]; omega
    · have hzd : decide (z < 0) = false := by simpa using hz0
      obtain ⟨V, hV⟩ : ∃ X, X = aft (aft w uu) u2 := ⟨_, rfl⟩
      have EV : Hid (Ext w.heap.size w V) := hid (by rw [hV]; exact ((Ext.refl w).aft _).aft _)
      rw [← hV]
      clear hV hz0 HCM HXS c1 c2
      go_wp2_with fail
      have HV : Hid (ownF B0 V (.slice (some ⟨g, 0, none⟩) N cap) ps) := hid (H1.out.below EV.out.bel')
      have hqps : q ≤ ps.length := by have := HN.out; omega
      have hNl : ps.length ≤ 200 := by have := HN.out; omega
      obtain ⟨hs1, hc1⟩ := HV.out.cutH hqps
      obtain ⟨ad, c2', hs2, hc2⟩ := HV.out.cutL hqps
      rw [← HN.out] at hs2
      have HC1 := hid hc1
      have HC2 := hid hc2
      have HO1 : Hid (∀ u ∈ cF (ps.take q), u.oneCell' = true) := hid fun u hu => HOC.out u (by rw [cF_take] at hu; exact List.mem_of_mem_take hu)
      have HO2 : Hid (∀ u ∈ cF (ps.drop q), u.oneCell' = true) := hid fun u hu => HOC.out u (by rw [cF_drop] at hu; exact List.mem_of_mem_drop hu)
      have HO3 : Hid (∀ u ∈ cF [(Value.slice fa Fl fc, t)], u.oneCell' = true) := hid fun u hu => by simp [cF] at hu; rcases hu with rfl | rfl; exact own_one H2.out; rfl
      have hlt1 : (ps.take q).length = q := by rw [List.length_take]; omega
      have hld1 : (ps.drop q).length = N - q := by rw [List.length_drop, HN.out]
      have HMEM : Hid (∀ x ∈ ps.take q ++ [(Value.slice fa Fl fc, t)] ++ ps.drop q, x ∈ ps ∨ x = (Value.slice fa Fl fc, t)) := hid fun x hx => by
        rcases List.mem_append.1 hx with hx | hx
        · rcases List.mem_append.1 hx with hx | hx
          · exact .inl (List.mem_of_mem_take hx)
          · exact .inr (by simpa using hx)
        · exact .inl (List.mem_of_mem_drop hx)
      clear hc1 hc2
      (refine wp_region_held_drew (S := (fun w' => Ext V.heap.size V w')) (by kernel_rfl) ?_ (fun hHeld => ?_); focus ((try dsimp only); (repeat (with_reducible first | assumption | exact Ext.refl _ | apply Ext.drew | apply Ext.aft | apply Ext.alloc))))
      (refine wpAnyH_take (i := 1) (oi := ?ho13) (v := ?hv13) ?hi13 (by kernel_rfl) (by kernel_rfl) (by kernel_rfl) ?hq13 ?hy13 (by assumption) ?hr13; (case hi13 => (simp only [List.getElem?_toArray, List.getElem?_cons_succ, List.getElem?_cons_zero]; first | done | rfl)); (case hq13 => exact fun _ _ _ h => h); (case hy13 => (refine Or.inl ⟨by rfl, ?_⟩; intro w hSw; (try dsimp only at hSw); go_simp; first | done | with_reducible rfl)); (try simp only [Act.put, List.setIfInBounds_toArray, List.set_cons_zero, List.set_cons_succ]))
      (refine wpAnyH_take (i := 2) (oi := ?ho14) (v := ?hv14) ?hi14 (by kernel_rfl) (by kernel_rfl) (by kernel_rfl) ?hq14 ?hy14 (by assumption) ?hr14; (case hi14 => (simp only [List.getElem?_toArray, List.getElem?_cons_succ, List.getElem?_cons_zero]; first | done | rfl)); (case hq14 => exact fun _ _ _ h => h); (case hy14 => (refine Or.inl ⟨by rfl, ?_⟩; intro w hSw; (try dsimp only at hSw); go_simp; first | done | with_reducible rfl)); (try simp only [Act.put, List.setIfInBounds_toArray, List.set_cons_zero, List.set_cons_succ]))
      (refine wpAnyH_take (i := 3) (oi := ?ho15) (v := ?hv15) ?hi15 (by kernel_rfl) (by kernel_rfl) (by kernel_rfl) ?hq15 ?hy15 (by assumption) ?hr15; (case hi15 => (simp only [List.getElem?_toArray, List.getElem?_cons_succ, List.getElem?_cons_zero]; first | done | rfl)); (case hq15 => exact fun _ _ _ h => h); (case hy15 => (refine Or.inl ⟨by rfl, ?_⟩; intro w hSw; (try dsimp only at hSw); go_simp; first | done | with_reducible rfl)); (try simp only [Act.put, List.setIfInBounds_toArray, List.set_cons_zero, List.set_cons_succ]))
      (refine wpAnyH_take (i := 5) (oi := ?ho16) (v := ?hv16) ?hi16 (by kernel_rfl) (by kernel_rfl) (by kernel_rfl) ?hq16 ?hy16 (by assumption) ?hr16; (case hi16 => (simp only [List.getElem?_toArray, List.getElem?_cons_succ, List.getElem?_cons_zero]; first | done | rfl)); (case hq16 => exact fun _ _ _ h => h); (case hy16 => (refine Or.inl ⟨by rfl, ?_⟩; intro w hSw; (try dsimp only at hSw); go_simp; first | done | with_reducible rfl)); (try simp only [Act.put, List.setIfInBounds_toArray, List.set_cons_zero, List.set_cons_succ]))
      (refine wpAnyH_take (i := 6) (oi := ?ho17) (v := ?hv17) ?hi17 (by kernel_rfl) (by kernel_rfl) (by kernel_rfl) ?hq17 ?hy17 (by assumption) ?hr17; (case hi17 => (simp only [List.getElem?_toArray, List.getElem?_cons_succ, List.getElem?_cons_zero]; first | done | rfl)); (case hq17 => exact fun _ _ _ h => h); (case hy17 => (refine Or.inl ⟨by rfl, ?_⟩; intro w hSw; (try dsimp only at hSw); go_simp; first | done | with_reducible rfl)); (try simp only [Act.put, List.setIfInBounds_toArray, List.set_cons_zero, List.set_cons_succ]))
      (refine wpAnyH_take (i := 7) (oi := ?ho18) (v := ?hv18) ?hi18 (by kernel_rfl) (by kernel_rfl) (by kernel_rfl) ?hq18 ?hy18 (by assumption) ?hr18; (case hi18 => (simp only [List.getElem?_toArray, List.getElem?_cons_succ, List.getElem?_cons_zero]; first | done | rfl)); (case hq18 => exact fun _ _ _ h => h); (case hy18 => (refine Or.inl ⟨by rfl, ?_⟩; intro w hSw; (try dsimp only at hSw); go_simp; first | done | with_reducible rfl)); (try simp only [Act.put, List.setIfInBounds_toArray, List.set_cons_zero, List.set_cons_succ]))
      (refine wpAnyH_take (i := 10) (oi := ?ho19) (v := ?hv19) ?hi19 (by kernel_rfl) (by kernel_rfl) (by kernel_rfl) ?hq19 ?hy19 (by assumption) ?hr19; (case hi19 => (simp only [List.getElem?_toArray, List.getElem?_cons_succ, List.getElem?_cons_zero]; first | done | rfl)); (case hq19 => exact fun _ _ _ h => h); (case hy19 => (refine Or.inl ⟨by rfl, ?_⟩; intro w hSw; (try dsimp only at hSw); go_simp; first | done | with_reducible rfl)); (try simp only [Act.put, List.setIfInBounds_toArray, List.set_cons_zero, List.set_cons_succ]))
      (refine wpAnyH_take (i := 11) (oi := ?ho20) (v := ?hv20) ?hi20 (by kernel_rfl) (by kernel_rfl) (by kernel_rfl) ?hq20 ?hy20 (by assumption) ?hr20; (case hi20 => (simp only [List.getElem?_toArray, List.getElem?_cons_succ, List.getElem?_cons_zero]; first | done | rfl)); (case hq20 => exact fun _ _ _ h => h); (case hy20 => (refine Or.inl ⟨by rfl, ?_⟩; intro w hSw; (try dsimp only at hSw); go_simp; first | done | with_reducible rfl)); (try simp only [Act.put, List.setIfInBounds_toArray, List.set_cons_zero, List.set_cons_succ]))
      (refine wpAnyH_take (i := 12) (oi := ?ho21) (v := ?hv21) ?hi21 (by kernel_rfl) (by kernel_rfl) (by kernel_rfl) ?hq21 ?hy21 (by assumption) ?hr21; (case hi21 => (simp only [List.getElem?_toArray, List.getElem?_cons_succ, List.getElem?_cons_zero]; first | done | rfl)); (case hq21 => exact fun _ _ _ h => h); (case hy21 => (refine Or.inl ⟨by rfl, ?_⟩; intro w hSw; (try dsimp only at hSw); go_simp; first | done | with_reducible rfl)); (try simp only [Act.put, List.setIfInBounds_toArray, List.set_cons_zero, List.set_cons_succ]))
      (refine wpAnyH_ready (rs := [0, 8]) (by decide +kernel) (by simp) ?_; refine AllReadyH.cons (o := ?oa) ?ha (fun K hK => ?ra) (AllReadyH.cons (o := ?ob) ?hb (fun K hK => ?rb) AllReadyH.nil); (case ha => (simp only [List.getElem?_toArray, List.getElem?_cons_succ, List.getElem?_cons_zero]; first | done | rfl)); (case hb => (simp only [List.getElem?_toArray, List.getElem?_cons_succ, List.getElem?_cons_zero]; first | done | rfl)))
      case ra =>
        (rw [if_pos (by rfl)]; go_wp2_with fail)
        (refine hK.out _ _ ?_ (fun hHeld => ?_); focus ((try dsimp only); (repeat (with_reducible first | assumption | exact Ext.refl _ | apply Ext.drew | apply Ext.aft | apply Ext.alloc))))
        (clear hK K; (try simp only [Act.put, List.setIfInBounds_toArray, List.set_cons_zero, List.set_cons_succ]))
        have O0 : Hid (ownG V.heap.size ((V.alloc (Obj.cells #[] 54)).drew) (.slice (some ⟨V.heap.size, 0, none⟩) 0 0) []) := hid ((ownG.made rfl (Nat.le_refl _)).drew)
        (refine wpAnyH_ready (rs := [4, 8]) (by decide +kernel) (by simp) ?_; refine AllReadyH.cons (o := ?oc) ?hc (fun K hK => ?rc) (AllReadyH.cons (o := ?od) ?hd (fun K hK => ?re) AllReadyH.nil); (case hc => (simp only [List.getElem?_toArray, List.getElem?_cons_succ, List.getElem?_cons_zero]; first | done | rfl)); (case hd => (simp only [List.getElem?_toArray, List.getElem?_cons_succ, List.getElem?_cons_zero]; first | done | rfl)))
        case rc =>
          (refine stepFa (by rfl) _ _ (by rfl) hHeld _ [] (by rfl) O0.out _ q cap (ps.take q) (by rfl) hlt1 (keepE HC1.out hHeld) HO1.out (by simp; omega) ?_; intro v1 w1 k1 E1 _; have O1 := hid k1; clear k1)
          have O1 : Hid (ownG V.heap.size w1 v1 (ps.take q)) := hid (by have := O1.out; simpa using this)
          (refine hK.out _ _ ?_ (fun hHeld => ?_); focus ((try dsimp only); (repeat (with_reducible first | assumption | exact Ext.refl _ | apply Ext.drew | apply Ext.aft | apply Ext.alloc))))
          (clear hK K; (try simp only [Act.put, List.setIfInBounds_toArray, List.set_cons_zero, List.set_cons_succ]))
          (refine wpAnyH_ready (rs := [8]) (by decide +kernel) (by simp) ?_; refine AllReadyH.cons (o := ?ho35) ?hi35 (fun K hK => ?hr35) AllReadyH.nil; (case hi35 => (simp only [List.getElem?_toArray, List.getElem?_cons_succ, List.getElem?_cons_zero]; first | done | rfl)))
          (rw [if_pos (by rfl)]; go_wp2_with fail)
          (refine hK.out _ _ ?_ (fun hHeld => ?_); focus ((try dsimp only); (repeat (with_reducible first | assumption | exact Ext.refl _ | apply Ext.drew | apply Ext.aft | apply Ext.alloc))))
          (clear hK K; (try simp only [Act.put, List.setIfInBounds_toArray, List.set_cons_zero, List.set_cons_succ]))
          (refine wpAnyH_ready (rs := [9]) (by decide +kernel) (by simp) ?_; refine AllReadyH.cons (o := ?ho36) ?hi36 (fun K hK => ?hr36) AllReadyH.nil; (case hi36 => (simp only [List.getElem?_toArray, List.getElem?_cons_succ, List.getElem?_cons_zero]; first | done | rfl)))
          (refine stepFa (by rfl) _ _ (by rfl) hHeld _ (ps.take q) (by rfl) (O1.out.alloc _) ⟨_, 0, none⟩ 1 1 [(Value.slice fa Fl fc, t)] (by rfl) rfl (two_new rfl) HO3.out (by rw [hlt1]; simp; omega) ?_; intro v2 w2 k2 E2 _; have O2 := hid k2; clear k2)
          (refine hK.out _ _ ?_ (fun hHeld => ?_); focus ((try dsimp only); (repeat (with_reducible first | assumption | exact Ext.refl _ | apply Ext.drew | apply Ext.aft | apply Ext.alloc))))
          (clear hK K; (try simp only [Act.put, List.setIfInBounds_toArray, List.set_cons_zero, List.set_cons_succ]))
          (refine wpAnyH_ready (rs := [13]) (by decide +kernel) (by simp) ?_; refine AllReadyH.cons (o := ?ho37) ?hi37 (fun K hK => ?hr37) AllReadyH.nil; (case hi37 => (simp only [List.getElem?_toArray, List.getElem?_cons_succ, List.getElem?_cons_zero]; first | done | rfl)))
          (refine stepFa (by rfl) _ _ (by rfl) hHeld _ (ps.take q ++ [(Value.slice fa Fl fc, t)]) (by rfl) O2.out ad (N - q) c2' (ps.drop q) (by rfl) hld1 (keepE HC2.out hHeld) HO2.out (by rw [List.length_append, hlt1, hld1]; simp; omega) ?_; intro v3 w3 k3 E3 _; have O3 := hid k3; clear k3)
          (refine hK.out _ _ ?_ (fun hHeld => ?_); focus ((try dsimp only); (repeat (with_reducible first | assumption | exact Ext.refl _ | apply Ext.drew | apply Ext.aft | apply Ext.alloc))))
          (clear hK K; (try simp only [Act.put, List.setIfInBounds_toArray, List.set_cons_zero, List.set_cons_succ]))
          (refine wpAnyH_take (i := 14) (oi := ?ho22) (v := ?hv22) ?hi22 (by kernel_rfl) (by kernel_rfl) (by kernel_rfl) ?hq22 ?hy22 (by assumption) ?hr22; (case hi22 => (simp only [List.getElem?_toArray, List.getElem?_cons_succ, List.getElem?_cons_zero]; first | done | rfl)); (case hq22 => exact fun _ _ _ h => h); (case hy22 => (refine Or.inl ⟨by rfl, ?_⟩; intro w hSw; (try dsimp only at hSw); go_simp; first | done | with_reducible rfl)); (try simp only [Act.put, List.setIfInBounds_toArray, List.set_cons_zero, List.set_cons_succ]))
          (refine wpAnyH_done (by kernel_rfl) ?_ _)
          go_wp2_with fail
          go_ret
          exact ⟨v3, _, rfl, (ownF.ofRow O3.out (by simp)).mono EV.out.2, ⟨by rw [List.length_append, List.length_append, hlt1, hld1]; simp; omega, HMEM.out⟩, EV.out.1.trans (E3.1.mono EV.out.2)⟩
        case re =>
          (rw [if_pos (by rfl)]; go_wp2_with fail)
          (refine hK.out _ _ ?_ (fun hHeld => ?_); focus ((try dsimp only); (repeat (with_reducible first | assumption | exact Ext.refl _ | apply Ext.drew | apply Ext.aft | apply Ext.alloc))))
          (clear hK K; (try simp only [Act.put, List.setIfInBounds_toArray, List.set_cons_zero, List.set_cons_succ]))
          have O0 : Hid (ownG V.heap.size (((V.alloc (Obj.cells #[] 54)).alloc (Obj.cells #[Value.slice fa Fl fc, Value.int IntKind.i64 t] 54)).drew) (.slice (some ⟨V.heap.size, 0, none⟩) 0 0) []) := hid (((ownG.made rfl (Nat.le_refl _)).alloc _).drew)
          have N2 : Hid (∀ j u, [Value.slice fa Fl fc, Value.int IntKind.i64 t][j]? = some u → (((V.alloc (Obj.cells #[] 54)).alloc (Obj.cells #[Value.slice fa Fl fc, Value.int IntKind.i64 t] 54)).drew).cell? ((⟨V.heap.size + 1, 0, none⟩ : Addr).add j) = some u) := hid (two_new (w := V.alloc (Obj.cells #[] 54)) (by simp))
          have NB : Hid (V.heap.size + 1 < (((V.alloc (Obj.cells #[] 54)).alloc (Obj.cells #[Value.slice fa Fl fc, Value.int IntKind.i64 t] 54)).drew).heap.size) := hid (by show V.heap.size + 1 < ((V.alloc _).alloc _).heap.size; simp)
          (refine wpAnyH_ready (rs := [4]) (by decide +kernel) (by simp) ?_; refine AllReadyH.cons (o := ?ho38) ?hi38 (fun K hK => ?hr38) AllReadyH.nil; (case hi38 => (simp only [List.getElem?_toArray, List.getElem?_cons_succ, List.getElem?_cons_zero]; first | done | rfl)))
          (refine stepFa (by rfl) _ _ (by rfl) hHeld _ [] (by rfl) O0.out _ q cap (ps.take q) (by rfl) hlt1 (keepE HC1.out hHeld) HO1.out (by simp; omega) ?_; intro v1 w1 k1 E1 b1; have O1 := hid k1; have N3 := hid (keep2 N2.out (b1 _ NB.out (by simp [Value.ownBlock]))); clear k1 b1)
          (refine hK.out _ _ ?_ (fun hHeld => ?_); focus ((try dsimp only); (repeat (with_reducible first | assumption | exact Ext.refl _ | apply Ext.drew | apply Ext.aft | apply Ext.alloc))))
          (clear hK K; (try simp only [Act.put, List.setIfInBounds_toArray, List.set_cons_zero, List.set_cons_succ]))
          have O1 : Hid (ownG V.heap.size w1 v1 (ps.take q)) := hid (by have := O1.out; simpa using this)
          (refine wpAnyH_ready (rs := [9]) (by decide +kernel) (by simp) ?_; refine AllReadyH.cons (o := ?ho39) ?hi39 (fun K hK => ?hr39) AllReadyH.nil; (case hi39 => (simp only [List.getElem?_toArray, List.getElem?_cons_succ, List.getElem?_cons_zero]; first | done | rfl)))
          (refine stepFa (by rfl) _ _ (by rfl) hHeld _ (ps.take q) (by rfl) O1.out ⟨_, 0, none⟩ 1 1 [(Value.slice fa Fl fc, t)] (by rfl) rfl N3.out HO3.out (by rw [hlt1]; simp; omega) ?_; intro v2 w2 k2 E2 _; have O2 := hid k2; clear k2)
          (refine hK.out _ _ ?_ (fun hHeld => ?_); focus ((try dsimp only); (repeat (with_reducible first | assumption | exact Ext.refl _ | apply Ext.drew | apply Ext.aft | apply Ext.alloc))))
          (clear hK K; (try simp only [Act.put, List.setIfInBounds_toArray, List.set_cons_zero, List.set_cons_succ]))
          (refine wpAnyH_ready (rs := [13]) (by decide +kernel) (by simp) ?_; refine AllReadyH.cons (o := ?ho40) ?hi40 (fun K hK => ?hr40) AllReadyH.nil; (case hi40 => (simp only [List.getElem?_toArray, List.getElem?_cons_succ, List.getElem?_cons_zero]; first | done | rfl)))
          (refine stepFa (by rfl) _ _ (by rfl) hHeld _ (ps.take q ++ [(Value.slice fa Fl fc, t)]) (by rfl) O2.out ad (N - q) c2' (ps.drop q) (by rfl) hld1 (keepE HC2.out hHeld) HO2.out (by rw [List.length_append, hlt1, hld1]; simp; omega) ?_; intro v3 w3 k3 E3 _; have O3 := hid k3; clear k3)
          (refine hK.out _ _ ?_ (fun hHeld => ?_); focus ((try dsimp only); (repeat (with_reducible first | assumption | exact Ext.refl _ | apply Ext.drew | apply Ext.aft | apply Ext.alloc))))
          (clear hK K; (try simp only [Act.put, List.setIfInBounds_toArray, List.set_cons_zero, List.set_cons_succ]))
          (refine wpAnyH_take (i := 14) (oi := ?ho23) (v := ?hv23) ?hi23 (by kernel_rfl) (by kernel_rfl) (by kernel_rfl) ?hq23 ?hy23 (by assumption) ?hr23; (case hi23 => (simp only [List.getElem?_toArray, List.getElem?_cons_succ, List.getElem?_cons_zero]; first | done | rfl)); (case hq23 => exact fun _ _ _ h => h); (case hy23 => (refine Or.inl ⟨by rfl, ?_⟩; intro w hSw; (try dsimp only at hSw); go_simp; first | done | with_reducible rfl)); (try simp only [Act.put, List.setIfInBounds_toArray, List.set_cons_zero, List.set_cons_succ]))
          (refine wpAnyH_done (by kernel_rfl) ?_ _)
          go_wp2_with fail
          go_ret
          exact ⟨v3, _, rfl, (ownF.ofRow O3.out (by simp)).mono EV.out.2, ⟨by rw [List.length_append, List.length_append, hlt1, hld1]; simp; omega, HMEM.out⟩, EV.out.1.trans (E3.1.mono EV.out.2)⟩
      case rb =>
        (rw [if_pos (by rfl)]; go_wp2_with fail)
        (refine hK.out _ _ ?_ (fun hHeld => ?_); focus ((try dsimp only); (repeat (with_reducible first | assumption | exact Ext.refl _ | apply Ext.drew | apply Ext.aft | apply Ext.alloc))))
        (clear hK K; (try simp only [Act.put, List.setIfInBounds_toArray, List.set_cons_zero, List.set_cons_succ]))
        (refine wpAnyH_ready (rs := [0]) (by decide +kernel) (by simp) ?_; refine AllReadyH.cons (o := ?ho41) ?hi41 (fun K hK => ?hr41) AllReadyH.nil; (case hi41 => (simp only [List.getElem?_toArray, List.getElem?_cons_succ, List.getElem?_cons_zero]; first | done | rfl)))
        (rw [if_pos (by rfl)]; go_wp2_with fail)
        (refine hK.out _ _ ?_ (fun hHeld => ?_); focus ((try dsimp only); (repeat (with_reducible first | assumption | exact Ext.refl _ | apply Ext.drew | apply Ext.aft | apply Ext.alloc))))
        (clear hK K; (try simp only [Act.put, List.setIfInBounds_toArray, List.set_cons_zero, List.set_cons_succ]))
        have O0 : Hid (ownG V.heap.size (((V.alloc (Obj.cells #[Value.slice fa Fl fc, Value.int IntKind.i64 t] 54)).alloc (Obj.cells #[] 54)).drew) (.slice (some ⟨V.heap.size + 1, 0, none⟩) 0 0) []) := hid ((ownG.made (by simp) (by simp)).drew)
        have N2 : Hid (∀ j u, [Value.slice fa Fl fc, Value.int IntKind.i64 t][j]? = some u → (((V.alloc (Obj.cells #[Value.slice fa Fl fc, Value.int IntKind.i64 t] 54)).alloc (Obj.cells #[] 54)).drew).cell? ((⟨V.heap.size, 0, none⟩ : Addr).add j) = some u) := hid (keep2 (w := V.alloc (Obj.cells #[Value.slice fa Fl fc, Value.int IntKind.i64 t] 54)) (two_new rfl) ((Below.alloc (Below.refl _ _) (Nat.le_refl _) (Obj.cells #[] 54)).block V.heap.size (by simp)))
        have NB : Hid (V.heap.size < (((V.alloc (Obj.cells #[Value.slice fa Fl fc, Value.int IntKind.i64 t] 54)).alloc (Obj.cells #[] 54)).drew).heap.size) := hid (by show V.heap.size < ((V.alloc _).alloc _).heap.size; simp; omega)
        (refine wpAnyH_ready (rs := [4]) (by decide +kernel) (by simp) ?_; refine AllReadyH.cons (o := ?ho42) ?hi42 (fun K hK => ?hr42) AllReadyH.nil; (case hi42 => (simp only [List.getElem?_toArray, List.getElem?_cons_succ, List.getElem?_cons_zero]; first | done | rfl)))
        (refine stepFa (by rfl) _ _ (by rfl) hHeld _ [] (by rfl) O0.out _ q cap (ps.take q) (by rfl) hlt1 (keepE HC1.out hHeld) HO1.out (by simp; omega) ?_; intro v1 w1 k1 E1 b1; have O1 := hid k1; have N3 := hid (keep2 N2.out (b1 _ NB.out (by simp [Value.ownBlock]))); clear k1 b1)
        (refine hK.out _ _ ?_ (fun hHeld => ?_); focus ((try dsimp only); (repeat (with_reducible first | assumption | exact Ext.refl _ | apply Ext.drew | apply Ext.aft | apply Ext.alloc))))
        (clear hK K; (try simp only [Act.put, List.setIfInBounds_toArray, List.set_cons_zero, List.set_cons_succ]))
        have O1 : Hid (ownG V.heap.size w1 v1 (ps.take q)) := hid (by have := O1.out; simpa using this)
        (refine wpAnyH_ready (rs := [9]) (by decide +kernel) (by simp) ?_; refine AllReadyH.cons (o := ?ho43) ?hi43 (fun K hK => ?hr43) AllReadyH.nil; (case hi43 => (simp only [List.getElem?_toArray, List.getElem?_cons_succ, List.getElem?_cons_zero]; first | done | rfl)))
        (refine stepFa (by rfl) _ _ (by rfl) hHeld _ (ps.take q) (by rfl) O1.out ⟨_, 0, none⟩ 1 1 [(Value.slice fa Fl fc, t)] (by rfl) rfl N3.out HO3.out (by rw [hlt1]; simp; omega) ?_; intro v2 w2 k2 E2 _; have O2 := hid k2; clear k2)
        (refine hK.out _ _ ?_ (fun hHeld => ?_); focus ((try dsimp only); (repeat (with_reducible first | assumption | exact Ext.refl _ | apply Ext.drew | apply Ext.aft | apply Ext.alloc))))
        (clear hK K; (try simp only [Act.put, List.setIfInBounds_toArray, List.set_cons_zero, List.set_cons_succ]))
        (refine wpAnyH_ready (rs := [13]) (by decide +kernel) (by simp) ?_; refine AllReadyH.cons (o := ?ho44) ?hi44 (fun K hK => ?hr44) AllReadyH.nil; (case hi44 => (simp only [List.getElem?_toArray, List.getElem?_cons_succ, List.getElem?_cons_zero]; first | done | rfl)))
        (refine stepFa (by rfl) _ _ (by rfl) hHeld _ (ps.take q ++ [(Value.slice fa Fl fc, t)]) (by rfl) O2.out ad (N - q) c2' (ps.drop q) (by rfl) hld1 (keepE HC2.out hHeld) HO2.out (by rw [List.length_append, hlt1, hld1]; simp; omega) ?_; intro v3 w3 k3 E3 _; have O3 := hid k3; clear k3)
        (refine hK.out _ _ ?_ (fun hHeld => ?_); focus ((try dsimp only); (repeat (with_reducible first | assumption | exact Ext.refl _ | apply Ext.drew | apply Ext.aft | apply Ext.alloc))))
        (clear hK K; (try simp only [Act.put, List.setIfInBounds_toArray, List.set_cons_zero, List.set_cons_succ]))
        (refine wpAnyH_take (i := 14) (oi := ?ho24) (v := ?hv24) ?hi24 (by kernel_rfl) (by kernel_rfl) (by kernel_rfl) ?hq24 ?hy24 (by assumption) ?hr24; (case hi24 => (simp only [List.getElem?_toArray, List.getElem?_cons_succ, List.getElem?_cons_zero]; first | done | rfl)); (case hq24 => exact fun _ _ _ h => h); (case hy24 => (refine Or.inl ⟨by rfl, ?_⟩; intro w hSw; (try dsimp only at hSw); go_simp; first | done | with_reducible rfl)); (try simp only [Act.put, List.setIfInBounds_toArray, List.set_cons_zero, List.set_cons_succ]))
        (refine wpAnyH_done (by kernel_rfl) ?_ _)
        go_wp2_with fail
        go_ret
        exact ⟨v3, _, rfl, (ownF.ofRow O3.out (by simp)).mono EV.out.2, ⟨by rw [List.length_append, List.length_append, hlt1, hld1]; simp; omega, HMEM.out⟩, EV.out.1.trans (E3.1.mono EV.out.2)⟩
end Go.Proofs.Ytflmoopiajhadaa
