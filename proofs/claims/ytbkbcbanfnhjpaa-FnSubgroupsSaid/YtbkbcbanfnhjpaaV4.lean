/- Draws of permutations. -/
import Derived.Test.YtbkbcbanfnhjpaaT3
import Derived.Test.YtbkbcbanfnhjpaaW9
namespace Go.Proofs.Ytbkbcbanfnhjpaa
open Go Go.RowKit

/-- A draw of something that lies in memory. -/
def DrawX (B b : Nat) (w : World) (Φ : World → Value → Prop) : Ending → World → Prop := fun e w' => ∃ v, e = .returned v ∧ Φ w' v ∧ w.grownBy w' (some b) ∧ src B b w'
theorem viaDX {P : Program} {f : FuncId} {args : Array Value} {B b : Nat} {w : World} {Φ : World → Value → Prop} {R : Ending → World → Prop}
    (h : Calls P f args w (DrawX B b w Φ)) (hR : ∀ v u, Φ (aftD b w u) v → src B b (aftD b w u) → w.heap.size ≤ (aftD b w u).heap.size → R (.returned v) (aftD b w u)) : Calls P f args w R :=
  h.mono fun e w' ⟨v, he, hp, hg, hs⟩ => by subst he; obtain ⟨u, rfl⟩ := aftD_ex hg; exact hR v u hp hs (size_aftD b w u)
theorem ownR.aftD {B b : Nat} {w : World} {v : Value} {xs : List Int} (h : ownR B w v xs) (u : World) (hb : b < B) : ownR B (Go.Proofs.Ytbkbcbanfnhjpaa.aftD b w u) v xs :=
  h.kept fun k hk e => aftD_blk ⟨hk, by have := own_row_ge h k e; omega⟩
set_option maxRecDepth 20000 in
set_option maxHeartbeats 4000000 in
theorem s_valid21 (B b : Nat) (w : World) (h : src B b w) :
    Calls Try.prog 131 #[.pointer (some ⟨b, 0, none⟩)] w (DrawX B b w (fun w' v => ∃ xs, ownR w.heap.size w' v xs ∧ 1 ≤ xs.length ∧ xs.length ≤ 6)) := by
  have hb := h.lt
  have hB := h.ge
  go_enter Try.func131, Try.ntmps131
  go_wp2_with fail
  refine viaDr (s_next B b _ _ h (by omega)) ?_
  intro x u hx hs hl
  (try dsimp only at hx)
  go_wp2_with fail
  refine viaDr (s_pickA B b _ _ _ [4, 5, 6, 1 + x] _ _ _ (by simp) rfl rfl hs (by decide) (by decide)) ?_
  intro n v hn hs2 hl2
  (try simp at hn hl2)
  have hn6 : 1 ≤ n ∧ n ≤ 6 := by omega
  obtain ⟨m, rfl⟩ : ∃ m : Nat, n = (m : Int) := ⟨n.toNat, by omega⟩
  have hf := facN_pos m
  have hf7 := facN_le (show m ≤ 6 by omega)
  obtain ⟨F, hF⟩ : ∃ F, F = facN m := ⟨_, rfl⟩
  have HF := hid hF
  rw [← hF] at hf hf7
  clear hn hx hF
  go_wp2_with (go_at_call 84; refine pur (s_fact m _ (by omega)) ?_; rw [← HF.out])
  refine viaDr (s_next B b _ _ hs2 (by omega)) ?_
  intro q v2 hq hs3 hl3
  (try dsimp only at hq)
  go_wp2_with fail
  refine viaI (g := id) (s_with m q _ (by omega) (by omega) (by rw [← HF.out]; omega)) ?_
  intro t u3 z3 own3
  try simp at z3
  have hw1 := with_ok (n := m) (r := q) (by omega) (by omega) (by rw [← HF.out]; omega)
  have hwl := hw1.len
  clear hw1
  go_wp2_with fail
  go_ret
  exact ⟨t, rfl, ⟨_, own3.mono (by omega), by omega, by omega⟩, (by show Gr _ _ _; repeat (with_reducible first | exact Gr.refl _ _ | apply Gr.aftD | apply Gr.aft | apply Gr.alloc | apply Gr.drew | apply Gr.set | (simp; done) | (simp; omega) | omega)), (by repeat (with_reducible first | assumption | apply src.aft | apply src.alloc | apply src.drew | (refine src.set ?_ ?_ ?_ _) | (simp; done) | (simp; omega) | omega))⟩
set_option maxRecDepth 20000 in
set_option maxHeartbeats 4000000 in
theorem s_draw21 (B b : Nat) (w : World) (h : src B b w) :
    Calls Try.prog 97 #[.pointer (some ⟨b, 0, none⟩)] w (DrawX B b w (fun w' v => ∃ xs, ownR w.heap.size w' v xs ∧ xs.length ≤ 7)) := by
  have hb := h.lt
  have hB := h.ge
  go_enter Try.func97, Try.ntmps97
  go_wp2_with fail
  refine viaDX (s_valid21 B b _ h) ?_
  intro t u ht hs hl
  obtain ⟨xs, own1, hx1, hx6⟩ := ht
  obtain ⟨g, cp, hsh, hgb, _, _⟩ := own_some own1 (by intro e; rw [e] at hx1; simp at hx1)
  subst hsh
  go_wp2_with fail
  refine viaDr (s_next B b _ _ hs (by omega)) ?_
  intro x v hx hs2 hl2
  (try dsimp only at hx)
  have own2 := own1.aftD v (by omega)
  have hgw := own_row_ge own1 g rfl
  have hglt := own2.rowLt g rfl
  by_cases h0 : x = 0
  · subst h0
    go_wp2_with fail
    refine viaDr (s_next B b _ _ hs2 (by omega)) ?_
    intro y v2 hy hs3 hl3
    (try dsimp only at hy)
    have own3 := own2.aftD v2 (by omega)
    have hc := own3.cellAt 0 (by omega)
    have hfz := own3.frozenAt 0
    obtain ⟨y0, hy0⟩ : ∃ y0, (vI xs)[0]? = some y0 := ⟨_, List.getElem?_eq_getElem (by rw [vI_len]; omega)⟩
    rw [hy0] at hc
    have hst := own3.stored 0 (.int .i64 (y - 1))
    have hst2 : ownR w.heap.size ((aftD b (aftD b (aftD b w u) v) v2).setCell ⟨g, 0, none⟩ (.int .i64 (y - 1))) (.slice (some ⟨g, 0, none⟩) xs.length cp) (xs.set 0 (y - 1)) := by
      unfold ownR
      rw [List.length_set, show vI (xs.set 0 (y - 1)) = (vI xs).set 0 (.int .i64 (y - 1)) by unfold vI; rw [List.map_set]]
      exact hst.1
    have HST := hid hst2
    have hz : (0 : Int) < (xs.length : Int) := by omega
    clear hst hst2 hy0
    go_wp2_with fail
    go_ret
    exact ⟨_, rfl, ⟨_, HST.out, by rw [List.length_set]; omega⟩, Gr.set (((Gr.refl b w).aftD _ |>.aftD _).aftD _) (by omega), hs3.set (by omega) (by omega) _⟩
  have hx0 : (x == 0) = false := by simpa using h0
  by_cases h1 : x = 1
  · subst h1
    go_wp2_with fail
    obtain ⟨V, hV⟩ : ∃ V, V = (aftD b (aftD b w u) v).alloc (Obj.cells #[Value.int IntKind.i64 0, Value.int IntKind.i64 1, Value.int IntKind.i64 2, Value.int IntKind.i64 3, Value.int IntKind.i64 4, Value.int IntKind.i64 5, Value.int IntKind.i64 6] 2) := ⟨_, rfl⟩
    obtain ⟨g7, hg7⟩ : ∃ g7, g7 = (aftD b (aftD b w u) v).heap.size := ⟨_, rfl⟩
    have o7 : ownR w.heap.size V (.slice (some ⟨g7, 0, none⟩) 7 7) [0, 1, 2, 3, 4, 5, 6] := by
      rw [hV, hg7]
      exact ⟨rfl, .inr ⟨_, 7, _, rfl, by omega, heap_alloc_new _ _, Nat.le_refl _, by simp [maxLen], rfl, rfl⟩⟩
    have hsV : src B b V := by rw [hV]; exact hs2.alloc _
    have HGV : Hid (Gr b w V) := hid (by rw [hV]; exact ((((Gr.refl b w).aftD _).aftD _).alloc _))
    rw [← hV, ← hg7]
    clear hV hg7 hs2 hs
    refine viaDr (s_next B b _ _ hsV (by omega)) ?_
    intro y v2 hy hs3 hl3
    (try dsimp only at hy)
    obtain ⟨q, rfl⟩ : ∃ q : Nat, y = (q : Int) := ⟨y.toNat, by omega⟩
    have o8 := o7.aftD v2 (by omega)
    obtain ⟨hcut, ho9⟩ := cutH_rule o8 (q := q) (by simp; omega)
    have HO9 := hid ho9
    clear o7 o8 ho9
    go_wp2_with fail
    go_ret
    exact ⟨_, rfl, ⟨_, HO9.out, by rw [List.length_take]; simp; omega⟩, HGV.out.aftD _, hs3⟩
  · have hx1 : (x == 1) = false := by simpa using h1
    go_wp2_with fail
    go_ret
    exact ⟨_, rfl, ⟨xs, own2, by omega⟩, ((Gr.refl b w).aftD _).aftD _, hs2⟩
end Go.Proofs.Ytbkbcbanfnhjpaa
