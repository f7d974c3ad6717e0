/- Copies of slices, slices without noughts at their ends: both texts. -/
import Derived.Test.YtganmeiaflkkoaaB8
import Derived.Test.YtganmeiaflkkoaaB2
import Derived.Deep.AppendSrc
import Derived.Lib.SliceRun
namespace Go.Proofs.Ytganmeiaflkkoaa
open Go Go.RowKit

/-- Nothing is appended. -/
theorem wpList_append_nothing {P : Program} {w : World} {ops : Array Oper} {rest : List Oper} {o : Oper} {a : Act} {Q : Exit → Act → World → Prop} (hgd : o.guard = none) (s x : Operand) (t : TypeId)
    (ho : o.op = .call { callee := .builtin .append, args := #[s, x], argTypes := #[t, t] })
    (e : TypeId) (i : TypeInfo) (ht : P.underlying t = some (.slice e)) (hi : P.info? e = some i)
    (b off n cap c : Nat) (hs : a.eval s = .slice (some ⟨b, off, none⟩) n cap) (hn : n ≤ cap) (hx : a.eval x = .slice none 0 c)
    (h : wpList P ops Q rest (a.put o.dst (.slice (some ⟨b, off, none⟩) n cap)) w) : wpList P ops Q (o :: rest) a w := by
  refine wpList_plain hgd fun K hK => ?_
  have hrun := run_append_room_src (P := P) w t t o.type e i ht hi b off n cap (.slice none 0 c) 0 [] (Src.ofNil w ht c) (by omega) (fun j hj => by simp at hj) (fun j hj => by simp at hj)
  have hw : w.setCells b (off + n * i.size) [] = w := rfl
  rw [hw] at hrun
  unfold Oper.wp
  simp [execOp, ho, resolve, invoke, builtin, hs, hx, hrun, Result.andThen]
  exact hK _ _ h

theorem rd_news {w : World} {b o cap : Nat} {xs : List Int} (h : rdI w (.slice (some ⟨b, o, none⟩) xs.length cap) xs) : ∀ j u, (vI xs)[j]? = some u → w.cell? ((⟨b, o, none⟩ : Addr).add j) = some u := by
  intro j u hj
  obtain ⟨a, cap', he, hm, hc⟩ := h
  cases he
  obtain ⟨hlt, hu⟩ := List.getElem?_eq_some_iff.1 hj
  have hlt' : j < xs.length := by rwa [vI_len] at hlt
  obtain ⟨b', o', he2, hcell⟩ := hc (by intro e; subst e; simp at hlt')
  cases he2
  rw [Addr.add_lit, hcell j hlt', ← hu]
  simp [vI]
theorem vI_one (xs : List Int) : ∀ u ∈ vI xs, u.oneCell' = true := by
  intro u hu
  simp only [vI, List.mem_map] at hu
  obtain ⟨x, _, rfl⟩ := hu
  rfl
theorem rd_none {w : World} {n cap : Nat} {xs : List Int} (h : rdI w (.slice none n cap) xs) : xs = [] ∧ n = 0 := by
  obtain ⟨a, cap', he, hm, hc⟩ := h
  cases he
  rcases xs with _ | ⟨x, r⟩
  · exact ⟨rfl, rfl⟩
  · obtain ⟨b, o, e, _⟩ := hc (by simp)
    cases e
theorem rd_some {w : World} {n cap : Nat} {a : Addr} {xs : List Int} (h : rdI w (.slice (some a) n cap) xs) : n = xs.length ∧ n ≤ maxLen := by
  obtain ⟨a', cap', he, hm, hc⟩ := h
  cases he
  exact ⟨rfl, hm⟩

theorem own_made (w : World) : ownR w.heap.size (w.alloc (.cells #[] 2)) (.slice (some ⟨w.heap.size, 0, none⟩) 0 0) [] :=
  World.ownsRow_made w #[] 0 (Nat.le_refl _) (by simp [maxLen]) (by simp)

set_option maxRecDepth 20000 in
set_option maxHeartbeats 2000000 in
theorem i_clone (r : Value) (xs : List Int) (w : World) (h : rdI w r xs) (hl : xs.length ≤ 1000000) :
    Calls Try.prog 35 #[r] w fun e w' => ∃ v, e = .returned v ∧ ownR w.heap.size w' v xs ∧ Below w.heap.size w w' := by
  obtain ⟨i0, hi, hz0, hz1, hz2⟩ := info_parts infoI
  have q : ∀ (w : World) (a : Option Addr) (n c n' c' : Nat), (binOp .eql 26 (.slice a n c) (.slice none n' c')).run Try.prog w = .ok (.bool a.isNone) w := fun w a n c n' c' => Lib.run_eql_slice_nil w _ _ a n c n' c' Try.underlying26
  obtain ⟨a, cap, rfl, _, _⟩ := id h
  rcases a with _ | a
  · obtain ⟨rfl, _⟩ := rd_none h
    clear h
    simp only [List.length_nil]
    go_enter Try.func35, Try.ntmps35
    go_wp2_with (at_builtin; refine wpList_append_nothing rfl _ _ 26 rfl 2 i0 Try.underlying26 hi w.heap.size 0 0 0 cap rfl (Nat.le_refl _) rfl ?_)
    go_ret
    first
      | exact ⟨_, rfl, ownR.nil _ _, (by refine Ext.bel ?_; repeat (with_reducible first | exact Ext.refl _ | apply Ext.alloc | apply Ext.aft | apply Ext.drew | apply Ext.drewN | apply Ext.setCell | exact Nat.le_add_right _ _ | exact Nat.le_refl _ | (simp; done) | omega))⟩
      | exact ⟨_, rfl, own_made w, (by refine Ext.bel ?_; repeat (with_reducible first | exact Ext.refl _ | apply Ext.alloc | apply Ext.aft | apply Ext.drew | apply Ext.drewN | apply Ext.setCell | exact Nat.le_add_right _ _ | exact Nat.le_refl _ | (simp; done) | omega))⟩
  · obtain ⟨b, o, k⟩ := a
    have hk : xs = [] ∨ k = none := by
      obtain ⟨a', cap', he, hm, hc⟩ := id h
      cases he
      rcases xs with _ | ⟨x, r⟩
      · exact .inl rfl
      · obtain ⟨b', o', e, _⟩ := hc (by simp)
        cases e
        exact .inr rfl
    obtain ⟨a, ha⟩ : ∃ a : Addr, a = ⟨b, o, k⟩ := ⟨_, rfl⟩
    have HN : Hid (∀ j u, (vI xs)[j]? = some u → (w.alloc (.cells #[] 2)).cell? (a.add j) = some u) := hid (by
      rcases hk with rfl | rfl
      · intro j u hj; simp [vI] at hj
      · subst ha; exact rd_news (h.alloc _))
    rw [← ha]
    have H1 := hid (vI_one xs)
    clear h ha hk
    go_enter Try.func35, Try.ntmps35
    go_wp2_with (at_builtin; refine wpList_append_own _ rfl _ _ 26 rfl w.heap.size 2 i0 (.int .i64 0) 1 8 Try.underlying26 hi hz0 hz1 hz2 rfl (by decide) _ _ _ rfl (own_made w) a xs.length cap (vI xs) rfl (by rw [vI_len, Nat.mul_one]) HN.out H1.out (by simp only [List.length_nil]; unfold maxLen; omega) (by simp only [List.length_nil]; omega) (by simp) ?_)
    intro v' w1 hown hgr _
    have HO : Hid (ownR w.heap.size w1 v' xs) := hid (by unfold ownR; simpa [vI] using hown)
    have HB : Hid (Below w.heap.size w w1) := hid (((Below.refl _ w).alloc (Nat.le_refl _) _).grown hgr (by simp) (by intro k hk; simp [Value.ownBlock] at hk; omega))
    clear hown hgr
    go_wp2_with fail
    go_ret
    exact ⟨_, rfl, HO.out, HB.out⟩
set_option maxRecDepth 20000 in
set_option maxHeartbeats 2000000 in
theorem s_own (r : Value) (xs : List Int) (w : World) (h : rdI w r xs) (hl : xs.length ≤ 1000000) :
    Calls Try.prog 74 #[r] w fun e w' => ∃ v, e = .returned v ∧ ownR w.heap.size w' v xs ∧ Below w.heap.size w w' := by
  obtain ⟨i0, hi, hz0, hz1, hz2⟩ := info_parts infoI
  have q : ∀ (w : World) (a : Option Addr) (n c n' c' : Nat), (binOp .eql 26 (.slice a n c) (.slice none n' c')).run Try.prog w = .ok (.bool a.isNone) w := fun w a n c n' c' => Lib.run_eql_slice_nil w _ _ a n c n' c' Try.underlying26
  obtain ⟨a, cap, rfl, _, _⟩ := id h
  rcases a with _ | a
  · obtain ⟨rfl, _⟩ := rd_none h
    clear h
    simp only [List.length_nil]
    go_enter Try.func74, Try.ntmps74
    go_wp2_with (at_builtin; refine wpList_append_nothing rfl _ _ 26 rfl 2 i0 Try.underlying26 hi w.heap.size 0 0 0 cap rfl (Nat.le_refl _) rfl ?_)
    go_ret
    first
      | exact ⟨_, rfl, ownR.nil _ _, (by refine Ext.bel ?_; repeat (with_reducible first | exact Ext.refl _ | apply Ext.alloc | apply Ext.aft | apply Ext.drew | apply Ext.drewN | apply Ext.setCell | exact Nat.le_add_right _ _ | exact Nat.le_refl _ | (simp; done) | omega))⟩
      | exact ⟨_, rfl, own_made w, (by refine Ext.bel ?_; repeat (with_reducible first | exact Ext.refl _ | apply Ext.alloc | apply Ext.aft | apply Ext.drew | apply Ext.drewN | apply Ext.setCell | exact Nat.le_add_right _ _ | exact Nat.le_refl _ | (simp; done) | omega))⟩
  · obtain ⟨b, o, k⟩ := a
    have hk : xs = [] ∨ k = none := by
      obtain ⟨a', cap', he, hm, hc⟩ := id h
      cases he
      rcases xs with _ | ⟨x, r⟩
      · exact .inl rfl
      · obtain ⟨b', o', e, _⟩ := hc (by simp)
        cases e
        exact .inr rfl
    obtain ⟨a, ha⟩ : ∃ a : Addr, a = ⟨b, o, k⟩ := ⟨_, rfl⟩
    have HN : Hid (∀ j u, (vI xs)[j]? = some u → (w.alloc (.cells #[] 2)).cell? (a.add j) = some u) := hid (by
      rcases hk with rfl | rfl
      · intro j u hj; simp [vI] at hj
      · subst ha; exact rd_news (h.alloc _))
    rw [← ha]
    have H1 := hid (vI_one xs)
    clear h ha hk
    go_enter Try.func74, Try.ntmps74
    go_wp2_with (at_builtin; refine wpList_append_own _ rfl _ _ 26 rfl w.heap.size 2 i0 (.int .i64 0) 1 8 Try.underlying26 hi hz0 hz1 hz2 rfl (by decide) _ _ _ rfl (own_made w) a xs.length cap (vI xs) rfl (by rw [vI_len, Nat.mul_one]) HN.out H1.out (by simp only [List.length_nil]; unfold maxLen; omega) (by simp only [List.length_nil]; omega) (by simp) ?_)
    intro v' w1 hown hgr _
    have HO : Hid (ownR w.heap.size w1 v' xs) := hid (by unfold ownR; simpa [vI] using hown)
    have HB : Hid (Below w.heap.size w w1) := hid (((Below.refl _ w).alloc (Nat.le_refl _) _).grown hgr (by simp) (by intro k hk; simp [Value.ownBlock] at hk; omega))
    clear hown hgr
    go_wp2_with fail
    go_ret
    exact ⟨_, rfl, HO.out, HB.out⟩
end Go.Proofs.Ytganmeiaflkkoaa
