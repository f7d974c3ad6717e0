/- The library's sort, delete and compact at numbers: the shelf's contracts, laid at this program; what they do to a row of the call's own. -/
import Derived.Test.YthnahinnmdoijaaN6
import Derived.Shelf.SlicesG.Delete
import Derived.Shelf.SlicesG.CompactI
import Derived.Shelf.SortM.Plain
import Derived.Shelf.SortM.SortNone
import Derived.Sort.OwnSortedInts
namespace Go.Proofs.Ythnahinnmdoijaa
open Go Go.RowKit
open Go.Shelf
def lay141_ren : Go.Shelf.Ren := ⟨fun | 45 => 64 | n => n, fun | 22 => 22 | 23 => 2 | 3 => 3 | 4 => 4 | 0 => 0 | n => n, fun | n => n⟩
theorem lay141 : Go.Proofs.SlLaysN.n45 Try.prog lay141_ren := {
  mixed := by kernel_rfl
  f45 := ⟨Try.f64.name, by decide, Try.func64.trans (congrArg some (by kernel_rfl))⟩
  t0 := Try.underlying0
  a0 := Try.isAgg0
  z0 := Try.sizeOf0
  v0 := Try.zeroValue0
  t3 := Try.underlying3
  a3 := Try.isAgg3
  z3 := Try.sizeOf3
  v3 := Try.zeroValue3
  t4 := Try.underlying4
  a4 := Try.isAgg4
  z4 := Try.sizeOf4
  v4 := Try.zeroValue4
  t22 := Try.underlying22
  a22 := Try.isAgg22
  z22 := Try.sizeOf22
  v22 := Try.zeroValue22
  t23 := Try.underlying2
  a23 := Try.isAgg2
  z23 := Try.sizeOf2
  v23 := Try.zeroValue2
  i23 := by kernel_rfl }
theorem holds_own {B g cap n : Nat} {w : World} {xs : List Int} (h : ownR B w (.slice (some ⟨g, 0, none⟩) n cap) xs) : Go.Sort.Holds (Value.int .i64) w g 0 xs.toArray := by
  intro j hj
  have hj' : j < xs.length := by simpa using hj
  have hn : n = xs.length := by
    rcases h.2 with ⟨e, h1⟩ | ⟨g', c, cur, e, _⟩
    · cases e
    · cases e; rfl
  subst hn
  rw [Nat.zero_add]
  refine ⟨?_, World.ownsRow.frozenAt h j⟩
  rw [World.ownsRow.cellAt h j (by omega)]
  simp [vI, hj']
theorem own_put {B g cap q : Nat} {w : World} {xs ts : List Int} {os : Array Obj} (h : ownR B w (.slice (some ⟨g, 0, none⟩) xs.length cap) xs) (hl : ts.length = xs.length) :
    ownR B (Go.Sort.grow (Go.Sort.putRow (Value.int .i64) (Go.Sort.ahead w q) g 0 ts.toArray) os) (.slice (some ⟨g, 0, none⟩) xs.length cap) ts := by
  rcases h.2 with ⟨e, h1⟩ | ⟨g', c, cur, e, hb, hh, h1, h2, h3, h4⟩
  · cases e
  · cases e
    unfold ownR
    rw [hl]
    exact ownsRow_sortedI hl hb hh h1 h2 h3
theorem own_cut {B g cap : Nat} {w : World} {xs : List Int} {m : Nat} (h : ownR B w (.slice (some ⟨g, 0, none⟩) xs.length cap) xs) (hm : m ≤ xs.length) : ownR B w (.slice (some ⟨g, 0, none⟩) m cap) (xs.take m) := by
  rcases h.2 with ⟨e, h1⟩ | ⟨g', c, cur, e, hb, hh, h1, h2, h3, h4⟩
  · cases e
  · cases e
    have hl : (xs.take m).length = m := by rw [List.length_take]; omega
    unfold ownR
    rw [hl]
    refine ⟨by simp [vI]; omega, .inr ⟨g, cap, cur, rfl, hb, hh, by omega, h2, h3, ?_⟩⟩
    have e : cur.toList.take (m * 1) = (cur.toList.take (xs.length * 1)).take (m * 1) := by rw [List.take_take]; congr 1; omega
    rw [e, h4]
    simp [vI]
theorem grow_none (w : World) : Go.Sort.grow w #[] = w := by simp [Go.Sort.grow]
theorem own_some {B : Nat} {w : World} {v : Value} {xs : List Int} (h : ownR B w v xs) (hne : xs ≠ []) : ∃ g cap, v = .slice (some ⟨g, 0, none⟩) xs.length cap ∧ g < w.heap.size ∧ xs.length ≤ cap ∧ cap ≤ maxLen := by
  rcases h.2 with ⟨e, h1⟩ | ⟨g, cap, cur, e, hb, hh, h1, h2, _⟩
  · exact absurd (List.eq_nil_of_length_eq_zero h1) hne
  · exact ⟨g, cap, e, (Array.getElem?_eq_some_iff.1 hh).1, h1, h2⟩

theorem compact_len (xs : List Int) : (Lib.compact xs).length ≤ xs.length := by
  unfold Lib.compact
  have : ∀ m, (Lib.compactUpTo xs.toArray m).length ≤ m := by
    intro m
    induction m with
    | zero => simp [Lib.compactUpTo]
    | succ m ih =>
      rw [Lib.compactUpTo_succ, List.length_append]
      split <;> simp <;> omega
  exact this _
theorem lib_delete {B : Nat} {w : World} {v : Value} {xs : List Int} (h : ownR B w v xs) (i : Nat) (hi : i < xs.length) :
    Calls Try.prog 64 #[v, .int .i64 i, .int .i64 ((i : Int) + 1)] w fun e w' => ∃ v', e = .returned v' ∧ ownR B w' v' (xs.eraseIdx i) ∧ w.grownBy w' v.ownBlock ∧ v'.ownBlock = v.ownBlock := by
  obtain ⟨g, cap, rfl, hg, hc, hm⟩ := own_some h (by intro e; subst e; simp at hi)
  unfold maxLen at hm
  have hcall := AnyG.slices_Delete_int lay141 g 0 cap i (i + 1) xs w (holds_own h) hc (by omega) (by omega) (by omega)
  change Calls Try.prog 64 _ _ _ at hcall
  refine hcall.mono ?_
  rintro e w' ⟨rfl, q, rfl⟩
  have hl : (xs.take i ++ xs.drop (i + 1) ++ List.replicate (i + 1 - i) (0 : Int)).length = xs.length := by simp; omega
  have hp := own_put (q := q) (os := #[]) h hl
  rw [grow_none] at hp
  refine ⟨_, rfl, ?_, ?_, rfl⟩
  · have e : xs.eraseIdx i = (xs.take i ++ xs.drop (i + 1) ++ List.replicate (i + 1 - i) (0 : Int)).take (xs.length - (i + 1 - i)) := by
      rw [List.take_append_of_le_length (by simp; omega), List.take_of_length_le (by simp; omega), List.eraseIdx_eq_take_drop_succ]
    rw [e]
    rw [← hl] at hp
    have hp2 := own_cut (m := xs.length - (i + 1 - i)) hp (by rw [hl]; omega)
    exact hp2
  · have := grownBy_sortedI (w := w) (g := g) (n := q) (os := #[]) (xs.take i ++ xs.drop (i + 1) ++ List.replicate (i + 1 - i) (0 : Int)).toArray
    rw [grow_none] at this
    exact this
end Go.Proofs.Ythnahinnmdoijaa
