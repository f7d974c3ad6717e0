/- A region that draws its order: a head that reads and calls calmly, behind it a tail in one forced order (a store, say). One walk of the text's order serves every order. -/
import Derived.Test.YtdeehgcabnoclaaMA
import Derived.StillTail
namespace Go.Proofs.Ytdeehgcabnoclaa
open Go Go.RowKit

/-- Each operation of the head waits for earlier ones alone. -/
def earlierB (md : Region.Mode) (ops : Array Oper) : Bool :=
  (List.range ops.size).all fun i => match ops[i]? with
    | some o => o.after.toList.all fun e => !Region.binds md e || decide (e.on < i)
    | none => true

section
variable {P : Program} {md : Region.Mode} {ops hd : Array Oper} {C : World → Prop} {T : Act → Prop} {Q : Exit → Act → World → Prop} {N : Nat}

theorem yielded_head (hN : ∀ i, i < N → hd[i]? = ops[i]?) (tmps : Array Value) (j : Nat) (h : j < N) : yielded hd tmps j = yielded ops tmps j := by
  unfold yielded; rw [hN j h]

def extL (n N : Nat) (l : Array Bool) : Array Bool := (l.toList ++ List.replicate (n - N) false).toArray

theorem extL_size {n N : Nat} {l : Array Bool} (h : l.size = N) (hn : N ≤ n) : (extL n N l).size = n := by simp [extL]; omega
theorem extL_lo {n N : Nat} {l : Array Bool} (h : l.size = N) (i : Nat) (hi : i < N) (d : Bool) : (extL n N l).getD i d = l.getD i d := by
  simp only [extL, Array.getD_eq_getD_getElem?, List.getElem?_toArray]
  rw [List.getElem?_append_left (by simpa [h] using hi)]
  simp
theorem extL_set {n N : Nat} {l : Array Bool} (h : l.size = N) (i : Nat) (hi : i < N) : (extL n N l).setIfInBounds i true = extL n N (l.setIfInBounds i true) := by
  simp only [extL, List.setIfInBounds_toArray]
  rw [List.set_append_left _ _ (by simpa [h] using hi)]
  simp

theorem head_ready (hsz : hd.size = N) (hN : ∀ i, i < N → hd[i]? = ops[i]?) (he : earlierB md hd = true) {l : Array Bool} (hl : l.size = N) {i : Nat} (hi : i < N) :
    i ∈ Region.ready md ops (extL ops.size N l) ↔ i ∈ Region.ready md hd l := by
  rw [mem_ready, mem_ready, extL_lo hl i hi, hN i hi]
  constructor
  · rintro ⟨h1, o, ho, h2⟩
    refine ⟨h1, o, ho, fun e hem hb => ?_⟩
    have h3 := List.all_eq_true.1 he i (List.mem_range.2 (by omega))
    rw [hN i hi, ho] at h3
    have h4 := List.all_eq_true.1 h3 e (by simpa using hem)
    simp only [hb, Bool.not_true, Bool.false_or, decide_eq_true_eq] at h4
    have := h2 e hem hb
    rwa [extL_lo hl e.on (by omega)] at this
  · rintro ⟨h1, o, ho, h2⟩
    refine ⟨h1, o, ho, fun e hem hb => ?_⟩
    have h3 := List.all_eq_true.1 he i (List.mem_range.2 (by omega))
    rw [hN i hi, ho] at h3
    have h4 := List.all_eq_true.1 h3 e (by simpa using hem)
    simp only [hb, Bool.not_true, Bool.false_or, decide_eq_true_eq] at h4
    rw [extL_lo hl e.on (by omega)]
    exact h2 e hem hb

/-- The first that has not come up is ready. -/
theorem some_ready (hsz : hd.size = N) (he : earlierB md hd = true) {l : Array Bool} (hl : l.size = N) : ∀ (k : Nat), k < N → l.getD k true = false → ∃ i, i ∈ Region.ready md hd l := by
  intro k
  induction k using Nat.strongRecOn with
  | _ k ih =>
    intro hk hun
    by_cases h : ∃ j, j < k ∧ l.getD j true = false
    · obtain ⟨j, hj, hu⟩ := h; exact ih j hj (by omega) hu
    · refine ⟨k, mem_ready.2 ⟨hun, hd[k]'(by omega), Array.getElem?_eq_getElem (by omega), fun e hem hb => ?_⟩⟩
      have h3 := List.all_eq_true.1 he k (List.mem_range.2 (by omega))
      rw [Array.getElem?_eq_getElem (by omega)] at h3
      have h4 := List.all_eq_true.1 h3 e (by simpa using hem)
      simp only [hb, Bool.not_true, Bool.false_or, decide_eq_true_eq] at h4
      cases hg : l.getD e.on false with
      | true => rfl
      | false =>
        exfalso
        refine h ⟨e.on, h4, ?_⟩
        have hlt : e.on < l.size := by omega
        simp [hlt] at hg ⊢
        exact hg

theorem wpAny_more {fuel : Nat} : ∀ {listed : Array Bool} {a : Act} {w : World}, wpAny P md ops Q fuel listed a w → wpAny P md ops Q (fuel + 1) listed a w := by
  induction fuel with
  | zero => intro listed a w h; exact ⟨fun _ => h.2, fun i hi => by rw [h.1] at hi; cases hi⟩
  | succ f ih => intro listed a w h; exact ⟨h.1, fun i hi => wpOp_mono (fun a' w' h' => ih h') (h.2 i hi)⟩
theorem wpAny_more' {g : Nat} (f : Nat) {listed : Array Bool} {a : Act} {w : World} (h : wpAny P md ops Q g listed a w) : wpAny P md ops Q (f + g) listed a w := by
  induction f with
  | zero => rw [Nat.zero_add]; exact h
  | succ f ih => rw [show f + 1 + g = (f + g) + 1 by omega]; exact wpAny_more ih

theorem guard_lt (hsz : hd.size = N) (hgB : (List.range hd.size).all (fun i => match hd[i]? with | some o => (match o.guard with | some (j, _) => decide (j < i) | none => true) | none => true) = true) {i : Nat} {o : Oper} (ho : hd[i]? = some o) (tmps : Array Value)
    (hN : ∀ i, i < N → hd[i]? = ops[i]?) : Region.wanted o (yielded hd tmps) = Region.wanted o (yielded ops tmps) := by
  have hi : i < hd.size := (Array.getElem?_eq_some_iff.1 ho).1
  have h3 := List.all_eq_true.1 hgB i (List.mem_range.2 hi)
  rw [ho] at h3
  unfold Region.wanted
  cases hg : o.guard with
  | none => rfl
  | some q =>
    obtain ⟨j, b⟩ := q
    simp only [hg, decide_eq_true_eq] at h3
    simp only [yielded_head hN tmps j (by omega)]

def guardsB (ops : Array Oper) : Bool := (List.range ops.size).all (fun i => match ops[i]? with | some o => (match o.guard with | some (j, _) => decide (j < i) | none => true) | none => true)

theorem head_any (hsz : hd.size = N) (hN : ∀ i, i < N → hd[i]? = ops[i]?) (hlt : N < ops.size) (he : earlierB md hd = true) (hg : guardsB hd = true)
    (hs : Region.sinkB md ops N = true) (hc : Region.chainB md ops N = true) {g : Nat}
    (hbase : ∀ a w, C w → T a → wpAny P md ops Q g (extL ops.size N (Array.replicate N true)) a w) :
    ∀ (f : Nat) (l : Array Bool) (a : Act) (w : World), l.size = N → HeadInv md ops N (extL ops.size N l) → C w → wpAnyQ P md hd C T f l a → wpAny P md ops Q (f + g) (extL ops.size N l) a w := by
  intro f
  have allT : ∀ l : Array Bool, l.size = N → Region.ready md hd l = [] → l = Array.replicate N true := by
    intro l hl hr
    apply Array.ext (by simp [hl])
    intro i h1 h2
    simp only [Array.getElem_replicate]
    cases hx : l[i] with
    | true => rfl
    | false =>
      obtain ⟨j, hj⟩ := some_ready (md := md) hsz he hl i (by omega) (by simp [h1, hx])
      rw [hr] at hj; cases hj
  have rlt : ∀ (l : Array Bool), l.size = N → HeadInv md ops N (extL ops.size N l) → (∃ i, i ∈ Region.ready md hd l) → ∀ i ∈ Region.ready md ops (extL ops.size N l), i < N := by
    intro l hl inv ⟨j, hj⟩ i hi
    rcases Nat.lt_or_ge i N with h | h
    · exact h
    · have hjN : j < N := by obtain ⟨_, o, ho, _⟩ := mem_ready.1 hj; have := (Array.getElem?_eq_some_iff.1 ho).1; omega
      have := (mem_ready.1 hj).1
      exact absurd hi (tail_waits hs hc hlt inv _ j rfl hjN (by rw [extL_lo hl j hjN]; exact this) i h)
  induction f with
  | zero =>
    intro l a w hl inv hw h
    rw [allT l hl h.1]
    exact wpAny_more' 0 (hbase a w hw h.2)
  | succ f ih =>
    intro l a w hl inv hw h
    by_cases hr : Region.ready md hd l = []
    · rw [allT l hl hr]
      exact wpAny_more' _ (hbase a w hw (h.1 hr))
    · have hex : ∃ i, i ∈ Region.ready md hd l := by
        cases hq : Region.ready md hd l with
        | nil => exact absurd hq hr
        | cons i _ => exact ⟨i, by simp⟩
      rw [show f + 1 + g = (f + g) + 1 by omega]
      refine ⟨fun h0 => ?_, fun i hi => ?_⟩
      · obtain ⟨j, hj⟩ := hex
        have hjN : j < N := by obtain ⟨_, o, ho, _⟩ := mem_ready.1 hj; have := (Array.getElem?_eq_some_iff.1 ho).1; omega
        have := (head_ready hsz hN he hl hjN).2 hj
        rw [h0] at this; cases this
      · have hiN := rlt l hl inv hex i hi
        have hi' := (head_ready hsz hN he hl hiN).1 hi
        have hq := h.2 i hi'
        have inv' := inv.set hi hiN
        rw [extL_set hl i hiN] at inv' ⊢
        unfold qOp at hq
        unfold wpOp
        rw [← hN i hiN]
        cases ho : hd[i]? with
        | none => simp only [ho] at hq; exact ih _ _ _ (by simpa using hl) inv' hw hq
        | some o =>
          simp only [ho] at hq
          dsimp only
          rw [← guard_lt hsz hg ho a.tmps hN]
          split
          · rename_i hwt
            simp only [hwt, if_true] at hq
            exact .inl (Oper.wp_of_quiet hw (fun a' w' hw' k => ih _ _ _ (by simpa using hl) inv' hw' k) hq)
          · rename_i hwt
            simp only [hwt] at hq
            exact ih _ _ _ (by simpa using hl) inv' hw hq

/-- The checks, in one word. -/
def calmTailB (l : List Oper) (n : Nat) : Bool :=
  decide (n < l.length) && Region.lexB .any (l.take n).toArray && earlierB .any (l.take n).toArray && guardsB (l.take n).toArray && Region.sinkB .any l.toArray n && Region.chainB .any l.toArray n &&
  Region.seqB .any l.toArray (l.length - n) n (extL l.length n (Array.replicate n true))

theorem wp_region_calm_tail {id : Nat} {a : Act} {w : World} {l : List Oper} (n : Nat) (hm : P.follows .mixedOrders = true) (hB : calmTailB l n = true)
    (h : wpQuiet P (l.take n).toArray (fun w' => ∃ u, w' = aft w u) (fun a' => ∀ u, w.heap.size ≤ (aft w u).heap.size → wpList P l.toArray Q (l.drop n) a' (aft w u)) (l.take n) a) : (Code.region id l.toArray true).wp P Q a w := by
  simp only [calmTailB, Bool.and_eq_true, decide_eq_true_eq] at hB
  obtain ⟨⟨⟨⟨⟨⟨hlt, hlex⟩, he⟩, hg⟩, hs⟩, hc⟩, hseq⟩ := hB
  have htl : (l.take n).length = n := by simp; omega
  have hsz : (l.take n).toArray.size = n := by simpa using htl
  have hN : ∀ i, i < n → (l.take n).toArray[i]? = l.toArray[i]? := fun i hi => by simp [hi]
  have hszl : l.toArray.size = l.length := by simp
  refine wp_region_any hm ?_
  have inv0 : HeadInv .any l.toArray n (extL l.toArray.size n (Array.replicate n false)) := by
    have e : extL l.toArray.size n (Array.replicate n false) = Array.replicate l.toArray.size false := by
      apply Array.ext'
      simp only [extL, Array.toList_replicate, List.replicate_append_replicate, List.size_toArray]
      congr 1; omega
    rw [e]
    exact ⟨by simp, fun j oj _ hl => (by rw [getD_replicate_false] at hl; cases hl), fun t _ ht => getD_in (by simpa using ht) (getD_replicate_false _ _)⟩
  have hQ : wpAnyQ P .any (l.take n).toArray (fun w' => ∃ u, w' = aft w u) (fun a' => ∀ u, w.heap.size ≤ (aft w u).heap.size → wpList P l.toArray Q (l.drop n) a' (aft w u)) n (Array.replicate n false) a := by
    simp only [Region.lexB, Bool.and_eq_true] at hlex
    have h1 := wpAnyQ_lex (P := P) (C := fun w' => ∃ u, w' = aft w u) (md := .any) (Q := fun a' => ∀ u, w.heap.size ≤ (aft w u).heap.size → wpList P l.toArray Q (l.drop n) a' (aft w u)) hlex.1 (l.take n) 0 (Array.replicate n false) a (by simp) (by
      have := hlex.2
      rw [hsz] at this
      rw [htl]; exact this) h
    rw [htl] at h1
    exact h1
  have H := head_any (P := P) (C := fun w' => ∃ u, w' = aft w u) (Q := Q) (g := l.length - n) hsz hN (by rw [hszl]; exact hlt) he hg hs hc (fun a' w' ⟨u, hu⟩ hT => by
    subst hu
    have := wpAny_of_seq (md := .any) (Q' := Q) (l.drop n) n (extL l.toArray.size n (Array.replicate n true)) a' (aft w u) (fun j => by simp [List.getElem?_drop]) (by rw [hszl, List.length_drop]; exact hseq) (hT u (size_aft w u))
    rwa [List.length_drop] at this)
    n (Array.replicate n false) a { w with drawn := w.drawn + 1 } (by simp) inv0 (aft_ex (Below.drew (Below.refl w.heap.size w))) hQ
  have e : extL l.toArray.size n (Array.replicate n false) = Array.replicate l.toArray.size false := by
    apply Array.ext'
    simp only [extL, Array.toList_replicate, List.replicate_append_replicate, List.size_toArray]
    congr 1; omega
  rw [e] at H
  rwa [show n + (l.length - n) = l.toArray.size by simp; omega] at H
end
end Go.Proofs.Ytdeehgcabnoclaa
