/- As B4, with ONE new block that may be made at any time: 'a, b := f(g(x), h(y))' where a is a struct in memory. -/
import Derived.Test.YtdeehgcabnoclaaB4
namespace Go.Proofs.Ytdeehgcabnoclaa
open Go Go.RowKit

/-- u, where u is W with new blocks, block b one of them and holding just Z. -/
def okZ (W : World) (b : Nat) (Z : Obj) (u : World) : Prop := Below W.heap.size W u ∧ W.heap.size ≤ b ∧ u.heap[b]? = some Z
def padZ (W : World) (b : Nat) (Z : Obj) : World := { W with heap := (W.heap.toList ++ List.replicate (b + 1 - W.heap.size) Z).toArray }
open Classical in
noncomputable def aftZ (W : World) (b : Nat) (Z : Obj) (u : World) : World := if okZ W b Z u then u else padZ W b Z
theorem below_padZ (W : World) (b : Nat) (Z : Obj) : Below W.heap.size W (padZ W b Z) := by
  refine ⟨rfl, rfl, rfl, by simp [padZ], fun k hk => ?_⟩
  simp only [padZ, List.getElem?_toArray]
  rw [List.getElem?_append_left (by simpa using hk)]
  simp
theorem padZ_at (W : World) (b : Nat) (Z : Obj) (h : W.heap.size ≤ b) : (padZ W b Z).heap[b]? = some Z := by
  simp only [padZ, List.getElem?_toArray]
  rw [List.getElem?_append_right (by simpa using h), List.getElem?_replicate, if_pos (by simp; omega)]
theorem below_aftZ (W : World) (b : Nat) (Z : Obj) (u : World) : Below W.heap.size W (aftZ W b Z u) := by
  unfold aftZ; split
  · rename_i h; exact h.1
  · exact below_padZ _ _ _
theorem aftZ_at (W : World) (b : Nat) (Z : Obj) (u : World) (h : W.heap.size ≤ b) : (aftZ W b Z u).heap[b]? = some Z := by
  unfold aftZ; split
  · rename_i h'; exact h'.2.2
  · exact padZ_at _ _ _ h
theorem aftZ_ex {W w : World} {b : Nat} {Z : Obj} (h : okZ W b Z w) : ∃ u, w = aftZ W b Z u := ⟨w, by unfold aftZ; rw [if_pos h]⟩
theorem size_aftZ (W : World) (b : Nat) (Z : Obj) (u : World) : W.heap.size ≤ (aftZ W b Z u).heap.size := (below_aftZ W b Z u).size
theorem lt_aftZ (W : World) (b : Nat) (Z : Obj) (u : World) (h : W.heap.size ≤ b) : b < (aftZ W b Z u).heap.size := (Array.getElem?_eq_some_iff.1 (aftZ_at W b Z u h)).1
noncomputable def nwCZ (W : World) (b : Nat) (Z : Obj) (u : World) (b' o : Nat) : Option Value := (aftZ W b Z u).cell? ⟨b', o, none⟩
noncomputable def nwFZ (W : World) (b : Nat) (Z : Obj) (u : World) (b' o : Nat) : Bool := (aftZ W b Z u).frozen? ⟨b', o, none⟩
theorem aftZ_cell (W : World) (b : Nat) (zs : Array Value) (T : TypeId) (u : World) (b' o : Nat) :
    (aftZ W b (.cells zs T) u).cell? ⟨b', o, none⟩ = if b' < W.heap.size then W.cell? ⟨b', o, none⟩ else if b' = b then zs[o]? else nwCZ W b (.cells zs T) u b' o := by
  split
  · exact (below_aftZ W b _ u).cell (p := ⟨b', o, none⟩) ‹_›
  · split
    · rename_i h1 h2
      subst h2
      have := aftZ_at W b' (.cells zs T) u (by omega)
      simp [World.cell?, this]
    · rfl
theorem aftZ_frozen (W : World) (b : Nat) (zs : Array Value) (T : TypeId) (u : World) (b' o : Nat) :
    (aftZ W b (.cells zs T) u).frozen? ⟨b', o, none⟩ = if b' < W.heap.size then W.frozen? ⟨b', o, none⟩ else if b' = b then false else nwFZ W b (.cells zs T) u b' o := by
  split
  · exact (below_aftZ W b _ u).frozen (p := ⟨b', o, none⟩) ‹_›
  · split
    · rename_i h1 h2
      subst h2
      have := aftZ_at W b' (.cells zs T) u (by omega)
      simp [World.frozen?, this]
    · rfl
attribute [go_sem] aftZ_cell aftZ_frozen
theorem Ext.aftZ {B : Nat} {w W : World} (h : Ext B w W) (b : Nat) (Z : Obj) (u : World) : Ext B w (aftZ W b Z u) := ⟨h.1.trans ((below_aftZ W b Z u).mono h.2), Nat.le_trans h.2 (size_aftZ _ _ _ _)⟩

/-- The class of worlds of the walk: before the block is made, and behind. -/
noncomputable def aftS (W : World) (S : Option Nat) (Z : Obj) (u : World) : World := match S with | none => aft W u | some b => aftZ W b Z u
theorem below_aftS (W : World) (S : Option Nat) (Z : Obj) (u : World) : Below W.heap.size W (aftS W S Z u) := by
  cases S
  · exact below_aft W u
  · exact below_aftZ W _ Z u
noncomputable def nwCS (W : World) (S : Option Nat) (Z : Obj) (u : World) (b' o : Nat) : Option Value := (aftS W S Z u).cell? ⟨b', o, none⟩
noncomputable def nwFS (W : World) (S : Option Nat) (Z : Obj) (u : World) (b' o : Nat) : Bool := (aftS W S Z u).frozen? ⟨b', o, none⟩
theorem aftS_cell (W : World) (S : Option Nat) (Z : Obj) (u : World) (b' o : Nat) : (aftS W S Z u).cell? ⟨b', o, none⟩ = if b' < W.heap.size then W.cell? ⟨b', o, none⟩ else nwCS W S Z u b' o := by
  split
  · exact (below_aftS W S Z u).cell (p := ⟨b', o, none⟩) ‹_›
  · rfl
theorem aftS_frozen (W : World) (S : Option Nat) (Z : Obj) (u : World) (b' o : Nat) : (aftS W S Z u).frozen? ⟨b', o, none⟩ = if b' < W.heap.size then W.frozen? ⟨b', o, none⟩ else nwFS W S Z u b' o := by
  split
  · exact (below_aftS W S Z u).frozen (p := ⟨b', o, none⟩) ‹_›
  · rfl
attribute [go_sem] aftS_cell aftS_frozen
def clsS (W : World) (Z : Obj) (S : Option Nat) (w' : World) : Prop := ∃ u, w' = aftS W S Z u ∧ (∀ b, S = some b → W.heap.size ≤ b)
theorem clsS_grow {W w w' : World} {Z : Obj} {S : Option Nat} (h : clsS W Z S w) (hb : Below w.heap.size w w') : clsS W Z S w' := by
  obtain ⟨u, rfl, hS⟩ := h
  cases S with
  | none =>
    obtain ⟨u', hu'⟩ := aft_ex ((below_aft W u).trans (Below.mono hb (size_aft W u)))
    exact ⟨u', hu', hS⟩
  | some b =>
    have h1 := hS b rfl
    obtain ⟨u', hu'⟩ := aftZ_ex (W := W) (b := b) (Z := Z) (w := w') ⟨(below_aftZ W b Z u).trans (Below.mono hb (size_aftZ W b Z u)), h1, by rw [hb.block b (lt_aftZ W b Z u h1)]; exact aftZ_at W b Z u h1⟩
    exact ⟨u', hu', hS⟩
theorem calmS {P : Program} {f : FuncId} {args : Array Value} {W u : World} {Z : Obj} {S : Option Nat} {v : Value} (hS : ∀ b, S = some b → W.heap.size ≤ b)
    (h : Calls P f args (aftS W S Z u) fun e w' => e = .returned v ∧ Below (aftS W S Z u).heap.size (aftS W S Z u) w') : Calls P f args (aftS W S Z u) fun e w'' => e = .returned v ∧ ∃ u', w'' = aftS W S Z u' :=
  h.mono fun _ _ ⟨he, hb⟩ => ⟨he, by obtain ⟨u', h1, _⟩ := clsS_grow ⟨u, rfl, hS⟩ hb; exact ⟨u', h1⟩⟩

section
variable {P : Program} {md : Region.Mode} {ops hd : Array Oper} {Q : Exit → Act → World → Prop} {k : Nat} {al : Oper}

theorem qOp_put' {C : World → Prop} {j : Nat} {oj : Oper} {v : Value} (hj : hd[j]? = some oj) (hap : al.apart hd oj = true) (hsj : ∀ cs b, oj.op ≠ .select cs b) {K K' : Act → Prop} {a : Act}
    (hK : ∀ a, K a → K' (a.put al.dst v)) (h : qOp P hd C j K a) : qOp P hd C j K' (a.put al.dst v) := by
  obtain ⟨h1, h2, h3⟩ := Oper.apart_spec hap
  unfold qOp at *
  simp only [hj] at *
  rw [wanted_put oj a al.dst v h1]
  split
  · rename_i hw
    simp only [hw, if_true] at h
    obtain ⟨u, hu, hn⟩ := h
    refine ⟨u, fun w hw' => ?_, ?_⟩
    · have := hu w hw'
      unfold Oper.quietAt at *
      rwa [execOp_put oj hsj a al.dst v h1]
    · rw [Act.put_comm a v u h2]; exact hK _ hn
  · rename_i hw
    simp only [hw] at h
    rw [Act.put_comm a v undef h2]; exact hK _ h

theorem wpAnyQ_put {C : World → Prop} {T : Act → Prop} {v : Value} (hap : ∀ (j : Nat) (oj : Oper), hd[j]? = some oj → al.apart hd oj = true) (hsel : ∀ (j : Nat) (o : Oper) cs b, hd[j]? = some o → o.op ≠ .select cs b) :
    ∀ (f : Nat) (l : Array Bool) (a : Act), wpAnyQ P md hd C T f l a → wpAnyQ P md hd C (fun a' => ∃ a0, a' = a0.put al.dst v ∧ T a0) f l (a.put al.dst v) := by
  intro f
  induction f with
  | zero => intro l a h; exact ⟨h.1, a, rfl, h.2⟩
  | succ f ih =>
    intro l a h
    refine ⟨fun h0 => ⟨a, rfl, h.1 h0⟩, fun i hi => ?_⟩
    obtain ⟨_, o, ho, _⟩ := mem_ready.1 hi
    exact qOp_put' ho (hap i o ho) (fun cs b => hsel i o cs b ho) (fun a' h' => ih _ _ h') (h.2 i hi)

def extA (n k : Nat) (fl : Bool) (l : Array Bool) : Array Bool := (l.toList ++ fl :: List.replicate (n - k - 1) false).toArray
theorem extA_lo {n k : Nat} {fl : Bool} {l : Array Bool} (h : l.size = k) (i : Nat) (hi : i < k) (d : Bool) : (extA n k fl l).getD i d = l.getD i d := by
  simp only [extA, Array.getD_eq_getD_getElem?, List.getElem?_toArray]
  rw [List.getElem?_append_left (by simpa [h] using hi)]
  simp
theorem extA_at {n k : Nat} {fl : Bool} {l : Array Bool} (h : l.size = k) (d : Bool) : (extA n k fl l).getD k d = fl := by
  simp only [extA, Array.getD_eq_getD_getElem?, List.getElem?_toArray]
  rw [List.getElem?_append_right (by simp [h])]
  simp [h]
theorem extA_set {n k : Nat} {fl : Bool} {l : Array Bool} (h : l.size = k) (i : Nat) (hi : i < k) : (extA n k fl l).setIfInBounds i true = extA n k fl (l.setIfInBounds i true) := by
  simp only [extA, List.setIfInBounds_toArray]
  rw [List.set_append_left _ _ (by simpa [h] using hi)]
  simp
theorem extA_flag {n k : Nat} {l : Array Bool} (h : l.size = k) : (extA n k false l).setIfInBounds k true = extA n k true l := by
  simp only [extA, List.setIfInBounds_toArray]
  rw [List.set_append_right _ _ (by simp [h])]
  simp [h]

theorem head_readyA (hsz : hd.size = k) (hN : ∀ i, i < k → hd[i]? = ops[i]?) (he : earlierB md hd = true) {fl : Bool} {l : Array Bool} (hl : l.size = k) {i : Nat} (hi : i < k) :
    i ∈ Region.ready md ops (extA ops.size k fl l) ↔ i ∈ Region.ready md hd l := by
  rw [mem_ready, mem_ready, extA_lo hl i hi, hN i hi]
  have key : ∀ o, ops[i]? = some o → ∀ e ∈ o.after, Region.binds md e = true → e.on < i := by
    intro o ho e hem hb
    have h3 := List.all_eq_true.1 he i (List.mem_range.2 (by omega))
    rw [hN i hi, ho] at h3
    have h4 := List.all_eq_true.1 h3 e (by simpa using hem)
    simpa only [hb, Bool.not_true, Bool.false_or, decide_eq_true_eq] using h4
  constructor
  · rintro ⟨h1, o, ho, h2⟩
    refine ⟨h1, o, ho, fun e hem hb => ?_⟩
    have := h2 e hem hb
    rwa [extA_lo hl e.on (by have := key o ho e hem hb; omega)] at this
  · rintro ⟨h1, o, ho, h2⟩
    refine ⟨h1, o, ho, fun e hem hb => ?_⟩
    rw [extA_lo hl e.on (by have := key o ho e hem hb; omega)]
    exact h2 e hem hb

theorem all_listed (hsz : hd.size = k) (he : earlierB md hd = true) {l : Array Bool} (hl : l.size = k) (hr : Region.ready md hd l = []) : l = Array.replicate k true := by
  apply Array.ext (by simp [hl])
  intro i h1 h2
  simp only [Array.getElem_replicate]
  cases hx : l[i] with
  | true => rfl
  | false =>
    obtain ⟨j, hj⟩ := some_ready (md := md) hsz he hl i (by omega) (by simp [h1, hx])
    rw [hr] at hj; cases hj

theorem ready_ltA (hsz : hd.size = k) (hlt : k + 1 < ops.size) (hs : Region.sinkB md ops (k + 1) = true) (hc : Region.chainB md ops (k + 1) = true)
    {fl : Bool} {l : Array Bool} (hl : l.size = k) (inv : HeadInv md ops (k + 1) (extA ops.size k fl l)) (hex : fl = false ∨ ∃ i, i ∈ Region.ready md hd l) : ∀ i ∈ Region.ready md ops (extA ops.size k fl l), i < k + 1 := by
  intro i hi
  rcases Nat.lt_or_ge i (k + 1) with h | h
  · exact h
  · rcases hex with rfl | ⟨j, hj⟩
    · exact absurd hi (tail_waits hs hc hlt inv _ k rfl (by omega) (extA_at hl true) i h)
    · have hjN : j < k := by obtain ⟨_, o, ho, _⟩ := mem_ready.1 hj; have := (Array.getElem?_eq_some_iff.1 ho).1; omega
      exact absurd hi (tail_waits hs hc hlt inv _ j rfl (by omega) (by rw [extA_lo hl j hjN]; exact (mem_ready.1 hj).1) i h)

/-- Behind the new block. -/
theorem any_behind (hsz : hd.size = k) (hN : ∀ i, i < k → hd[i]? = ops[i]?) (hlt : k + 1 < ops.size) (he : earlierB md hd = true) (hg : guardsB hd = true)
    (hs : Region.sinkB md ops (k + 1) = true) (hc : Region.chainB md ops (k + 1) = true) {g : Nat} {C : World → Prop} {T : Act → Prop}
    (hbase : ∀ a w, C w → T a → wpAny P md ops Q g (extA ops.size k true (Array.replicate k true)) a w) :
    ∀ (f : Nat) (l : Array Bool) (a : Act) (w : World), l.size = k → HeadInv md ops (k + 1) (extA ops.size k true l) → C w → wpAnyQ P md hd C T f l a → wpAny P md ops Q (f + g) (extA ops.size k true l) a w := by
  intro f
  induction f with
  | zero =>
    intro l a w hl inv hw h
    rw [all_listed hsz he hl h.1]
    exact wpAny_more' 0 (hbase a w hw h.2)
  | succ f ih =>
    intro l a w hl inv hw h
    by_cases hr : Region.ready md hd l = []
    · rw [all_listed hsz he hl hr]
      exact wpAny_more' _ (hbase a w hw (h.1 hr))
    · have hex : ∃ i, i ∈ Region.ready md hd l := by
        cases hq : Region.ready md hd l with
        | nil => exact absurd hq hr
        | cons i _ => exact ⟨i, by simp⟩
      rw [show f + 1 + g = (f + g) + 1 by omega]
      refine ⟨fun h0 => ?_, fun i hi => ?_⟩
      · obtain ⟨j, hj⟩ := hex
        have hjN : j < k := by obtain ⟨_, o, ho, _⟩ := mem_ready.1 hj; have := (Array.getElem?_eq_some_iff.1 ho).1; omega
        have := (head_readyA (fl := true) hsz hN he hl hjN).2 hj
        rw [h0] at this; cases this
      · have hiN := ready_ltA hsz hlt hs hc hl inv (.inr hex) i hi
        have hik : i < k := by
          rcases Nat.lt_or_ge i k with h' | h'
          · exact h'
          · obtain rfl : i = k := by omega
            have := (mem_ready.1 hi).1
            rw [extA_at hl] at this; cases this
        have hi' := (head_readyA hsz hN he hl hik).1 hi
        have hq := h.2 i hi'
        have inv' := inv.set hi hiN
        rw [extA_set hl i hik] at inv' ⊢
        unfold qOp at hq
        unfold wpOp
        rw [← hN i hik]
        cases ho : hd[i]? with
        | none => simp only [ho] at hq; exact ih _ _ _ (by simpa using hl) inv' hw hq
        | some o =>
          simp only [ho] at hq
          dsimp only
          rw [← guard_lt hsz hg ho a.tmps hN]
          split
          · rename_i hwt
            simp only [hwt, if_true] at hq
            exact .inl (Oper.wp_of_quiet hw (fun a' w' hw' k' => ih _ _ _ (by simpa using hl) inv' hw' k') hq)
          · rename_i hwt
            simp only [hwt] at hq
            exact ih _ _ _ (by simpa using hl) inv' hw hq

/-- Each slot is written once. -/
def dstB (hd : Array Oper) : Bool := (List.range hd.size).all fun i => (List.range hd.size).all fun j => decide (i = j) || (match hd[i]?, hd[j]? with
  | some x, some y => x.dst.isNone || x.dst != y.dst
  | _, _ => true)
theorem dstB_spec (h : dstB hd = true) {i j : Nat} {x y : Oper} (hi : hd[i]? = some x) (hj : hd[j]? = some y) (hne : i ≠ j) {d : Tmp} (hd' : x.dst = some d) : y.dst ≠ some d := by
  have hi' := (Array.getElem?_eq_some_iff.1 hi).1
  have hj' := (Array.getElem?_eq_some_iff.1 hj).1
  have h1 := List.all_eq_true.1 (List.all_eq_true.1 h i (List.mem_range.2 hi')) j (List.mem_range.2 hj')
  rw [hi, hj] at h1
  simp [hne, hd'] at h1
  exact fun e => h1 e.symm
theorem put_other (a : Act) (y : Option Tmp) (u : Value) (d : Tmp) (h : y ≠ some d) : (a.put y u).tmps[d]? = a.tmps[d]? := by
  cases y with
  | none => rfl
  | some e =>
    simp only [Act.put]
    rw [Array.getElem?_setIfInBounds_ne (by intro e'; exact h (by rw [e']))]
theorem keepSlot {C : World → Prop} {aF : Act} (hdst : dstB hd = true) {i : Nat} {o : Oper} {d : Tmp} (ho : hd[i]? = some o) (hd' : o.dst = some d) :
    ∀ (f : Nat) (l : Array Bool) (a : Act), l.size = k → l.getD i true = true → wpAnyQ P md hd C (fun a' => a' = aF) f l a → aF.tmps[d]? = a.tmps[d]? := by
  intro f
  induction f with
  | zero => intro l a _ _ h; rw [h.2]
  | succ f ih =>
    intro l a hl hli h
    cases hr : Region.ready md hd l with
    | nil => rw [h.1 hr]
    | cons j _ =>
      have hj : j ∈ Region.ready md hd l := by rw [hr]; simp
      obtain ⟨hun, oj, hoj, _⟩ := mem_ready.1 hj
      have hne : i ≠ j := by intro e; subst e; rw [hli] at hun; cases hun
      obtain ⟨v, _, hK⟩ := yieldsIn_of_qOp hoj (h.2 j hj)
      have h1 := ih _ _ (by simpa using hl) (by
        simp only [Array.getD_eq_getD_getElem?] at hli ⊢
        rw [Array.getElem?_setIfInBounds_ne (Ne.symm hne)]; exact hli) hK
      rw [h1, put_other a oj.dst v d (dstB_spec hdst ho hoj hne hd')]
theorem put_same (a : Act) (d : Tmp) (u v : Value) (h : (a.put (some d) u).tmps[d]? = (a.put (some d) v).tmps[d]?) : a.put (some d) u = a.put (some d) v := by
  simp only [Act.put] at h ⊢
  congr 1
  by_cases hlt : d < a.tmps.size
  · simp [hlt] at h; rw [h]
  · rw [Array.setIfInBounds_eq_of_size_le (Nat.le_of_not_lt hlt), Array.setIfInBounds_eq_of_size_le (Nat.le_of_not_lt hlt)]

/-- Ahead of the new block. -/
theorem any_ahead (hsz : hd.size = k) (hN : ∀ i, i < k → hd[i]? = ops[i]?) (hal : ops[k]? = some al) (hlt : k + 1 < ops.size) (he : earlierB md hd = true) (he2 : ∀ e ∈ al.after, Region.binds md e = true → e.on < k) (hg : guardsB hd = true)
    (hgal : al.guard = none) (hdst : dstB hd = true) (hap : ∀ (j : Nat) (oj : Oper), hd[j]? = some oj → al.apart hd oj = true) (hsel : ∀ (j : Nat) (o : Oper) cs b, hd[j]? = some o → o.op ≠ .select cs b)
    (hs : Region.sinkB md ops (k + 1) = true) (hc : Region.chainB md ops (k + 1) = true) {g : Nat} {W : World} {Z : Obj} {aF : Act}
    (hrun : ∀ (a : Act) (w : World), (execOp a.eval al).run P w = .ok (.value (.pointer (some ⟨w.heap.size, 0, none⟩))) (w.alloc Z))
    (hbase : ∀ b, W.heap.size ≤ b → ∀ a w, clsS W Z (some b) w → (∃ a0, a = a0.put al.dst (.pointer (some ⟨b, 0, none⟩)) ∧ a0 = aF) → wpAny P md ops Q g (extA ops.size k true (Array.replicate k true)) a w) :
    ∀ (f : Nat) (l : Array Bool) (a : Act) (w : World), l.size = k → HeadInv md ops (k + 1) (extA ops.size k false l) → clsS W Z none w → (∀ S, (∀ b, S = some b → W.heap.size ≤ b) → wpAnyQ P md hd (clsS W Z S) (fun a' => a' = aF) f l a) → wpAny P md ops Q (f + 1 + g) (extA ops.size k false l) a w := by
  have step : ∀ (f : Nat) (l : Array Bool) (a : Act) (w : World), l.size = k → HeadInv md ops (k + 1) (extA ops.size k true l) → clsS W Z none w → (∀ S, (∀ b, S = some b → W.heap.size ≤ b) → wpAnyQ P md hd (clsS W Z S) (fun a' => a' = aF) f l a) →
      wpOp P ops Q k (wpAny P md ops Q (f + g) (extA ops.size k true l)) a w := by
    intro f l a w hl inv hw h
    unfold wpOp
    rw [hal]
    dsimp only
    have hwt : Region.wanted al (yielded ops a.tmps) = true := by unfold Region.wanted; rw [hgal]
    rw [if_pos hwt]
    refine .inl ?_
    unfold Oper.wp
    rw [hrun a w]
    simp only [Oper.upon]
    obtain ⟨u, hu, _⟩ := hw
    have hW : W.heap.size ≤ w.heap.size := by rw [hu]; exact size_aft W u
    have hC : clsS W Z (some w.heap.size) (w.alloc Z) := by
      obtain ⟨u', hu'⟩ := aftZ_ex (W := W) (b := w.heap.size) (Z := Z) (w := w.alloc Z)
        ⟨Below.alloc (by rw [hu]; exact below_aft W u) hW Z, hW, by show (w.heap.push Z)[w.heap.size]? = some Z; simp⟩
      exact ⟨u', hu', fun b hb => by injection hb with hb; omega⟩
    exact any_behind (P := P) (Q := Q) (C := clsS W Z (some w.heap.size)) (T := fun a' => ∃ a0, a' = a0.put al.dst (.pointer (some ⟨w.heap.size, 0, none⟩)) ∧ a0 = aF) hsz hN hlt he hg hs hc
      (fun a' w' hw' hT => hbase w.heap.size hW a' w' hw' hT) f l _ _ hl inv hC (wpAnyQ_put hap hsel f l a (h (some w.heap.size) (fun b hb => by injection hb with hb; omega)))
  intro f
  have hnone : ∀ b : Nat, (none : Option Nat) = some b → W.heap.size ≤ b := fun b hb => by cases hb
  have kready : ∀ l : Array Bool, l.size = k → Region.ready md hd l = [] → k ∈ Region.ready md ops (extA ops.size k false l) := by
    intro l hl hr
    have := all_listed hsz he hl hr
    refine mem_ready.2 ⟨extA_at hl true, al, hal, fun e hem hb => ?_⟩
    have h1 := he2 e hem hb
    rw [extA_lo hl e.on h1, this]
    simp [h1]
  induction f with
  | zero =>
    intro l a w hl inv hw h
    have hr := (h none hnone).1
    rw [show 0 + 1 + g = (0 + g) + 1 by omega]
    refine ⟨fun h0 => (by have := kready l hl hr; rw [h0] at this; cases this), fun i hi => ?_⟩
    have hiN := ready_ltA hsz hlt hs hc hl inv (.inl rfl) i hi
    have hik : i = k := by
      rcases Nat.lt_or_ge i k with h' | h'
      · have := (head_readyA hsz hN he hl h').1 hi; rw [hr] at this; cases this
      · omega
    subst hik
    have inv' := inv.set hi hiN
    rw [extA_flag hl] at inv' ⊢
    exact step 0 l a w hl inv' hw h
  | succ f ih =>
    intro l a w hl inv hw h
    rw [show f + 1 + 1 + g = (f + 1 + g) + 1 by omega]
    refine ⟨fun h0 => ?_, fun i hi => ?_⟩
    · by_cases hr : Region.ready md hd l = []
      · have := kready l hl hr; rw [h0] at this; cases this
      · cases hq : Region.ready md hd l with
        | nil => exact absurd hq hr
        | cons j _ =>
          have hj : j ∈ Region.ready md hd l := by rw [hq]; simp
          have hjN : j < k := by obtain ⟨_, o, ho, _⟩ := mem_ready.1 hj; have := (Array.getElem?_eq_some_iff.1 ho).1; omega
          have := (head_readyA (fl := false) hsz hN he hl hjN).2 hj
          rw [h0] at this; cases this
    · have hiN := ready_ltA hsz hlt hs hc hl inv (.inl rfl) i hi
      rcases Nat.lt_or_ge i k with hik | hik
      · have hi' := (head_readyA hsz hN he hl hik).1 hi
        have inv' := inv.set hi hiN
        rw [extA_set hl i hik] at inv' ⊢
        have hq := (h none hnone).2 i hi'
        have hall : ∀ S, (∀ b, S = some b → W.heap.size ≤ b) → qOp P hd (clsS W Z S) i (wpAnyQ P md hd (clsS W Z S) (fun a' => a' = aF) f (l.setIfInBounds i true)) a := fun S hS => (h S hS).2 i hi'
        obtain ⟨_, o, ho, _⟩ := mem_ready.1 hi'
        unfold wpOp
        rw [← hN i hik, ho]
        dsimp only
        rw [← guard_lt hsz hg ho a.tmps hN]
        by_cases hwt : Region.wanted o (yielded hd a.tmps) = true
        · rw [if_pos hwt]
          refine .inl ?_
          -- the value that it yields is the same in every class
          have hv : ∃ v, (∀ w, clsS W Z none w → o.quietAt P a (clsS W Z none) w v) ∧ ∀ S, (∀ b, S = some b → W.heap.size ≤ b) → wpAnyQ P md hd (clsS W Z S) (fun a' => a' = aF) f (l.setIfInBounds i true) (a.put o.dst v) := by
            have hq0 := hall none hnone
            obtain ⟨v, hy, hK⟩ := yieldsIn_of_qOp ho hq0
            have hli : (l.setIfInBounds i true).getD i true = true := by
              simp [Array.getD_eq_getD_getElem?, hl, hik]
            refine ⟨v, fun w hw => ?_, fun S hS => ?_⟩
            · rcases hy with ⟨_, hy⟩ | ⟨hy, _⟩
              · exact hy w hw
              · rw [hwt] at hy; cases hy
            · obtain ⟨v', hy', hK'⟩ := yieldsIn_of_qOp ho (hall S hS)
              have e : a.put o.dst v = a.put o.dst v' := by
                cases hdo : o.dst with
                | none => rfl
                | some d =>
                  rw [hdo] at hK hK'
                  have h1 := keepSlot hdst ho hdo f _ _ (by simpa using hl) hli hK
                  have h2 := keepSlot hdst ho hdo f _ _ (by simpa using hl) hli hK'
                  exact put_same a d v v' (h1.symm.trans h2)
              rw [e]; exact hK'
          obtain ⟨v, hv1, hv2⟩ := hv
          exact Oper.wp_of_quiet (C := clsS W Z none) (K := fun a' => a' = a.put o.dst v) hw (fun a' w' hw' k' => by subst k'; exact ih _ _ _ (by simpa using hl) inv' hw' hv2) ⟨v, hv1, rfl⟩
        · rw [if_neg hwt]
          refine ih _ _ _ (by simpa using hl) inv' hw (fun S hS => ?_)
          have := hall S hS
          unfold qOp at this
          simp only [ho] at this
          rw [if_neg hwt] at this
          exact this
      · obtain rfl : i = k := by omega
        have inv' := inv.set hi hiN
        rw [extA_flag hl] at inv' ⊢
        have := step (f + 1) l a w hl inv' hw h
        exact this
/-- The checks, in one word: k is the new block's operation. -/
def calmNewB (l : List Oper) (k : Nat) : Bool :=
  decide (k + 1 < l.length) && Region.lexB .any (l.take k).toArray && earlierB .any (l.take k).toArray && guardsB (l.take k).toArray && dstB (l.take k).toArray && Region.sinkB .any l.toArray (k + 1) && Region.chainB .any l.toArray (k + 1) &&
  Region.seqB .any l.toArray (l.length - (k + 1)) (k + 1) (extA l.length k true (Array.replicate k true)) &&
  (match l[k]? with
   | some al => al.guard.isNone && (al.after.toList.all fun e => !Region.binds .any e || decide (e.on < k)) && ((l.take k).all fun o => al.apart (l.take k).toArray o)
   | none => false)

theorem wp_region_calm_new' {id : Nat} {a : Act} {W : World} {l : List Oper} (k : Nat) (Z : Obj) (aF : Act) (al : Oper) (hm : P.follows .mixedOrders = true) (hB : calmNewB l k = true) (hal : l[k]? = some al)
    (hrun : ∀ (a : Act) (w : World), (execOp a.eval al).run P w = .ok (.value (.pointer (some ⟨w.heap.size, 0, none⟩))) (w.alloc Z))
    (h : ∀ S : Option Nat, (∀ b, S = some b → W.heap.size ≤ b) → wpQuiet P (l.take k).toArray (fun w' => ∃ u, w' = aftS W S Z u) (fun a' => a' = aF) (l.take k) a)
    (hT : ∀ b u, W.heap.size ≤ b → b < (aftZ W b Z u).heap.size → wpList P l.toArray Q (l.drop (k + 1)) (aF.put al.dst (.pointer (some ⟨b, 0, none⟩))) (aftZ W b Z u)) : (Code.region id l.toArray true).wp P Q a W := by
  simp only [calmNewB, Bool.and_eq_true, decide_eq_true_eq, hal] at hB
  obtain ⟨⟨⟨⟨⟨⟨⟨⟨hlt, hlex⟩, he⟩, hg⟩, hdst⟩, hs⟩, hc⟩, hseq⟩, ⟨hgal, hdeps⟩, hap⟩ := hB
  have htl : (l.take k).length = k := by simp; omega
  have hsz : (l.take k).toArray.size = k := by simpa using htl
  have hN : ∀ i, i < k → (l.take k).toArray[i]? = l.toArray[i]? := fun i hi => by simp [hi]
  have hszl : l.toArray.size = l.length := by simp
  refine wp_region_any hm ?_
  have hcls : ∀ S : Option Nat, (∀ b, S = some b → W.heap.size ≤ b) → clsS W Z S = (fun w' => ∃ u, w' = aftS W S Z u) := by
    intro S hS
    funext w'
    exact propext ⟨fun ⟨u, hu, _⟩ => ⟨u, hu⟩, fun ⟨u, hu⟩ => ⟨u, hu, hS⟩⟩
  have e : extA l.toArray.size k false (Array.replicate k false) = Array.replicate l.toArray.size false := by
    apply Array.ext'
    simp only [extA, Array.toList_replicate, List.size_toArray]
    rw [← List.replicate_succ, List.replicate_append_replicate]
    congr 1; omega
  have inv0 : HeadInv .any l.toArray (k + 1) (extA l.toArray.size k false (Array.replicate k false)) := by
    rw [e]
    exact ⟨by simp, fun j oj _ hl => (by rw [getD_replicate_false] at hl; cases hl), fun t _ ht => getD_in (by simpa using ht) (getD_replicate_false _ _)⟩
  simp only [Region.lexB, Bool.and_eq_true] at hlex
  have hQ : ∀ S : Option Nat, (∀ b, S = some b → W.heap.size ≤ b) → wpAnyQ P .any (l.take k).toArray (clsS W Z S) (fun a' => a' = aF) k (Array.replicate k false) a := by
    intro S hS
    rw [hcls S hS]
    have h1 := wpAnyQ_lex (P := P) (C := fun w' => ∃ u, w' = aftS W S Z u) (md := .any) (Q := fun a' => a' = aF) hlex.1 (l.take k) 0 (Array.replicate k false) a (by simp) (by
      have := hlex.2
      rw [hsz] at this
      rw [htl]; exact this) (h S hS)
    rw [htl] at h1
    exact h1
  have H := any_ahead (P := P) (md := .any) (hd := (l.take k).toArray) (ops := l.toArray) (Q := Q) (al := al) (k := k) (g := l.length - (k + 1)) (W := W) (Z := Z) (aF := aF) hsz hN (by simpa using hal) (by rw [hszl]; exact hlt) he
    (fun e' hem hb => by
      have := List.all_eq_true.1 hdeps e' (by simpa using hem)
      simpa only [hb, Bool.not_true, Bool.false_or, decide_eq_true_eq] using this)
    hg (by simpa using hgal) hdst (fun j oj hj => List.all_eq_true.1 hap oj (by
      have hj' : j < (l.take k).length := by rw [htl]; have := (Array.getElem?_eq_some_iff.1 hj).1; omega
      have : (l.take k)[j]? = some oj := by simpa using hj
      exact List.mem_of_getElem? this))
    (Region.noSelect_spec hlex.1) hs hc hrun
    (fun b hb a' w' ⟨u, hu, _⟩ ⟨a0, ha, ha0⟩ => by
      subst ha0 ha
      have hu' : w' = aftZ W b Z u := hu
      subst hu'
      have := wpAny_of_seq (md := .any) (Q' := Q) (l.drop (k + 1)) (k + 1) (extA l.toArray.size k true (Array.replicate k true)) (a0.put al.dst (.pointer (some ⟨b, 0, none⟩))) (aftZ W b Z u) (fun j => by simp [List.getElem?_drop]) (by rw [hszl, List.length_drop]; exact hseq) (hT b u hb (lt_aftZ W b Z u hb))
      rwa [List.length_drop] at this)
    k (Array.replicate k false) a { W with drawn := W.drawn + 1 } (by simp) inv0 (by
      obtain ⟨u, hu⟩ := aft_ex (w := W) (w' := { W with drawn := W.drawn + 1 }) (Below.drew (Below.refl W.heap.size W))
      exact ⟨u, hu, fun b hb => by cases hb⟩) hQ
  rw [e] at H
  rwa [show k + 1 + (l.length - (k + 1)) = l.toArray.size by simp; omega] at H
theorem wp_region_calm_new {id : Nat} {a : Act} {W : World} {l : List Oper} (k : Nat) (Z : Obj) (al : Oper) (hm : P.follows .mixedOrders = true) (hB : calmNewB l k = true) (hal : l[k]? = some al)
    (hrun : ∀ (a : Act) (w : World), (execOp a.eval al).run P w = .ok (.value (.pointer (some ⟨w.heap.size, 0, none⟩))) (w.alloc Z))
    (h : ∃ aF, (∀ S : Option Nat, (∀ b, S = some b → W.heap.size ≤ b) → wpQuiet P (l.take k).toArray (fun w' => ∃ u, w' = aftS W S Z u) (fun a' => a' = aF) (l.take k) a) ∧
      ∀ b u, W.heap.size ≤ b → b < (aftZ W b Z u).heap.size → wpList P l.toArray Q (l.drop (k + 1)) (aF.put al.dst (.pointer (some ⟨b, 0, none⟩))) (aftZ W b Z u)) : (Code.region id l.toArray true).wp P Q a W := by
  obtain ⟨aF, h1, h2⟩ := h
  exact wp_region_calm_new' k Z aF al hm hB hal hrun h1 h2
end
end Go.Proofs.Ytdeehgcabnoclaa
