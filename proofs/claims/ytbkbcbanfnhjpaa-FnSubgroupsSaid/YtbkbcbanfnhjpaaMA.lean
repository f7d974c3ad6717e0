/- Several small texts in one: B0 B1 A1 M0 A2 M1 A3 B2 B3 K1 B4 B5 B6 N0 N1 W1 W2 B8 H1 N3 N4 N5 N6 N7 N8 N9 K2 K3 K4 A4 A5 K5 K6 K7 B7 K8 K9 B9 N2. -/
import Derived.Test.YtbkbcbanfnhjpaaRows
import Derived.WalkKit
import Derived.WalkSpells
import Derived.WalkLawsBesides
import Derived.Deep.QuietTactic
import Derived.BigQuiet
import Derived.Deep.RegionWith
import Derived.Deep.DeepFit
import Derived.Deep.DeepMust
import Derived.StillTail
import Derived.Deep.DeepCutAuto
import Derived.Deep.RegionHeld3
import Derived.Deep.AppendSrc
import Derived.Maps.AppendAt
import Derived.Lib.SliceRun
import Derived.Shelf.SlicesG.Delete
import Derived.Shelf.SlicesG.CompactI
import Derived.Shelf.SortM.Plain
import Derived.Shelf.SortM.SortNone
import Derived.Sort.OwnSortedInts
import Derived.Deep.AppendLies
import Derived.Shelf.SlicesG.SearchI
import Derived.Shelf.SlicesG.Turned
import Derived.Shelf.SlicesG.Equal
import Derived.ProofKit
import Derived.OpenShut
import Derived.Lib.SmallJoins
/- Small laws on worlds: 'aft w u' is u where u is w with new blocks and draws, else w. They let a walk see through a call of which only 'Below' is known. -/
namespace Go.Proofs.Ytbkbcbanfnhjpaa
open Go Go.RowKit

theorem hid {p : Prop} (h : p) : Hid p := h

open Classical in
noncomputable def aft (w u : World) : World := if Below w.heap.size w u then u else w

theorem aft_of {w u : World} (h : Below w.heap.size w u) : aft w u = u := by unfold aft; rw [if_pos h]
theorem below_aft (w u : World) : Below w.heap.size w (aft w u) := by
  unfold aft; split
  · assumption
  · exact Below.refl _ _
theorem aft_ex {w w' : World} (h : Below w.heap.size w w') : ∃ u, w' = aft w u := ⟨w', (aft_of h).symm⟩
theorem size_aft (w u : World) : w.heap.size ≤ (aft w u).heap.size := (below_aft w u).size
theorem lt_aft {w u : World} {b : Nat} (h : b < w.heap.size) : b < (aft w u).heap.size := Nat.lt_of_lt_of_le h (size_aft w u)
theorem le_aft {w u : World} {b : Nat} (h : b ≤ w.heap.size) : b ≤ (aft w u).heap.size := Nat.le_trans h (size_aft w u)
/-- What a cell of a block that came later holds: never looked into. -/
noncomputable def nwC (w u : World) (b o : Nat) : Option Value := (aft w u).cell? ⟨b, o, none⟩
noncomputable def nwF (w u : World) (b o : Nat) : Bool := (aft w u).frozen? ⟨b, o, none⟩
theorem aft_cell (w u : World) (b o : Nat) : (aft w u).cell? ⟨b, o, none⟩ = if b < w.heap.size then w.cell? ⟨b, o, none⟩ else nwC w u b o := by
  split
  · exact (below_aft w u).cell (p := ⟨b, o, none⟩) ‹_›
  · rfl
theorem aft_frozen (w u : World) (b o : Nat) : (aft w u).frozen? ⟨b, o, none⟩ = if b < w.heap.size then w.frozen? ⟨b, o, none⟩ else nwF w u b o := by
  split
  · exact (below_aft w u).frozen (p := ⟨b, o, none⟩) ‹_›
  · rfl
theorem alloc_cell (w : World) (c : Array Value) (t : TypeId) (b o : Nat) : (w.alloc (.cells c t)).cell? ⟨b, o, none⟩ = if b = w.heap.size then c[o]? else w.cell? ⟨b, o, none⟩ := by
  split
  · rename_i h; subst h; exact World.cell?_alloc_new w c t o
  · exact World.cell?_alloc_old w _ ⟨b, o, none⟩ ‹_›
theorem alloc_frozen (w : World) (c : Array Value) (t : TypeId) (b o : Nat) : (w.alloc (.cells c t)).frozen? ⟨b, o, none⟩ = if b = w.heap.size then false else w.frozen? ⟨b, o, none⟩ := by
  split
  · rename_i h; subst h; exact World.frozen?_alloc_new w c t o
  · exact World.frozen?_alloc_old w _ ⟨b, o, none⟩ ‹_›
theorem set_cell (w : World) (b o b' o' : Nat) (v : Value) : (w.setCell ⟨b, o, none⟩ v).cell? ⟨b', o', none⟩ = if b = b' ∧ o = o' then (w.cell? ⟨b, o, none⟩).map (fun _ => v) else w.cell? ⟨b', o', none⟩ := by
  split
  · rename_i h
    obtain ⟨rfl, rfl⟩ := h
    cases hc : w.cell? ⟨b, o, none⟩ with
    | none =>
      have e : (w.setCell ⟨b, o, none⟩ v).cell? ⟨b, o, none⟩ = none := by
        unfold World.cell? at hc ⊢
        simp only [World.setCell, Array.getElem?_modify]
        cases hb : w.heap[b]? with
        | none => simp
        | some x => rw [hb] at hc; cases x <;> simp at hc ⊢ <;> omega
      rw [e]; rfl
    | some x => exact World.cell?_setCell_same w _ v hc
  · rename_i h
    refine World.cell?_setCell_other w _ _ v ?_
    intro e
    injection e with e1 e2
    exact h ⟨e1, e2⟩
attribute [go_sem] aft_cell aft_frozen alloc_cell alloc_frozen set_cell

/-- 'Below', and no block has gone: closed under each step of a walk. -/
def Ext (B : Nat) (w W : World) : Prop := Below B w W ∧ B ≤ W.heap.size
theorem Ext.refl (w : World) : Ext w.heap.size w w := ⟨Below.refl _ _, Nat.le_refl _⟩
theorem Ext.alloc {B : Nat} {w W : World} (h : Ext B w W) (o : Obj) : Ext B w (W.alloc o) := ⟨h.1.alloc h.2 o, by have := h.2; simp; omega⟩
theorem Ext.aft {B : Nat} {w W : World} (h : Ext B w W) (u : World) : Ext B w (aft W u) := ⟨h.1.trans ((below_aft W u).mono h.2), le_aft h.2⟩
theorem Ext.drew {B : Nat} {w W : World} (h : Ext B w W) : Ext B w W.drew := ⟨h.1.drew, h.2⟩
theorem Ext.drewN {B : Nat} {w W : World} (h : Ext B w W) (n : Nat) : Ext B w (W.drewN n) := ⟨below_drewN h.1 n, h.2⟩
theorem Ext.setCell {B : Nat} {w W : World} (h : Ext B w W) (b o : Nat) (k : Option Nat) (v : Value) (hb : B ≤ b) : Ext B w (W.setCell ⟨b, o, k⟩ v) := ⟨h.1.setCell (p := ⟨b, o, k⟩) hb v, by have := h.2; simp [World.setCell]; omega⟩
theorem Ext.bel {w W : World} (h : Ext w.heap.size w W) : Below w.heap.size w W := h.1
theorem Ext.below {w W W' : World} (h : Ext w.heap.size w W) (k : Below W.heap.size W W') : Ext w.heap.size w W' := ⟨h.1.trans (k.mono h.2), Nat.le_trans h.2 k.size⟩

/-- A call of which the value is known, and that the world has at most grown. -/
theorem via {P : Program} {f : FuncId} {args : Array Value} {w : World} {v : Value} {R : Ending → World → Prop}
    (h : Calls P f args w fun e w' => e = .returned v ∧ Below w.heap.size w w') (hR : ∀ u, w.heap.size ≤ (aft w u).heap.size → R (.returned v) (aft w u)) : Calls P f args w R :=
  h.mono fun e w' ⟨he, hb⟩ => by subst he; obtain ⟨u, rfl⟩ := aft_ex hb; exact hR u (size_aft w u)
/-- A call of which the value is known, and that the world is as it was. -/
theorem pur {P : Program} {f : FuncId} {args : Array Value} {w : World} {v : Value} {R : Ending → World → Prop}
    (h : Calls P f args w fun e w' => e = .returned v ∧ w = w') (hR : R (.returned v) w) : Calls P f args w R :=
  h.mono fun e w' ⟨he, hb⟩ => by subst he; subst hb; exact hR
/-- The first as the second's weaker form. -/
theorem weak {P : Program} {f : FuncId} {args : Array Value} {w : World} {v : Value}
    (h : Calls P f args w fun e w' => e = .returned v ∧ w = w') : Calls P f args w fun e w' => e = .returned v ∧ Below w.heap.size w w' :=
  h.mono fun e w' ⟨he, hb⟩ => ⟨he, by subst hb; exact Below.refl _ _⟩

/-- A region that draws its order, whose operations read what was there at its beginning, and whose calls at most make memory: ONE walk, in the order of the text. -/
theorem wp_region_calm {P : Program} {id : Nat} {Q : Exit → Act → World → Prop} {a : Act} {w : World} {l : List Oper} (hm : P.follows .mixedOrders = true) (hB : Region.lexB .any l.toArray = true)
    (h : wpQuiet P l.toArray (fun w' => ∃ u, w' = aft w u) (fun a' => ∀ u, w.heap.size ≤ (aft w u).heap.size → Q .normal a' (aft w u)) l a) : (Code.region id l.toArray true).wp P Q a w :=
  wp_region_quiet (C := fun w' => ∃ u, w' = aft w u) hm hB (aft_ex (Below.drew (Below.refl w.heap.size w))) (by
    have e : (fun a' => ∀ u, w.heap.size ≤ (aft w u).heap.size → Q .normal a' (aft w u)) = (fun a' => ∀ w', (∃ u, w' = aft w u) → Q .normal a' w') := by
      funext a'; refine propext ⟨fun k w' ⟨u, hu⟩ => ?_, fun k u _ => k _ ⟨u, rfl⟩⟩
      subst hu; exact k u (size_aft w u)
    rw [e] at h
    simpa using h)
theorem calm {P : Program} {f : FuncId} {args : Array Value} {w u : World} {v : Value}
    (h : Calls P f args (aft w u) fun e w' => e = .returned v ∧ Below (aft w u).heap.size (aft w u) w') : Calls P f args (aft w u) fun e w'' => e = .returned v ∧ ∃ u', w'' = aft w u' :=
  h.mono fun _ _ ⟨he, hb⟩ => ⟨he, aft_ex ((below_aft w u).trans (hb.mono (size_aft w u)))⟩
theorem calmb {P : Program} {f : FuncId} {args : Array Value} {w u : World} {b c : Bool}
    (h : Calls P f args (aft w u) fun e w' => e = .returned (.bool b) ∧ Below (aft w u).heap.size (aft w u) w') (hb : b = c) : Calls P f args (aft w u) fun e w'' => e = .returned (.bool c) ∧ ∃ u', w'' = aft w u' :=
  by subst hb; exact calm h
theorem calmp {P : Program} {f : FuncId} {args : Array Value} {w u : World} {v : Value}
    (h : Calls P f args (aft w u) fun e w' => e = .returned v ∧ aft w u = w') : Calls P f args (aft w u) fun e w'' => e = .returned v ∧ ∃ u', w'' = aft w u' := calm (weak h)
theorem calmpb {P : Program} {f : FuncId} {args : Array Value} {w u : World} {b c : Bool}
    (h : Calls P f args (aft w u) fun e w' => e = .returned (.bool b) ∧ aft w u = w') (hb : b = c) : Calls P f args (aft w u) fun e w'' => e = .returned (.bool c) ∧ ∃ u', w'' = aft w u' := calmb (weak h) hb
end Go.Proofs.Ytbkbcbanfnhjpaa

/- Slices of int64: what a slice reads as; what a call has made. -/
namespace Go.Proofs.Ytbkbcbanfnhjpaa
open Go Go.RowKit

def vI (xs : List Int) : List Value := xs.map (Value.int .i64)
theorem vI_len (xs : List Int) : (vI xs).length = xs.length := by simp [vI]

/-- v owns, from block B on, a row of just these numbers. -/
def ownR (B : Nat) (w : World) (v : Value) (xs : List Int) : Prop := w.ownsRow B 2 1 v xs.length (vI xs)
/-- v reads as these numbers. -/
def rdI (w : World) (v : Value) (xs : List Int) : Prop :=
  ∃ a cap, v = .slice a xs.length cap ∧ xs.length ≤ maxLen ∧ (xs ≠ [] → ∃ b o, a = some ⟨b, o, none⟩ ∧ ∀ i, (h : i < xs.length) → w.cell? ⟨b, o + i, none⟩ = some (.int .i64 xs[i]))

theorem ownR.nil (B : Nat) (w : World) : ownR B w (.slice none 0 0) [] := World.ownsRow_nil _ _ _ _
theorem ownR.kept {B : Nat} {w w' : World} {v : Value} {xs : List Int} (h : ownR B w v xs) (hb : ∀ k, k < w.heap.size → v.ownBlock = some k → w'.heap[k]? = w.heap[k]?) : ownR B w' v xs := by
  unfold ownR at *
  refine ⟨h.1, ?_⟩
  rcases h.2 with hn | ⟨g, cap, cur, rfl, hg, hh, r⟩
  · exact .inl hn
  · have hlt : g < w.heap.size := (Array.getElem?_eq_some_iff.1 hh).1
    exact .inr ⟨g, cap, cur, rfl, hg, by rw [hb g hlt rfl]; exact hh, r⟩
theorem ownR.below {B : Nat} {w w' : World} {v : Value} {xs : List Int} (h : ownR B w v xs) (hb : Below w.heap.size w w') : ownR B w' v xs := h.kept fun k hk _ => hb.block k hk
theorem ownR.alloc {B : Nat} {w : World} {v : Value} {xs : List Int} (h : ownR B w v xs) (o : Obj) : ownR B (w.alloc o) v xs := h.below (Below.alloc (Below.refl _ _) (Nat.le_refl _) o)
theorem ownR.aft {B : Nat} {w : World} {v : Value} {xs : List Int} (h : ownR B w v xs) (u : World) : ownR B (aft w u) v xs := h.below (below_aft w u)
theorem ownR.drew {B : Nat} {w : World} {v : Value} {xs : List Int} (h : ownR B w v xs) : ownR B w.drew v xs := h.below (Below.drew (Below.refl _ _))
theorem ownR.mono {B B' : Nat} {w : World} {v : Value} {xs : List Int} (h : ownR B w v xs) (hB : B' ≤ B) : ownR B' w v xs := by
  refine ⟨h.1, ?_⟩
  rcases h.2 with hn | ⟨g, cap, cur, rfl, hg, r⟩
  · exact .inl hn
  · exact .inr ⟨g, cap, cur, rfl, Nat.le_trans hB hg, r⟩
theorem ownR.setCell {B : Nat} {w : World} {v : Value} {xs : List Int} (h : ownR B w v xs) (b o : Nat) (k : Option Nat) (x : Value) (hb : b < B) : ownR B (w.setCell ⟨b, o, k⟩ x) v xs := by
  refine ownR.kept h fun j _ hj => ?_
  have h1 := World.ownsRow.lt h j hj
  simp only [World.setCell, Array.getElem?_modify]
  rw [if_neg (by show ¬ b = j; omega)]
theorem ownR.rd {B : Nat} {w : World} {v : Value} {xs : List Int} (h : ownR B w v xs) : rdI w v xs := by
  rcases h.2 with ⟨rfl, hn⟩ | ⟨g, cap, cur, rfl, hg, hh, h1, h2, h3⟩
  · have : xs = [] := List.eq_nil_of_length_eq_zero hn
    subst this
    exact ⟨none, 0, rfl, by simp [maxLen], fun h => absurd rfl h⟩
  · refine ⟨_, cap, rfl, by omega, fun _ => ⟨g, 0, rfl, fun i hi => ?_⟩⟩
    have hc := World.ownsRow.cells h (g := g) rfl i (.int .i64 xs[i]) (by simp [vI, hi])
    by_cases h0 : i = 0
    · subst h0; simpa [Addr.add] using hc
    · simpa [Addr.add, h0] using hc
theorem rdI.below {w w' : World} {v : Value} {xs : List Int} (h : rdI w v xs) (hb : Below w.heap.size w w') : rdI w' v xs := by
  obtain ⟨a, cap, rfl, hm, hc⟩ := h
  refine ⟨a, cap, rfl, hm, fun hne => ?_⟩
  obtain ⟨b, o, rfl, hcell⟩ := hc hne
  refine ⟨b, o, rfl, fun i hi => ?_⟩
  have h1 := hcell i hi
  rw [hb.cell (p := ⟨b, o + i, none⟩) (World.block_lt_of_cell? w _ h1)]
  exact h1
theorem rdI.alloc {w : World} {v : Value} {xs : List Int} (h : rdI w v xs) (o : Obj) : rdI (w.alloc o) v xs := h.below (Below.alloc (Below.refl _ _) (Nat.le_refl _) o)
theorem rdI.aft {w : World} {v : Value} {xs : List Int} (h : rdI w v xs) (u : World) : rdI (aft w u) v xs := h.below (below_aft w u)
theorem rdI.drew {w : World} {v : Value} {xs : List Int} (h : rdI w v xs) : rdI w.drew v xs := h.below (Below.drew (Below.refl _ _))
theorem rdI.drewN {w : World} {v : Value} {xs : List Int} (h : rdI w v xs) (n : Nat) : rdI (w.drewN n) v xs := h.below (below_drewN (Below.refl _ _) n)

/-- A call that hands back a new slice. -/
theorem viaI {P : Program} {f : FuncId} {args : Array Value} {w : World} {xs : List Int} {g : Value → Value} {R : Ending → World → Prop}
    (h : Calls P f args w fun e w' => ∃ v, e = .returned (g v) ∧ ownR w.heap.size w' v xs ∧ Below w.heap.size w w')
    (hR : ∀ v u, w.heap.size ≤ (aft w u).heap.size → ownR w.heap.size (aft w u) v xs → R (.returned (g v)) (aft w u)) : Calls P f args w R :=
  h.mono fun e w' ⟨v, he, ho, hb⟩ => by subst he; obtain ⟨u, rfl⟩ := aft_ex hb; exact hR v u (size_aft w u) ho

theorem viaE {P : Program} {f : FuncId} {args : Array Value} {w : World} {xs ys : List Int} {g : Value → Value} {R : Ending → World → Prop}
    (h : Calls P f args w fun e w' => ∃ v, e = .returned (g v) ∧ ownR w.heap.size w' v xs ∧ Below w.heap.size w w') (he : xs = ys)
    (hR : ∀ v u, w.heap.size ≤ (aft w u).heap.size → ownR w.heap.size (aft w u) v ys → R (.returned (g v)) (aft w u)) : Calls P f args w R := by
  subst he; exact viaI h hR

/-- Behind an append to a row of the call's own. -/
theorem grown_aft {W w1 w2 : World} {row : Option Nat} (h : Ext W.heap.size W w1) (hg : w1.grownBy w2 row) (hr : ∀ k, row = some k → W.heap.size ≤ k) : ∃ u, w2 = aft W u :=
  aft_ex (h.1.grown hg h.2 hr)
theorem own_row_ge {B : Nat} {w : World} {v : Value} {xs : List Int} (h : ownR B w v xs) : ∀ k, v.ownBlock = some k → B ≤ k := fun k hk => (World.ownsRow.lt h k hk).1
theorem infoI : (Try.prog.info? 2).map (fun i => (i.zero, i.size, i.bytes)) = some (some (.int .i64 0), 1, 8) := by kernel_rfl
theorem ownR.snoc {B : Nat} {w : World} {v : Value} {xs : List Int} {x : Int} (h : w.ownsRow B 2 1 v (xs.length + 1) (vI xs ++ [.int .i64 x])) : ownR B w v (xs ++ [x]) := by
  unfold ownR; simpa [vI] using h
end Go.Proofs.Ytbkbcbanfnhjpaa

/- Contracts of the smallest number functions. -/
namespace Go.Proofs.Ytbkbcbanfnhjpaa
open Go Go.RowKit

def inB (n a b : Int) : Bool := decide (a ≤ n) && decide (n ≤ b)
theorem inB_t {n a b : Int} (h1 : a ≤ n) (h2 : n ≤ b) : inB n a b = true := by simp [inB, *]
theorem inB_l {n a b : Int} (h1 : n < a) : inB n a b = false := by simp [inB]; intro; omega
theorem inB_r {n a b : Int} (h1 : b < n) : inB n a b = false := by simp [inB]; intro; omega
theorem inB_iff {n a b : Int} : inB n a b = true ↔ a ≤ n ∧ n ≤ b := by simp [inB]

set_option maxHeartbeats 400000 in
theorem i_within (n a b : Int) (w : World) :
    Calls Try.prog 73 #[.int .i64 n, .int .i64 a, .int .i64 b] w fun e w' => e = .returned (.bool (inB n a b)) ∧ w = w' := by
  by_cases h1 : a ≤ n
  · by_cases h2 : n ≤ b
    · rw [inB_t h1 h2]; go_enter Try.func73, Try.ntmps73
      go_wp2
      go_ret
      exact ⟨rfl, rfl⟩
    · rw [inB_r (by omega)]; go_enter Try.func73, Try.ntmps73
      go_wp2
      go_ret
      exact ⟨rfl, rfl⟩
  · rw [inB_l (by omega)]; go_enter Try.func73, Try.ntmps73
    go_wp2
    go_ret
    exact ⟨rfl, rfl⟩

end Go.Proofs.Ytbkbcbanfnhjpaa

/- Plain arithmetic: primes. -/
namespace Go.Proofs.Ytbkbcbanfnhjpaa

def noDivB (n : Int) : Bool := (List.range 1001).all fun d => decide (d < 2) || decide (n < (d : Int) * d) || decide (n % (d : Int) ≠ 0)
/-- A prime number up to 1000000. -/
def primeB (n : Int) : Bool := decide (2 ≤ n) && decide (n ≤ 1000000) && noDivB n
/-- A prime number up to 97. -/
def smallP (n : Int) : Bool := decide (n ≤ 97) && primeB n

theorem noDiv_t {n : Int} {k : Nat} (h : ∀ j : Nat, 2 ≤ j → j < k → n % (j : Int) ≠ 0) (hk : n < (k : Int) * k) : noDivB n = true := by
  unfold noDivB
  rw [List.all_eq_true]
  intro d _
  by_cases h2 : d < 2
  · simp [h2]
  by_cases h3 : n < (d : Int) * d
  · simp [h3]
  have : d < k := by
    rcases Nat.lt_or_ge d k with h4 | h4
    · exact h4
    · have h6 : (k : Int) * k ≤ (d : Int) * d := Int.mul_le_mul (by omega) (by omega) (by omega) (by omega)
      omega
  have h7 := h d (by omega) this
  simp [h7]

theorem noDiv_f {n : Int} {k : Nat} (h2 : 2 ≤ k) (hk : (k : Int) * k ≤ n) (hn : n ≤ 1000000) (hm : n % (k : Int) = 0) : noDivB n = false := by
  unfold noDivB
  rw [List.all_eq_false]
  have hk1 : k < 1001 := by
    rcases Nat.lt_or_ge k 1001 with h | h
    · exact h
    · have h6 : (1001 : Int) * 1001 ≤ (k : Int) * k := Int.mul_le_mul (by omega) (by omega) (by omega) (by omega)
      omega
  refine ⟨k, List.mem_range.2 hk1, ?_⟩
  have a : ¬ k < 2 := by omega
  have b : ¬ n < (k : Int) * k := by omega
  simp [a, b, hm]

theorem sq_bd {k : Nat} (h : k ≤ 1001) : 0 ≤ (k : Int) * k ∧ (k : Int) * k ≤ 1002001 := by
  have h6 : (k : Int) * k ≤ (1001 : Int) * 1001 := Int.mul_le_mul (by omega) (by omega) (by omega) (by omega)
  have h7 : (0 : Int) ≤ (k : Int) * k := Int.mul_nonneg (by omega) (by omega)
  exact ⟨h7, by omega⟩

theorem sq_lt {n : Int} {k : Nat} (hn : n ≤ 1000000) (h : (k : Int) * k ≤ n) : k ≤ 1000 := by
  rcases Nat.lt_or_ge k 1001 with h' | h'
  · omega
  · have h6 : (1001 : Int) * 1001 ≤ (k : Int) * k := Int.mul_le_mul (by omega) (by omega) (by omega) (by omega)
    omega

theorem primeB_out {n : Int} (h : n < 2 ∨ 1000000 < n) : primeB n = false := by
  unfold primeB
  rcases h with h | h
  · have : ¬ 2 ≤ n := by omega
    simp [this]
  · have : ¬ n ≤ 1000000 := by omega
    simp [this]
theorem primeB_in {n : Int} (h1 : 2 ≤ n) (h2 : n ≤ 1000000) : primeB n = noDivB n := by simp [primeB, h1, h2]
theorem smallP_hi {n : Int} (h : 97 < n) : smallP n = false := by
  have : ¬ n ≤ 97 := by omega
  simp [smallP, this]
theorem smallP_lo {n : Int} (h : n ≤ 97) : smallP n = primeB n := by simp [smallP, h]
theorem smallP_bd {n : Int} (h : smallP n = true) : 2 ≤ n ∧ n ≤ 97 := by
  simp [smallP, primeB] at h
  omega
theorem smallP_prime {n : Int} (h : smallP n = true) : primeB n = true := by
  simp [smallP] at h
  exact h.2
theorem smallP_out {n : Int} (h : n < 2 ∨ 97 < n) : smallP n = false := by
  rcases h with h | h
  · by_cases h3 : n ≤ 97
    · rw [smallP_lo h3, primeB_out (.inl h)]
    · exact smallP_hi (by omega)
  · exact smallP_hi h
end Go.Proofs.Ytbkbcbanfnhjpaa

/- Contracts: primes. -/
namespace Go.Proofs.Ytbkbcbanfnhjpaa
open Go Go.RowKit

end Go.Proofs.Ytbkbcbanfnhjpaa

/- Plain arithmetic: powers, remainders, valuations, moduli. -/
namespace Go.Proofs.Ytbkbcbanfnhjpaa

theorem pow_pos' {n : Int} (h : 1 ≤ n) (k : Nat) : 1 ≤ n ^ k := by
  induction k with
  | zero => simp
  | succ k ih => rw [Int.pow_succ]; have := Int.mul_le_mul ih h (by omega) (by omega); omega
theorem pow_mono {n : Int} (h : 1 ≤ n) {a b : Nat} (hab : a ≤ b) : n ^ a ≤ n ^ b := by
  induction hab with
  | refl => exact Int.le_refl _
  | step _ ih =>
    rename_i m _
    rw [Int.pow_succ]
    have h1 := pow_pos' h m
    have := Int.mul_le_mul (Int.le_refl (n ^ m)) h (by omega) (by omega)
    omega
theorem pow_step {n B : Int} {e k : Nat} (h : 1 ≤ n) (hb : n ^ e ≤ B) (hk : k < e) : 1 ≤ n ^ k ∧ n ^ k ≤ B ∧ 1 ≤ n ^ k * n ∧ n ^ k * n ≤ B := by
  have h1 := pow_pos' h k
  have h2 := pow_pos' h (k + 1)
  have h3 := pow_mono h (show k + 1 ≤ e from hk)
  have h4 := pow_mono h (show k ≤ e by omega)
  rw [Int.pow_succ] at h2 h3
  omega

theorem tmod_emod {n m : Int} : (n.tmod m) % m = n % m := by
  rw [Int.tmod_def, show n - m * n.tdiv m = n + m * (-(n.tdiv m)) by rw [Int.mul_neg]; omega, Int.add_mul_emod_self_left]
theorem tmod_bd {n m : Int} (h : 0 < m) : -m < n.tmod m ∧ n.tmod m < m := by
  refine ⟨Int.lt_tmod_of_pos _ h, Int.tmod_lt_of_pos _ h⟩
theorem mod_fix {n m : Int} (_h : 0 < m) : (n.tmod m + m) % m = n % m := by
  rw [Int.add_emod_right, tmod_emod]
theorem tmod_zero_iff {n p : Int} : n.tmod p = 0 ↔ n % p = 0 := by
  rw [← Int.dvd_iff_tmod_eq_zero, Int.dvd_iff_emod_eq_zero]

/-! ### How often p divides n -/
def vlF : Nat → Int → Int → Nat
  | 0, _, _ => 0
  | f + 1, n, p => if n % p = 0 then vlF f (n / p) p + 1 else 0
def vl (n p : Int) : Nat := vlF n.natAbs n p

theorem vlF_eq {p c : Int} (hp : 2 ≤ p) (hc : ¬ c % p = 0) : ∀ (k f : Nat), k ≤ f → vlF f (c * p ^ k) p = k := by
  intro k
  induction k with
  | zero =>
    intro f _
    cases f with
    | zero => rfl
    | succ f => simp only [Int.pow_zero, Int.mul_one, vlF]; rw [if_neg hc]
  | succ k ih =>
    intro f hf
    cases f with
    | zero => omega
    | succ f =>
      have e : c * p ^ (k + 1) = c * p ^ k * p := by rw [Int.pow_succ, Int.mul_assoc]
      simp only [vlF]
      rw [if_pos (by rw [e]; exact Int.mul_emod_left _ _), e, Int.mul_ediv_cancel _ (by omega), ih f (by omega)]
theorem pow_gt (p : Int) (hp : 2 ≤ p) (k : Nat) : (k : Int) < p ^ k := by
  induction k with
  | zero => simp
  | succ k ih =>
    rw [Int.pow_succ]
    have := Int.mul_le_mul (show (k : Int) + 1 ≤ p ^ k by omega) hp (by omega) (by omega)
    omega
theorem vl_eq {n p c : Int} {k : Nat} (hp : 2 ≤ p) (hn : n = c * p ^ k) (hc : ¬ c % p = 0) : vl n p = k := by
  unfold vl
  have h0 : c ≠ 0 := fun h => hc (by rw [h]; simp)
  have h1 := pow_gt p hp k
  have h2 : n.natAbs = c.natAbs * (p ^ k).natAbs := by rw [hn, Int.natAbs_mul]
  have h3 : 1 ≤ c.natAbs := by omega
  have h4 := Nat.mul_le_mul h3 (Nat.le_refl (p ^ k).natAbs)
  have h5 : k ≤ n.natAbs := by omega
  rw [hn] at h5 ⊢
  exact vlF_eq hp hc k _ h5
/-- n is p to the power of vl times something that p does not divide. -/
theorem vl_ex {p : Int} (hp : 2 ≤ p) : ∀ (f : Nat) (n : Int), n ≠ 0 → n.natAbs ≤ f → ∃ (c : Int) (k : Nat), n = c * p ^ k ∧ ¬ c % p = 0 := by
  intro f
  induction f with
  | zero => intro n h0 h; omega
  | succ f ih =>
    intro n h0 hf
    by_cases h : n % p = 0
    · have hd : n = n / p * p := by have := Int.ediv_mul_cancel (Int.dvd_of_emod_eq_zero h); omega
      have h1 : n / p ≠ 0 := fun h' => h0 (by rw [hd, h']; simp)
      have h2 : n.natAbs = (n / p).natAbs * p.natAbs := by rw [← Int.natAbs_mul, ← hd]
      have h3 := Nat.mul_le_mul (Nat.le_refl (n / p).natAbs) (show 2 ≤ p.natAbs by omega)
      obtain ⟨c, k, e, hc⟩ := ih (n / p) h1 (by omega)
      exact ⟨c, k + 1, by rw [Int.pow_succ, ← Int.mul_assoc, ← e]; exact hd, hc⟩
    · exact ⟨n, 0, by simp, h⟩
theorem vl_spec {n p : Int} (hp : 2 ≤ p) (hn : n ≠ 0) : ∃ c, n = c * p ^ vl n p ∧ ¬ c % p = 0 ∧ n / p ^ vl n p = c := by
  obtain ⟨c, k, e, hc⟩ := vl_ex hp n.natAbs n hn (Nat.le_refl _)
  have hk := vl_eq hp e hc
  have h1 := pow_pos' (show 1 ≤ p by omega) k
  rw [hk]
  exact ⟨c, e, hc, by rw [e]; exact Int.mul_ediv_cancel _ (by omega)⟩

/-! ### Moduli -/
def modu (p n : Int) : Int := if p ^ n.toNat ≤ 1000000000 then p ^ n.toNat else 0
/-- A valid ring. -/
def ringB (p n : Int) : Bool := smallP p && (decide (1 ≤ n) && decide (n ≤ 40) && decide (p ^ n.toNat ≤ 1000000000))
theorem ringB_iff {p n : Int} : ringB p n = true ↔ smallP p = true ∧ 1 ≤ n ∧ n ≤ 40 ∧ p ^ n.toNat ≤ 1000000000 := by
  simp [ringB, and_assoc]
theorem modu_ring {p n : Int} (h : ringB p n = true) : modu p n = p ^ n.toNat := by
  unfold modu; rw [if_pos (ringB_iff.1 h).2.2.2]
theorem pow_large {p : Int} (hp : 2 ≤ p) {k : Nat} (hk : 30 ≤ k) : 1000000000 < p ^ k := by
  have h1 : p ^ 30 ≤ p ^ k := pow_mono (by omega) hk
  have h2 : (2 : Int) ^ 30 ≤ p ^ 30 := by
    have h : ∀ j : Nat, (2 : Int) ^ j ≤ p ^ j := by
      intro j
      induction j with
      | zero => simp
      | succ j ih => rw [Int.pow_succ, Int.pow_succ]; exact Int.mul_le_mul ih hp (by omega) (by have := pow_pos' (show 1 ≤ p by omega) j; omega)
    exact h 30
  have h3 : (2 : Int) ^ 30 = 1073741824 := by decide
  omega
end Go.Proofs.Ytbkbcbanfnhjpaa

/- Contracts: remainders, powers, valuations, common divisors. -/
namespace Go.Proofs.Ytbkbcbanfnhjpaa
open Go Go.RowKit

theorem ret_i {a b : Int} (h : a = b) : Ending.returned (.int .i64 a) = .returned (.int .i64 b) := by rw [h]
theorem ret_b {a b : Bool} (h : a = b) : Ending.returned (.bool a) = .returned (.bool b) := by rw [h]

end Go.Proofs.Ytbkbcbanfnhjpaa

/- Readers of slices: sums, comparisons, marks. -/
namespace Go.Proofs.Ytbkbcbanfnhjpaa
open Go Go.RowKit

def lsum : List Int → Int
  | [] => 0
  | x :: r => x + lsum r
theorem lsum_snoc (xs : List Int) (x : Int) : lsum (xs ++ [x]) = lsum xs + x := by
  induction xs with
  | nil => simp [lsum]
  | cons y r ih => simp only [List.cons_append, lsum, ih]; omega
theorem take_snocI (xs : List Int) (k : Nat) (h : k < xs.length) : xs.take (k + 1) = xs.take k ++ [xs[k]] := by
  rw [List.take_succ_eq_append_getElem h]
theorem lsum_take {xs : List Int} {k : Nat} (h : k < xs.length) : lsum (xs.take (k + 1)) = lsum (xs.take k) + xs[k] := by rw [take_snocI _ _ h, lsum_snoc]
theorem lsum_bd {B : Int} (xs : List Int) (h : ∀ x ∈ xs, 0 ≤ x ∧ x ≤ B) : 0 ≤ lsum xs ∧ lsum xs ≤ B * xs.length := by
  induction xs with
  | nil => simp [lsum]
  | cons y r ih =>
    have h1 := h y (by simp)
    have h2 := ih (fun x hx => h x (by simp [hx]))
    have e : B * ((r.length + 1 : Nat) : Int) = B * (r.length : Int) + B := by rw [Int.natCast_add, Int.mul_add]; simp
    simp only [lsum, List.length_cons]
    rw [e]
    omega
theorem lsum_take_bd {xs : List Int} (h : ∀ x ∈ xs, 0 ≤ x ∧ x ≤ 1000) (hl : xs.length ≤ 1000) (k : Nat) : 0 ≤ lsum (xs.take k) ∧ lsum (xs.take k) ≤ 1000000 := by
  have h1 := lsum_bd (B := 1000) (xs.take k) (fun x hx => h x (List.mem_of_mem_take hx))
  have h2 : (xs.take k).length ≤ 1000 := by rw [List.length_take]; omega
  omega


set_option maxHeartbeats 1000000 in
theorem l_eqI (r1 r2 : Value) (xs : List Int) (w : World) (h : rdI w r1 xs) (h' : rdI w r2 xs) :
    Calls Try.prog 80 #[r1, r2] w fun e w' => e = .returned (.bool true) ∧ Below w.heap.size w w' := by
  obtain ⟨a, cap, rfl, hm, hc⟩ := h
  obtain ⟨a', cap', rfl, hm', hc'⟩ := h'
  have Hc := hid hc
  have Hc' := hid hc'
  unfold maxLen at hm
  clear hc hc' hm'
  go_enter Try.func80, Try.ntmps80
  go_wp2_with fail
  go_loopw [5] (fun i wr => ∃ (k : Nat) (uu : World), wr = aft w uu ∧ k ≤ xs.length ∧ i = .int .i64 k) (fun i _ => xs.length - (intOf i).toNat)
  case atStart => exact ⟨0, w, (aft_of (Below.refl _ _)).symm, by omega, rfl⟩
  case round =>
    obtain ⟨k, uu, rfl, hk, rfl⟩ := hrel
    by_cases hlt : k < xs.length
    · obtain ⟨b, o, rfl, hcell⟩ := Hc.out (by intro e; subst e; simp at hlt)
      obtain ⟨b', o', rfl, hcell'⟩ := Hc'.out (by intro e; subst e; simp at hlt)
      have h1 := hcell k hlt
      have h2 := hcell' k hlt
      have h3 := World.block_lt_of_cell? w _ h1
      have h4 := World.block_lt_of_cell? w _ h2
      obtain ⟨x, hx⟩ : ∃ x, x = xs[k] := ⟨_, rfl⟩
      rw [← hx] at h1 h2
      have hz : ((k : Int) : Int) < (xs.length : Int) := by omega
      have hz0 : (0 : Int) ≤ (k : Int) := by omega
      have zs := size_aft w uu
      clear hx hcell hcell'
      go_wp2_with fail
      refine wp_region_calm (by kernel_rfl) (by kernel_rfl) ?_
      repeat (go_big_quiet_step (fail))
      refine wpQuiet_nil ?_; intro uq zq; try simp at zq
      go_wp2_with fail
      go_roundw
      case rel => exact ⟨k + 1, _, (aft_of ((below_aft w uu).trans ((below_aft _ _).mono (size_aft w uu)))).symm, by omega, by go_num⟩
      case measure => simp [intOf]; omega
    · obtain rfl : k = xs.length := by omega
      go_wp2
      go_ret
      exact ⟨rfl, (by refine Ext.bel ?_; repeat (with_reducible first | exact Ext.refl _ | apply Ext.alloc | apply Ext.aft | apply Ext.drew | apply Ext.drewN | apply Ext.setCell | exact Nat.le_add_right _ _ | exact Nat.le_refl _ | (simp; done) | omega))⟩
end Go.Proofs.Ytbkbcbanfnhjpaa

/- Marks: slices of the call's own that are written and read again. -/
namespace Go.Proofs.Ytbkbcbanfnhjpaa
open Go Go.RowKit

open Classical in
noncomputable def aftB (B : Nat) (w u : World) : World := if Below B w u then u else w
theorem below_aftB (B : Nat) (w u : World) : Below B w (aftB B w u) := by
  unfold aftB; split
  · assumption
  · exact Below.refl _ _
theorem aftB_ex {B : Nat} {w w' : World} (h : Below B w w') : ∃ u, w' = aftB B w u := ⟨w', by unfold aftB; rw [if_pos h]⟩
theorem size_aftB (B : Nat) (w u : World) : w.heap.size ≤ (aftB B w u).heap.size := (below_aftB B w u).size
noncomputable def nwCB (B : Nat) (w u : World) (b o : Nat) : Option Value := (aftB B w u).cell? ⟨b, o, none⟩
noncomputable def nwFB (B : Nat) (w u : World) (b o : Nat) : Bool := (aftB B w u).frozen? ⟨b, o, none⟩
theorem aftB_cell (B : Nat) (w u : World) (b o : Nat) : (aftB B w u).cell? ⟨b, o, none⟩ = if b < B then w.cell? ⟨b, o, none⟩ else nwCB B w u b o := by
  split
  · exact (below_aftB B w u).cell (p := ⟨b, o, none⟩) ‹_›
  · rfl
theorem aftB_frozen (B : Nat) (w u : World) (b o : Nat) : (aftB B w u).frozen? ⟨b, o, none⟩ = if b < B then w.frozen? ⟨b, o, none⟩ else nwFB B w u b o := by
  split
  · exact (below_aftB B w u).frozen (p := ⟨b, o, none⟩) ‹_›
  · rfl
attribute [go_sem] aftB_cell aftB_frozen
theorem Ext.aftB {B : Nat} {w W : World} (h : Ext B w W) (B' : Nat) (u : World) (hB : B ≤ B') : Ext B w (aftB B' W u) := ⟨h.1.trans ((below_aftB B' W u).mono hB), Nat.le_trans h.2 (size_aftB _ _ _)⟩

/-- v's row lies below L. -/
def rowLt (L : Nat) (v : Value) : Prop := ∀ k, v.ownBlock = some k → k < L
theorem rowLt.mono {L L' : Nat} {v : Value} (h : rowLt L v) (hl : L ≤ L') : rowLt L' v := fun k hk => Nat.lt_of_lt_of_le (h k hk) hl
theorem ownR.rowLt {B : Nat} {w : World} {v : Value} {xs : List Int} (h : ownR B w v xs) : rowLt w.heap.size v := fun k hk => (World.ownsRow.lt h k hk).2
theorem ownR.aftB {B0 B : Nat} {w : World} {v : Value} {xs : List Int} (h : ownR B0 w v xs) (u : World) (hl : Go.Proofs.Ytbkbcbanfnhjpaa.rowLt B v) : ownR B0 (aftB B w u) v xs :=
  h.kept fun k _ hk => (below_aftB B w u).block k (hl k hk)
theorem rdI.aftB {B L : Nat} {w : World} {v : Value} {xs : List Int} (h : rdI w v xs) (u : World) (hl : rowLt L v) (hB : L ≤ B) : rdI (aftB B w u) v xs := by
  obtain ⟨a, cap, rfl, hm, hc⟩ := h
  refine ⟨a, cap, rfl, hm, fun hne => ?_⟩
  obtain ⟨b, o, rfl, hcell⟩ := hc hne
  refine ⟨b, o, rfl, fun i hi => ?_⟩
  have h1 := hcell i hi
  have h2 := hl b rfl
  rw [(below_aftB B w u).cell (p := ⟨b, o + i, none⟩) (show b < B by omega)]
  exact h1

theorem rdI.belowB {B L : Nat} {w w' : World} {v : Value} {xs : List Int} (hb : Below B w w') (h : rdI w v xs) (hl : Go.Proofs.Ytbkbcbanfnhjpaa.rowLt L v) (hB : L ≤ B) : rdI w' v xs := by
  obtain ⟨u, rfl⟩ := aftB_ex hb; exact h.aftB u hl hB
theorem le_aftB {B b : Nat} {w u : World} (h : b ≤ w.heap.size) : b ≤ (Go.Proofs.Ytbkbcbanfnhjpaa.aftB B w u).heap.size := Nat.le_trans h (size_aftB B w u)
theorem le_alloc {b : Nat} {w : World} {o : Obj} (h : b ≤ w.heap.size) : b ≤ (w.alloc o).heap.size := by simp; omega
theorem le_set {b : Nat} {w : World} {a : Addr} {v : Value} (h : b ≤ w.heap.size) : b ≤ (w.setCell a v).heap.size := by simpa using h

def marks (k : Int) (n : Nat) : List Int := (List.range n).map fun (i : Nat) => k + (i : Int)
theorem marks_len (k : Int) (n : Nat) : (marks k n).length = n := by simp [marks]
theorem marks_succ (k : Int) (n : Nat) : marks k (n + 1) = marks k n ++ [k + n] := by simp [marks, List.range_succ]

theorem mark_step {k : Int} {xs : List Int} {j : Nat} (h : j < xs.length) :
    (vI (marks k j ++ xs.drop j)).set j (.int .i64 (k + j)) = vI (marks k (j + 1) ++ xs.drop (j + 1)) := by
  have e : (marks k j ++ xs.drop j).set j (k + j) = marks k (j + 1) ++ xs.drop (j + 1) := by
    have hl := marks_len k j
    rw [List.set_append_right _ _ (by omega), hl, Nat.sub_self, List.drop_eq_getElem_cons h, List.set_cons_zero, marks_succ, List.append_assoc]
    rfl
  rw [← e]
  simp [vI, List.map_set]
theorem grownBy_refl (w : World) (row : Option Nat) : w.grownBy w row := ⟨rfl, rfl, rfl, Nat.le_refl _, fun _ _ _ => rfl⟩
theorem grownBy_trans {a b c : World} {row : Option Nat} (h : a.grownBy b row) (k : b.grownBy c row) : a.grownBy c row :=
  ⟨k.os.trans h.os, k.tape.trans h.tape, k.output.trans h.output, Nat.le_trans h.size k.size, fun i hi hn => (k.block i (Nat.lt_of_lt_of_le hi h.size) hn).trans (h.block i hi hn)⟩

set_option maxHeartbeats 1000000 in
theorem l_markI (B : Nat) (r : Value) (xs : List Int) (k : Int) (w : World) (h : ownR B w r xs) (hk : 0 ≤ k ∧ k ≤ 1000000000000000) (hl : xs.length ≤ 1000000000000000) :
    Calls Try.prog 81 #[r, .int .i64 k] w fun e w' => e = .returned (.int .i64 (k + xs.length)) ∧ ownR B w' r (marks k xs.length) ∧ Below B w w' := by
  rcases h.2 with ⟨rfl, hn⟩ | ⟨g, cap, cur, rfl, hg, hh, hr⟩
  · obtain rfl : xs = [] := List.eq_nil_of_length_eq_zero hn
    go_enter Try.func81, Try.ntmps81
    go_wp2_with fail
    refine wp_loop_rounds 1 ?_; rw [rounds_succ]
    go_wp2
    go_ret
    exact ⟨ret_i (by simp), by simpa [marks] using ownR.nil B w, Below.refl _ _⟩
  have hlt0 : g < w.heap.size := (Array.getElem?_eq_some_iff.1 hh).1
  have H0 := hid h
  have hn : xs.length ≤ cap := hr.1
  clear hh hr h
  go_enter Try.func81, Try.ntmps81
  go_wp2_with fail
  go_loopw [1, 5] (fun kk i wr => ∃ j : Nat, j ≤ xs.length ∧ i = .int .i64 j ∧ kk = .int .i64 (k + j) ∧ wr.ownsRow B 2 1 (.slice (some ⟨g, 0, none⟩) xs.length cap) xs.length (vI (marks k j ++ xs.drop j)) ∧ w.grownBy wr (some g)) (fun _ i _ => xs.length - (intOf i).toNat)
  case atStart => exact ⟨0, by omega, rfl, by go_num, by have := H0.out; unfold ownR at this; simpa [marks] using this, grownBy_refl _ _⟩
  case round =>
    obtain ⟨j, hj, rfl, rfl, hown, hgr⟩ := hrel
    by_cases hlt : j < xs.length
    · have h1 := hown.cellAt j (by omega)
      have hlen : (vI (marks k j ++ xs.drop j)).length = xs.length := by rw [vI_len, List.length_append, marks_len, List.length_drop]; omega
      obtain ⟨x, hx⟩ : ∃ x, (vI (marks k j ++ xs.drop j))[j]? = some x := ⟨_, List.getElem?_eq_getElem (by omega)⟩
      rw [hx] at h1
      have h2 := hown.frozenAt j
      have hst := hown.stored j (.int .i64 (k + j))
      rw [mark_step hlt] at hst
      have HS := hid hst
      have HG := hid hgr
      clear hst hx hlen hown hgr
      go_wp2
      go_roundw
      case rel => exact ⟨j + 1, by omega, by go_num, by go_num, HS.out.1, grownBy_trans HG.out HS.out.2⟩
      case measure => simp [intOf]; omega
    · obtain rfl : j = xs.length := by omega
      have HO := hid hown
      have HG := hid hgr
      clear hown hgr
      go_wp2
      go_ret
      refine ⟨rfl, ?_, Below.grown (Below.refl _ _) HG.out (by omega) (fun k hk => by injection hk with hk; omega)⟩
      have := HO.out
      unfold ownR
      rw [marks_len]
      simpa using this

set_option maxHeartbeats 1000000 in
theorem l_heldI (r : Value) (n : Nat) (k : Int) (w : World) (h : rdI w r (marks k n)) (hk : 0 ≤ k ∧ k ≤ 1000000000000000) (hl : n ≤ 1000000000000000) :
    Calls Try.prog 82 #[r, .int .i64 k] w fun e w' => e = .returned (.int .i64 (k + n)) ∧ w = w' := by
  obtain ⟨a, cap, rfl, hm, hc⟩ := h
  have Hc := hid hc
  rw [marks_len]
  clear hc hm
  go_enter Try.func82, Try.ntmps82
  go_wp2_with fail
  go_loop [1, 5] (fun kk i => ∃ j : Nat, j ≤ n ∧ i = .int .i64 j ∧ kk = .int .i64 (k + j)) (fun _ i => n - (intOf i).toNat)
  case atStart => exact ⟨0, by omega, rfl, by go_num⟩
  case round =>
    obtain ⟨j, hj, rfl, rfl⟩ := hrel
    by_cases hlt : j < n
    · have hne : marks k n ≠ [] := by intro e; have := marks_len k n; rw [e] at this; simp at this; omega
      obtain ⟨b, o, rfl, hcell⟩ := Hc.out hne
      have h1 := hcell j (by rw [marks_len]; exact hlt)
      have e1 : (marks k n)[j]'(by rw [marks_len]; exact hlt) = k + j := by simp [marks]
      rw [e1] at h1
      have hbq : ((k + j : Int) == (k + j : Int)) = true := by simp
      clear e1 hcell hne
      go_wp2
      go_round
      case rel => exact ⟨j + 1, by omega, by go_num, by go_num⟩
      case measure => simp [intOf]; omega
    · obtain rfl : j = n := by omega
      go_wp2
      go_ret
      exact ⟨rfl, rfl⟩
end Go.Proofs.Ytbkbcbanfnhjpaa

/- Slices of slices of numbers. -/
namespace Go.Proofs.Ytbkbcbanfnhjpaa
open Go Go.RowKit

theorem infoS : (Try.prog.info? 24).map (fun i => (i.zero, i.size, i.bytes)) = some (some (.slice none 0 0), 1, 24) := by kernel_rfl
theorem own_one {B : Nat} {w : World} {e : Value} {xs : List Int} (h : ownR B w e xs) : e.oneCell' = true := by
  rcases h.2 with ⟨rfl, _⟩ | ⟨g, cap, cur, rfl, _⟩ <;> rfl
/-- A row of slices is no row of numbers. -/
theorem own_apart {B B' n : Nat} {w : World} {v e : Value} {es : List Value} {xs : List Int} (h : w.ownsRow B 24 1 v n es) (he : ownR B' w e xs) : ∀ k, e.ownBlock = some k → v.ownBlock ≠ some k := by
  intro k hk hv
  rcases he.2 with ⟨rfl, _⟩ | ⟨g, cap, cur, rfl, _, hg, _⟩
  · simp [Value.ownBlock] at hk
  · rcases h.2 with ⟨rfl, _⟩ | ⟨g', cap', cur', rfl, _, hg', _⟩
    · simp [Value.ownBlock] at hv
    · simp [Value.ownBlock] at hk hv
      subst hk hv
      rw [hg] at hg'
      cases hg'
/-- v owns a row of just these slices, each of which owns just these numbers. -/
def ownE (B : Nat) (w : World) (v : Value) (es : List Value) (xss : List (List Int)) : Prop :=
  es.length = xss.length ∧ w.ownsRow B 24 1 v xss.length es ∧ ∀ i, (h : i < xss.length) → ∃ e, es[i]? = some e ∧ ownR B w e xss[i]
def ownRR (B : Nat) (w : World) (v : Value) (xss : List (List Int)) : Prop := ∃ es, ownE B w v es xss
/-- v reads as these lists. -/
def rdRR (w : World) (v : Value) (xss : List (List Int)) : Prop :=
  ∃ a cap, v = .slice a xss.length cap ∧ xss.length ≤ maxLen ∧ (xss ≠ [] → ∃ b o, a = some ⟨b, o, none⟩ ∧ ∀ i, (h : i < xss.length) → ∃ e, w.cell? ⟨b, o + i, none⟩ = some e ∧ ownR 0 w e xss[i])
theorem owns_kept {B T n : Nat} {w w' : World} {v : Value} {es : List Value} (h : w.ownsRow B T 1 v n es) (hb : ∀ k, k < w.heap.size → v.ownBlock = some k → w'.heap[k]? = w.heap[k]?) : w'.ownsRow B T 1 v n es := by
  refine ⟨h.1, ?_⟩
  rcases h.2 with hn | ⟨g, cap, cur, rfl, hg, hh, r⟩
  · exact .inl hn
  · exact .inr ⟨g, cap, cur, rfl, hg, by rw [hb g (Array.getElem?_eq_some_iff.1 hh).1 rfl]; exact hh, r⟩
theorem ownE.nil (B : Nat) (w : World) : ownE B w (.slice none 0 0) [] [] := ⟨rfl, World.ownsRow_nil _ _ _ _, fun i h => by simp at h⟩
theorem ownE.below {B : Nat} {w w' : World} {v : Value} {es : List Value} {xss : List (List Int)} (h : ownE B w v es xss) (hb : Below w.heap.size w w') : ownE B w' v es xss :=
  ⟨h.1, owns_kept h.2.1 fun k hk _ => hb.block k hk, fun i hi => by obtain ⟨e, h1, h2⟩ := h.2.2 i hi; exact ⟨e, h1, h2.below hb⟩⟩
theorem ownRR.below {B : Nat} {w w' : World} {v : Value} {xss : List (List Int)} (h : ownRR B w v xss) (hb : Below w.heap.size w w') : ownRR B w' v xss := by obtain ⟨es, h⟩ := h; exact ⟨es, h.below hb⟩
theorem ownRR.aft {B : Nat} {w : World} {v : Value} {xss : List (List Int)} (h : ownRR B w v xss) (u : World) : ownRR B (aft w u) v xss := h.below (below_aft w u)
theorem ownE.mono {B B' : Nat} {w : World} {v : Value} {es : List Value} {xss : List (List Int)} (h : ownE B w v es xss) (hB : B' ≤ B) : ownE B' w v es xss := by
  refine ⟨h.1, ⟨h.2.1.1, ?_⟩, fun i hi => by obtain ⟨e, h1, h2⟩ := h.2.2 i hi; exact ⟨e, h1, h2.mono hB⟩⟩
  rcases h.2.1.2 with hn | ⟨g, cap, cur, rfl, hg, r⟩
  · exact .inl hn
  · exact .inr ⟨g, cap, cur, rfl, Nat.le_trans hB hg, r⟩
theorem ownRR.mono {B B' : Nat} {w : World} {v : Value} {xss : List (List Int)} (h : ownRR B w v xss) (hB : B' ≤ B) : ownRR B' w v xss := by obtain ⟨es, h⟩ := h; exact ⟨es, h.mono hB⟩
theorem ownRR.rd {B : Nat} {w : World} {v : Value} {xss : List (List Int)} (h : ownRR B w v xss) : rdRR w v xss := by
  obtain ⟨es, hl, h, he⟩ := h
  rcases h.2 with ⟨rfl, hn⟩ | ⟨g, cap, cur, rfl, hg, hh, h1, h2, h3⟩
  · have : xss = [] := List.eq_nil_of_length_eq_zero hn
    subst this
    exact ⟨none, 0, rfl, by simp [maxLen], fun h => absurd rfl h⟩
  · refine ⟨_, cap, rfl, by omega, fun _ => ⟨g, 0, rfl, fun i hi => ?_⟩⟩
    obtain ⟨e, he1, he2⟩ := he i hi
    have hc := World.ownsRow.cells h (g := g) rfl i e he1
    refine ⟨e, ?_, he2.mono (Nat.zero_le _)⟩
    by_cases h0 : i = 0
    · subst h0; simpa [Addr.add] using hc
    · simpa [Addr.add, h0] using hc
theorem rdRR.below {w w' : World} {v : Value} {xss : List (List Int)} (h : rdRR w v xss) (hb : Below w.heap.size w w') : rdRR w' v xss := by
  obtain ⟨a, cap, rfl, hm, hc⟩ := h
  refine ⟨a, cap, rfl, hm, fun hne => ?_⟩
  obtain ⟨b, o, rfl, hcell⟩ := hc hne
  refine ⟨b, o, rfl, fun i hi => ?_⟩
  obtain ⟨e, h1, h2⟩ := hcell i hi
  exact ⟨e, by rw [hb.cell (p := ⟨b, o + i, none⟩) (World.block_lt_of_cell? w _ h1)]; exact h1, h2.below hb⟩
theorem rdRR.alloc {w : World} {v : Value} {xss : List (List Int)} (h : rdRR w v xss) (o : Obj) : rdRR (w.alloc o) v xss := h.below (Below.alloc (Below.refl _ _) (Nat.le_refl _) o)
theorem rdRR.aft {w : World} {v : Value} {xss : List (List Int)} (h : rdRR w v xss) (u : World) : rdRR (Go.Proofs.Ytbkbcbanfnhjpaa.aft w u) v xss := h.below (below_aft w u)
theorem rdRR.drew {w : World} {v : Value} {xss : List (List Int)} (h : rdRR w v xss) : rdRR w.drew v xss := h.below (Below.drew (Below.refl _ _))
/-- Behind an append of a slice of the call's own. -/
theorem ownE.snoc {B : Nat} {w w1 : World} {v v' e : Value} {es : List Value} {xss : List (List Int)} {xs : List Int} (h : ownE B w v es xss) (he : ownR B w e xs)
    (hown : w1.ownsRow B 24 1 v' (xss.length + 1) (es ++ [e])) (hgr : w.grownBy w1 v.ownBlock) : ownE B w1 v' (es ++ [e]) (xss ++ [xs]) := by
  have keep : ∀ {e xs}, ownR B w e xs → ownR B w1 e xs := fun he => he.kept fun k hk hb => hgr.block k hk (fun x => own_apart h.2.1 he k hb x.symm)
  refine ⟨by simp [h.1], by simpa using hown, fun i hi => ?_⟩
  rcases Nat.lt_or_ge i xss.length with hlt | hge
  · obtain ⟨e', h1, h2⟩ := h.2.2 i hlt
    exact ⟨e', by rw [List.getElem?_append_left (by rw [h.1]; exact hlt)]; exact h1, by rw [List.getElem_append_left hlt]; exact keep h2⟩
  · obtain rfl : i = xss.length := by simp at hi; omega
    exact ⟨e, by rw [List.getElem?_append_right (by rw [h.1]; exact Nat.le_refl _), h.1]; simp, by simpa using keep he⟩
theorem ownE.row {B : Nat} {w : World} {v : Value} {es : List Value} {xss : List (List Int)} (h : ownE B w v es xss) : ∀ k, v.ownBlock = some k → B ≤ k := fun k hk => (World.ownsRow.lt h.2.1 k hk).1

/-- A call that hands back a new slice of slices. -/
theorem viaRR {P : Program} {f : FuncId} {args : Array Value} {w : World} {xss : List (List Int)} {g : Value → Value} {R : Ending → World → Prop}
    (h : Calls P f args w fun e w' => ∃ v, e = .returned (g v) ∧ ownRR w.heap.size w' v xss ∧ Below w.heap.size w w')
    (hR : ∀ v u, w.heap.size ≤ (aft w u).heap.size → ownRR w.heap.size (aft w u) v xss → R (.returned (g v)) (aft w u)) : Calls P f args w R :=
  h.mono fun e w' ⟨v, he, ho, hb⟩ => by subst he; obtain ⟨u, rfl⟩ := aft_ex hb; exact hR v u (size_aft w u) ho
end Go.Proofs.Ytbkbcbanfnhjpaa

/- A region that draws its order: a head that reads and calls calmly, behind it a tail in one forced order (a store, say). One walk of the text's order serves every order. -/
namespace Go.Proofs.Ytbkbcbanfnhjpaa
open Go Go.RowKit

/-- Each operation of the head waits for earlier ones alone. -/
def earlierB (md : Region.Mode) (ops : Array Oper) : Bool :=
  (List.range ops.size).all fun i => match ops[i]? with
    | some o => o.after.toList.all fun e => !Region.binds md e || decide (e.on < i)
    | none => true

section
variable {P : Program} {md : Region.Mode} {ops hd : Array Oper} {C : World → Prop} {T : Act → Prop} {Q : Exit → Act → World → Prop} {N : Nat}

theorem yielded_head (hN : ∀ i, i < N → hd[i]? = ops[i]?) (tmps : Array Value) (j : Nat) (h : j < N) : yielded hd tmps j = yielded ops tmps j := by
  unfold yielded; rw [hN j h]

def extL (n N : Nat) (l : Array Bool) : Array Bool := (l.toList ++ List.replicate (n - N) false).toArray

theorem extL_size {n N : Nat} {l : Array Bool} (h : l.size = N) (hn : N ≤ n) : (extL n N l).size = n := by simp [extL]; omega
theorem extL_lo {n N : Nat} {l : Array Bool} (h : l.size = N) (i : Nat) (hi : i < N) (d : Bool) : (extL n N l).getD i d = l.getD i d := by
  simp only [extL, Array.getD_eq_getD_getElem?, List.getElem?_toArray]
  rw [List.getElem?_append_left (by simpa [h] using hi)]
  simp
theorem extL_set {n N : Nat} {l : Array Bool} (h : l.size = N) (i : Nat) (hi : i < N) : (extL n N l).setIfInBounds i true = extL n N (l.setIfInBounds i true) := by
  simp only [extL, List.setIfInBounds_toArray]
  rw [List.set_append_left _ _ (by simpa [h] using hi)]
  simp

theorem head_ready (hsz : hd.size = N) (hN : ∀ i, i < N → hd[i]? = ops[i]?) (he : earlierB md hd = true) {l : Array Bool} (hl : l.size = N) {i : Nat} (hi : i < N) :
    i ∈ Region.ready md ops (extL ops.size N l) ↔ i ∈ Region.ready md hd l := by
  rw [mem_ready, mem_ready, extL_lo hl i hi, hN i hi]
  constructor
  · rintro ⟨h1, o, ho, h2⟩
    refine ⟨h1, o, ho, fun e hem hb => ?_⟩
    have h3 := List.all_eq_true.1 he i (List.mem_range.2 (by omega))
    rw [hN i hi, ho] at h3
    have h4 := List.all_eq_true.1 h3 e (by simpa using hem)
    simp only [hb, Bool.not_true, Bool.false_or, decide_eq_true_eq] at h4
    have := h2 e hem hb
    rwa [extL_lo hl e.on (by omega)] at this
  · rintro ⟨h1, o, ho, h2⟩
    refine ⟨h1, o, ho, fun e hem hb => ?_⟩
    have h3 := List.all_eq_true.1 he i (List.mem_range.2 (by omega))
    rw [hN i hi, ho] at h3
    have h4 := List.all_eq_true.1 h3 e (by simpa using hem)
    simp only [hb, Bool.not_true, Bool.false_or, decide_eq_true_eq] at h4
    rw [extL_lo hl e.on (by omega)]
    exact h2 e hem hb

/-- The first that has not come up is ready. -/
theorem some_ready (hsz : hd.size = N) (he : earlierB md hd = true) {l : Array Bool} (hl : l.size = N) : ∀ (k : Nat), k < N → l.getD k true = false → ∃ i, i ∈ Region.ready md hd l := by
  intro k
  induction k using Nat.strongRecOn with
  | _ k ih =>
    intro hk hun
    by_cases h : ∃ j, j < k ∧ l.getD j true = false
    · obtain ⟨j, hj, hu⟩ := h; exact ih j hj (by omega) hu
    · refine ⟨k, mem_ready.2 ⟨hun, hd[k]'(by omega), Array.getElem?_eq_getElem (by omega), fun e hem hb => ?_⟩⟩
      have h3 := List.all_eq_true.1 he k (List.mem_range.2 (by omega))
      rw [Array.getElem?_eq_getElem (by omega)] at h3
      have h4 := List.all_eq_true.1 h3 e (by simpa using hem)
      simp only [hb, Bool.not_true, Bool.false_or, decide_eq_true_eq] at h4
      cases hg : l.getD e.on false with
      | true => rfl
      | false =>
        exfalso
        refine h ⟨e.on, h4, ?_⟩
        have hlt : e.on < l.size := by omega
        simp [hlt] at hg ⊢
        exact hg

theorem wpAny_more {fuel : Nat} : ∀ {listed : Array Bool} {a : Act} {w : World}, wpAny P md ops Q fuel listed a w → wpAny P md ops Q (fuel + 1) listed a w := by
  induction fuel with
  | zero => intro listed a w h; exact ⟨fun _ => h.2, fun i hi => by rw [h.1] at hi; cases hi⟩
  | succ f ih => intro listed a w h; exact ⟨h.1, fun i hi => wpOp_mono (fun a' w' h' => ih h') (h.2 i hi)⟩
theorem wpAny_more' {g : Nat} (f : Nat) {listed : Array Bool} {a : Act} {w : World} (h : wpAny P md ops Q g listed a w) : wpAny P md ops Q (f + g) listed a w := by
  induction f with
  | zero => rw [Nat.zero_add]; exact h
  | succ f ih => rw [show f + 1 + g = (f + g) + 1 by omega]; exact wpAny_more ih

theorem guard_lt (hsz : hd.size = N) (hgB : (List.range hd.size).all (fun i => match hd[i]? with | some o => (match o.guard with | some (j, _) => decide (j < i) | none => true) | none => true) = true) {i : Nat} {o : Oper} (ho : hd[i]? = some o) (tmps : Array Value)
    (hN : ∀ i, i < N → hd[i]? = ops[i]?) : Region.wanted o (yielded hd tmps) = Region.wanted o (yielded ops tmps) := by
  have hi : i < hd.size := (Array.getElem?_eq_some_iff.1 ho).1
  have h3 := List.all_eq_true.1 hgB i (List.mem_range.2 hi)
  rw [ho] at h3
  unfold Region.wanted
  cases hg : o.guard with
  | none => rfl
  | some q =>
    obtain ⟨j, b⟩ := q
    simp only [hg, decide_eq_true_eq] at h3
    simp only [yielded_head hN tmps j (by omega)]

def guardsB (ops : Array Oper) : Bool := (List.range ops.size).all (fun i => match ops[i]? with | some o => (match o.guard with | some (j, _) => decide (j < i) | none => true) | none => true)

theorem head_any (hsz : hd.size = N) (hN : ∀ i, i < N → hd[i]? = ops[i]?) (hlt : N < ops.size) (he : earlierB md hd = true) (hg : guardsB hd = true)
    (hs : Region.sinkB md ops N = true) (hc : Region.chainB md ops N = true) {g : Nat}
    (hbase : ∀ a w, C w → T a → wpAny P md ops Q g (extL ops.size N (Array.replicate N true)) a w) :
    ∀ (f : Nat) (l : Array Bool) (a : Act) (w : World), l.size = N → HeadInv md ops N (extL ops.size N l) → C w → wpAnyQ P md hd C T f l a → wpAny P md ops Q (f + g) (extL ops.size N l) a w := by
  intro f
  have allT : ∀ l : Array Bool, l.size = N → Region.ready md hd l = [] → l = Array.replicate N true := by
    intro l hl hr
    apply Array.ext (by simp [hl])
    intro i h1 h2
    simp only [Array.getElem_replicate]
    cases hx : l[i] with
    | true => rfl
    | false =>
      obtain ⟨j, hj⟩ := some_ready (md := md) hsz he hl i (by omega) (by simp [h1, hx])
      rw [hr] at hj; cases hj
  have rlt : ∀ (l : Array Bool), l.size = N → HeadInv md ops N (extL ops.size N l) → (∃ i, i ∈ Region.ready md hd l) → ∀ i ∈ Region.ready md ops (extL ops.size N l), i < N := by
    intro l hl inv ⟨j, hj⟩ i hi
    rcases Nat.lt_or_ge i N with h | h
    · exact h
    · have hjN : j < N := by obtain ⟨_, o, ho, _⟩ := mem_ready.1 hj; have := (Array.getElem?_eq_some_iff.1 ho).1; omega
      have := (mem_ready.1 hj).1
      exact absurd hi (tail_waits hs hc hlt inv _ j rfl hjN (by rw [extL_lo hl j hjN]; exact this) i h)
  induction f with
  | zero =>
    intro l a w hl inv hw h
    rw [allT l hl h.1]
    exact wpAny_more' 0 (hbase a w hw h.2)
  | succ f ih =>
    intro l a w hl inv hw h
    by_cases hr : Region.ready md hd l = []
    · rw [allT l hl hr]
      exact wpAny_more' _ (hbase a w hw (h.1 hr))
    · have hex : ∃ i, i ∈ Region.ready md hd l := by
        cases hq : Region.ready md hd l with
        | nil => exact absurd hq hr
        | cons i _ => exact ⟨i, by simp⟩
      rw [show f + 1 + g = (f + g) + 1 by omega]
      refine ⟨fun h0 => ?_, fun i hi => ?_⟩
      · obtain ⟨j, hj⟩ := hex
        have hjN : j < N := by obtain ⟨_, o, ho, _⟩ := mem_ready.1 hj; have := (Array.getElem?_eq_some_iff.1 ho).1; omega
        have := (head_ready hsz hN he hl hjN).2 hj
        rw [h0] at this; cases this
      · have hiN := rlt l hl inv hex i hi
        have hi' := (head_ready hsz hN he hl hiN).1 hi
        have hq := h.2 i hi'
        have inv' := inv.set hi hiN
        rw [extL_set hl i hiN] at inv' ⊢
        unfold qOp at hq
        unfold wpOp
        rw [← hN i hiN]
        cases ho : hd[i]? with
        | none => simp only [ho] at hq; exact ih _ _ _ (by simpa using hl) inv' hw hq
        | some o =>
          simp only [ho] at hq
          dsimp only
          rw [← guard_lt hsz hg ho a.tmps hN]
          split
          · rename_i hwt
            simp only [hwt, if_true] at hq
            exact .inl (Oper.wp_of_quiet hw (fun a' w' hw' k => ih _ _ _ (by simpa using hl) inv' hw' k) hq)
          · rename_i hwt
            simp only [hwt] at hq
            exact ih _ _ _ (by simpa using hl) inv' hw hq

/-- The checks, in one word. -/
def calmTailB (l : List Oper) (n : Nat) : Bool :=
  decide (n < l.length) && Region.lexB .any (l.take n).toArray && earlierB .any (l.take n).toArray && guardsB (l.take n).toArray && Region.sinkB .any l.toArray n && Region.chainB .any l.toArray n &&
  Region.seqB .any l.toArray (l.length - n) n (extL l.length n (Array.replicate n true))

theorem wp_region_calm_tail {id : Nat} {a : Act} {w : World} {l : List Oper} (n : Nat) (hm : P.follows .mixedOrders = true) (hB : calmTailB l n = true)
    (h : wpQuiet P (l.take n).toArray (fun w' => ∃ u, w' = aft w u) (fun a' => ∀ u, w.heap.size ≤ (aft w u).heap.size → wpList P l.toArray Q (l.drop n) a' (aft w u)) (l.take n) a) : (Code.region id l.toArray true).wp P Q a w := by
  simp only [calmTailB, Bool.and_eq_true, decide_eq_true_eq] at hB
  obtain ⟨⟨⟨⟨⟨⟨hlt, hlex⟩, he⟩, hg⟩, hs⟩, hc⟩, hseq⟩ := hB
  have htl : (l.take n).length = n := by simp; omega
  have hsz : (l.take n).toArray.size = n := by simpa using htl
  have hN : ∀ i, i < n → (l.take n).toArray[i]? = l.toArray[i]? := fun i hi => by simp [hi]
  have hszl : l.toArray.size = l.length := by simp
  refine wp_region_any hm ?_
  have inv0 : HeadInv .any l.toArray n (extL l.toArray.size n (Array.replicate n false)) := by
    have e : extL l.toArray.size n (Array.replicate n false) = Array.replicate l.toArray.size false := by
      apply Array.ext'
      simp only [extL, Array.toList_replicate, List.replicate_append_replicate, List.size_toArray]
      congr 1; omega
    rw [e]
    exact ⟨by simp, fun j oj _ hl => (by rw [getD_replicate_false] at hl; cases hl), fun t _ ht => getD_in (by simpa using ht) (getD_replicate_false _ _)⟩
  have hQ : wpAnyQ P .any (l.take n).toArray (fun w' => ∃ u, w' = aft w u) (fun a' => ∀ u, w.heap.size ≤ (aft w u).heap.size → wpList P l.toArray Q (l.drop n) a' (aft w u)) n (Array.replicate n false) a := by
    simp only [Region.lexB, Bool.and_eq_true] at hlex
    have h1 := wpAnyQ_lex (P := P) (C := fun w' => ∃ u, w' = aft w u) (md := .any) (Q := fun a' => ∀ u, w.heap.size ≤ (aft w u).heap.size → wpList P l.toArray Q (l.drop n) a' (aft w u)) hlex.1 (l.take n) 0 (Array.replicate n false) a (by simp) (by
      have := hlex.2
      rw [hsz] at this
      rw [htl]; exact this) h
    rw [htl] at h1
    exact h1
  have H := head_any (P := P) (C := fun w' => ∃ u, w' = aft w u) (Q := Q) (g := l.length - n) hsz hN (by rw [hszl]; exact hlt) he hg hs hc (fun a' w' ⟨u, hu⟩ hT => by
    subst hu
    have := wpAny_of_seq (md := .any) (Q' := Q) (l.drop n) n (extL l.toArray.size n (Array.replicate n true)) a' (aft w u) (fun j => by simp [List.getElem?_drop]) (by rw [hszl, List.length_drop]; exact hseq) (hT u (size_aft w u))
    rwa [List.length_drop] at this)
    n (Array.replicate n false) a { w with drawn := w.drawn + 1 } (by simp) inv0 (aft_ex (Below.drew (Below.refl w.heap.size w))) hQ
  have e : extL l.toArray.size n (Array.replicate n false) = Array.replicate l.toArray.size false := by
    apply Array.ext'
    simp only [extL, Array.toList_replicate, List.replicate_append_replicate, List.size_toArray]
    congr 1; omega
  rw [e] at H
  rwa [show n + (l.length - n) = l.toArray.size by simp; omega] at H
end
end Go.Proofs.Ytbkbcbanfnhjpaa

/- As B4, with ONE new block that may be made at any time: 'a, b := f(g(x), h(y))' where a is a struct in memory. -/
namespace Go.Proofs.Ytbkbcbanfnhjpaa
open Go Go.RowKit

/-- u, where u is W with new blocks, block b one of them and holding just Z. -/
def okZ (W : World) (b : Nat) (Z : Obj) (u : World) : Prop := Below W.heap.size W u ∧ W.heap.size ≤ b ∧ u.heap[b]? = some Z
def padZ (W : World) (b : Nat) (Z : Obj) : World := { W with heap := (W.heap.toList ++ List.replicate (b + 1 - W.heap.size) Z).toArray }
open Classical in
noncomputable def aftZ (W : World) (b : Nat) (Z : Obj) (u : World) : World := if okZ W b Z u then u else padZ W b Z
theorem below_padZ (W : World) (b : Nat) (Z : Obj) : Below W.heap.size W (padZ W b Z) := by
  refine ⟨rfl, rfl, rfl, by simp [padZ], fun k hk => ?_⟩
  simp only [padZ, List.getElem?_toArray]
  rw [List.getElem?_append_left (by simpa using hk)]
  simp
theorem padZ_at (W : World) (b : Nat) (Z : Obj) (h : W.heap.size ≤ b) : (padZ W b Z).heap[b]? = some Z := by
  simp only [padZ, List.getElem?_toArray]
  rw [List.getElem?_append_right (by simpa using h), List.getElem?_replicate, if_pos (by simp; omega)]
theorem below_aftZ (W : World) (b : Nat) (Z : Obj) (u : World) : Below W.heap.size W (aftZ W b Z u) := by
  unfold aftZ; split
  · rename_i h; exact h.1
  · exact below_padZ _ _ _
theorem aftZ_at (W : World) (b : Nat) (Z : Obj) (u : World) (h : W.heap.size ≤ b) : (aftZ W b Z u).heap[b]? = some Z := by
  unfold aftZ; split
  · rename_i h'; exact h'.2.2
  · exact padZ_at _ _ _ h
theorem aftZ_ex {W w : World} {b : Nat} {Z : Obj} (h : okZ W b Z w) : ∃ u, w = aftZ W b Z u := ⟨w, by unfold aftZ; rw [if_pos h]⟩
theorem size_aftZ (W : World) (b : Nat) (Z : Obj) (u : World) : W.heap.size ≤ (aftZ W b Z u).heap.size := (below_aftZ W b Z u).size
theorem lt_aftZ (W : World) (b : Nat) (Z : Obj) (u : World) (h : W.heap.size ≤ b) : b < (aftZ W b Z u).heap.size := (Array.getElem?_eq_some_iff.1 (aftZ_at W b Z u h)).1
noncomputable def nwCZ (W : World) (b : Nat) (Z : Obj) (u : World) (b' o : Nat) : Option Value := (aftZ W b Z u).cell? ⟨b', o, none⟩
noncomputable def nwFZ (W : World) (b : Nat) (Z : Obj) (u : World) (b' o : Nat) : Bool := (aftZ W b Z u).frozen? ⟨b', o, none⟩
theorem aftZ_cell (W : World) (b : Nat) (zs : Array Value) (T : TypeId) (u : World) (b' o : Nat) :
    (aftZ W b (.cells zs T) u).cell? ⟨b', o, none⟩ = if b' < W.heap.size then W.cell? ⟨b', o, none⟩ else if b' = b then zs[o]? else nwCZ W b (.cells zs T) u b' o := by
  split
  · exact (below_aftZ W b _ u).cell (p := ⟨b', o, none⟩) ‹_›
  · split
    · rename_i h1 h2
      subst h2
      have := aftZ_at W b' (.cells zs T) u (by omega)
      simp [World.cell?, this]
    · rfl
theorem aftZ_frozen (W : World) (b : Nat) (zs : Array Value) (T : TypeId) (u : World) (b' o : Nat) :
    (aftZ W b (.cells zs T) u).frozen? ⟨b', o, none⟩ = if b' < W.heap.size then W.frozen? ⟨b', o, none⟩ else if b' = b then false else nwFZ W b (.cells zs T) u b' o := by
  split
  · exact (below_aftZ W b _ u).frozen (p := ⟨b', o, none⟩) ‹_›
  · split
    · rename_i h1 h2
      subst h2
      have := aftZ_at W b' (.cells zs T) u (by omega)
      simp [World.frozen?, this]
    · rfl
attribute [go_sem] aftZ_cell aftZ_frozen
theorem Ext.aftZ {B : Nat} {w W : World} (h : Ext B w W) (b : Nat) (Z : Obj) (u : World) : Ext B w (aftZ W b Z u) := ⟨h.1.trans ((below_aftZ W b Z u).mono h.2), Nat.le_trans h.2 (size_aftZ _ _ _ _)⟩

/-- The class of worlds of the walk: before the block is made, and behind. -/
noncomputable def aftS (W : World) (S : Option Nat) (Z : Obj) (u : World) : World := match S with | none => aft W u | some b => aftZ W b Z u
theorem below_aftS (W : World) (S : Option Nat) (Z : Obj) (u : World) : Below W.heap.size W (aftS W S Z u) := by
  cases S
  · exact below_aft W u
  · exact below_aftZ W _ Z u
noncomputable def nwCS (W : World) (S : Option Nat) (Z : Obj) (u : World) (b' o : Nat) : Option Value := (aftS W S Z u).cell? ⟨b', o, none⟩
noncomputable def nwFS (W : World) (S : Option Nat) (Z : Obj) (u : World) (b' o : Nat) : Bool := (aftS W S Z u).frozen? ⟨b', o, none⟩
theorem aftS_cell (W : World) (S : Option Nat) (Z : Obj) (u : World) (b' o : Nat) : (aftS W S Z u).cell? ⟨b', o, none⟩ = if b' < W.heap.size then W.cell? ⟨b', o, none⟩ else nwCS W S Z u b' o := by
  split
  · exact (below_aftS W S Z u).cell (p := ⟨b', o, none⟩) ‹_›
  · rfl
theorem aftS_frozen (W : World) (S : Option Nat) (Z : Obj) (u : World) (b' o : Nat) : (aftS W S Z u).frozen? ⟨b', o, none⟩ = if b' < W.heap.size then W.frozen? ⟨b', o, none⟩ else nwFS W S Z u b' o := by
  split
  · exact (below_aftS W S Z u).frozen (p := ⟨b', o, none⟩) ‹_›
  · rfl
attribute [go_sem] aftS_cell aftS_frozen
def clsS (W : World) (Z : Obj) (S : Option Nat) (w' : World) : Prop := ∃ u, w' = aftS W S Z u ∧ (∀ b, S = some b → W.heap.size ≤ b)
theorem clsS_grow {W w w' : World} {Z : Obj} {S : Option Nat} (h : clsS W Z S w) (hb : Below w.heap.size w w') : clsS W Z S w' := by
  obtain ⟨u, rfl, hS⟩ := h
  cases S with
  | none =>
    obtain ⟨u', hu'⟩ := aft_ex ((below_aft W u).trans (Below.mono hb (size_aft W u)))
    exact ⟨u', hu', hS⟩
  | some b =>
    have h1 := hS b rfl
    obtain ⟨u', hu'⟩ := aftZ_ex (W := W) (b := b) (Z := Z) (w := w') ⟨(below_aftZ W b Z u).trans (Below.mono hb (size_aftZ W b Z u)), h1, by rw [hb.block b (lt_aftZ W b Z u h1)]; exact aftZ_at W b Z u h1⟩
    exact ⟨u', hu', hS⟩
theorem calmS {P : Program} {f : FuncId} {args : Array Value} {W u : World} {Z : Obj} {S : Option Nat} {v : Value} (hS : ∀ b, S = some b → W.heap.size ≤ b)
    (h : Calls P f args (aftS W S Z u) fun e w' => e = .returned v ∧ Below (aftS W S Z u).heap.size (aftS W S Z u) w') : Calls P f args (aftS W S Z u) fun e w'' => e = .returned v ∧ ∃ u', w'' = aftS W S Z u' :=
  h.mono fun _ _ ⟨he, hb⟩ => ⟨he, by obtain ⟨u', h1, _⟩ := clsS_grow ⟨u, rfl, hS⟩ hb; exact ⟨u', h1⟩⟩

section
variable {P : Program} {md : Region.Mode} {ops hd : Array Oper} {Q : Exit → Act → World → Prop} {k : Nat} {al : Oper}

theorem qOp_put' {C : World → Prop} {j : Nat} {oj : Oper} {v : Value} (hj : hd[j]? = some oj) (hap : al.apart hd oj = true) (hsj : ∀ cs b, oj.op ≠ .select cs b) {K K' : Act → Prop} {a : Act}
    (hK : ∀ a, K a → K' (a.put al.dst v)) (h : qOp P hd C j K a) : qOp P hd C j K' (a.put al.dst v) := by
  obtain ⟨h1, h2, h3⟩ := Oper.apart_spec hap
  unfold qOp at *
  simp only [hj] at *
  rw [wanted_put oj a al.dst v h1]
  split
  · rename_i hw
    simp only [hw, if_true] at h
    obtain ⟨u, hu, hn⟩ := h
    refine ⟨u, fun w hw' => ?_, ?_⟩
    · have := hu w hw'
      unfold Oper.quietAt at *
      rwa [execOp_put oj hsj a al.dst v h1]
    · rw [Act.put_comm a v u h2]; exact hK _ hn
  · rename_i hw
    simp only [hw] at h
    rw [Act.put_comm a v undef h2]; exact hK _ h

theorem wpAnyQ_put {C : World → Prop} {T : Act → Prop} {v : Value} (hap : ∀ (j : Nat) (oj : Oper), hd[j]? = some oj → al.apart hd oj = true) (hsel : ∀ (j : Nat) (o : Oper) cs b, hd[j]? = some o → o.op ≠ .select cs b) :
    ∀ (f : Nat) (l : Array Bool) (a : Act), wpAnyQ P md hd C T f l a → wpAnyQ P md hd C (fun a' => ∃ a0, a' = a0.put al.dst v ∧ T a0) f l (a.put al.dst v) := by
  intro f
  induction f with
  | zero => intro l a h; exact ⟨h.1, a, rfl, h.2⟩
  | succ f ih =>
    intro l a h
    refine ⟨fun h0 => ⟨a, rfl, h.1 h0⟩, fun i hi => ?_⟩
    obtain ⟨_, o, ho, _⟩ := mem_ready.1 hi
    exact qOp_put' ho (hap i o ho) (fun cs b => hsel i o cs b ho) (fun a' h' => ih _ _ h') (h.2 i hi)

def extA (n k : Nat) (fl : Bool) (l : Array Bool) : Array Bool := (l.toList ++ fl :: List.replicate (n - k - 1) false).toArray
theorem extA_lo {n k : Nat} {fl : Bool} {l : Array Bool} (h : l.size = k) (i : Nat) (hi : i < k) (d : Bool) : (extA n k fl l).getD i d = l.getD i d := by
  simp only [extA, Array.getD_eq_getD_getElem?, List.getElem?_toArray]
  rw [List.getElem?_append_left (by simpa [h] using hi)]
  simp
theorem extA_at {n k : Nat} {fl : Bool} {l : Array Bool} (h : l.size = k) (d : Bool) : (extA n k fl l).getD k d = fl := by
  simp only [extA, Array.getD_eq_getD_getElem?, List.getElem?_toArray]
  rw [List.getElem?_append_right (by simp [h])]
  simp [h]
theorem extA_set {n k : Nat} {fl : Bool} {l : Array Bool} (h : l.size = k) (i : Nat) (hi : i < k) : (extA n k fl l).setIfInBounds i true = extA n k fl (l.setIfInBounds i true) := by
  simp only [extA, List.setIfInBounds_toArray]
  rw [List.set_append_left _ _ (by simpa [h] using hi)]
  simp
theorem extA_flag {n k : Nat} {l : Array Bool} (h : l.size = k) : (extA n k false l).setIfInBounds k true = extA n k true l := by
  simp only [extA, List.setIfInBounds_toArray]
  rw [List.set_append_right _ _ (by simp [h])]
  simp [h]

theorem head_readyA (hsz : hd.size = k) (hN : ∀ i, i < k → hd[i]? = ops[i]?) (he : earlierB md hd = true) {fl : Bool} {l : Array Bool} (hl : l.size = k) {i : Nat} (hi : i < k) :
    i ∈ Region.ready md ops (extA ops.size k fl l) ↔ i ∈ Region.ready md hd l := by
  rw [mem_ready, mem_ready, extA_lo hl i hi, hN i hi]
  have key : ∀ o, ops[i]? = some o → ∀ e ∈ o.after, Region.binds md e = true → e.on < i := by
    intro o ho e hem hb
    have h3 := List.all_eq_true.1 he i (List.mem_range.2 (by omega))
    rw [hN i hi, ho] at h3
    have h4 := List.all_eq_true.1 h3 e (by simpa using hem)
    simpa only [hb, Bool.not_true, Bool.false_or, decide_eq_true_eq] using h4
  constructor
  · rintro ⟨h1, o, ho, h2⟩
    refine ⟨h1, o, ho, fun e hem hb => ?_⟩
    have := h2 e hem hb
    rwa [extA_lo hl e.on (by have := key o ho e hem hb; omega)] at this
  · rintro ⟨h1, o, ho, h2⟩
    refine ⟨h1, o, ho, fun e hem hb => ?_⟩
    rw [extA_lo hl e.on (by have := key o ho e hem hb; omega)]
    exact h2 e hem hb

theorem all_listed (hsz : hd.size = k) (he : earlierB md hd = true) {l : Array Bool} (hl : l.size = k) (hr : Region.ready md hd l = []) : l = Array.replicate k true := by
  apply Array.ext (by simp [hl])
  intro i h1 h2
  simp only [Array.getElem_replicate]
  cases hx : l[i] with
  | true => rfl
  | false =>
    obtain ⟨j, hj⟩ := some_ready (md := md) hsz he hl i (by omega) (by simp [h1, hx])
    rw [hr] at hj; cases hj

theorem ready_ltA (hsz : hd.size = k) (hlt : k + 1 < ops.size) (hs : Region.sinkB md ops (k + 1) = true) (hc : Region.chainB md ops (k + 1) = true)
    {fl : Bool} {l : Array Bool} (hl : l.size = k) (inv : HeadInv md ops (k + 1) (extA ops.size k fl l)) (hex : fl = false ∨ ∃ i, i ∈ Region.ready md hd l) : ∀ i ∈ Region.ready md ops (extA ops.size k fl l), i < k + 1 := by
  intro i hi
  rcases Nat.lt_or_ge i (k + 1) with h | h
  · exact h
  · rcases hex with rfl | ⟨j, hj⟩
    · exact absurd hi (tail_waits hs hc hlt inv _ k rfl (by omega) (extA_at hl true) i h)
    · have hjN : j < k := by obtain ⟨_, o, ho, _⟩ := mem_ready.1 hj; have := (Array.getElem?_eq_some_iff.1 ho).1; omega
      exact absurd hi (tail_waits hs hc hlt inv _ j rfl (by omega) (by rw [extA_lo hl j hjN]; exact (mem_ready.1 hj).1) i h)

/-- Behind the new block. -/
theorem any_behind (hsz : hd.size = k) (hN : ∀ i, i < k → hd[i]? = ops[i]?) (hlt : k + 1 < ops.size) (he : earlierB md hd = true) (hg : guardsB hd = true)
    (hs : Region.sinkB md ops (k + 1) = true) (hc : Region.chainB md ops (k + 1) = true) {g : Nat} {C : World → Prop} {T : Act → Prop}
    (hbase : ∀ a w, C w → T a → wpAny P md ops Q g (extA ops.size k true (Array.replicate k true)) a w) :
    ∀ (f : Nat) (l : Array Bool) (a : Act) (w : World), l.size = k → HeadInv md ops (k + 1) (extA ops.size k true l) → C w → wpAnyQ P md hd C T f l a → wpAny P md ops Q (f + g) (extA ops.size k true l) a w := by
  intro f
  induction f with
  | zero =>
    intro l a w hl inv hw h
    rw [all_listed hsz he hl h.1]
    exact wpAny_more' 0 (hbase a w hw h.2)
  | succ f ih =>
    intro l a w hl inv hw h
    by_cases hr : Region.ready md hd l = []
    · rw [all_listed hsz he hl hr]
      exact wpAny_more' _ (hbase a w hw (h.1 hr))
    · have hex : ∃ i, i ∈ Region.ready md hd l := by
        cases hq : Region.ready md hd l with
        | nil => exact absurd hq hr
        | cons i _ => exact ⟨i, by simp⟩
      rw [show f + 1 + g = (f + g) + 1 by omega]
      refine ⟨fun h0 => ?_, fun i hi => ?_⟩
      · obtain ⟨j, hj⟩ := hex
        have hjN : j < k := by obtain ⟨_, o, ho, _⟩ := mem_ready.1 hj; have := (Array.getElem?_eq_some_iff.1 ho).1; omega
        have := (head_readyA (fl := true) hsz hN he hl hjN).2 hj
        rw [h0] at this; cases this
      · have hiN := ready_ltA hsz hlt hs hc hl inv (.inr hex) i hi
        have hik : i < k := by
          rcases Nat.lt_or_ge i k with h' | h'
          · exact h'
          · obtain rfl : i = k := by omega
            have := (mem_ready.1 hi).1
            rw [extA_at hl] at this; cases this
        have hi' := (head_readyA hsz hN he hl hik).1 hi
        have hq := h.2 i hi'
        have inv' := inv.set hi hiN
        rw [extA_set hl i hik] at inv' ⊢
        unfold qOp at hq
        unfold wpOp
        rw [← hN i hik]
        cases ho : hd[i]? with
        | none => simp only [ho] at hq; exact ih _ _ _ (by simpa using hl) inv' hw hq
        | some o =>
          simp only [ho] at hq
          dsimp only
          rw [← guard_lt hsz hg ho a.tmps hN]
          split
          · rename_i hwt
            simp only [hwt, if_true] at hq
            exact .inl (Oper.wp_of_quiet hw (fun a' w' hw' k' => ih _ _ _ (by simpa using hl) inv' hw' k') hq)
          · rename_i hwt
            simp only [hwt] at hq
            exact ih _ _ _ (by simpa using hl) inv' hw hq

/-- Each slot is written once. -/
def dstB (hd : Array Oper) : Bool := (List.range hd.size).all fun i => (List.range hd.size).all fun j => decide (i = j) || (match hd[i]?, hd[j]? with
  | some x, some y => x.dst.isNone || x.dst != y.dst
  | _, _ => true)
theorem dstB_spec (h : dstB hd = true) {i j : Nat} {x y : Oper} (hi : hd[i]? = some x) (hj : hd[j]? = some y) (hne : i ≠ j) {d : Tmp} (hd' : x.dst = some d) : y.dst ≠ some d := by
  have hi' := (Array.getElem?_eq_some_iff.1 hi).1
  have hj' := (Array.getElem?_eq_some_iff.1 hj).1
  have h1 := List.all_eq_true.1 (List.all_eq_true.1 h i (List.mem_range.2 hi')) j (List.mem_range.2 hj')
  rw [hi, hj] at h1
  simp [hne, hd'] at h1
  exact fun e => h1 e.symm
theorem put_other (a : Act) (y : Option Tmp) (u : Value) (d : Tmp) (h : y ≠ some d) : (a.put y u).tmps[d]? = a.tmps[d]? := by
  cases y with
  | none => rfl
  | some e =>
    simp only [Act.put]
    rw [Array.getElem?_setIfInBounds_ne (by intro e'; exact h (by rw [e']))]
theorem keepSlot {C : World → Prop} {aF : Act} (hdst : dstB hd = true) {i : Nat} {o : Oper} {d : Tmp} (ho : hd[i]? = some o) (hd' : o.dst = some d) :
    ∀ (f : Nat) (l : Array Bool) (a : Act), l.size = k → l.getD i true = true → wpAnyQ P md hd C (fun a' => a' = aF) f l a → aF.tmps[d]? = a.tmps[d]? := by
  intro f
  induction f with
  | zero => intro l a _ _ h; rw [h.2]
  | succ f ih =>
    intro l a hl hli h
    cases hr : Region.ready md hd l with
    | nil => rw [h.1 hr]
    | cons j _ =>
      have hj : j ∈ Region.ready md hd l := by rw [hr]; simp
      obtain ⟨hun, oj, hoj, _⟩ := mem_ready.1 hj
      have hne : i ≠ j := by intro e; subst e; rw [hli] at hun; cases hun
      obtain ⟨v, _, hK⟩ := yieldsIn_of_qOp hoj (h.2 j hj)
      have h1 := ih _ _ (by simpa using hl) (by
        simp only [Array.getD_eq_getD_getElem?] at hli ⊢
        rw [Array.getElem?_setIfInBounds_ne (Ne.symm hne)]; exact hli) hK
      rw [h1, put_other a oj.dst v d (dstB_spec hdst ho hoj hne hd')]
theorem put_same (a : Act) (d : Tmp) (u v : Value) (h : (a.put (some d) u).tmps[d]? = (a.put (some d) v).tmps[d]?) : a.put (some d) u = a.put (some d) v := by
  simp only [Act.put] at h ⊢
  congr 1
  by_cases hlt : d < a.tmps.size
  · simp [hlt] at h; rw [h]
  · rw [Array.setIfInBounds_eq_of_size_le (Nat.le_of_not_lt hlt), Array.setIfInBounds_eq_of_size_le (Nat.le_of_not_lt hlt)]

/-- Ahead of the new block. -/
theorem any_ahead (hsz : hd.size = k) (hN : ∀ i, i < k → hd[i]? = ops[i]?) (hal : ops[k]? = some al) (hlt : k + 1 < ops.size) (he : earlierB md hd = true) (he2 : ∀ e ∈ al.after, Region.binds md e = true → e.on < k) (hg : guardsB hd = true)
    (hgal : al.guard = none) (hdst : dstB hd = true) (hap : ∀ (j : Nat) (oj : Oper), hd[j]? = some oj → al.apart hd oj = true) (hsel : ∀ (j : Nat) (o : Oper) cs b, hd[j]? = some o → o.op ≠ .select cs b)
    (hs : Region.sinkB md ops (k + 1) = true) (hc : Region.chainB md ops (k + 1) = true) {g : Nat} {W : World} {Z : Obj} {aF : Act}
    (hrun : ∀ (a : Act) (w : World), (execOp a.eval al).run P w = .ok (.value (.pointer (some ⟨w.heap.size, 0, none⟩))) (w.alloc Z))
    (hbase : ∀ b, W.heap.size ≤ b → ∀ a w, clsS W Z (some b) w → (∃ a0, a = a0.put al.dst (.pointer (some ⟨b, 0, none⟩)) ∧ a0 = aF) → wpAny P md ops Q g (extA ops.size k true (Array.replicate k true)) a w) :
    ∀ (f : Nat) (l : Array Bool) (a : Act) (w : World), l.size = k → HeadInv md ops (k + 1) (extA ops.size k false l) → clsS W Z none w → (∀ S, (∀ b, S = some b → W.heap.size ≤ b) → wpAnyQ P md hd (clsS W Z S) (fun a' => a' = aF) f l a) → wpAny P md ops Q (f + 1 + g) (extA ops.size k false l) a w := by
  have step : ∀ (f : Nat) (l : Array Bool) (a : Act) (w : World), l.size = k → HeadInv md ops (k + 1) (extA ops.size k true l) → clsS W Z none w → (∀ S, (∀ b, S = some b → W.heap.size ≤ b) → wpAnyQ P md hd (clsS W Z S) (fun a' => a' = aF) f l a) →
      wpOp P ops Q k (wpAny P md ops Q (f + g) (extA ops.size k true l)) a w := by
    intro f l a w hl inv hw h
    unfold wpOp
    rw [hal]
    dsimp only
    have hwt : Region.wanted al (yielded ops a.tmps) = true := by unfold Region.wanted; rw [hgal]
    rw [if_pos hwt]
    refine .inl ?_
    unfold Oper.wp
    rw [hrun a w]
    simp only [Oper.upon]
    obtain ⟨u, hu, _⟩ := hw
    have hW : W.heap.size ≤ w.heap.size := by rw [hu]; exact size_aft W u
    have hC : clsS W Z (some w.heap.size) (w.alloc Z) := by
      obtain ⟨u', hu'⟩ := aftZ_ex (W := W) (b := w.heap.size) (Z := Z) (w := w.alloc Z)
        ⟨Below.alloc (by rw [hu]; exact below_aft W u) hW Z, hW, by show (w.heap.push Z)[w.heap.size]? = some Z; simp⟩
      exact ⟨u', hu', fun b hb => by injection hb with hb; omega⟩
    exact any_behind (P := P) (Q := Q) (C := clsS W Z (some w.heap.size)) (T := fun a' => ∃ a0, a' = a0.put al.dst (.pointer (some ⟨w.heap.size, 0, none⟩)) ∧ a0 = aF) hsz hN hlt he hg hs hc
      (fun a' w' hw' hT => hbase w.heap.size hW a' w' hw' hT) f l _ _ hl inv hC (wpAnyQ_put hap hsel f l a (h (some w.heap.size) (fun b hb => by injection hb with hb; omega)))
  intro f
  have hnone : ∀ b : Nat, (none : Option Nat) = some b → W.heap.size ≤ b := fun b hb => by cases hb
  have kready : ∀ l : Array Bool, l.size = k → Region.ready md hd l = [] → k ∈ Region.ready md ops (extA ops.size k false l) := by
    intro l hl hr
    have := all_listed hsz he hl hr
    refine mem_ready.2 ⟨extA_at hl true, al, hal, fun e hem hb => ?_⟩
    have h1 := he2 e hem hb
    rw [extA_lo hl e.on h1, this]
    simp [h1]
  induction f with
  | zero =>
    intro l a w hl inv hw h
    have hr := (h none hnone).1
    rw [show 0 + 1 + g = (0 + g) + 1 by omega]
    refine ⟨fun h0 => (by have := kready l hl hr; rw [h0] at this; cases this), fun i hi => ?_⟩
    have hiN := ready_ltA hsz hlt hs hc hl inv (.inl rfl) i hi
    have hik : i = k := by
      rcases Nat.lt_or_ge i k with h' | h'
      · have := (head_readyA hsz hN he hl h').1 hi; rw [hr] at this; cases this
      · omega
    subst hik
    have inv' := inv.set hi hiN
    rw [extA_flag hl] at inv' ⊢
    exact step 0 l a w hl inv' hw h
  | succ f ih =>
    intro l a w hl inv hw h
    rw [show f + 1 + 1 + g = (f + 1 + g) + 1 by omega]
    refine ⟨fun h0 => ?_, fun i hi => ?_⟩
    · by_cases hr : Region.ready md hd l = []
      · have := kready l hl hr; rw [h0] at this; cases this
      · cases hq : Region.ready md hd l with
        | nil => exact absurd hq hr
        | cons j _ =>
          have hj : j ∈ Region.ready md hd l := by rw [hq]; simp
          have hjN : j < k := by obtain ⟨_, o, ho, _⟩ := mem_ready.1 hj; have := (Array.getElem?_eq_some_iff.1 ho).1; omega
          have := (head_readyA (fl := false) hsz hN he hl hjN).2 hj
          rw [h0] at this; cases this
    · have hiN := ready_ltA hsz hlt hs hc hl inv (.inl rfl) i hi
      rcases Nat.lt_or_ge i k with hik | hik
      · have hi' := (head_readyA hsz hN he hl hik).1 hi
        have inv' := inv.set hi hiN
        rw [extA_set hl i hik] at inv' ⊢
        have hq := (h none hnone).2 i hi'
        have hall : ∀ S, (∀ b, S = some b → W.heap.size ≤ b) → qOp P hd (clsS W Z S) i (wpAnyQ P md hd (clsS W Z S) (fun a' => a' = aF) f (l.setIfInBounds i true)) a := fun S hS => (h S hS).2 i hi'
        obtain ⟨_, o, ho, _⟩ := mem_ready.1 hi'
        unfold wpOp
        rw [← hN i hik, ho]
        dsimp only
        rw [← guard_lt hsz hg ho a.tmps hN]
        by_cases hwt : Region.wanted o (yielded hd a.tmps) = true
        · rw [if_pos hwt]
          refine .inl ?_
          -- the value that it yields is the same in every class
          have hv : ∃ v, (∀ w, clsS W Z none w → o.quietAt P a (clsS W Z none) w v) ∧ ∀ S, (∀ b, S = some b → W.heap.size ≤ b) → wpAnyQ P md hd (clsS W Z S) (fun a' => a' = aF) f (l.setIfInBounds i true) (a.put o.dst v) := by
            have hq0 := hall none hnone
            obtain ⟨v, hy, hK⟩ := yieldsIn_of_qOp ho hq0
            have hli : (l.setIfInBounds i true).getD i true = true := by
              simp [Array.getD_eq_getD_getElem?, hl, hik]
            refine ⟨v, fun w hw => ?_, fun S hS => ?_⟩
            · rcases hy with ⟨_, hy⟩ | ⟨hy, _⟩
              · exact hy w hw
              · rw [hwt] at hy; cases hy
            · obtain ⟨v', hy', hK'⟩ := yieldsIn_of_qOp ho (hall S hS)
              have e : a.put o.dst v = a.put o.dst v' := by
                cases hdo : o.dst with
                | none => rfl
                | some d =>
                  rw [hdo] at hK hK'
                  have h1 := keepSlot hdst ho hdo f _ _ (by simpa using hl) hli hK
                  have h2 := keepSlot hdst ho hdo f _ _ (by simpa using hl) hli hK'
                  exact put_same a d v v' (h1.symm.trans h2)
              rw [e]; exact hK'
          obtain ⟨v, hv1, hv2⟩ := hv
          exact Oper.wp_of_quiet (C := clsS W Z none) (K := fun a' => a' = a.put o.dst v) hw (fun a' w' hw' k' => by subst k'; exact ih _ _ _ (by simpa using hl) inv' hw' hv2) ⟨v, hv1, rfl⟩
        · rw [if_neg hwt]
          refine ih _ _ _ (by simpa using hl) inv' hw (fun S hS => ?_)
          have := hall S hS
          unfold qOp at this
          simp only [ho] at this
          rw [if_neg hwt] at this
          exact this
      · obtain rfl : i = k := by omega
        have inv' := inv.set hi hiN
        rw [extA_flag hl] at inv' ⊢
        have := step (f + 1) l a w hl inv' hw h
        exact this
/-- The checks, in one word: k is the new block's operation. -/
def calmNewB (l : List Oper) (k : Nat) : Bool :=
  decide (k + 1 < l.length) && Region.lexB .any (l.take k).toArray && earlierB .any (l.take k).toArray && guardsB (l.take k).toArray && dstB (l.take k).toArray && Region.sinkB .any l.toArray (k + 1) && Region.chainB .any l.toArray (k + 1) &&
  Region.seqB .any l.toArray (l.length - (k + 1)) (k + 1) (extA l.length k true (Array.replicate k true)) &&
  (match l[k]? with
   | some al => al.guard.isNone && (al.after.toList.all fun e => !Region.binds .any e || decide (e.on < k)) && ((l.take k).all fun o => al.apart (l.take k).toArray o)
   | none => false)

theorem wp_region_calm_new' {id : Nat} {a : Act} {W : World} {l : List Oper} (k : Nat) (Z : Obj) (aF : Act) (al : Oper) (hm : P.follows .mixedOrders = true) (hB : calmNewB l k = true) (hal : l[k]? = some al)
    (hrun : ∀ (a : Act) (w : World), (execOp a.eval al).run P w = .ok (.value (.pointer (some ⟨w.heap.size, 0, none⟩))) (w.alloc Z))
    (h : ∀ S : Option Nat, (∀ b, S = some b → W.heap.size ≤ b) → wpQuiet P (l.take k).toArray (fun w' => ∃ u, w' = aftS W S Z u) (fun a' => a' = aF) (l.take k) a)
    (hT : ∀ b u, W.heap.size ≤ b → b < (aftZ W b Z u).heap.size → wpList P l.toArray Q (l.drop (k + 1)) (aF.put al.dst (.pointer (some ⟨b, 0, none⟩))) (aftZ W b Z u)) : (Code.region id l.toArray true).wp P Q a W := by
  simp only [calmNewB, Bool.and_eq_true, decide_eq_true_eq, hal] at hB
  obtain ⟨⟨⟨⟨⟨⟨⟨⟨hlt, hlex⟩, he⟩, hg⟩, hdst⟩, hs⟩, hc⟩, hseq⟩, ⟨hgal, hdeps⟩, hap⟩ := hB
  have htl : (l.take k).length = k := by simp; omega
  have hsz : (l.take k).toArray.size = k := by simpa using htl
  have hN : ∀ i, i < k → (l.take k).toArray[i]? = l.toArray[i]? := fun i hi => by simp [hi]
  have hszl : l.toArray.size = l.length := by simp
  refine wp_region_any hm ?_
  have hcls : ∀ S : Option Nat, (∀ b, S = some b → W.heap.size ≤ b) → clsS W Z S = (fun w' => ∃ u, w' = aftS W S Z u) := by
    intro S hS
    funext w'
    exact propext ⟨fun ⟨u, hu, _⟩ => ⟨u, hu⟩, fun ⟨u, hu⟩ => ⟨u, hu, hS⟩⟩
  have e : extA l.toArray.size k false (Array.replicate k false) = Array.replicate l.toArray.size false := by
    apply Array.ext'
    simp only [extA, Array.toList_replicate, List.size_toArray]
    rw [← List.replicate_succ, List.replicate_append_replicate]
    congr 1; omega
  have inv0 : HeadInv .any l.toArray (k + 1) (extA l.toArray.size k false (Array.replicate k false)) := by
    rw [e]
    exact ⟨by simp, fun j oj _ hl => (by rw [getD_replicate_false] at hl; cases hl), fun t _ ht => getD_in (by simpa using ht) (getD_replicate_false _ _)⟩
  simp only [Region.lexB, Bool.and_eq_true] at hlex
  have hQ : ∀ S : Option Nat, (∀ b, S = some b → W.heap.size ≤ b) → wpAnyQ P .any (l.take k).toArray (clsS W Z S) (fun a' => a' = aF) k (Array.replicate k false) a := by
    intro S hS
    rw [hcls S hS]
    have h1 := wpAnyQ_lex (P := P) (C := fun w' => ∃ u, w' = aftS W S Z u) (md := .any) (Q := fun a' => a' = aF) hlex.1 (l.take k) 0 (Array.replicate k false) a (by simp) (by
      have := hlex.2
      rw [hsz] at this
      rw [htl]; exact this) (h S hS)
    rw [htl] at h1
    exact h1
  have H := any_ahead (P := P) (md := .any) (hd := (l.take k).toArray) (ops := l.toArray) (Q := Q) (al := al) (k := k) (g := l.length - (k + 1)) (W := W) (Z := Z) (aF := aF) hsz hN (by simpa using hal) (by rw [hszl]; exact hlt) he
    (fun e' hem hb => by
      have := List.all_eq_true.1 hdeps e' (by simpa using hem)
      simpa only [hb, Bool.not_true, Bool.false_or, decide_eq_true_eq] using this)
    hg (by simpa using hgal) hdst (fun j oj hj => List.all_eq_true.1 hap oj (by
      have hj' : j < (l.take k).length := by rw [htl]; have := (Array.getElem?_eq_some_iff.1 hj).1; omega
      have : (l.take k)[j]? = some oj := by simpa using hj
      exact List.mem_of_getElem? this))
    (Region.noSelect_spec hlex.1) hs hc hrun
    (fun b hb a' w' ⟨u, hu, _⟩ ⟨a0, ha, ha0⟩ => by
      subst ha0 ha
      have hu' : w' = aftZ W b Z u := hu
      subst hu'
      have := wpAny_of_seq (md := .any) (Q' := Q) (l.drop (k + 1)) (k + 1) (extA l.toArray.size k true (Array.replicate k true)) (a0.put al.dst (.pointer (some ⟨b, 0, none⟩))) (aftZ W b Z u) (fun j => by simp [List.getElem?_drop]) (by rw [hszl, List.length_drop]; exact hseq) (hT b u hb (lt_aftZ W b Z u hb))
      rwa [List.length_drop] at this)
    k (Array.replicate k false) a { W with drawn := W.drawn + 1 } (by simp) inv0 (by
      obtain ⟨u, hu⟩ := aft_ex (w := W) (w' := { W with drawn := W.drawn + 1 }) (Below.drew (Below.refl W.heap.size W))
      exact ⟨u, hu, fun b hb => by cases hb⟩) hQ
  rw [e] at H
  rwa [show k + 1 + (l.length - (k + 1)) = l.toArray.size by simp; omega] at H
theorem wp_region_calm_new {id : Nat} {a : Act} {W : World} {l : List Oper} (k : Nat) (Z : Obj) (al : Oper) (hm : P.follows .mixedOrders = true) (hB : calmNewB l k = true) (hal : l[k]? = some al)
    (hrun : ∀ (a : Act) (w : World), (execOp a.eval al).run P w = .ok (.value (.pointer (some ⟨w.heap.size, 0, none⟩))) (w.alloc Z))
    (h : ∃ aF, (∀ S : Option Nat, (∀ b, S = some b → W.heap.size ≤ b) → wpQuiet P (l.take k).toArray (fun w' => ∃ u, w' = aftS W S Z u) (fun a' => a' = aF) (l.take k) a) ∧
      ∀ b u, W.heap.size ≤ b → b < (aftZ W b Z u).heap.size → wpList P l.toArray Q (l.drop (k + 1)) (aF.put al.dst (.pointer (some ⟨b, 0, none⟩))) (aftZ W b Z u)) : (Code.region id l.toArray true).wp P Q a W := by
  obtain ⟨aF, h1, h2⟩ := h
  exact wp_region_calm_new' k Z aF al hm hB hal hrun h1 h2
end
end Go.Proofs.Ytbkbcbanfnhjpaa

/- What 'go_region_held3' holds: the cells of the blocks that were there at the region's beginning. -/
namespace Go.Proofs.Ytbkbcbanfnhjpaa
open Go Go.RowKit

theorem held_aft {W w1 : World} (h : (∀ b o, b < W.heap.size → w1.cell? ⟨b, o, none⟩ = W.cell? ⟨b, o, none⟩) ∧ W.heap.size ≤ w1.heap.size) (u : World) : (∀ b o, b < W.heap.size → (aft w1 u).cell? ⟨b, o, none⟩ = W.cell? ⟨b, o, none⟩) ∧ W.heap.size ≤ (aft w1 u).heap.size :=
  ⟨fun b o hb => by rw [aft_cell, if_pos (by omega)]; exact h.1 b o hb, le_aft h.2⟩
theorem held_alloc {W w1 : World} (h : (∀ b o, b < W.heap.size → w1.cell? ⟨b, o, none⟩ = W.cell? ⟨b, o, none⟩) ∧ W.heap.size ≤ w1.heap.size) (zs : Array Value) (T : TypeId) : (∀ b o, b < W.heap.size → (w1.alloc (.cells zs T)).cell? ⟨b, o, none⟩ = W.cell? ⟨b, o, none⟩) ∧ W.heap.size ≤ (w1.alloc (.cells zs T)).heap.size :=
  ⟨fun b o hb => by rw [alloc_cell, if_neg (by omega)]; exact h.1 b o hb, by simp; omega⟩
theorem held_refl {W : World} : (∀ b o, b < W.heap.size → W.cell? ⟨b, o, none⟩ = W.cell? ⟨b, o, none⟩) ∧ W.heap.size ≤ W.heap.size := ⟨fun _ _ _ => rfl, Nat.le_refl _⟩
theorem held_drew {W w1 : World} (h : (∀ b o, b < W.heap.size → w1.cell? ⟨b, o, none⟩ = W.cell? ⟨b, o, none⟩) ∧ W.heap.size ≤ w1.heap.size) : (∀ b o, b < W.heap.size → w1.drew.cell? ⟨b, o, none⟩ = W.cell? ⟨b, o, none⟩) ∧ W.heap.size ≤ w1.drew.heap.size := h
theorem held_set {W w1 : World} (h : (∀ b o, b < W.heap.size → w1.cell? ⟨b, o, none⟩ = W.cell? ⟨b, o, none⟩) ∧ W.heap.size ≤ w1.heap.size) {b' o' : Nat} {v : Value} (hb : W.heap.size ≤ b') : (∀ b o, b < W.heap.size → (w1.setCell ⟨b', o', none⟩ v).cell? ⟨b, o, none⟩ = W.cell? ⟨b, o, none⟩) ∧ W.heap.size ≤ (w1.setCell ⟨b', o', none⟩ v).heap.size :=
  ⟨fun b o hlt => by rw [set_cell, if_neg (by omega)]; exact h.1 b o hlt, by simpa using h.2⟩
theorem le_drew {b : Nat} {w : World} (h : b ≤ w.heap.size) : b ≤ w.drew.heap.size := h
def blk (w : World) (b : Nat) : Option Obj := w.heap[b]?
noncomputable def nwB (w u : World) (b : Nat) : Option Obj := blk (aft w u) b
theorem aft_blk (w u : World) (b : Nat) : blk (aft w u) b = if b < w.heap.size then blk w b else nwB w u b := by
  split
  · exact (below_aft w u).block b ‹_›
  · rfl
theorem alloc_blk (w : World) (o : Obj) (b : Nat) : blk (w.alloc o) b = if b = w.heap.size then some o else blk w b := by
  show (w.heap.push o)[b]? = _
  rw [Array.getElem?_push]; rfl
theorem set_blk (w : World) (b o b' : Nat) (v : Value) : blk (w.setCell ⟨b, o, none⟩ v) b' = if b = b' then (blk w b').map (fun x => match x with | .cells c e f => .cells (c.setIfInBounds o v) e f | y => y) else blk w b' := by
  simp only [blk, World.setCell, Array.getElem?_modify]
  split <;> rfl
theorem drew_blk (w : World) (b : Nat) : blk w.drew b = blk w b := rfl
theorem okZ_mk {W w : World} {b : Nat} {Z : Obj} (h : Below W.heap.size W w) (hb : W.heap.size ≤ b) (hz : blk w b = some Z) : okZ W b Z w := ⟨h, hb, hz⟩
theorem okZ.keep {W w : World} {b b' : Nat} {Z : Obj} (h : okZ W b Z w) (hb : b' < W.heap.size) (o : Nat) : w.cell? ⟨b', o, none⟩ = W.cell? ⟨b', o, none⟩ := h.1.cell (p := ⟨b', o, none⟩) hb
theorem okZ.at {W w : World} {b : Nat} {zs : Array Value} {T : TypeId} (h : okZ W b (.cells zs T) w) (o : Nat) : w.cell? ⟨b, o, none⟩ = zs[o]? := by
  have := h.2.2
  simp [World.cell?, this]
theorem okZ.lt {W w : World} {b : Nat} {Z : Obj} (h : okZ W b Z w) : b < w.heap.size := (Array.getElem?_eq_some_iff.1 h.2.2).1
theorem okZ.ext {W w w0 : World} {b : Nat} {Z : Obj} (h : okZ W b Z w) (hE : Ext w0.heap.size w0 W) : Ext w0.heap.size w0 w := hE.below h.1
theorem Ext.of {w0 W w : World} (hE : Ext w0.heap.size w0 W) (h : Ext W.heap.size W w) : Ext w0.heap.size w0 w := hE.below h.1
end Go.Proofs.Ytbkbcbanfnhjpaa

/- Permutations and groups of at most six points: plain. -/
namespace Go.Proofs.Ytbkbcbanfnhjpaa
open Go Go.RowKit

/-- The number of permutations of n points. -/
def facN : Nat → Nat
  | 0 => 1
  | k + 1 => (k + 1) * facN k
theorem facN_pos (k : Nat) : 0 < facN k := by
  induction k with
  | zero => simp [facN]
  | succ k ih => exact Nat.mul_pos (by omega) ih
def facB : Nat → Bool := fun k => decide (facN k ≤ 720)
theorem facN_le {k : Nat} (h : k ≤ 6) : facN k ≤ 720 := by
  have : ∀ k : Fin 7, facN k ≤ 720 := by decide
  exact this ⟨k, by omega⟩
/-- The list 0, 1, .. -/
def idP (n : Nat) : List Int := (List.range n).map fun (i : Nat) => (i : Int)
theorem idP_len (n : Nat) : (idP n).length = n := by simp [idP]
theorem idP_succ (n : Nat) : idP (n + 1) = idP n ++ [(n : Int)] := by simp [idP, List.range_succ]
/-- The rest of the permutation with rank r on the points that are left. -/
def withG : Nat → Int → List Int → List Int
  | 0, _, _ => []
  | k + 1, r, left => left.getD (r / (facN k : Int)).toNat 0 :: withG k (r % (facN k : Int)) (left.eraseIdx (r / (facN k : Int)).toNat)
def withF (n : Nat) (r : Int) : List Int := withG n r (idP n)
/-- The product of two permutations. -/
def prodF (a b : List Int) : List Int := b.map fun i => a.getD i.toNat 0
theorem prodF_len (a b : List Int) : (prodF a b).length = b.length := by simp [prodF]
/-- How many of a list are less. -/
def lessN (x : Int) (r : List Int) : Nat := r.countP fun y => decide (y < x)
theorem lessN_le (x : Int) (r : List Int) : lessN x r ≤ r.length := List.countP_le_length
theorem lessN_nil (x : Int) : lessN x [] = 0 := rfl
theorem lessN_snoc (x y : Int) (r : List Int) : lessN x (r ++ [y]) = lessN x r + (if y < x then 1 else 0) := by
  simp [lessN, List.countP_append, List.countP_cons]
def rankG : Int → List Int → Int
  | n, [] => n
  | n, x :: r => rankG (n * ((r.length + 1 : Nat) : Int) + (lessN x r : Int)) r
/-- The rank of a permutation. -/
def rankF (a : List Int) : Int := rankG 0 a
theorem rankG_bd (a : List Int) : ∀ n : Int, 0 ≤ n → n * (facN a.length : Int) ≤ rankG n a ∧ rankG n a < (n + 1) * (facN a.length : Int) := by
  induction a with
  | nil => intro n h; simp [rankG, facN]; omega
  | cons x r ih =>
    intro n h
    have hl := lessN_le x r
    have hn : 0 ≤ n * ((r.length + 1 : Nat) : Int) := Int.mul_nonneg h (by omega)
    obtain ⟨h1, h2⟩ := ih (n * ((r.length + 1 : Nat) : Int) + (lessN x r : Int)) (by omega)
    have hf := facN_pos r.length
    show n * ((((r.length + 1) * facN r.length : Nat)) : Int) ≤ rankG _ r ∧ rankG _ r < (n + 1) * ((((r.length + 1) * facN r.length : Nat)) : Int)
    rw [Int.natCast_mul, ← Int.mul_assoc, ← Int.mul_assoc]
    refine ⟨Int.le_trans (Int.mul_le_mul_of_nonneg_right ?_ (by omega)) h1, Int.lt_of_lt_of_le h2 (Int.mul_le_mul_of_nonneg_right ?_ (by omega))⟩
    · omega
    · rw [Int.add_mul]; omega
theorem rankF_bd (a : List Int) : 0 ≤ rankF a ∧ rankF a < (facN a.length : Int) := by
  have := rankG_bd a 0 (by omega)
  unfold rankF; omega
theorem rankF_720 {a : List Int} (h : a.length ≤ 6) : 0 ≤ rankF a ∧ rankF a ≤ 719 := by
  have h1 := rankF_bd a
  have h2 := facN_le h
  omega

/-- What is checked of each rank: length, range, and that its rank is the rank. -/
def withOk (n r : Nat) : Bool := (withF n r).length == n && (withF n r).all (fun x => decide (0 ≤ x ∧ x < n)) && (rankF (withF n r) == (r : Int)) && decide (withF n r).Nodup
def allOk : Bool := (List.range 7).all fun n => (List.range (facN n)).all fun r => withOk n r
set_option maxRecDepth 100000 in
theorem allOk_t : allOk = true := by decide +kernel
theorem withOk_t {n r : Nat} (h : n ≤ 6) (hr : r < facN n) : withOk n r = true := by
  have := allOk_t
  unfold allOk at this
  rw [List.all_eq_true] at this
  have := this n (by simp; omega)
  rw [List.all_eq_true] at this
  exact this r (by simp; omega)
structure WithOk (n : Nat) (r : Int) : Prop where
  len : (withF n r).length = n
  rng : ∀ x ∈ withF n r, 0 ≤ x ∧ x < n
  rank : rankF (withF n r) = r
  nodup : (withF n r).Nodup
theorem with_ok {n : Nat} {r : Int} (h : n ≤ 6) (h0 : 0 ≤ r) (hr : r < (facN n : Int)) : WithOk n r := by
  obtain ⟨k, rfl⟩ : ∃ k : Nat, r = k := ⟨r.toNat, by omega⟩
  have := withOk_t h (show k < facN n by omega)
  unfold withOk at this
  simp only [Bool.and_eq_true, beq_iff_eq, List.all_eq_true, decide_eq_true_eq] at this
  exact ⟨this.1.1.1, this.1.1.2, this.1.2, this.2⟩

/-- A list that rises, within 0 and below F. -/
def risesB (F : Int) : Int → List Int → Bool
  | _, [] => true
  | p, x :: r => decide (p < x) && decide (x < F) && risesB F x r
def closedB (n : Nat) (rs : List Int) : Bool := rs.all fun x => rs.all fun y => rs.contains (rankF (prodF (withF n x) (withF n y)))
def groupB (n : Int) (rs : List Int) : Bool := decide (1 ≤ n ∧ n ≤ 6) && (rs.head? == some 0) && risesB (facN n.toNat : Int) (-1) rs && closedB n.toNat rs
theorem rises_mem {F : Int} : ∀ (rs : List Int) (p : Int), risesB F p rs = true → ∀ x ∈ rs, p < x ∧ x < F := by
  intro rs
  induction rs with
  | nil => intro p _ x hx; simp at hx
  | cons y r ih =>
    intro p h x hx
    simp only [risesB, Bool.and_eq_true, decide_eq_true_eq] at h
    rcases List.mem_cons.1 hx with rfl | hx
    · exact h.1
    · have := ih y h.2 x hx; omega
theorem rises_pair {F : Int} : ∀ (rs : List Int) (p : Int), risesB F p rs = true → rs.Pairwise (· < ·) := by
  intro rs
  induction rs with
  | nil => intro p _; exact List.Pairwise.nil
  | cons y r ih =>
    intro p h
    simp only [risesB, Bool.and_eq_true, decide_eq_true_eq] at h
    exact List.Pairwise.cons (fun x hx => (rises_mem r y h.2 x hx).1) (ih y h.2)
end Go.Proofs.Ytbkbcbanfnhjpaa

/- Lists that rise; flags: plain. -/
namespace Go.Proofs.Ytbkbcbanfnhjpaa
open Go Go.RowKit

theorem asc_unique : ∀ {a b : List Int}, a.Pairwise (· < ·) → b.Pairwise (· < ·) → (∀ x, x ∈ a ↔ x ∈ b) → a = b := by
  intro a
  induction a with
  | nil =>
    intro b _ _ h
    rcases b with _ | ⟨y, s⟩
    · rfl
    · exact absurd ((h y).2 (by simp)) (by simp)
  | cons x r ih =>
    intro b ha hb h
    rcases b with _ | ⟨y, s⟩
    · exact absurd ((h x).1 (by simp)) (by simp)
    · rw [List.pairwise_cons] at ha hb
      have e : x = y := by
        rcases List.mem_cons.1 ((h x).1 (by simp)) with e | e
        · exact e
        · rcases List.mem_cons.1 ((h y).2 (by simp)) with e' | e'
          · exact e'.symm
          · have := hb.1 x e; have := ha.1 y e'; omega
      subst e
      congr 1
      refine ih ha.2 hb.2 fun z => ?_
      have hz := h z
      constructor
      · intro hm
        rcases List.mem_cons.1 (hz.1 (by simp [hm])) with e | e
        · have := ha.1 z hm; omega
        · exact e
      · intro hm
        rcases List.mem_cons.1 (hz.2 (by simp [hm])) with e | e
        · have := hb.1 z hm; omega
        · exact e

/-- Which of 0 .. F - 1 are in a list. -/
def flagsOf (F : Nat) (xs : List Int) : List Bool := (List.range F).map fun (i : Nat) => xs.contains (i : Int)
theorem flagsOf_len (F : Nat) (xs : List Int) : (flagsOf F xs).length = F := by simp [flagsOf]
theorem flagsOf_nil (F : Nat) : flagsOf F [] = List.replicate F false := by
  refine List.ext_getElem (by simp [flagsOf]) fun i h1 h2 => ?_
  simp [flagsOf]
theorem flagsOf_get {F : Nat} {xs : List Int} {i : Nat} (h : i < F) : (flagsOf F xs)[i]? = some (xs.contains (i : Int)) := by
  simp [flagsOf, h]
theorem flagsOf_set {F : Nat} {xs : List Int} {i : Nat} (h : i < F) : (flagsOf F xs).set i true = flagsOf F (xs ++ [(i : Int)]) := by
  refine List.ext_getElem (by simp [flagsOf]) fun k h1 h2 => ?_
  rw [List.getElem_set]
  simp only [flagsOf, List.getElem_map, List.getElem_range, List.contains_eq_mem, List.mem_append, List.mem_singleton]
  split
  · rename_i e; subst e; simp
  · rename_i e
    have : ¬ (k : Int) = (i : Int) := by omega
    simp [this]
theorem flagsOf_congr {F : Nat} {xs ys : List Int} (h : ∀ x, x ∈ xs ↔ x ∈ ys) : flagsOf F xs = flagsOf F ys := by
  refine List.map_congr_left fun i _ => ?_
  simp only [List.contains_eq_mem, h]
/-- The numbers that flags tell, as far as the first k. -/
def listedU (xs : List Int) (k : Nat) : List Int := ((List.range k).filter fun (i : Nat) => xs.contains (i : Int)).map fun (i : Nat) => (i : Int)
theorem listedU_zero (xs : List Int) : listedU xs 0 = [] := rfl
theorem listedU_succ (xs : List Int) (k : Nat) : listedU xs (k + 1) = if xs.contains (k : Int) then listedU xs k ++ [(k : Int)] else listedU xs k := by
  unfold listedU
  rw [List.range_succ, List.filter_append, List.map_append]
  cases h : xs.contains (k : Int) <;> simp only [List.filter_cons, h] <;> simp
theorem listedU_mem {xs : List Int} {k : Nat} {x : Int} : x ∈ listedU xs k ↔ 0 ≤ x ∧ x < k ∧ x ∈ xs := by
  unfold listedU
  simp only [List.mem_map, List.mem_filter, List.mem_range, List.contains_eq_mem, decide_eq_true_eq]
  constructor
  · rintro ⟨i, ⟨h1, h2⟩, rfl⟩; exact ⟨by omega, by omega, h2⟩
  · rintro ⟨h1, h2, h3⟩; exact ⟨x.toNat, ⟨by omega, by rwa [show ((x.toNat : Nat) : Int) = x by omega]⟩, by omega⟩
theorem listedU_asc (xs : List Int) (k : Nat) : (listedU xs k).Pairwise (· < ·) := by
  unfold listedU
  rw [List.pairwise_map]
  refine List.Pairwise.imp (R := fun (a b : Nat) => a < b) (fun h => by omega) ?_
  exact List.Pairwise.sublist List.filter_sublist (List.pairwise_lt_range)
theorem listedU_len (xs : List Int) (k : Nat) : (listedU xs k).length ≤ k := by
  unfold listedU
  rw [List.length_map]
  exact Nat.le_trans (List.length_filter_le _ _) (by simp)
/-- A list that rises is what the flags of its members tell. -/
theorem listedU_self {xs ys : List Int} {k : Nat} (ha : xs.Pairwise (· < ·)) (hr : ∀ x ∈ xs, 0 ≤ x ∧ x < k) (h : ∀ x, x ∈ xs ↔ x ∈ ys) : listedU ys k = xs :=
  asc_unique (listedU_asc _ _) ha fun x => by rw [listedU_mem, ← h]; exact ⟨fun h => h.2.2, fun h => ⟨(hr x h).1, (hr x h).2, h⟩⟩
/-- Sorted, each once. -/
def sortU (xs : List Int) : List Int := listedU xs 720
end Go.Proofs.Ytbkbcbanfnhjpaa

/- The permutations that some generate: plain. -/
namespace Go.Proofs.Ytbkbcbanfnhjpaa
open Go Go.RowKit

/-- A row of n points. -/
def PermL (n : Nat) (x : List Int) : Prop := x.length = n ∧ ∀ y ∈ x, 0 ≤ y ∧ y < (n : Int)
theorem PermL.id (n : Nat) : PermL n (idP n) := ⟨idP_len n, fun y hy => by
  unfold idP at hy
  obtain ⟨i, hi, rfl⟩ := List.mem_map.1 hy
  rw [List.mem_range] at hi
  omega⟩
theorem PermL.prod {n : Nat} {a b : List Int} (ha : PermL n a) (hb : PermL n b) : PermL n (prodF a b) := ⟨by rw [prodF_len]; exact hb.1, fun y hy => by
  unfold prodF at hy
  obtain ⟨i, hi, rfl⟩ := List.mem_map.1 hy
  have hr := hb.2 i hi
  have hl : i.toNat < a.length := by rw [ha.1]; omega
  rw [List.getD_eq_getElem?_getD, List.getElem?_eq_getElem hl]
  exact ha.2 _ (List.getElem_mem hl)⟩
theorem PermL.rk {n : Nat} {a : List Int} (ha : PermL n a) : 0 ≤ rankF a ∧ rankF a < (facN n : Int) := by
  have := rankF_bd a
  rw [ha.1] at this
  exact this
/-- Numbers below F, each once, are at most F. -/
theorem nodup_len : ∀ (F : Nat) (xs : List Int), xs.Nodup → (∀ x ∈ xs, 0 ≤ x ∧ x < (F : Int)) → xs.length ≤ F := by
  intro F
  induction F with
  | zero =>
    intro xs _ h
    rcases xs with _ | ⟨x, r⟩
    · simp
    · have := h x (by simp); omega
  | succ F ih =>
    intro xs hn h
    by_cases hm : (F : Int) ∈ xs
    · have h1 := ih (xs.erase (F : Int)) (hn.erase _) (fun x hx => by
        have h2 := (hn.mem_erase_iff).1 hx
        have h3 := h x h2.2
        have := h2.1
        omega)
      rw [List.length_erase_of_mem hm] at h1
      omega
    · have h1 := ih xs hn (fun x hx => by
        have h3 := h x hx
        have : x ≠ (F : Int) := fun e => hm (by rw [← e]; exact hx)
        omega)
      omega

def addG (ms : List (List Int)) (b : List Int) : List (List Int) := if (ms.map rankF).contains (rankF b) = true then ms else ms ++ [b]
def expG (gs : List (List Int)) (x : List Int) (ms : List (List Int)) : List (List Int) := gs.foldl (fun ms a => addG ms (prodF a x)) ms
def bfsG (gs : List (List Int)) : Nat → Nat → List (List Int) → List (List Int)
  | 0, _, ms => ms
  | f + 1, k, ms => match ms[k]? with
    | none => ms
    | some x => bfsG gs f (k + 1) (expG gs x ms)
/-- All that some generate, in the order of the search. -/
def genM (n : Nat) (gs : List (List Int)) : List (List Int) := bfsG gs (facN n + 1) 0 [idP n]
def genR (n : Nat) (gs : List (List Int)) : List Int := listedU ((genM n gs).map rankF) (facN n)

/-- What the list of the search is at each step. -/
structure GoodM (n : Nat) (ms : List (List Int)) : Prop where
  perm : ∀ x ∈ ms, PermL n x
  nodup : (ms.map rankF).Nodup
theorem GoodM.len {n : Nat} {ms : List (List Int)} (h : GoodM n ms) : ms.length ≤ facN n := by
  have := nodup_len (facN n) (ms.map rankF) h.nodup (fun x hx => by
    obtain ⟨y, hy, rfl⟩ := List.mem_map.1 hx
    exact (h.perm y hy).rk)
  rwa [List.length_map] at this
theorem GoodM.one (n : Nat) : GoodM n [idP n] := ⟨fun x hx => by rw [List.mem_singleton.1 hx]; exact PermL.id n, by simp⟩
theorem addG_has {ms : List (List Int)} {b : List Int} (h : (ms.map rankF).contains (rankF b) = true) : addG ms b = ms := by unfold addG; rw [if_pos h]
theorem addG_new {ms : List (List Int)} {b : List Int} (h : (ms.map rankF).contains (rankF b) = false) : addG ms b = ms ++ [b] := by unfold addG; rw [if_neg (by rw [h]; decide)]
theorem GoodM.snoc {n : Nat} {ms : List (List Int)} {b : List Int} (h : GoodM n ms) (hb : PermL n b) (hc : (ms.map rankF).contains (rankF b) = false) : GoodM n (ms ++ [b]) := by
  refine ⟨fun x hx => ?_, ?_⟩
  · rcases List.mem_append.1 hx with hx | hx
    · exact h.perm x hx
    · rw [List.mem_singleton.1 hx]; exact hb
  · rw [List.map_append, List.nodup_append]
    refine ⟨h.nodup, by simp, ?_⟩
    intro a ha c hcc e
    simp at hcc
    subst hcc
    subst e
    rw [List.contains_eq_mem] at hc
    simp only [decide_eq_false_iff_not] at hc
    exact hc ha
theorem GoodM.add {n : Nat} {ms : List (List Int)} {b : List Int} (h : GoodM n ms) (hb : PermL n b) : GoodM n (addG ms b) := by
  cases hc : (ms.map rankF).contains (rankF b)
  · rw [addG_new hc]; exact h.snoc hb hc
  · rw [addG_has hc]; exact h
theorem addG_pre (ms : List (List Int)) (b : List Int) : ms <+: addG ms b := by
  unfold addG
  split
  · exact List.prefix_refl _
  · exact List.prefix_append _ _
theorem addG_get {ms : List (List Int)} {k : Nat} {x : List Int} (h : ms[k]? = some x) (b : List Int) : (addG ms b)[k]? = some x := by
  unfold addG
  split
  · exact h
  · rw [List.getElem?_append_left (List.getElem?_eq_some_iff.1 h).1]; exact h
theorem expG_nil (x : List Int) (ms : List (List Int)) : expG [] x ms = ms := rfl
theorem expG_cons (a : List Int) (gs : List (List Int)) (x : List Int) (ms : List (List Int)) : expG (a :: gs) x ms = expG gs x (addG ms (prodF a x)) := rfl
theorem expG_drop {gs : List (List Int)} {j : Nat} (h : j < gs.length) (x : List Int) (ms : List (List Int)) : expG (gs.drop j) x ms = expG (gs.drop (j + 1)) x (addG ms (prodF gs[j] x)) := by
  rw [List.drop_eq_getElem_cons h, expG_cons]
theorem bfsG_step {gs : List (List Int)} {f k : Nat} {ms : List (List Int)} {x : List Int} (h : ms[k]? = some x) : bfsG gs (f + 1) k ms = bfsG gs f (k + 1) (expG gs x ms) := by
  conv => lhs; unfold bfsG
  rw [h]
theorem bfsG_end (gs : List (List Int)) (f : Nat) (ms : List (List Int)) : bfsG gs f ms.length ms = ms := by
  cases f with
  | zero => rfl
  | succ f => unfold bfsG; rw [List.getElem?_eq_none (Nat.le_refl _)]
/-- The queue of the search, its head taken. -/
theorem drop_head {ms : List (List Int)} {k : Nat} {x : List Int} (h : ms[k]? = some x) : ms.drop k = x :: ms.drop (k + 1) := by
  obtain ⟨h1, h2⟩ := List.getElem?_eq_some_iff.1 h
  rw [List.drop_eq_getElem_cons h1, h2]
theorem genM_len {n : Nat} {gs : List (List Int)} : (genR n gs).length ≤ facN n := listedU_len _ _
end Go.Proofs.Ytbkbcbanfnhjpaa

/- A queue of slices: a slice whose head is cut off, and appends to it. -/
namespace Go.Proofs.Ytbkbcbanfnhjpaa
open Go Go.RowKit

/-- v reads as these values, and what lies behind them up to its room is the call's own. -/
def ownQ (B : Nat) (w : World) (v : Value) (es : List Value) : Prop :=
  ∃ g off cap, v = .slice (some ⟨g, off, none⟩) es.length cap ∧ B ≤ g ∧ es.length ≤ cap ∧ cap ≤ maxLen ∧ (∃ cur fz, w.heap[g]? = some (.cells cur 24 fz)) ∧ (∀ i, (h : i < es.length) → w.cell? ⟨g, off + i, none⟩ = some es[i]) ∧
    ∀ i, i < cap → (w.cell? ⟨g, off + i, none⟩).isSome = true ∧ w.frozen? ⟨g, off + i, none⟩ = false
theorem frozen_blk {w w' : World} {b o : Nat} (h : w'.heap[b]? = w.heap[b]?) : w'.frozen? ⟨b, o, none⟩ = w.frozen? ⟨b, o, none⟩ := World.frozen?_of_block (a := ⟨b, o, none⟩) h
theorem cell_blk {w w' : World} {b o : Nat} (h : w'.heap[b]? = w.heap[b]?) : w'.cell? ⟨b, o, none⟩ = w.cell? ⟨b, o, none⟩ := World.cell?_of_block (a := ⟨b, o, none⟩) h
theorem ownQ.kept {B : Nat} {w w' : World} {v : Value} {es : List Value} (h : ownQ B w v es) (hb : ∀ k, k < w.heap.size → v.ownBlock = some k → w'.heap[k]? = w.heap[k]?) : ownQ B w' v es := by
  obtain ⟨g, off, cap, rfl, hB, hc, hm, ⟨cur, fz, h0⟩, h1, h2⟩ := h
  have hg := (Array.getElem?_eq_some_iff.1 h0).1
  refine ⟨g, off, cap, rfl, hB, hc, hm, ⟨cur, fz, by rw [hb g hg rfl]; exact h0⟩, fun i hi => ?_, fun i hi => ?_⟩
  · have h3 := h1 i hi
    have hlt := World.block_lt_of_cell? w _ h3
    rw [cell_blk (hb g hlt rfl)]; exact h3
  · obtain ⟨h3, h4⟩ := h2 i hi
    obtain ⟨u, hu⟩ := Option.isSome_iff_exists.1 h3
    have hlt := World.block_lt_of_cell? w _ hu
    rw [cell_blk (hb g hlt rfl), frozen_blk (hb g hlt rfl)]; exact ⟨h3, h4⟩
theorem ownQ.below {B : Nat} {w w' : World} {v : Value} {es : List Value} (h : ownQ B w v es) (hb : Below w.heap.size w w') : ownQ B w' v es := h.kept fun k hk _ => hb.block k hk
theorem ownQ.row {B : Nat} {w : World} {v : Value} {es : List Value} (h : ownQ B w v es) : ∀ k, v.ownBlock = some k → B ≤ k := by
  obtain ⟨g, off, cap, rfl, hB, _⟩ := h
  intro k hk
  simp [Value.ownBlock] at hk
  omega
theorem ownQ.shape {B : Nat} {w : World} {v : Value} {es : List Value} (h : ownQ B w v es) : ∃ g off cap, v = .slice (some ⟨g, off, none⟩) es.length cap ∧ B ≤ g := by
  obtain ⟨g, off, cap, e, hB, _⟩ := h
  exact ⟨g, off, cap, e, hB⟩
/-- The head. -/
theorem ownQ.head {B : Nat} {w : World} {g off n cap : Nat} {e : Value} {es : List Value} (h : ownQ B w (.slice (some ⟨g, off, none⟩) n cap) (e :: es)) : w.cell? ⟨g, off, none⟩ = some e := by
  obtain ⟨g', off', cap', hv, _, _, _, _, h1, _⟩ := h
  injection hv with a b c
  injection a with a
  injection a with a1 a2
  subst a1 a2
  have := h1 0 (by simp)
  simpa using this
theorem sizeS (w : World) : (Go.sizeOf 24).run Try.prog w = .ok 1 w := by
  obtain ⟨i, hi, hz, hs, hb⟩ := info_parts infoS
  simp [sizeOf, typeInfo, hi, hs]
/-- x[1:] of a queue. -/
theorem ownQ.tail {B : Nat} {w : World} {v : Value} {e : Value} {es : List Value} (h : ownQ B w v (e :: es)) :
    ∃ v', (∀ wx, (Instr.slice 37 v (some (.int .i64 1)) none none).run Try.prog wx = .ok v' wx) ∧ ownQ B w v' es ∧ v'.ownBlock = v.ownBlock := by
  obtain ⟨g, off, cap, rfl, hB, hc, hm, h0, h1, h2⟩ := h
  have ht' : Try.prog.underlying 37 = some (.slice (Try.prog.elem 37)) := by kernel_rfl
  have he : Try.prog.elem 37 = 24 := by kernel_rfl
  simp only [List.length_cons] at hc
  refine ⟨.slice (some (if cap = 1 then ⟨g, off, none⟩ else (⟨g, off, none⟩ : Addr).add 1)) es.length (cap - 1), fun wx => ?_, ?_, ?_⟩
  · rw [run_slice_l wx _ _ _ _ ht' .i64 _ (by omega) (by simp; omega), he, sizeS]
    simp only [Result.andThen, sliced, Nat.mul_one, Int.toNat_one, List.length_cons]
    split <;> simp
  · by_cases h1c : cap = 1
    · rw [if_pos h1c]
      have hes : es = [] := List.eq_nil_of_length_eq_zero (by omega)
      subst hes
      exact ⟨g, off, cap - 1, rfl, hB, by simp, by omega, h0, fun i hi => by simp at hi, fun i hi => by omega⟩
    · rw [if_neg h1c]
      refine ⟨g, off + 1, cap - 1, by rw [Addr.add_lit], hB, by omega, by omega, h0, fun i hi => ?_, fun i hi => ?_⟩
      · have := h1 (i + 1) (by simp; omega)
        rw [show off + 1 + i = off + (i + 1) by omega, this]
        simp
      · have := h2 (i + 1) (by omega)
        rw [show off + 1 + i = off + (i + 1) by omega]
        exact this
  · split <;> rfl
/-- Rows of other things lie apart. -/
theorem rows_apart {B B' n n' T T' : Nat} {w : World} {v v' : Value} {es es' : List Value} (hT : T ≠ T') (h : w.ownsRow B T 1 v n es) (h' : w.ownsRow B' T' 1 v' n' es') : ∀ k, v.ownBlock = some k → v'.ownBlock ≠ some k := by
  intro k hk hv
  rcases h.2 with ⟨rfl, _⟩ | ⟨g, cap, cur, rfl, _, hg, _⟩
  · simp [Value.ownBlock] at hk
  · rcases h'.2 with ⟨rfl, _⟩ | ⟨g', cap', cur', rfl, _, hg', _⟩
    · simp [Value.ownBlock] at hv
    · simp [Value.ownBlock] at hk hv
      subst hk hv
      rw [hg] at hg'
      injection hg' with e
      injection e with e1 e2 e3
      exact hT e2
theorem queue_apart {B B' n' T' : Nat} {w : World} {v v' : Value} {es es' : List Value} (hT : 24 ≠ T') (h : ownQ B w v es) (h' : w.ownsRow B' T' 1 v' n' es') : ∀ k, v.ownBlock = some k → v'.ownBlock ≠ some k := by
  intro k hk hv
  obtain ⟨g, off, cap, rfl, _, _, _, ⟨cur, fz, hg⟩, _⟩ := h
  rcases h'.2 with ⟨rfl, _⟩ | ⟨g', cap', cur', rfl, _, hg', _⟩
  · simp [Value.ownBlock] at hv
  · simp [Value.ownBlock] at hk hv
    subst hk hv
    rw [hg] at hg'
    injection hg' with e
    injection e with e1 e2 e3
    exact hT e2
/-- A slice of slices and a row of flags behind a store into the flags; behind an append to the slice. -/
theorem ownE.seen {B BS n : Nat} {w w' : World} {v sv : Value} {es fs : List Value} {xss : List (List Int)} (h : ownE B w v es xss) (hs : w.ownsRow BS 4 1 sv n fs) (hg : w.grownBy w' sv.ownBlock) : ownE B w' v es xss := by
  refine ⟨h.1, owns_kept h.2.1 fun k hk hb => hg.block k hk fun e => rows_apart (by decide) h.2.1 hs k hb e.symm, fun i hi => ?_⟩
  obtain ⟨e, h1, h2⟩ := h.2.2 i hi
  exact ⟨e, h1, h2.kept fun k hk hb => hg.block k hk fun e => rows_apart (by decide) h2 hs k hb e.symm⟩
/-- A queue of slices, each of which owns its numbers. -/
def ownEQ (B : Nat) (w : World) (v : Value) (es : List Value) (xss : List (List Int)) : Prop :=
  es.length = xss.length ∧ ownQ B w v es ∧ ∀ i, (h : i < xss.length) → ∃ e, es[i]? = some e ∧ ownR B w e xss[i]
theorem ownEQ.below {B : Nat} {w w' : World} {v : Value} {es : List Value} {xss : List (List Int)} (h : ownEQ B w v es xss) (hb : Below w.heap.size w w') : ownEQ B w' v es xss :=
  ⟨h.1, h.2.1.below hb, fun i hi => by obtain ⟨e, h1, h2⟩ := h.2.2 i hi; exact ⟨e, h1, h2.below hb⟩⟩
theorem ownEQ.seen {B BS n : Nat} {w w' : World} {v sv : Value} {es fs : List Value} {xss : List (List Int)} (h : ownEQ B w v es xss) (hs : w.ownsRow BS 4 1 sv n fs) (hg : w.grownBy w' sv.ownBlock) : ownEQ B w' v es xss := by
  refine ⟨h.1, h.2.1.kept fun k hk hb => hg.block k hk fun e => queue_apart (by decide) h.2.1 hs k hb e.symm, fun i hi => ?_⟩
  obtain ⟨e, h1, h2⟩ := h.2.2 i hi
  exact ⟨e, h1, h2.kept fun k hk hb => hg.block k hk fun e => rows_apart (by decide) h2 hs k hb e.symm⟩
theorem ownEQ.snoc {B : Nat} {w w1 : World} {v v' e : Value} {es : List Value} {xss : List (List Int)} {xs : List Int} (h : ownEQ B w v es xss) (he : ownR B w e xs)
    (hown : ownQ B w1 v' (es ++ [e])) (hgr : w.grownBy w1 v.ownBlock) : ownEQ B w1 v' (es ++ [e]) (xss ++ [xs]) := by
  have keep : ∀ {e xs}, ownR B w e xs → ownR B w1 e xs := fun he => he.kept fun k hk hb => hgr.block k hk (fun x => queue_apart (by decide) h.2.1 he k x.symm hb)
  refine ⟨by simp [h.1], hown, fun i hi => ?_⟩
  rcases Nat.lt_or_ge i xss.length with hlt | hge
  · obtain ⟨e', h1, h2⟩ := h.2.2 i hlt
    exact ⟨e', by rw [List.getElem?_append_left (by rw [h.1]; exact hlt)]; exact h1, by rw [List.getElem_append_left hlt]; exact keep h2⟩
  · obtain rfl : i = xss.length := by simp at hi; omega
    exact ⟨e, by rw [List.getElem?_append_right (by rw [h.1]; exact Nat.le_refl _), h.1]; simp, by simpa using keep he⟩
theorem ownEQ.tail {B : Nat} {w : World} {v : Value} {es : List Value} {x : List Int} {xss : List (List Int)} (h : ownEQ B w v es (x :: xss)) :
    ∃ e es' v', es = e :: es' ∧ ownR B w e x ∧ (∀ wx, (Instr.slice 37 v (some (.int .i64 1)) none none).run Try.prog wx = .ok v' wx) ∧ ownEQ B w v' es' xss ∧ (∃ g off cap, v = .slice (some ⟨g, off, none⟩) (xss.length + 1) cap ∧ w.cell? ⟨g, off, none⟩ = some e) := by
  obtain ⟨hl, hq, hr⟩ := h
  rcases es with _ | ⟨e, es'⟩
  · simp at hl
  obtain ⟨v', h1, h2, h3⟩ := hq.tail
  obtain ⟨e0, h4, h5⟩ := hr 0 (by simp)
  simp at h4
  subst h4
  obtain ⟨g, off, cap, hv, hB⟩ := hq.shape
  have hl2 : es'.length = xss.length := by simpa using hl
  refine ⟨e, es', v', rfl, by simpa using h5, h1, ⟨hl2, h2, fun i hi => ?_⟩, g, off, cap, by rw [hv, List.length_cons, hl2], ?_⟩
  · obtain ⟨e1, h6, h7⟩ := hr (i + 1) (by simp; omega)
    exact ⟨e1, by simpa using h6, by simpa using h7⟩
  · subst hv
    exact hq.head
theorem ownQ_made (w : World) (u : Value) : ownQ w.heap.size (w.alloc (.cells #[u] 24)) (.slice (some ⟨w.heap.size, 0, none⟩) 1 1) [u] :=
  ⟨w.heap.size, 0, 1, rfl, Nat.le_refl _, by simp, by simp [maxLen], ⟨_, _, heap_alloc_new w _⟩, fun i hi => by
    simp at hi; subst hi; rw [alloc_cell, if_pos rfl]; rfl, fun i hi => by
    obtain rfl : i = 0 := by omega
    rw [alloc_cell, if_pos rfl, alloc_frozen, if_pos rfl]; exact ⟨rfl, rfl⟩⟩
theorem grownBy_set {w : World} {g o : Nat} {u : Value} : w.grownBy (w.setCell ⟨g, o, none⟩ u) (some g) := by
  refine ⟨rfl, rfl, rfl, by simp [World.setCell], fun k hk hne => ?_⟩
  have := set_blk w g o k u
  unfold blk at this
  rw [this, if_neg (fun e => hne (by rw [e]))]
/-- An append to a queue. -/
theorem run_append_q {w : World} (ty : TypeId) {B : Nat} {v : Value} {es : List Value} (h : ownQ B w v es) (u : Value) (hu : u.oneCell' = true) (ad : Addr) (c : Nat) (hn : ∀ j x, [u][j]? = some x → w.cell? (ad.add j) = some x)
    (hl : es.length ≤ 100000) (hB : B ≤ w.heap.size) :
    ∃ v' w', (Builtin.append_ #[37, 37] ty #[v, .slice (some ad) 1 c]).run Try.prog w = .ok v' w' ∧ ownQ B w' v' (es ++ [u]) ∧ w.grownBy w' v.ownBlock := by
  obtain ⟨i, hi, hz, hs, hb⟩ := info_parts infoS
  obtain ⟨g, off, cap, rfl, hBg, hc, hm, ⟨cur, fz, h0⟩, h1, h2⟩ := h
  have hsrc : Src Try.prog i.size 37 (.slice (some ad) 1 c) 1 [u] w := Src.ofSlice w Try.underlying37 ad 1 c [u] (by rw [hs]; rfl) hn (fun x hx => by rw [List.mem_singleton.1 hx]; exact hu)
  by_cases hr : es.length + 1 ≤ cap
  · have hq := h2 es.length (by omega)
    have hrun := run_append_room_src w 37 37 ty 24 i Try.underlying37 hi g off es.length cap (.slice (some ad) 1 c) 1 [u] hsrc hr
      (fun j hj => by simp at hj; subst hj; rw [hs, Nat.mul_one, Nat.add_zero]; exact hq.1) (fun j hj => by simp at hj; subst hj; rw [hs, Nat.mul_one, Nat.add_zero]; exact hq.2)
    rw [hs, Nat.mul_one] at hrun
    refine ⟨_, _, hrun, ⟨g, off, cap, by simp, hBg, by simp; omega, hm, ?_, fun k hk => ?_, fun k hk => ?_⟩, grownBy_set⟩
    · have := set_blk w g (off + es.length) g u
      rw [if_pos rfl] at this
      unfold blk at this
      rw [h0] at this
      exact ⟨_, _, this⟩
    · show (w.setCell ⟨g, off + es.length, none⟩ u).cell? ⟨g, off + k, none⟩ = _
      rw [set_cell]
      by_cases hke : k = es.length
      · subst hke
        rw [if_pos ⟨rfl, rfl⟩]
        obtain ⟨y, hy⟩ := Option.isSome_iff_exists.1 hq.1
        rw [hy]
        simp
      · simp at hk
        rw [if_neg (by omega), h1 k (by omega), List.getElem_append_left (by omega)]
    · show ((w.setCell ⟨g, off + es.length, none⟩ u).cell? ⟨g, off + k, none⟩).isSome = true ∧ (w.setCell ⟨g, off + es.length, none⟩ u).frozen? ⟨g, off + k, none⟩ = false
      obtain ⟨q1, q2⟩ := h2 k hk
      refine ⟨?_, by simpa using q2⟩
      rw [set_cell]
      split
      · obtain ⟨y, hy⟩ := Option.isSome_iff_exists.1 hq.1
        rw [hy]; rfl
      · exact q1
  · have hcap : cap = es.length := by omega
    have hold : (Builtin.firstCells i.size es.length (.slice (some ⟨g, off, none⟩) es.length cap)).run Try.prog w.drew = .ok es.toArray w.drew :=
      run_firstCells_some w.drew i.size es.length ⟨g, off, none⟩ es.length cap es (by rw [hs, Nat.mul_one]) (fun j x hx => by
        obtain ⟨hj, rfl⟩ := List.getElem?_eq_some_iff.1 hx
        rw [Addr.add_lit]
        exact h1 j hj)
    have hnc : Builtin.nextslicecap (es.length + 1) cap * i.bytes ≤ 281474976710656 := growslice_fits (by omega) (by rw [hb]; omega)
    have hrun := run_append_grow_src w 37 37 ty 24 i (.slice none 0 0) Try.underlying37 hi hz (some ⟨g, off, none⟩) es.length cap es hold (.slice (some ad) 1 c) 1 [u] hsrc (by omega) (by omega) hnc
    have hge := grownCap_ge w (es.length + 1) cap 24
    have hle := grownCap_le_maxLen w (es.length + 1) cap 24 (by unfold maxLen; omega)
    obtain ⟨K, hK⟩ : ∃ K, K = grownCap w (es.length + 1) cap 24 := ⟨_, rfl⟩
    rw [← hK] at hrun hge hle
    have hsize : ((es ++ [u]).toArray ++ Builtin.zeroCells (Value.slice none 0 0).cells (K - (es.length + 1))).size = K := by
      rw [Array.size_append, size_zeroCells]
      have : (Value.slice none 0 0).cells.size = 1 := rfl
      rw [this]
      simp
      omega
    refine ⟨_, _, hrun, ⟨w.heap.size, 0, K, by simp, hB, by simp; omega, hle, ⟨_, _, heap_alloc_new w.drew _⟩, fun k hk => ?_, fun k hk => ?_⟩, ⟨rfl, rfl, rfl, by simp, fun k hk _ => by
      have := alloc_blk w.drew (.cells ((es ++ [u]).toArray ++ Builtin.zeroCells (Value.slice none 0 0).cells (K - (es.length + 1))) 24) k
      rw [if_neg (by show ¬ k = w.heap.size; omega)] at this
      exact this⟩⟩
    · rw [alloc_cell, if_pos (show w.heap.size = w.drew.heap.size from rfl), Nat.zero_add, Array.getElem?_append_left (by simpa using hk)]
      simp [hk]
    · rw [alloc_cell, if_pos (show w.heap.size = w.drew.heap.size from rfl), alloc_frozen, if_pos (show w.heap.size = w.drew.heap.size from rfl), Nat.zero_add]
      refine ⟨?_, rfl⟩
      rw [Array.getElem?_eq_getElem (by rw [hsize]; exact hk)]
      rfl
theorem wpList_append_q {ops : Array Oper} {rest : List Oper} {o : Oper} {a : Act} {Q : Exit → Act → World → Prop} {w : World} (hgd : o.guard = none) (s x : Operand)
    (ho : o.op = .call { callee := .builtin .append, args := #[s, x], argTypes := #[37, 37] })
    {B : Nat} {v : Value} {es : List Value} (hs : a.eval s = v) (h : ownQ B w v es) (u : Value) (hu : u.oneCell' = true) (ad : Addr) (c : Nat) (hx : a.eval x = .slice (some ad) 1 c) (hn : ∀ j x, [u][j]? = some x → w.cell? (ad.add j) = some x)
    (hl : es.length ≤ 100000) (hB : B ≤ w.heap.size)
    (hK : ∀ v' w', ownQ B w' v' (es ++ [u]) → w.grownBy w' v.ownBlock → wpList Try.prog ops Q rest (a.put o.dst v') w') : wpList Try.prog ops Q (o :: rest) a w := by
  refine wpList_plain hgd fun K hK' => ?_
  obtain ⟨v', w', hr, h2, h3⟩ := run_append_q o.type h u hu ad c hn hl hB
  unfold Oper.wp execOp
  simp only [ho, resolve, invoke, builtin, Sem.run_bind, Sem.run_pure, Result.andThen_ok, List.map_toArray, List.map_cons, List.map_nil, hs, hx, hr]
  exact hK' _ _ (hK v' w' h2 h3)
theorem step_append_q {ops : Array Oper} {o : Oper} {a : Act} {K : Act → World → Prop} {Q : Exit → Act → World → Prop} {E : Prop} {w : World} (hgd : o.guard = none) (s x : Operand)
    (ho : o.op = .call { callee := .builtin .append, args := #[s, x], argTypes := #[37, 37] })
    {B : Nat} {v : Value} {es : List Value} (hs : a.eval s = v) (h : ownQ B w v es) (u : Value) (hu : u.oneCell' = true) (ad : Addr) (c : Nat) (hx : a.eval x = .slice (some ad) 1 c) (hn : ∀ j x, [u][j]? = some x → w.cell? (ad.add j) = some x)
    (hl : es.length ≤ 100000) (hB : B ≤ w.heap.size)
    (hK : ∀ v' w', ownQ B w' v' (es ++ [u]) → w.grownBy w' v.ownBlock → K (a.put o.dst v') w') :
    if Region.wanted o (yielded ops a.tmps) = true then Oper.wp Try.prog o a w K Q else E := by
  have hw : Region.wanted o (yielded ops a.tmps) = true := by simp [Region.wanted, hgd]
  rw [if_pos hw]
  obtain ⟨v', w', hr, h2, h3⟩ := run_append_q o.type h u hu ad c hn hl hB
  unfold Oper.wp execOp
  simp only [ho, resolve, invoke, builtin, Sem.run_bind, Sem.run_pure, Result.andThen_ok, List.map_toArray, List.map_cons, List.map_nil, hs, hx, hr]
  exact hK v' w' h2 h3
end Go.Proofs.Ytbkbcbanfnhjpaa

/- A copy of a slice: laws.toInt64S. -/
namespace Go.Proofs.Ytbkbcbanfnhjpaa
open Go Go.RowKit

/-- The first j numbers, then noughts. -/
def part (xs : List Int) (j : Nat) : List Int := xs.take j ++ List.replicate (xs.length - j) 0
theorem part_len {xs : List Int} {j : Nat} (h : j ≤ xs.length) : (part xs j).length = xs.length := by simp [part]; omega
theorem part_all (xs : List Int) : part xs xs.length = xs := by simp [part]
theorem part_zero (xs : List Int) : part xs 0 = List.replicate xs.length 0 := by simp [part]
theorem part_step {xs : List Int} {j : Nat} (h : j < xs.length) : (vI (part xs j)).set j (.int .i64 xs[j]) = vI (part xs (j + 1)) := by
  have e : (part xs j).set j xs[j] = part xs (j + 1) := by
    unfold part
    have hl : (xs.take j).length = j := by rw [List.length_take]; omega
    obtain ⟨d, hd⟩ : ∃ d, xs.length - j = d + 1 := ⟨xs.length - j - 1, by omega⟩
    rw [List.set_append_right _ _ (by omega), hl, Nat.sub_self, hd, List.replicate_succ, List.set_cons_zero, take_snocI _ _ h, List.append_assoc, show xs.length - (j + 1) = d by omega]
    rfl
  rw [← e]
  simp [vI, List.map_set]
theorem vI_zeros (n : Nat) : (madeCells #[Value.int .i64 0] n).toList = vI (List.replicate n 0) := by
  rw [toList_madeCells_one]; simp [vI]

set_option maxHeartbeats 2000000 in
theorem l_toI (r : Value) (xs : List Int) (w : World) (h : rdI w r xs) (hl : xs.length ≤ 1048576) :
    Calls Try.prog 72 #[r] w fun e w' => ∃ v, e = .returned v ∧ ownR w.heap.size w' v xs ∧ Below w.heap.size w w' := by
  obtain ⟨i0, hi, hz0, hz1, hz2⟩ := info_parts infoI
  obtain ⟨a, cap, rfl, hm, hc⟩ := h
  have Hc := hid hc
  clear hc hm
  go_enter Try.func72, Try.ntmps72
  go_wp2_with (at_make; refine wpList_make_full _ rfl _ _ 24 rfl w.heap.size 2 i0 (.int .i64 0) 1 Try.underlying24 hi hz0 hz1 _ _ _ _ xs.length rfl rfl rfl rfl (by rw [hz2]; omega) (by unfold maxLen; omega) (Nat.le_refl _) ?_)
  intro w1 hown hgr
  have hown : w1.ownsRow w.heap.size 2 1 (.slice (some ⟨w.heap.size, 0, none⟩) xs.length xs.length) xs.length (vI (part xs 0)) := by rw [part_zero, ← vI_zeros]; exact hown
  have HB : Hid (Below w.heap.size w w1) := hid (Below.grown (Below.refl _ _) hgr (Nat.le_refl _) (fun k hk => by cases hk))
  have HO := hid hown
  clear hown hgr
  go_wp2_with fail
  go_loopw [4] (fun i wr => ∃ j : Nat, j ≤ xs.length ∧ i = .int .i64 j ∧ Hid (wr.ownsRow w.heap.size 2 1 (.slice (some ⟨w.heap.size, 0, none⟩) xs.length xs.length) xs.length (vI (part xs j))) ∧ Hid (Below w.heap.size w wr)) (fun i _ => xs.length - (intOf i).toNat)
  case atStart => exact ⟨0, by omega, rfl, HO, HB⟩
  case round =>
    obtain ⟨j, hj, rfl, HO, HB⟩ := hrel
    by_cases hlt : j < xs.length
    · obtain ⟨b, o, rfl, hcell⟩ := Hc.out (by intro e; subst e; simp at hlt)
      have h0 := hcell j hlt
      have hx0 := HB.out.cell (p := ⟨b, o + j, none⟩) (World.block_lt_of_cell? w _ h0)
      rw [h0] at hx0
      have h1 := HO.out.cellAt j (by omega)
      have hlen : (vI (part xs j)).length = xs.length := by rw [vI_len, part_len (by omega)]
      obtain ⟨y, hy⟩ : ∃ y, (vI (part xs j))[j]? = some y := ⟨_, List.getElem?_eq_getElem (by omega)⟩
      rw [hy] at h1
      have h2 := HO.out.frozenAt j
      have hst := HO.out.stored j (.int .i64 xs[j])
      rw [part_step hlt] at hst
      obtain ⟨x, hx⟩ : ∃ x, x = xs[j] := ⟨_, rfl⟩
      rw [← hx] at hx0 hst
      have HS := hid hst
      have hjz : (j : Int) < (xs.length : Int) := by omega
      clear hst hy hlen hx hcell h0
      go_wp2
      go_roundw
      case rel => exact ⟨j + 1, by omega, by go_num, hid HS.out.1, hid (Below.grown HB.out HS.out.2 HB.out.size (fun k hk => by injection hk with hk; omega))⟩
      case measure => simp only [intOf]; omega
    · obtain rfl : j = xs.length := by omega
      go_wp2
      go_ret
      refine ⟨_, rfl, ?_, HB.out⟩
      have := HO.out
      rw [part_all] at this
      exact this
end Go.Proofs.Ytbkbcbanfnhjpaa

/- Copies of slices, slices without noughts at their ends: both texts. -/
namespace Go.Proofs.Ytbkbcbanfnhjpaa
open Go Go.RowKit

/-- Nothing is appended. -/
theorem wpList_append_nothing {P : Program} {w : World} {ops : Array Oper} {rest : List Oper} {o : Oper} {a : Act} {Q : Exit → Act → World → Prop} (hgd : o.guard = none) (s x : Operand) (t : TypeId)
    (ho : o.op = .call { callee := .builtin .append, args := #[s, x], argTypes := #[t, t] })
    (e : TypeId) (i : TypeInfo) (ht : P.underlying t = some (.slice e)) (hi : P.info? e = some i)
    (b off n cap c : Nat) (hs : a.eval s = .slice (some ⟨b, off, none⟩) n cap) (hn : n ≤ cap) (hx : a.eval x = .slice none 0 c)
    (h : wpList P ops Q rest (a.put o.dst (.slice (some ⟨b, off, none⟩) n cap)) w) : wpList P ops Q (o :: rest) a w := by
  refine wpList_plain hgd fun K hK => ?_
  have hrun := run_append_room_src (P := P) w t t o.type e i ht hi b off n cap (.slice none 0 c) 0 [] (Src.ofNil w ht c) (by omega) (fun j hj => by simp at hj) (fun j hj => by simp at hj)
  have hw : w.setCells b (off + n * i.size) [] = w := rfl
  rw [hw] at hrun
  unfold Oper.wp
  simp [execOp, ho, resolve, invoke, builtin, hs, hx, hrun, Result.andThen]
  exact hK _ _ h

theorem rd_news {w : World} {b o cap : Nat} {xs : List Int} (h : rdI w (.slice (some ⟨b, o, none⟩) xs.length cap) xs) : ∀ j u, (vI xs)[j]? = some u → w.cell? ((⟨b, o, none⟩ : Addr).add j) = some u := by
  intro j u hj
  obtain ⟨a, cap', he, hm, hc⟩ := h
  cases he
  obtain ⟨hlt, hu⟩ := List.getElem?_eq_some_iff.1 hj
  have hlt' : j < xs.length := by rwa [vI_len] at hlt
  obtain ⟨b', o', he2, hcell⟩ := hc (by intro e; subst e; simp at hlt')
  cases he2
  rw [Addr.add_lit, hcell j hlt', ← hu]
  simp [vI]
theorem vI_one (xs : List Int) : ∀ u ∈ vI xs, u.oneCell' = true := by
  intro u hu
  simp only [vI, List.mem_map] at hu
  obtain ⟨x, _, rfl⟩ := hu
  rfl
theorem rd_none {w : World} {n cap : Nat} {xs : List Int} (h : rdI w (.slice none n cap) xs) : xs = [] ∧ n = 0 := by
  obtain ⟨a, cap', he, hm, hc⟩ := h
  cases he
  rcases xs with _ | ⟨x, r⟩
  · exact ⟨rfl, rfl⟩
  · obtain ⟨b, o, e, _⟩ := hc (by simp)
    cases e
theorem rd_some {w : World} {n cap : Nat} {a : Addr} {xs : List Int} (h : rdI w (.slice (some a) n cap) xs) : n = xs.length ∧ n ≤ maxLen := by
  obtain ⟨a', cap', he, hm, hc⟩ := h
  cases he
  exact ⟨rfl, hm⟩

theorem own_made (w : World) : ownR w.heap.size (w.alloc (.cells #[] 2)) (.slice (some ⟨w.heap.size, 0, none⟩) 0 0) [] :=
  World.ownsRow_made w #[] 0 (Nat.le_refl _) (by simp [maxLen]) (by simp)

set_option maxRecDepth 20000 in
set_option maxHeartbeats 2000000 in
theorem s_own (r : Value) (xs : List Int) (w : World) (h : rdI w r xs) (hl : xs.length ≤ 1000000) :
    Calls Try.prog 109 #[r] w fun e w' => ∃ v, e = .returned v ∧ ownR w.heap.size w' v xs ∧ Below w.heap.size w w' := by
  obtain ⟨i0, hi, hz0, hz1, hz2⟩ := info_parts infoI
  have q : ∀ (w : World) (a : Option Addr) (n c n' c' : Nat), (binOp .eql 24 (.slice a n c) (.slice none n' c')).run Try.prog w = .ok (.bool a.isNone) w := fun w a n c n' c' => Lib.run_eql_slice_nil w _ _ a n c n' c' Try.underlying24
  obtain ⟨a, cap, rfl, _, _⟩ := id h
  rcases a with _ | a
  · obtain ⟨rfl, _⟩ := rd_none h
    clear h
    simp only [List.length_nil]
    go_enter Try.func109, Try.ntmps109
    go_wp2_with (at_builtin; refine wpList_append_nothing rfl _ _ 24 rfl 2 i0 Try.underlying24 hi w.heap.size 0 0 0 cap rfl (Nat.le_refl _) rfl ?_)
    go_ret
    first
      | exact ⟨_, rfl, ownR.nil _ _, (by refine Ext.bel ?_; repeat (with_reducible first | exact Ext.refl _ | apply Ext.alloc | apply Ext.aft | apply Ext.drew | apply Ext.drewN | apply Ext.setCell | exact Nat.le_add_right _ _ | exact Nat.le_refl _ | (simp; done) | omega))⟩
      | exact ⟨_, rfl, own_made w, (by refine Ext.bel ?_; repeat (with_reducible first | exact Ext.refl _ | apply Ext.alloc | apply Ext.aft | apply Ext.drew | apply Ext.drewN | apply Ext.setCell | exact Nat.le_add_right _ _ | exact Nat.le_refl _ | (simp; done) | omega))⟩
  · obtain ⟨b, o, k⟩ := a
    have hk : xs = [] ∨ k = none := by
      obtain ⟨a', cap', he, hm, hc⟩ := id h
      cases he
      rcases xs with _ | ⟨x, r⟩
      · exact .inl rfl
      · obtain ⟨b', o', e, _⟩ := hc (by simp)
        cases e
        exact .inr rfl
    obtain ⟨a, ha⟩ : ∃ a : Addr, a = ⟨b, o, k⟩ := ⟨_, rfl⟩
    have HN : Hid (∀ j u, (vI xs)[j]? = some u → (w.alloc (.cells #[] 2)).cell? (a.add j) = some u) := hid (by
      rcases hk with rfl | rfl
      · intro j u hj; simp [vI] at hj
      · subst ha; exact rd_news (h.alloc _))
    rw [← ha]
    have H1 := hid (vI_one xs)
    clear h ha hk
    go_enter Try.func109, Try.ntmps109
    go_wp2_with (at_builtin; refine wpList_append_own _ rfl _ _ 24 rfl w.heap.size 2 i0 (.int .i64 0) 1 8 Try.underlying24 hi hz0 hz1 hz2 rfl (by decide) _ _ _ rfl (own_made w) a xs.length cap (vI xs) rfl (by rw [vI_len, Nat.mul_one]) HN.out H1.out (by simp only [List.length_nil]; unfold maxLen; omega) (by simp only [List.length_nil]; omega) (by simp) ?_)
    intro v' w1 hown hgr _
    have HO : Hid (ownR w.heap.size w1 v' xs) := hid (by unfold ownR; simpa [vI] using hown)
    have HB : Hid (Below w.heap.size w w1) := hid (((Below.refl _ w).alloc (Nat.le_refl _) _).grown hgr (by simp) (by intro k hk; simp [Value.ownBlock] at hk; omega))
    clear hown hgr
    go_wp2_with fail
    go_ret
    exact ⟨_, rfl, HO.out, HB.out⟩
end Go.Proofs.Ytbkbcbanfnhjpaa

/- Numbers of permutations, ranks, products, lists 0, 1, ..: both texts. -/
namespace Go.Proofs.Ytbkbcbanfnhjpaa
open Go Go.RowKit

theorem facN_succ_le {k n : Nat} (h : k ≤ n) : facN k ≤ facN n := by
  induction n with
  | zero => obtain rfl : k = 0 := by omega
            exact Nat.le_refl _
  | succ n ih =>
    rcases Nat.lt_or_ge k (n + 1) with h1 | h1
    · refine Nat.le_trans (ih (by omega)) ?_
      show facN n ≤ (n + 1) * facN n
      exact Nat.le_mul_of_pos_left _ (by omega)
    · obtain rfl : k = n + 1 := by omega
      exact Nat.le_refl _
set_option maxHeartbeats 1000000 in
theorem i_fact (n : Nat) (w : World) (hn : n ≤ 6) :
    Calls Try.prog 90 #[.int .i64 n] w fun e w' => e = .returned (.int .i64 (facN n)) ∧ w = w' := by
  go_enter Try.func90, Try.ntmps90
  go_wp2_with fail
  go_loop [3, 4] (fun o k => ∃ j : Nat, 1 ≤ j ∧ j ≤ max n 1 ∧ k = .int .i64 ((j : Int) + 1) ∧ o = .int .i64 (facN j)) (fun _ k => n + 1 - (intOf k).toNat)
  case atStart => exact ⟨1, by omega, by omega, by go_num, rfl⟩
  case round =>
    obtain ⟨j, hj1, hj, rfl, rfl⟩ := hrel
    by_cases hlt : j < n
    · have hb := facN_le (show j + 1 ≤ 6 by omega)
      have hb0 := facN_le (show j ≤ 6 by omega)
      have e : facN (j + 1) = (j + 1) * facN j := rfl
      have hz : (j : Int) + 1 ≤ (n : Int) := by omega
      have ez : (facN j : Int) * ((j : Int) + 1) = (facN (j + 1) : Nat) := by rw [e, Int.natCast_mul, Int.mul_comm]; rfl
      have EZ := hid ez
      have hm : 0 ≤ (facN j : Int) * ((j : Int) + 1) ∧ (facN j : Int) * ((j : Int) + 1) ≤ 720 := by rw [ez]; omega
      clear e ez
      go_wp2
      go_round
      case rel => exact ⟨j + 1, by omega, by omega, by go_num, by rw [EZ.out]⟩
      case measure => simp [intOf]; omega
    · have hz : ¬ (j : Int) + 1 ≤ (n : Int) := by omega
      have e : facN j = facN n := by
        rcases Nat.eq_zero_or_pos n with h0 | h0
        · subst h0; obtain rfl : j = 1 := by omega
          rfl
        · obtain rfl : j = n := by omega
          rfl
      have E := hid e
      clear e
      go_wp2
      go_ret
      exact ⟨ret_i (by rw [E.out]), rfl⟩
/-- n (n - 1) .. (j + 1). -/
theorem fac_down {n j o : Nat} (h : o * facN j = facN n) (hj : 1 ≤ j) : (o * j) * facN (j - 1) = facN n := by
  obtain ⟨i, rfl⟩ : ∃ i, j = i + 1 := ⟨j - 1, by omega⟩
  rw [← h, Nat.add_sub_cancel, Nat.mul_assoc]; rfl
set_option maxHeartbeats 1000000 in
theorem s_fact (n : Nat) (w : World) (hn : n ≤ 6) :
    Calls Try.prog 84 #[.int .i64 n] w fun e w' => e = .returned (.int .i64 (facN n)) ∧ w = w' := by
  go_enter Try.func84, Try.ntmps84
  go_wp2_with fail
  go_loop [0, 3] (fun k o => ∃ j x : Nat, j ≤ n ∧ k = .int .i64 j ∧ o = .int .i64 x ∧ Hid (x * facN j = facN n) ∧ x ≤ 720) (fun k _ => (intOf k).toNat)
  case atStart => exact ⟨n, 1, by omega, rfl, rfl, hid (by simp), by omega⟩
  case round =>
    obtain ⟨j, x, hj, rfl, rfl, HX, hx⟩ := hrel
    by_cases hlt : 1 < j
    · have hz : (1 : Int) < (j : Int) := by omega
      have H2 := hid (fac_down HX.out (show 1 ≤ j by omega))
      have hb : x * j ≤ 720 := by
        have := facN_le hn
        have h3 := H2.out
        have := Nat.le_mul_of_pos_right (x * j) (facN_pos (j - 1))
        omega
      have hm : 0 ≤ (x : Int) * (j : Int) ∧ (x : Int) * (j : Int) ≤ 720 := by rw [← Int.natCast_mul]; omega
      go_wp2
      go_round
      case rel => exact ⟨j - 1, x * j, by omega, by go_num, by go_num, H2, hb⟩
      case measure => simp [intOf]; omega
    · have hz : ¬ (1 : Int) < (j : Int) := by omega
      have e : x = facN n := by
        have := HX.out
        rw [← this]
        rcases Nat.eq_zero_or_pos j with h0 | h0
        · subst h0; simp [facN]
        · obtain rfl : j = 1 := by omega
          simp [facN]
      have E := hid e
      clear e
      go_wp2
      go_ret
      exact ⟨ret_i (by rw [E.out]), rfl⟩
end Go.Proofs.Ytbkbcbanfnhjpaa

/- Ranks, products, the list 0, 1, ..: both texts. -/
namespace Go.Proofs.Ytbkbcbanfnhjpaa
open Go Go.RowKit

theorem ownR.le {B : Nat} {w : World} {a : Option Addr} {n cap : Nat} {xs : List Int} (h : ownR B w (.slice a n cap) xs) : xs.length ≤ cap := by
  rcases h.2 with ⟨e, h1⟩ | ⟨g, c, cur, e, _, _, h2, _⟩
  · cases e; omega
  · cases e; exact h2
theorem sizeI (w : World) : (Go.sizeOf 2).run Try.prog w = .ok 1 w := by
  simp [Go.sizeOf, go_sem]
  rfl
theorem cut_rule {B : Nat} {w : World} {v : Value} {xs : List Int} {l : Int} (h : ownR B w v xs) (h0 : 0 ≤ l) (h1 : l ≤ xs.length) :
    ∃ r2, (∀ wx, (Instr.slice 24 v (some (.int .i64 l)) none none).run Try.prog wx = .ok r2 wx) ∧ rdI w r2 (xs.drop l.toNat) := by
  have ht : Try.prog.underlying 24 = some (.slice 2) := by kernel_rfl
  have ht' : Try.prog.underlying 24 = some (.slice (Try.prog.elem 24)) := by kernel_rfl
  have he : Try.prog.elem 24 = 2 := by kernel_rfl
  obtain ⟨a, cap, rfl, hm, hc⟩ := h.rd
  refine ⟨sliced a l.toNat xs.length cap 1, fun wx => ?_, ?_⟩
  · rw [run_slice_l wx _ _ _ _ ht' .i64 _ h0 h1, he, sizeI]; rfl
  · refine ⟨if cap = l.toNat then a else a.map (·.add (l.toNat * 1)), cap - l.toNat, by simp [sliced], by simp; omega, ?_⟩
    intro hne
    have hlt : l.toNat < xs.length := by
      rcases Nat.lt_or_ge l.toNat xs.length with h | h
      · exact h
      · exact absurd (List.drop_eq_nil_of_le h) hne
    obtain ⟨b, o, rfl, hcell⟩ := hc (by intro e; rw [e] at hlt; simp at hlt)
    have hcap : xs.length ≤ cap := h.le
    rw [if_neg (by omega)]
    refine ⟨b, o + l.toNat, by simp [Addr.add], fun i hi => ?_⟩
    rw [Nat.add_assoc, hcell (l.toNat + i) (by simp at hi; omega)]
    simp

/-- What a round of ranking needs. -/
theorem rank_bd {n : Int} {xs : List Int} {k : Nat} (hk : k < xs.length) (hl : xs.length ≤ 6) (h0 : 0 ≤ n) (h : rankG n (xs.drop k) = rankF xs) : n ≤ 719 := by
  have h1 := rankG_bd (xs.drop k) n h0
  have h2 := rankF_720 hl
  have h3 := Int.mul_le_mul_of_nonneg_left (show (1 : Int) ≤ (facN (xs.drop k).length : Int) by have := facN_pos (xs.drop k).length; omega) h0
  omega
theorem rank_step {n : Int} {xs : List Int} {k : Nat} (hk : k < xs.length) (h : rankG n (xs.drop k) = rankF xs) :
    rankG (n * ((xs.length : Int) - k) + (lessN xs[k] (xs.drop (k + 1)) : Int)) (xs.drop (k + 1)) = rankF xs := by
  rw [← h, List.drop_eq_getElem_cons hk]
  show _ = rankG (n * (((xs.drop (k + 1)).length + 1 : Nat) : Int) + _) _
  rw [List.length_drop, show ((xs.length - (k + 1) + 1 : Nat) : Int) = (xs.length : Int) - k by omega]
theorem less_take {x : Int} {r : List Int} {j : Nat} (h : j < r.length) : lessN x (r.take (j + 1)) = lessN x (r.take j) + (if r[j] < x then 1 else 0) := by
  rw [take_snocI _ _ h, lessN_snoc]
theorem mul_rank {n d : Int} (hn : 0 ≤ n ∧ n ≤ 719) (hd : 0 ≤ d ∧ d ≤ 6) : 0 ≤ n * d ∧ n * d ≤ 4314 := by
  have := Int.mul_nonneg hn.1 hd.1
  have := Int.mul_le_mul hn.2 hd.2 hd.1 (by omega)
  omega
set_option maxRecDepth 20000 in
set_option maxHeartbeats 4000000 in
theorem i_rank (B : Nat) (r : Value) (xs : List Int) (w : World) (h : ownR B w r xs) (hl : xs.length ≤ 6) :
    Calls Try.prog 91 #[r] w fun e w' => e = .returned (.int .i64 (rankF xs)) ∧ w = w' := by
  have HO := hid h
  obtain ⟨a, cap, rfl, hm, hc⟩ := h.rd
  have Hc := hid hc
  clear hc hm h
  go_enter Try.func91, Try.ntmps91
  go_wp2_with fail
  go_loop [3, 11] (fun n i => ∃ (k : Nat) (x : Int), k ≤ xs.length ∧ i = .int .i64 k ∧ n = .int .i64 x ∧ 0 ≤ x ∧ Hid (rankG x (xs.drop k) = rankF xs)) (fun _ i => xs.length - (intOf i).toNat)
  case atStart => exact ⟨0, 0, by omega, rfl, rfl, by omega, hid rfl⟩
  case round =>
    obtain ⟨k, n, hk, rfl, rfl, hn0, HR⟩ := hrel
    by_cases hlt : k < xs.length
    · obtain ⟨b, o, rfl, hcell⟩ := Hc.out (by intro e; subst e; simp at hlt)
      have h1 := hcell k hlt
      have hn := rank_bd hlt hl hn0 HR.out
      have hmu := mul_rank ⟨hn0, hn⟩ (show 0 ≤ (xs.length : Int) - k ∧ (xs.length : Int) - k ≤ 6 by omega)
      obtain ⟨r2, hr2, hrd⟩ := cut_rule (l := (k : Int) + 1) HO.out (by omega) (by omega)
      rw [show ((k : Int) + 1).toNat = k + 1 by omega] at hrd
      have HS := hid (rank_step hlt HR.out)
      obtain ⟨x, hx⟩ : ∃ x, x = xs[k] := ⟨_, rfl⟩
      rw [← hx] at h1 HS
      obtain ⟨ys, hys⟩ : ∃ ys, ys = xs.drop (k + 1) := ⟨_, rfl⟩
      have hyl : ys.length + (k + 1) = xs.length := by rw [hys, List.length_drop]; omega
      rw [← hys] at hrd HS
      obtain ⟨a2, c2, hv2, hm2, hc2⟩ := hrd
      subst hv2
      have Hc2 := hid hc2
      have HY := hid hys
      have hltz : (k : Int) < (xs.length : Int) := by omega
      clear hc2 hys hx hcell hm2
      go_wp2_with fail
      go_loop [6, 21] (fun c i => ∃ j : Nat, j ≤ ys.length ∧ i = .int .i64 j ∧ c = .int .i64 (lessN x (ys.take j) : Nat)) (fun _ i => ys.length - (intOf i).toNat)
      case atStart => exact ⟨0, by omega, rfl, by simp [lessN]⟩
      case round =>
        obtain ⟨j, hj, rfl, rfl⟩ := hrel
        by_cases hlt2 : j < ys.length
        · obtain ⟨b2, o2, rfl, hcell2⟩ := Hc2.out (by intro e; subst e; simp at hlt2)
          have h2 := hcell2 j hlt2
          have hst := less_take (x := x) hlt2
          have hle := lessN_le x (ys.take j)
          have hle2 : (ys.take j).length ≤ 6 := by rw [List.length_take]; omega
          obtain ⟨y, hy⟩ : ∃ y, y = ys[j] := ⟨_, rfl⟩
          rw [← hy] at h2 hst
          have HT := hid hst
          have hltz2 : (j : Int) < (ys.length : Int) := by omega
          clear hst hy hcell2
          by_cases hyx : y < x
          · go_wp2_with fail
            go_round
            case rel => exact ⟨j + 1, by omega, by go_num, by rw [HT.out, if_pos hyx]; go_num⟩
            case measure => simp only [intOf]; omega
          · go_wp2_with fail
            go_round
            case rel => exact ⟨j + 1, by omega, by go_num, by rw [HT.out, if_neg hyx]; go_num⟩
            case measure => simp only [intOf]; omega
        · obtain rfl : j = ys.length := by omega
          rw [List.take_length]
          have hle := lessN_le x ys
          have hltz2 : ¬ (ys.length : Int) < (ys.length : Int) := by omega
          go_wp2_with fail
          go_round
          case rel => exact ⟨k + 1, _, by omega, by go_num, rfl, by omega, by rw [← HY.out]; exact HS⟩
          case measure => simp only [intOf]; omega
    · obtain rfl : k = xs.length := by omega
      have e : n = rankF xs := by have := HR.out; rw [List.drop_length] at this; exact this
      have E := hid e
      clear e
      go_wp2
      go_ret
      exact ⟨ret_i (by rw [E.out]), rfl⟩
end Go.Proofs.Ytbkbcbanfnhjpaa

/- Ranks by the statement's text; products, the list 0, 1, ..: both texts. -/
namespace Go.Proofs.Ytbkbcbanfnhjpaa
open Go Go.RowKit

set_option maxRecDepth 20000 in
set_option maxHeartbeats 4000000 in
theorem s_rank (r : Value) (xs : List Int) (w : World) (h : rdI w r xs) (hl : xs.length ≤ 6) :
    Calls Try.prog 85 #[r] w fun e w' => e = .returned (.int .i64 (rankF xs)) ∧ Below w.heap.size w w' := by
  obtain ⟨a, cap, rfl, hm, hc⟩ := h
  have Hc := hid hc
  clear hc hm
  go_enter Try.func85, Try.ntmps85
  go_wp2_with fail
  go_loopw [3, 4] (fun n i wr => ∃ (k : Nat) (x : Int) (uu : World), wr = aft w uu ∧ k ≤ xs.length ∧ i = .int .i64 k ∧ n = .int .i64 x ∧ 0 ≤ x ∧ Hid (rankG x (xs.drop k) = rankF xs)) (fun _ i _ => xs.length - (intOf i).toNat)
  case atStart => exact ⟨0, 0, w, (aft_of (Below.refl _ _)).symm, by omega, rfl, rfl, by omega, hid rfl⟩
  case round =>
    obtain ⟨k, n, uu, rfl, hk, rfl, rfl, hn0, HR⟩ := hrel
    have zs := size_aft w uu
    by_cases hlt : k < xs.length
    · obtain ⟨b, o, rfl, hcell⟩ := Hc.out (by intro e; subst e; simp at hlt)
      have h1 := hcell k hlt
      have h3 := World.block_lt_of_cell? w _ h1
      have hn := rank_bd hlt hl hn0 HR.out
      have hmu := mul_rank ⟨hn0, hn⟩ (show 0 ≤ (xs.length : Int) - k ∧ (xs.length : Int) - k ≤ 6 by omega)
      have HS := hid (rank_step hlt HR.out)
      obtain ⟨x, hx⟩ : ∃ x, x = xs[k] := ⟨_, rfl⟩
      rw [← hx] at h1 HS
      have Hl := hid hcell
      have hltz : (k : Int) < (xs.length : Int) := by omega
      clear hx hcell
      obtain ⟨W0, hW0⟩ : ∃ W0, W0 = aft w uu := ⟨_, rfl⟩
      have HW0 := hid hW0
      go_wp2_with fail
      go_loopw [5, 6] (fun c i wr => ∃ (j : Nat) (u2 : World), wr = aft w u2 ∧ k + 1 + j ≤ xs.length ∧ i = .int .i64 ((k : Int) + 1 + j) ∧ c = .int .i64 (lessN x ((xs.drop (k + 1)).take j) : Nat)) (fun _ i _ => xs.length - (intOf i).toNat)
      case atStart => exact ⟨0, uu, rfl, by omega, by go_num, by simp [lessN]⟩
      case round =>
        obtain ⟨j, u2, rfl, hj, rfl, rfl⟩ := hrel
        have zs2 := size_aft w u2
        have hle := lessN_le x ((xs.drop (k + 1)).take j)
        have hle2 : ((xs.drop (k + 1)).take j).length ≤ 6 := by rw [List.length_take, List.length_drop]; omega
        by_cases hlt2 : k + 1 + j < xs.length
        · have h2 := Hl.out (k + 1 + j) hlt2
          have hst := less_take (x := x) (r := xs.drop (k + 1)) (j := j) (by rw [List.length_drop]; omega)
          rw [List.getElem_drop] at hst
          obtain ⟨y, hy⟩ : ∃ y, y = xs[k + 1 + j] := ⟨_, rfl⟩
          rw [← hy] at h2 hst
          have HT := hid hst
          have hltz2 : (k : Int) + 1 + j < (xs.length : Int) := by omega
          have hnn : ((k : Int) + 1 + j).toNat = k + 1 + j := by omega
          clear hst hy hW0
          by_cases hyx : y < x
          · go_wp2_with fail
            refine wp_region_calm (by kernel_rfl) (by kernel_rfl) ?_
            repeat (go_big_quiet_step (fail))
            refine wpQuiet_nil ?_; intro uq zq; try simp at zq
            go_wp2_with fail
            go_roundw
            case rel => exact ⟨j + 1, _, (aft_of ((below_aft w u2).trans ((below_aft _ _).mono (size_aft w u2)))).symm, by omega, by go_num, by rw [HT.out, if_pos hyx]; go_num⟩
            case measure => simp only [intOf]; omega
          · go_wp2_with fail
            refine wp_region_calm (by kernel_rfl) (by kernel_rfl) ?_
            repeat (go_big_quiet_step (fail))
            refine wpQuiet_nil ?_; intro uq zq; try simp at zq
            go_wp2_with fail
            go_roundw
            case rel => exact ⟨j + 1, _, (aft_of ((below_aft w u2).trans ((below_aft _ _).mono (size_aft w u2)))).symm, by omega, by go_num, by rw [HT.out, if_neg (by omega)]; go_num⟩
            case measure => simp only [intOf]; omega
        · have hlen : (xs.drop (k + 1)).length = j := by rw [List.length_drop]; omega
          rw [← hlen, List.take_length]
          have hle := lessN_le x (xs.drop (k + 1))
          have hltz2 : ¬ (k : Int) + 1 + j < (xs.length : Int) := by omega
          rw [hlen] at hle
          clear hW0
          go_wp2_with fail
          go_roundw
          case rel => exact ⟨k + 1, _, u2, rfl, by omega, by go_num, rfl, by omega, HS⟩
          case measure => simp only [intOf]; omega
    · obtain rfl : k = xs.length := by omega
      have e : n = rankF xs := by have := HR.out; rw [List.drop_length] at this; exact this
      have E := hid e
      clear e
      go_wp2
      go_ret
      exact ⟨ret_i (by rw [E.out]), (by refine Ext.bel ?_; repeat (with_reducible first | exact Ext.refl _ | apply Ext.alloc | apply Ext.aft | apply Ext.drew | apply Ext.drewN | apply Ext.setCell | exact Nat.le_add_right _ _ | exact Nat.le_refl _ | (simp; done) | omega))⟩
end Go.Proofs.Ytbkbcbanfnhjpaa

/- Products, the list 0, 1, ..: both texts. -/
namespace Go.Proofs.Ytbkbcbanfnhjpaa
open Go Go.RowKit

theorem prodF_snoc {a b : List Int} {k : Nat} (h : k < b.length) : prodF a (b.take (k + 1)) = prodF a (b.take k) ++ [a.getD (b[k]).toNat 0] := by
  rw [take_snocI _ _ h]; unfold prodF; rw [List.map_append]; rfl
theorem getD_cell {w : World} {b o : Nat} {xs : List Int} (hc : ∀ i, (h : i < xs.length) → w.cell? ⟨b, o + i, none⟩ = some (.int .i64 xs[i])) {i : Int} (h0 : 0 ≤ i) (h1 : i < xs.length) : w.cell? ⟨b, o + i.toNat, none⟩ = some (.int .i64 (xs.getD i.toNat 0)) := by
  rw [hc i.toNat (by omega)]
  simp [List.getD, List.getElem?_eq_getElem (show i.toNat < xs.length by omega)]
set_option maxRecDepth 20000 in
set_option maxHeartbeats 4000000 in
theorem i_prod (r1 r2 : Value) (xs ys : List Int) (w : World) (h1 : rdI w r1 xs) (h2 : rdI w r2 ys) (hr : ∀ y ∈ ys, 0 ≤ y ∧ y < xs.length) (hl : ys.length ≤ 6) :
    Calls Try.prog 104 #[r1, r2] w fun e w' => ∃ v, e = .returned v ∧ ownR w.heap.size w' v (prodF xs ys) ∧ Below w.heap.size w w' := by
  obtain ⟨i0, hi, hz0, hz1, hz2⟩ := info_parts infoI
  obtain ⟨a1, c1, rfl, hm1, hc1⟩ := h1
  obtain ⟨a2, c2, rfl, hm2, hc2⟩ := h2
  have Hc1 := hid hc1
  have Hc2 := hid hc2
  have Hr := hid hr
  clear hc1 hc2 hm1 hm2 hr
  go_enter Try.func104, Try.ntmps104
  go_wp2_with fail
  go_loopw [5, 10] (fun r i wr => ∃ (k : Nat) (uu : World), wr = aft w uu ∧ k ≤ ys.length ∧ i = .int .i64 k ∧ Hid (ownR w.heap.size wr r (prodF xs (ys.take k)))) (fun _ i _ => ys.length - (intOf i).toNat)
  case atStart => first | exact ⟨0, w, (aft_of (Below.refl _ _)).symm, by omega, rfl, hid (ownR.nil _ _)⟩ | exact ⟨0, _, (aft_of ((Below.refl _ w).alloc (Nat.le_refl _) _)).symm, by omega, rfl, hid (own_made w)⟩
  case round =>
    obtain ⟨k, uu, rfl, hk, rfl, HO⟩ := hrel
    have zs := size_aft w uu
    by_cases hlt : k < ys.length
    · obtain ⟨b2, o2, rfl, hcell2⟩ := Hc2.out (by intro e; subst e; simp at hlt)
      have hy := hcell2 k hlt
      have hyb := World.block_lt_of_cell? w _ hy
      have hrg := Hr.out _ (List.getElem_mem hlt)
      have hpos : 0 < xs.length := by omega
      obtain ⟨b1, o1, rfl, hcell1⟩ := Hc1.out (by intro e; subst e; simp at hpos)
      have hx := getD_cell hcell1 hrg.1 hrg.2
      have hxb := World.block_lt_of_cell? w _ hx
      have hsn := prodF_snoc (a := xs) hlt
      have hown := HO.out
      have hpl : (prodF xs (ys.take k)).length = k := by rw [prodF_len, List.length_take]; omega
      obtain ⟨y, hye⟩ : ∃ y, y = ys[k] := ⟨_, rfl⟩
      rw [← hye] at hy hrg hx hsn
      obtain ⟨x, hxe⟩ : ∃ x, x = xs.getD y.toNat 0 := ⟨_, rfl⟩
      rw [← hxe] at hx hsn
      have HS := hid hsn
      have hltz : (k : Int) < (ys.length : Int) := by omega
      clear hye hxe hcell1 hcell2 hsn HO
      go_wp2_with (at_builtin; refine wpList_append_own _ rfl _ _ 24 rfl (w.heap.size) 2 i0 (.int .i64 0) 1 8 Try.underlying24 hi hz0 hz1 hz2 rfl (by decide) _ _ _ rfl (hown.alloc _) ⟨_, 0, none⟩ 1 1 [.int .i64 (x)] rfl rfl ?c1 ?c2 ?c3 ?c4 ?c5 ?_)
      try case c1 => exact cell_one_new _ _ _
      case c2 => first | rfl | (intro u hu; simp at hu; subst hu; rfl)
      case c3 => first | (unfold maxLen; omega) | (rw [hpl]; unfold maxLen; omega)
      case c4 => first | omega | (rw [hpl]; omega)
      case c5 => first | omega | (simp; omega)
      intro v' w1 hown' hgrow _
      obtain ⟨u', rfl⟩ := grown_aft (W := w) (by repeat (with_reducible first | exact Ext.refl _ | apply Ext.alloc | apply Ext.aft | apply Ext.drew | apply Ext.drewN | apply Ext.setCell | exact Nat.le_add_right _ _ | exact Nat.le_refl _ | (simp; done) | omega)) hgrow (own_row_ge hown)
      have HO := hid hown'
      clear hown' hgrow hown
      go_wp2_with fail
      go_roundw
      case rel => exact ⟨k + 1, u', rfl, by omega, by go_num, hid (by rw [HS.out]; refine ownR.snoc ?_; first | exact HO.out | (rw [hpl]; exact HO.out))⟩
      case measure => simp only [intOf]; omega
    · obtain rfl : k = ys.length := by omega
      rw [List.take_length] at HO
      have hltz : ¬ (ys.length : Int) < (ys.length : Int) := by omega
      go_wp2_with fail
      go_ret
      exact ⟨_, rfl, HO.out, (by refine Ext.bel ?_; repeat (with_reducible first | exact Ext.refl _ | apply Ext.alloc | apply Ext.aft | apply Ext.drew | apply Ext.drewN | apply Ext.setCell | exact Nat.le_add_right _ _ | exact Nat.le_refl _ | (simp; done) | omega))⟩
set_option maxRecDepth 20000 in
set_option maxHeartbeats 4000000 in
theorem s_prod (r1 r2 : Value) (xs ys : List Int) (w : World) (h1 : rdI w r1 xs) (h2 : rdI w r2 ys) (hr : ∀ y ∈ ys, 0 ≤ y ∧ y < xs.length) (hl : ys.length ≤ 6) :
    Calls Try.prog 86 #[r1, r2] w fun e w' => ∃ v, e = .returned v ∧ ownR w.heap.size w' v (prodF xs ys) ∧ Below w.heap.size w w' := by
  obtain ⟨i0, hi, hz0, hz1, hz2⟩ := info_parts infoI
  obtain ⟨a1, c1, rfl, hm1, hc1⟩ := h1
  obtain ⟨a2, c2, rfl, hm2, hc2⟩ := h2
  have Hc1 := hid hc1
  have Hc2 := hid hc2
  have Hr := hid hr
  clear hc1 hc2 hm1 hm2 hr
  go_enter Try.func86, Try.ntmps86
  go_wp2_with fail
  go_loopw [5, 6] (fun r i wr => ∃ (k : Nat) (uu : World), wr = aft w uu ∧ k ≤ ys.length ∧ i = .int .i64 k ∧ Hid (ownR w.heap.size wr r (prodF xs (ys.take k)))) (fun _ i _ => ys.length - (intOf i).toNat)
  case atStart => first | exact ⟨0, w, (aft_of (Below.refl _ _)).symm, by omega, rfl, hid (ownR.nil _ _)⟩ | exact ⟨0, _, (aft_of ((Below.refl _ w).alloc (Nat.le_refl _) _)).symm, by omega, rfl, hid (own_made w)⟩
  case round =>
    obtain ⟨k, uu, rfl, hk, rfl, HO⟩ := hrel
    have zs := size_aft w uu
    by_cases hlt : k < ys.length
    · obtain ⟨b2, o2, rfl, hcell2⟩ := Hc2.out (by intro e; subst e; simp at hlt)
      have hy := hcell2 k hlt
      have hyb := World.block_lt_of_cell? w _ hy
      have hrg := Hr.out _ (List.getElem_mem hlt)
      have hpos : 0 < xs.length := by omega
      obtain ⟨b1, o1, rfl, hcell1⟩ := Hc1.out (by intro e; subst e; simp at hpos)
      have hx := getD_cell hcell1 hrg.1 hrg.2
      have hxb := World.block_lt_of_cell? w _ hx
      have hsn := prodF_snoc (a := xs) hlt
      have hown := HO.out
      have hpl : (prodF xs (ys.take k)).length = k := by rw [prodF_len, List.length_take]; omega
      obtain ⟨y, hye⟩ : ∃ y, y = ys[k] := ⟨_, rfl⟩
      rw [← hye] at hy hrg hx hsn
      obtain ⟨x, hxe⟩ : ∃ x, x = xs.getD y.toNat 0 := ⟨_, rfl⟩
      rw [← hxe] at hx hsn
      have HS := hid hsn
      have hltz : (k : Int) < (ys.length : Int) := by omega
      clear hye hxe hcell1 hcell2 hsn HO
      go_wp2_with (at_builtin; refine wpList_append_own _ rfl _ _ 24 rfl (w.heap.size) 2 i0 (.int .i64 0) 1 8 Try.underlying24 hi hz0 hz1 hz2 rfl (by decide) _ _ _ rfl (hown.alloc _) ⟨_, 0, none⟩ 1 1 [.int .i64 (x)] rfl rfl ?c1 ?c2 ?c3 ?c4 ?c5 ?_)
      try case c1 => exact cell_one_new _ _ _
      case c2 => first | rfl | (intro u hu; simp at hu; subst hu; rfl)
      case c3 => first | (unfold maxLen; omega) | (rw [hpl]; unfold maxLen; omega)
      case c4 => first | omega | (rw [hpl]; omega)
      case c5 => first | omega | (simp; omega)
      intro v' w1 hown' hgrow _
      obtain ⟨u', rfl⟩ := grown_aft (W := w) (by repeat (with_reducible first | exact Ext.refl _ | apply Ext.alloc | apply Ext.aft | apply Ext.drew | apply Ext.drewN | apply Ext.setCell | exact Nat.le_add_right _ _ | exact Nat.le_refl _ | (simp; done) | omega)) hgrow (own_row_ge hown)
      have HO := hid hown'
      clear hown' hgrow hown
      go_wp2_with fail
      go_roundw
      case rel => exact ⟨k + 1, u', rfl, by omega, by go_num, hid (by rw [HS.out]; refine ownR.snoc ?_; first | exact HO.out | (rw [hpl]; exact HO.out))⟩
      case measure => simp only [intOf]; omega
    · obtain rfl : k = ys.length := by omega
      rw [List.take_length] at HO
      have hltz : ¬ (ys.length : Int) < (ys.length : Int) := by omega
      go_wp2_with fail
      go_ret
      exact ⟨_, rfl, HO.out, (by refine Ext.bel ?_; repeat (with_reducible first | exact Ext.refl _ | apply Ext.alloc | apply Ext.aft | apply Ext.drew | apply Ext.drewN | apply Ext.setCell | exact Nat.le_add_right _ _ | exact Nat.le_refl _ | (simp; done) | omega))⟩
set_option maxRecDepth 20000 in
set_option maxHeartbeats 4000000 in
theorem i_id (n : Nat) (w : World) (hn : n ≤ 6) :
    Calls Try.prog 127 #[.int .i64 n] w fun e w' => ∃ v, e = .returned v ∧ ownR w.heap.size w' v (idP n) ∧ Below w.heap.size w w' := by
  obtain ⟨i0, hi, hz0, hz1, hz2⟩ := info_parts infoI
  go_enter Try.func127, Try.ntmps127
  go_wp2_with fail
  go_loopw [3, 6] (fun r i wr => ∃ (k : Nat) (uu : World), wr = aft w uu ∧ k ≤ n ∧ i = .int .i64 k ∧ Hid (ownR w.heap.size wr r (idP k))) (fun _ i _ => n - (intOf i).toNat)
  case atStart => first | exact ⟨0, w, (aft_of (Below.refl _ _)).symm, by omega, rfl, hid (ownR.nil _ _)⟩ | exact ⟨0, _, (aft_of ((Below.refl _ w).alloc (Nat.le_refl _) _)).symm, by omega, rfl, hid (own_made w)⟩
  case round =>
    obtain ⟨k, uu, rfl, hk, rfl, HO⟩ := hrel
    have zs := size_aft w uu
    by_cases hlt : k < n
    · have hown := HO.out
      have hpl := idP_len k
      have hltz : (k : Int) < (n : Int) := by omega
      clear HO
      go_wp2_with (at_builtin; refine wpList_append_own _ rfl _ _ 24 rfl (w.heap.size) 2 i0 (.int .i64 0) 1 8 Try.underlying24 hi hz0 hz1 hz2 rfl (by decide) _ _ _ rfl (hown.alloc _) ⟨_, 0, none⟩ 1 1 [.int .i64 ((k : Int))] rfl rfl ?c1 ?c2 ?c3 ?c4 ?c5 ?_)
      try case c1 => exact cell_one_new _ _ _
      case c2 => first | rfl | (intro u hu; simp at hu; subst hu; rfl)
      case c3 => first | (unfold maxLen; omega) | (rw [hpl]; unfold maxLen; omega)
      case c4 => first | omega | (rw [hpl]; omega)
      case c5 => first | omega | (simp; omega)
      intro v' w1 hown' hgrow _
      obtain ⟨u', rfl⟩ := grown_aft (W := w) (by repeat (with_reducible first | exact Ext.refl _ | apply Ext.alloc | apply Ext.aft | apply Ext.drew | apply Ext.drewN | apply Ext.setCell | exact Nat.le_add_right _ _ | exact Nat.le_refl _ | (simp; done) | omega)) hgrow (own_row_ge hown)
      have HO := hid hown'
      clear hown' hgrow hown
      go_wp2_with fail
      go_roundw
      case rel => exact ⟨k + 1, u', rfl, by omega, by go_num, hid (by rw [idP_succ]; refine ownR.snoc ?_; first | exact HO.out | (rw [hpl]; exact HO.out))⟩
      case measure => simp only [intOf]; omega
    · obtain rfl : k = n := by omega
      have hltz : ¬ (k : Int) < (k : Int) := by omega
      go_wp2_with fail
      go_ret
      exact ⟨_, rfl, HO.out, (by refine Ext.bel ?_; repeat (with_reducible first | exact Ext.refl _ | apply Ext.alloc | apply Ext.aft | apply Ext.drew | apply Ext.drewN | apply Ext.setCell | exact Nat.le_add_right _ _ | exact Nat.le_refl _ | (simp; done) | omega))⟩
set_option maxRecDepth 20000 in
set_option maxHeartbeats 4000000 in
theorem s_id (n : Nat) (w : World) (hn : n ≤ 6) :
    Calls Try.prog 98 #[.int .i64 n] w fun e w' => ∃ v, e = .returned v ∧ ownR w.heap.size w' v (idP n) ∧ Below w.heap.size w w' := by
  obtain ⟨i0, hi, hz0, hz1, hz2⟩ := info_parts infoI
  go_enter Try.func98, Try.ntmps98
  go_wp2_with fail
  go_loopw [3, 4] (fun r i wr => ∃ (k : Nat) (uu : World), wr = aft w uu ∧ k ≤ n ∧ i = .int .i64 k ∧ Hid (ownR w.heap.size wr r (idP k))) (fun _ i _ => n - (intOf i).toNat)
  case atStart => first | exact ⟨0, w, (aft_of (Below.refl _ _)).symm, by omega, rfl, hid (ownR.nil _ _)⟩ | exact ⟨0, _, (aft_of ((Below.refl _ w).alloc (Nat.le_refl _) _)).symm, by omega, rfl, hid (own_made w)⟩
  case round =>
    obtain ⟨k, uu, rfl, hk, rfl, HO⟩ := hrel
    have zs := size_aft w uu
    by_cases hlt : k < n
    · have hown := HO.out
      have hpl := idP_len k
      have hltz : (k : Int) < (n : Int) := by omega
      clear HO
      go_wp2_with (at_builtin; refine wpList_append_own _ rfl _ _ 24 rfl (w.heap.size) 2 i0 (.int .i64 0) 1 8 Try.underlying24 hi hz0 hz1 hz2 rfl (by decide) _ _ _ rfl (hown.alloc _) ⟨_, 0, none⟩ 1 1 [.int .i64 ((k : Int))] rfl rfl ?c1 ?c2 ?c3 ?c4 ?c5 ?_)
      try case c1 => exact cell_one_new _ _ _
      case c2 => first | rfl | (intro u hu; simp at hu; subst hu; rfl)
      case c3 => first | (unfold maxLen; omega) | (rw [hpl]; unfold maxLen; omega)
      case c4 => first | omega | (rw [hpl]; omega)
      case c5 => first | omega | (simp; omega)
      intro v' w1 hown' hgrow _
      obtain ⟨u', rfl⟩ := grown_aft (W := w) (by repeat (with_reducible first | exact Ext.refl _ | apply Ext.alloc | apply Ext.aft | apply Ext.drew | apply Ext.drewN | apply Ext.setCell | exact Nat.le_add_right _ _ | exact Nat.le_refl _ | (simp; done) | omega)) hgrow (own_row_ge hown)
      have HO := hid hown'
      clear hown' hgrow hown
      go_wp2_with fail
      go_roundw
      case rel => exact ⟨k + 1, u', rfl, by omega, by go_num, hid (by rw [idP_succ]; refine ownR.snoc ?_; first | exact HO.out | (rw [hpl]; exact HO.out))⟩
      case measure => simp only [intOf]; omega
    · obtain rfl : k = n := by omega
      have hltz : ¬ (k : Int) < (k : Int) := by omega
      go_wp2_with fail
      go_ret
      exact ⟨_, rfl, HO.out, (by refine Ext.bel ?_; repeat (with_reducible first | exact Ext.refl _ | apply Ext.alloc | apply Ext.aft | apply Ext.drew | apply Ext.drewN | apply Ext.setCell | exact Nat.le_add_right _ _ | exact Nat.le_refl _ | (simp; done) | omega))⟩
end Go.Proofs.Ytbkbcbanfnhjpaa

/- The library's sort, delete and compact at numbers: the shelf's contracts, laid at this program; what they do to a row of the call's own. -/
namespace Go.Proofs.Ytbkbcbanfnhjpaa
open Go Go.RowKit
open Go.Shelf
def lay141_ren : Go.Shelf.Ren := ⟨fun | 45 => 138 | n => n, fun | 22 => 24 | 23 => 2 | 3 => 3 | 4 => 4 | 0 => 0 | n => n, fun | n => n⟩
theorem lay141 : Go.Proofs.SlLaysN.n45 Try.prog lay141_ren := {
  mixed := by kernel_rfl
  f45 := ⟨Try.f138.name, by decide, Try.func138.trans (congrArg some (by kernel_rfl))⟩
  t0 := Try.underlying0
  a0 := Try.isAgg0
  z0 := Try.sizeOf0
  v0 := Try.zeroValue0
  t3 := Try.underlying3
  a3 := Try.isAgg3
  z3 := Try.sizeOf3
  v3 := Try.zeroValue3
  t4 := Try.underlying4
  a4 := Try.isAgg4
  z4 := Try.sizeOf4
  v4 := Try.zeroValue4
  t22 := Try.underlying24
  a22 := Try.isAgg24
  z22 := Try.sizeOf24
  v22 := Try.zeroValue24
  t23 := Try.underlying2
  a23 := Try.isAgg2
  z23 := Try.sizeOf2
  v23 := Try.zeroValue2
  i23 := by kernel_rfl }
def lay124_ren : Go.Shelf.Ren := ⟨fun | 43 => 132 | n => n, fun | 22 => 24 | 23 => 2 | 3 => 3 | 4 => 4 | 0 => 0 | n => n, fun | n => n⟩
theorem lay124 : Go.Proofs.SlLaysN.n43 Try.prog lay124_ren := {
  mixed := by kernel_rfl
  f43 := ⟨Try.f132.name, by decide, Try.func132.trans (congrArg some (by kernel_rfl))⟩
  t0 := Try.underlying0
  a0 := Try.isAgg0
  z0 := Try.sizeOf0
  v0 := Try.zeroValue0
  t3 := Try.underlying3
  a3 := Try.isAgg3
  z3 := Try.sizeOf3
  v3 := Try.zeroValue3
  t4 := Try.underlying4
  a4 := Try.isAgg4
  z4 := Try.sizeOf4
  v4 := Try.zeroValue4
  t22 := Try.underlying24
  a22 := Try.isAgg24
  z22 := Try.sizeOf24
  v22 := Try.zeroValue24
  t23 := Try.underlying2
  a23 := Try.isAgg2
  z23 := Try.sizeOf2
  v23 := Try.zeroValue2
  i23 := by kernel_rfl }
def lay115_ren : Go.Shelf.Ren := ⟨fun | 5 => 93 | 8 => 130 | 7 => 129 | 19 => 147 | 20 => 148 | 10 => 139 | 11 => 140 | 12 => 141 | 13 => 142 | 14 => 143 | 15 => 144 | 16 => 134 | 17 => 145 | 18 => 146 | 30 => 150 | 31 => 151 | 32 => 152 | 33 => 153 | 34 => 154 | 35 => 149 | 40 => 155 | n => n, fun | 23 => 24 | 25 => 2 | 3 => 3 | 32 => 105 | 22 => 24 | 0 => 0 | 44 => 118 | 46 => 120 | 4 => 4 | 36 => 112 | 35 => 111 | 41 => 98 | 5 => 5 | 9 => 9 | 53 => 121 | 57 => 125 | 63 => 127 | 64 => 128 | n => n, fun | n => n⟩
theorem lay115 : Go.Proofs.SlLaysM.n5 Try.prog lay115_ren := {
  mixed := by kernel_rfl
  f5 := ⟨Try.f93.name, by decide, Try.func93.trans (congrArg some (by kernel_rfl))⟩
  f7 := ⟨Try.f129.name, by decide, Try.func129.trans (congrArg some (by kernel_rfl))⟩
  f8 := Try.func130.trans (congrArg some (by kernel_rfl))
  f10 := ⟨Try.f139.name, by decide, Try.func139.trans (congrArg some (by kernel_rfl))⟩
  f11 := ⟨Try.f140.name, by decide, Try.func140.trans (congrArg some (by kernel_rfl))⟩
  f12 := ⟨Try.f141.name, by decide, Try.func141.trans (congrArg some (by kernel_rfl))⟩
  f13 := ⟨Try.f142.name, by decide, Try.func142.trans (congrArg some (by kernel_rfl))⟩
  f14 := ⟨Try.f143.name, by decide, Try.func143.trans (congrArg some (by kernel_rfl))⟩
  f15 := ⟨Try.f144.name, by decide, Try.func144.trans (congrArg some (by kernel_rfl))⟩
  f16 := ⟨Try.f134.name, by decide, Try.func134.trans (congrArg some (by kernel_rfl))⟩
  f17 := ⟨Try.f145.name, by decide, Try.func145.trans (congrArg some (by kernel_rfl))⟩
  f18 := ⟨Try.f146.name, by decide, Try.func146.trans (congrArg some (by kernel_rfl))⟩
  f19 := Try.func147.trans (congrArg some (by kernel_rfl))
  f20 := Try.func148.trans (congrArg some (by kernel_rfl))
  f30 := ⟨Try.f150.name, by decide, Try.func150.trans (congrArg some (by kernel_rfl))⟩
  f31 := Try.func151.trans (congrArg some (by kernel_rfl))
  f32 := Try.func152.trans (congrArg some (by kernel_rfl))
  f33 := ⟨Try.f153.name, by decide, Try.func153.trans (congrArg some (by kernel_rfl))⟩
  f34 := ⟨Try.f154.name, by decide, Try.func154.trans (congrArg some (by kernel_rfl))⟩
  f35 := ⟨Try.f149.name, by decide, Try.func149.trans (congrArg some (by kernel_rfl))⟩
  f40 := ⟨Try.f155.name, by decide, Try.func155.trans (congrArg some (by kernel_rfl))⟩
  t0 := Try.underlying0
  a0 := Try.isAgg0
  z0 := Try.sizeOf0
  v0 := Try.zeroValue0
  t3 := Try.underlying3
  a3 := Try.isAgg3
  z3 := Try.sizeOf3
  v3 := Try.zeroValue3
  t4 := Try.underlying4
  a4 := Try.isAgg4
  z4 := Try.sizeOf4
  v4 := Try.zeroValue4
  t5 := Try.underlying5
  a5 := Try.isAgg5
  z5 := Try.sizeOf5
  v5 := Try.zeroValue5
  t9 := Try.underlying9
  a9 := Try.isAgg9
  z9 := Try.sizeOf9
  v9 := Try.zeroValue9
  t22 := Try.underlying24
  a22 := Try.isAgg24
  z22 := Try.sizeOf24
  v22 := Try.zeroValue24
  t23 := Try.underlying24
  a23 := Try.isAgg24
  z23 := Try.sizeOf24
  v23 := Try.zeroValue24
  t25 := Try.underlying2
  a25 := Try.isAgg2
  z25 := Try.sizeOf2
  v25 := Try.zeroValue2
  t32 := Try.underlying105
  a32 := Try.isAgg105
  z32 := Try.sizeOf105
  v32 := Try.zeroValue105
  t35 := Try.underlying111
  a35 := Try.isAgg111
  z35 := Try.sizeOf111
  v35 := Try.zeroValue111
  t36 := Try.underlying112
  a36 := Try.isAgg112
  z36 := Try.sizeOf112
  v36 := Try.zeroValue112
  t41 := Try.underlying98
  a41 := Try.isAgg98
  z41 := Try.sizeOf98
  v41 := Try.zeroValue98
  t44 := Try.underlying118
  a44 := Try.isAgg118
  z44 := Try.sizeOf118
  v44 := Try.zeroValue118
  t46 := Try.underlying120
  a46 := Try.isAgg120
  z46 := Try.sizeOf120
  v46 := Try.zeroValue120
  t53 := Try.underlying121
  a53 := Try.isAgg121
  z53 := Try.sizeOf121
  v53 := Try.zeroValue121
  t57 := Try.underlying125
  a57 := Try.isAgg125
  z57 := Try.sizeOf125
  v57 := Try.zeroValue125
  t63 := Try.underlying127
  a63 := Try.isAgg127
  z63 := Try.sizeOf127
  v63 := Try.zeroValue127
  t64 := Try.underlying128
  a64 := Try.isAgg128
  z64 := Try.sizeOf128
  v64 := Try.zeroValue128 }

theorem holds_own {B g cap n : Nat} {w : World} {xs : List Int} (h : ownR B w (.slice (some ⟨g, 0, none⟩) n cap) xs) : Go.Sort.Holds (Value.int .i64) w g 0 xs.toArray := by
  intro j hj
  have hj' : j < xs.length := by simpa using hj
  have hn : n = xs.length := by
    rcases h.2 with ⟨e, h1⟩ | ⟨g', c, cur, e, _⟩
    · cases e
    · cases e; rfl
  subst hn
  rw [Nat.zero_add]
  refine ⟨?_, World.ownsRow.frozenAt h j⟩
  rw [World.ownsRow.cellAt h j (by omega)]
  simp [vI, hj']
theorem own_put {B g cap q : Nat} {w : World} {xs ts : List Int} {os : Array Obj} (h : ownR B w (.slice (some ⟨g, 0, none⟩) xs.length cap) xs) (hl : ts.length = xs.length) :
    ownR B (Go.Sort.grow (Go.Sort.putRow (Value.int .i64) (Go.Sort.ahead w q) g 0 ts.toArray) os) (.slice (some ⟨g, 0, none⟩) xs.length cap) ts := by
  rcases h.2 with ⟨e, h1⟩ | ⟨g', c, cur, e, hb, hh, h1, h2, h3, h4⟩
  · cases e
  · cases e
    unfold ownR
    rw [hl]
    exact ownsRow_sortedI hl hb hh h1 h2 h3
theorem own_cut {B g cap : Nat} {w : World} {xs : List Int} {m : Nat} (h : ownR B w (.slice (some ⟨g, 0, none⟩) xs.length cap) xs) (hm : m ≤ xs.length) : ownR B w (.slice (some ⟨g, 0, none⟩) m cap) (xs.take m) := by
  rcases h.2 with ⟨e, h1⟩ | ⟨g', c, cur, e, hb, hh, h1, h2, h3, h4⟩
  · cases e
  · cases e
    have hl : (xs.take m).length = m := by rw [List.length_take]; omega
    unfold ownR
    rw [hl]
    refine ⟨by simp [vI]; omega, .inr ⟨g, cap, cur, rfl, hb, hh, by omega, h2, h3, ?_⟩⟩
    have e : cur.toList.take (m * 1) = (cur.toList.take (xs.length * 1)).take (m * 1) := by rw [List.take_take]; congr 1; omega
    rw [e, h4]
    simp [vI]
theorem grow_none (w : World) : Go.Sort.grow w #[] = w := by simp [Go.Sort.grow]
theorem own_some {B : Nat} {w : World} {v : Value} {xs : List Int} (h : ownR B w v xs) (hne : xs ≠ []) : ∃ g cap, v = .slice (some ⟨g, 0, none⟩) xs.length cap ∧ g < w.heap.size ∧ xs.length ≤ cap ∧ cap ≤ maxLen := by
  rcases h.2 with ⟨e, h1⟩ | ⟨g, cap, cur, e, hb, hh, h1, h2, _⟩
  · exact absurd (List.eq_nil_of_length_eq_zero h1) hne
  · exact ⟨g, cap, e, (Array.getElem?_eq_some_iff.1 hh).1, h1, h2⟩

theorem compact_len (xs : List Int) : (Lib.compact xs).length ≤ xs.length := by
  unfold Lib.compact
  have : ∀ m, (Lib.compactUpTo xs.toArray m).length ≤ m := by
    intro m
    induction m with
    | zero => simp [Lib.compactUpTo]
    | succ m ih =>
      rw [Lib.compactUpTo_succ, List.length_append]
      split <;> simp <;> omega
  exact this _
theorem lib_delete {B : Nat} {w : World} {v : Value} {xs : List Int} (h : ownR B w v xs) (i : Nat) (hi : i < xs.length) :
    Calls Try.prog 138 #[v, .int .i64 i, .int .i64 ((i : Int) + 1)] w fun e w' => ∃ v', e = .returned v' ∧ ownR B w' v' (xs.eraseIdx i) ∧ w.grownBy w' v.ownBlock ∧ v'.ownBlock = v.ownBlock := by
  obtain ⟨g, cap, rfl, hg, hc, hm⟩ := own_some h (by intro e; subst e; simp at hi)
  unfold maxLen at hm
  have hcall := AnyG.slices_Delete_int lay141 g 0 cap i (i + 1) xs w (holds_own h) hc (by omega) (by omega) (by omega)
  change Calls Try.prog 138 _ _ _ at hcall
  refine hcall.mono ?_
  rintro e w' ⟨rfl, q, rfl⟩
  have hl : (xs.take i ++ xs.drop (i + 1) ++ List.replicate (i + 1 - i) (0 : Int)).length = xs.length := by simp; omega
  have hp := own_put (q := q) (os := #[]) h hl
  rw [grow_none] at hp
  refine ⟨_, rfl, ?_, ?_, rfl⟩
  · have e : xs.eraseIdx i = (xs.take i ++ xs.drop (i + 1) ++ List.replicate (i + 1 - i) (0 : Int)).take (xs.length - (i + 1 - i)) := by
      rw [List.take_append_of_le_length (by simp; omega), List.take_of_length_le (by simp; omega), List.eraseIdx_eq_take_drop_succ]
    rw [e]
    rw [← hl] at hp
    have hp2 := own_cut (m := xs.length - (i + 1 - i)) hp (by rw [hl]; omega)
    exact hp2
  · have := grownBy_sortedI (w := w) (g := g) (n := q) (os := #[]) (xs.take i ++ xs.drop (i + 1) ++ List.replicate (i + 1 - i) (0 : Int)).toArray
    rw [grow_none] at this
    exact this
theorem lib_sort {B : Nat} {w : World} {v : Value} {xs : List Int} (h : ownR B w v xs) (hl : xs.length ≤ 1000000) :
    Calls Try.prog 93 #[v] w fun e w' => e = .returned (.tuple #[]) ∧ ownR B w' v (xs.mergeSort fun x y => decide (x ≤ y)) ∧ w.grownBy w' v.ownBlock := by
  by_cases hne : xs = []
  · subst hne
    obtain ⟨a, n, cap, rfl, hn⟩ : ∃ a n cap, v = .slice a n cap ∧ n = 0 := by
      obtain ⟨a, cap, rfl, _⟩ := h.rd
      exact ⟨a, _, cap, rfl, rfl⟩
    subst hn
    have hcall := AnyM.slices_Sort_int_none lay115 a cap w
    change Calls Try.prog 93 _ _ _ at hcall
    refine hcall.mono ?_
    rintro e w' ⟨rfl, rfl⟩
    exact ⟨rfl, by simpa using h, ⟨rfl, rfl, rfl, Nat.le_refl _, fun _ _ _ => rfl⟩⟩
  · obtain ⟨g, cap, rfl, hg, hc, hm⟩ := own_some h hne
    have hcall := AnyM.slices_Sort_int lay115 g 0 cap xs w (holds_own h) hg (by omega)
    change Calls Try.prog 93 _ _ _ at hcall
    refine hcall.mono ?_
    rintro e w' ⟨rfl, q, os, rfl⟩
    exact ⟨rfl, own_put h (by simp), grownBy_sortedI _⟩
theorem lib_compact {B : Nat} {w : World} {v : Value} {xs : List Int} (h : ownR B w v xs) :
    Calls Try.prog 132 #[v] w fun e w' => ∃ v', e = .returned v' ∧ ownR B w' v' (Lib.compact xs) ∧ w.grownBy w' v.ownBlock ∧ v'.ownBlock = v.ownBlock := by
  by_cases hne : xs = []
  · subst hne
    obtain ⟨a, n, cap, rfl, hn⟩ : ∃ a n cap, v = .slice a n cap ∧ n = 0 := by
      obtain ⟨a, cap, rfl, _⟩ := h.rd
      exact ⟨a, _, cap, rfl, rfl⟩
    subst hn
    have hcall := AnyG.slices_Compact_int_empty lay124 a cap w
    change Calls Try.prog 132 _ _ _ at hcall
    refine hcall.mono ?_
    rintro e w' ⟨rfl, rfl⟩
    exact ⟨_, rfl, by simpa [Lib.compact, Lib.compactUpTo] using h, ⟨rfl, rfl, rfl, Nat.le_refl _, fun _ _ _ => rfl⟩, rfl⟩
  · obtain ⟨g, cap, rfl, hg, hc, hm⟩ := own_some h hne
    unfold maxLen at hm
    have hcall := AnyG.slices_Compact_int lay124 g 0 cap xs w (holds_own h) (by omega) hc
    change Calls Try.prog 132 _ _ _ at hcall
    refine hcall.mono ?_
    rintro e w' ⟨rfl, q, rfl⟩
    have hcl : (Lib.compact xs).length ≤ xs.length := compact_len xs
    have hl : (Lib.compact xs ++ List.replicate (xs.length - (Lib.compact xs).length) (0 : Int)).length = xs.length := by simp; omega
    have hp := own_put (q := q) (os := #[]) h hl
    rw [grow_none] at hp
    refine ⟨_, rfl, ?_, ?_, rfl⟩
    · obtain ⟨ts, hts⟩ : ∃ ts, ts = Lib.compact xs ++ List.replicate (xs.length - (Lib.compact xs).length) (0 : Int) := ⟨_, rfl⟩
      rw [← hts] at hp hl ⊢
      have hp' : ownR B (Go.Sort.putRow (Value.int .i64) (Go.Sort.ahead w q) g 0 ts.toArray) (.slice (some ⟨g, 0, none⟩) ts.length cap) ts := by rw [hl]; exact hp
      have hp2 := own_cut (m := (Lib.compact xs).length) hp' (by rw [hl]; exact hcl)
      have e : ts.take (Lib.compact xs).length = Lib.compact xs := by rw [hts]; exact List.take_left' rfl
      rw [e] at hp2
      exact hp2
    · have := grownBy_sortedI (w := w) (g := g) (n := q) (os := #[]) (Lib.compact xs ++ List.replicate (xs.length - (Lib.compact xs).length) (0 : Int)).toArray
      rw [grow_none] at this
      exact this
end Go.Proofs.Ytbkbcbanfnhjpaa

/- The permutation with a rank: both texts. -/
namespace Go.Proofs.Ytbkbcbanfnhjpaa
open Go Go.RowKit

theorem i_factE (n : Nat) (x : Int) (w : World) (hx : x = n) (hn : n ≤ 6) :
    Calls Try.prog 90 #[.int .i64 x] w fun e w' => e = .returned (.int .i64 (facN n)) ∧ w = w' := by subst hx; exact i_fact n w hn
theorem s_factE (n : Nat) (x : Int) (w : World) (hx : x = n) (hn : n ≤ 6) :
    Calls Try.prog 84 #[.int .i64 x] w fun e w' => e = .returned (.int .i64 (facN n)) ∧ w = w' := by subst hx; exact s_fact n w hn
/-- What a round needs. -/
theorem with_step {j n : Nat} {rr r0 : Int} {left dn : List Int} (h0 : 0 ≤ rr) (h1 : rr < (facN (j + 1) : Int)) (hl : left.length = j + 1) (h : dn ++ withG (j + 1) rr left = withF n r0) :
    ∃ q : Nat, rr / (facN j : Int) = q ∧ q < left.length ∧ 0 ≤ rr % (facN j : Int) ∧ rr % (facN j : Int) < (facN j : Int) ∧ (left.eraseIdx q).length = j ∧ (dn ++ [left.getD q 0]) ++ withG j (rr % (facN j : Int)) (left.eraseIdx q) = withF n r0 := by
  have hf : 0 < (facN j : Int) := by have := facN_pos j; omega
  have hlt : rr < (facN j : Int) * ((j : Int) + 1) := by
    have e : (facN (j + 1) : Int) = ((j + 1 : Nat) : Int) * (facN j : Int) := by rw [← Int.natCast_mul]; rfl
    rw [e] at h1
    rw [Int.mul_comm]; exact h1
  have q0 := Int.ediv_nonneg h0 (show 0 ≤ (facN j : Int) by omega)
  have q1 : rr / (facN j : Int) < (j : Int) + 1 := Int.ediv_lt_of_lt_mul hf (by rw [Int.mul_comm]; exact hlt)
  refine ⟨(rr / (facN j : Int)).toNat, by omega, by omega, Int.emod_nonneg _ (by omega), Int.emod_lt_of_pos _ hf, by rw [List.length_eraseIdx_of_lt (by omega)]; omega, ?_⟩
  rw [← h, List.append_assoc]
  rfl
theorem own_ne {B L : Nat} {w w' : World} {v o : Value} {xs : List Int} (h : ownR B w v xs) (hl : rowLt L v) (ho : ∀ k, o.ownBlock = some k → L ≤ k) (hg : w.grownBy w' o.ownBlock) : ownR B w' v xs :=
  h.kept fun k hk hb => hg.block k hk fun e => by have := hl k hb; have := ho k e.symm; omega
theorem own_ne2 {B L : Nat} {w w' : World} {v o : Value} {xs : List Int} (h : ownR L w v xs) (hl : rowLt L o) (hg : w.grownBy w' o.ownBlock) (_ : B ≤ L) : ownR L w' v xs :=
  h.kept fun k hk hb => hg.block k hk fun e => by have := hl k e.symm; have := own_row_ge h k hb; omega
theorem own_cell {B g cap n : Nat} {w : World} {xs : List Int} (h : ownR B w (.slice (some ⟨g, 0, none⟩) n cap) xs) {q : Nat} (hq : q < xs.length) : w.cell? ⟨g, q, none⟩ = some (.int .i64 (xs.getD q 0)) := by
  have hn : n = xs.length := by
    rcases h.2 with ⟨e, h1⟩ | ⟨g', c, cur, e, _⟩
    · cases e
    · cases e; rfl
  subst hn
  rw [World.ownsRow.cellAt h q (by omega)]
  simp [vI, hq, List.getD]

set_option maxRecDepth 20000 in
set_option maxHeartbeats 8000000 in
theorem i_with (n : Nat) (r0 : Int) (w : World) (hn : n ≤ 6) (hr0 : 0 ≤ r0) (hr1 : r0 < (facN n : Int)) :
    Calls Try.prog 128 #[.int .i64 n, .int .i64 r0] w fun e w' => ∃ v, e = .returned v ∧ ownR w.heap.size w' v (withF n r0) ∧ Below w.heap.size w w' := by
  obtain ⟨i0, hi, hz0, hz1, hz2⟩ := info_parts infoI
  go_enter Try.func128, Try.ntmps128
  go_wp2_with fail
  refine viaI (g := id) (i_id n _ hn) ?_
  intro l0 u0 z0 ownl
  try simp at z0
  obtain ⟨W1, hW1⟩ : ∃ W1, W1 = aft w u0 := ⟨_, rfl⟩
  rw [← hW1] at ownl z0 ⊢
  have HB : Hid (Below w.heap.size w W1) := hid (by rw [hW1]; exact below_aft _ _)
  have HL : Hid (ownR w.heap.size W1 l0 (idP n) ∧ rowLt W1.heap.size l0) := hid ⟨ownl, ownl.rowLt⟩
  clear hW1 ownl
  go_wp2_with fail
  go_loopw [6, 5, 7, 1] (fun o l k r wr => ∃ (m : Nat) (rr : Int) (left dn : List Int), m ≤ n ∧ k = .int .i64 m ∧ r = .int .i64 rr ∧ 0 ≤ rr ∧ rr < (facN m : Int) ∧ left.length = m ∧ W1.heap.size ≤ wr.heap.size ∧ dn.length + m = n ∧ Hid (dn ++ withG m rr left = withF n r0) ∧ Hid (ownR w.heap.size wr l left ∧ rowLt W1.heap.size l) ∧ Hid (ownR W1.heap.size wr o dn) ∧ Hid (Below w.heap.size w wr)) (fun _ _ k _ _ => (intOf k).toNat)
  case atStart => exact ⟨n, r0, idP n, [], by omega, rfl, rfl, hr0, hr1, idP_len n, Nat.le_refl _, by simp, hid rfl, HL, hid (ownR.nil _ _), HB⟩
  case round =>
    obtain ⟨m, rr, left, dn, hm, rfl, rfl, h0, h1, hl, hsz, hdn, HW, HL, HO, HB⟩ := hrel
    cases m with
    | zero =>
      have E := hid (show dn = withF n r0 by have := HW.out; simpa [withG] using this)
      have hz : ¬ (0 : Int) < 0 := by omega
      go_wp2_with fail
      go_ret
      exact ⟨_, rfl, by rw [← E.out]; exact HO.out.mono z0, HB.out⟩
    | succ j =>
      obtain ⟨q, hqe, hq, hr2, hr3, hel, hst⟩ := with_step h0 h1 hl HW.out
      have hf := facN_pos j
      have hf7 := facN_le (show j ≤ 6 by omega)
      have hqt : rr.tdiv (facN j : Int) = q := by rw [Int.tdiv_eq_ediv_of_nonneg h0]; exact hqe
      have hq6 : (q : Int) ≤ 6 := by omega
      clear hqe
      obtain ⟨g, cap, rfl, hgl, hlc, hcm⟩ := own_some HL.out.1 (by intro e; subst e; simp at hl)
      rw [hl] at HL ⊢
      have hc := own_cell HL.out.1 hq
      obtain ⟨x, hx⟩ : ∃ x, x = left.getD q 0 := ⟨_, rfl⟩
      rw [← hx] at hc hst
      obtain ⟨r2, hr2e⟩ : ∃ r2, rr % (facN j : Int) = r2 := ⟨_, rfl⟩
      rw [hr2e] at hr2 hr3 hst
      have HS := hid hst
      have HE := hid hel
      have hkz : (0 : Int) < ((j + 1 : Nat) : Int) := by omega
      have hf0 : ((facN j : Int) == 0) = false := by simp; omega
      have hown := HO.out
      have hql : (q : Int) < left.length := by omega
      clear hx hst hel HW
      go_wp2_with (first | (go_at_call 90; refine pur (i_factE j _ _ (by omega) (by omega)) ?_) | (at_builtin; refine wpList_append_own _ rfl _ _ 24 rfl (W1.heap.size) 2 i0 (.int .i64 0) 1 8 Try.underlying24 hi hz0 hz1 hz2 rfl (by decide) _ _ _ rfl (hown.alloc _) ⟨_, 0, none⟩ 1 1 [.int .i64 (x)] rfl rfl ?c1 ?c2 ?c3 ?c4 ?c5 ?_))
      try case c1 => exact cell_one_new _ _ _
      case c2 => first | rfl | (intro u hu; simp at hu; subst hu; rfl)
      case c3 => first | (unfold maxLen; omega) | (simp; unfold maxLen; omega)
      case c4 => first | omega | (simp; omega)
      case c5 => first | omega | (simp; omega)
      intro v' w1 hown' hgrow _
      have HL1 : Hid (ownR w.heap.size w1 (.slice (some ⟨g, 0, none⟩) (j + 1) cap) left) := hid (own_ne (HL.out.1.alloc _) HL.out.2 (own_row_ge hown) hgrow)
      have HB1 : Hid (Below w.heap.size w w1) := hid ((HB.out.alloc HB.out.size _).grown hgrow (by simp; omega) (fun k hk => Nat.le_trans z0 (own_row_ge hown k hk)))
      have hs1 : W1.heap.size ≤ w1.heap.size := by have := hgrow.size; simp at this; omega
      have HO1 : Hid (ownR W1.heap.size w1 v' (dn ++ [x])) := hid (ownR.snoc hown')
      clear hown' hgrow hown hc
      go_wp2_with fail
      refine (lib_delete HL1.out q hq).mono ?_
      rintro e w2 ⟨l2, rfl, hol, hgr, hob⟩
      have HL2 : Hid (ownR w.heap.size w2 l2 (left.eraseIdx q) ∧ rowLt W1.heap.size l2) := hid ⟨hol, fun k hk => HL.out.2 k (by rw [← hob]; exact hk)⟩
      have HO2 : Hid (ownR W1.heap.size w2 v' (dn ++ [x])) := hid (own_ne2 HO1.out HL.out.2 hgr z0)
      have HB2 : Hid (Below w.heap.size w w2) := hid (HB1.out.grown hgr HB1.out.size (own_row_ge HL1.out))
      have hs2 : W1.heap.size ≤ w2.heap.size := Nat.le_trans hs1 hgr.size
      clear hol hgr hob
      go_wp2_with fail
      go_roundw
      case rel => exact ⟨j, r2, left.eraseIdx q, dn ++ [x], by omega, by go_num, by first | rfl | (simp [hr2e]), hr2, hr3, HE.out, hs2, by simp; omega, HS, HL2, HO2, HB2⟩
      case measure => simp only [intOf]; omega
end Go.Proofs.Ytbkbcbanfnhjpaa

/- The permutation with a rank: the statement's text. -/
namespace Go.Proofs.Ytbkbcbanfnhjpaa
open Go Go.RowKit

def apart (v o : Value) : Prop := ∀ k, v.ownBlock = some k → o.ownBlock ≠ some k
theorem apart_lt {L : Nat} {v o : Value} (h : ∀ k, v.ownBlock = some k → L ≤ k) (ho : rowLt L o) : apart v o := fun k hk e => by have := h k hk; have := ho k e; omega
theorem own_apart' {B : Nat} {w w' : World} {v o : Value} {xs : List Int} (h : ownR B w v xs) (ha : apart v o) (hg : w.grownBy w' o.ownBlock) : ownR B w' v xs :=
  h.kept fun k hk hb => hg.block k hk fun e => ha k hb e.symm
/-- x[:l] and x[l:] of a row of the call's own. -/
theorem cutH_rule {B g cap n : Nat} {w : World} {xs : List Int} {q : Nat} (h : ownR B w (.slice (some ⟨g, 0, none⟩) n cap) xs) (hq : q ≤ xs.length) :
    (∀ wx, (Instr.slice 24 (.slice (some ⟨g, 0, none⟩) n cap) none (some (.int .i64 (q : Int))) none).run Try.prog wx = .ok (.slice (some ⟨g, 0, none⟩) q cap) wx) ∧ ownR B w (.slice (some ⟨g, 0, none⟩) q cap) (xs.take q) := by
  have ht' : Try.prog.underlying 24 = some (.slice (Try.prog.elem 24)) := by kernel_rfl
  have hn : n = xs.length := by
    rcases h.2 with ⟨e, h1⟩ | ⟨g', c, cur, e, _⟩
    · cases e
    · cases e; rfl
  subst hn
  have hc := h.le
  refine ⟨fun wx => ?_, own_cut h hq⟩
  rw [run_slice_h wx _ _ _ _ ht' .i64 _ (by omega) (by omega)]
  have he : Try.prog.elem 24 = 2 := by kernel_rfl
  rw [he, sizeI]
  simp [sliced, Result.andThen, Addr.add]
theorem cutL_rule {B g cap n : Nat} {w : World} {xs : List Int} {q : Nat} (h : ownR B w (.slice (some ⟨g, 0, none⟩) n cap) xs) (hq : q ≤ xs.length) :
    ∃ ad c, (∀ wx, (Instr.slice 24 (.slice (some ⟨g, 0, none⟩) n cap) (some (.int .i64 (q : Int))) none none).run Try.prog wx = .ok (.slice (some ad) (xs.length - q) c) wx) ∧ ∀ j u, (vI (xs.drop q))[j]? = some u → w.cell? (ad.add j) = some u := by
  have hn : n = xs.length := by
    rcases h.2 with ⟨e, h1⟩ | ⟨g', c, cur, e, _⟩
    · cases e
    · cases e; rfl
  subst hn
  have ht' : Try.prog.underlying 24 = some (.slice (Try.prog.elem 24)) := by kernel_rfl
  have he : Try.prog.elem 24 = 2 := by kernel_rfl
  have hc := h.le
  refine ⟨if cap = q then ⟨g, 0, none⟩ else (⟨g, 0, none⟩ : Addr).add q, cap - q, fun wx => ?_, fun j u hj => ?_⟩
  · rw [run_slice_l wx _ _ _ _ ht' .i64 _ (by omega) (by omega), he, sizeI]
    simp only [Result.andThen, sliced, Nat.mul_one, Int.toNat_natCast]
    split <;> simp
  · obtain ⟨hlt, hu⟩ := List.getElem?_eq_some_iff.1 hj
    have hlt' : q + j < xs.length := by rw [vI_len, List.length_drop] at hlt; omega
    rw [if_neg (by omega)]
    have h2 := own_cell h hlt'
    have e : ((⟨g, 0, none⟩ : Addr).add q).add j = ⟨g, q + j, none⟩ := by rw [Addr.add_lit, Addr.add_lit, Nat.zero_add]
    rw [e, h2, ← hu]
    simp [vI, List.getD, List.getElem?_eq_getElem hlt']

/-- An append at a step of a region that draws its order. -/
theorem step_append_own {P : Program} {w : World} {ops : Array Oper} {o : Oper} {a : Act} {K : Act → World → Prop} {Q : Exit → Act → World → Prop} {E : Prop} (hgd : o.guard = none) (s x : Operand) (t : TypeId)
    (ho : o.op = .call { callee := .builtin .append, args := #[s, x], argTypes := #[t, t] })
    (base : Nat) (e : TypeId) (i : TypeInfo) (z : Value) (size bytes : Nat) (ht : P.underlying t = some (.slice e)) (hi : P.info? e = some i) (hz : i.zero = some z)
    (hsize : i.size = size) (hby : i.bytes = bytes) (hzs : z.cells.size = size) (hsz : 0 < size)
    (v : Value) (n : Nat) (xs : List Value) (hs : a.eval s = v) (hown : w.ownsRow base e size v n xs)
    (ad : Addr) (m c : Nat) (news : List Value) (hx : a.eval x = .slice (some ad) m c) (hl : news.length = m * size) (hnews : ∀ j u, news[j]? = some u → w.cell? (ad.add j) = some u) (h1 : ∀ u ∈ news, u.oneCell' = true)
    (h63 : n + m ≤ maxLen) (hbytes : (n + m) * bytes ≤ 140737488355328) (hbase : base ≤ w.heap.size)
    (h : ∀ v' w', w'.ownsRow base e size v' (n + m) (xs ++ news) → w.grownBy w' v.ownBlock → K (a.put o.dst v') w') :
    if Region.wanted o (yielded ops a.tmps) = true then Oper.wp P o a w K Q else E := by
  have hw : Region.wanted o (yielded ops a.tmps) = true := by simp [Region.wanted, hgd]
  rw [if_pos hw]
  exact wp_append_own w s x t ho base e i z size bytes ht hi hz hsize hby hzs hsz v n xs hs hown ad m c news hx hl hnews h1 h63 hbytes hbase fun v' w' h2 h3 _ => h v' w' h2 h3
theorem rd_keep {w w' : World} {ad : Addr} {vs : List Value} (h : ∀ j u, vs[j]? = some u → w.cell? (ad.add j) = some u) (hb : Below w.heap.size w w') : ∀ j u, vs[j]? = some u → w'.cell? (ad.add j) = some u :=
  fun j u hj => by rw [hb.cell (p := ad.add j) (World.block_lt_of_cell? w _ (h j u hj))]; exact h j u hj
theorem ext_grown {w0 w w' : World} {o : Value} (h : Ext w0.heap.size w0 w) (hg : w.grownBy w' o.ownBlock) (ho : ∀ k, o.ownBlock = some k → w0.heap.size ≤ k) : Ext w0.heap.size w0 w' :=
  ⟨h.1.grown hg h.2 ho, Nat.le_trans h.2 hg.size⟩

set_option maxRecDepth 20000 in
set_option maxHeartbeats 8000000 in
theorem s_with (n : Nat) (r0 : Int) (w : World) (hn : n ≤ 6) (hr0 : 0 ≤ r0) (hr1 : r0 < (facN n : Int)) :
    Calls Try.prog 96 #[.int .i64 n, .int .i64 r0] w fun e w' => ∃ v, e = .returned v ∧ ownR w.heap.size w' v (withF n r0) ∧ Below w.heap.size w w' := by
  obtain ⟨i0, hi, hz0, hz1, hz2⟩ := info_parts infoI
  go_enter Try.func96, Try.ntmps96
  go_wp2_with fail
  refine viaI (g := id) (s_id n _ hn) ?_
  intro l0 u0 z0 ownl
  try simp at z0
  go_wp2_with fail
  go_loopw [6, 5, 7, 1] (fun o l k r wr => ∃ (m : Nat) (rr : Int) (left dn : List Int), m ≤ n ∧ k = .int .i64 m ∧ r = .int .i64 rr ∧ 0 ≤ rr ∧ rr < (facN m : Int) ∧ left.length = m ∧ w.heap.size ≤ wr.heap.size ∧ dn.length + m = n ∧ Hid (dn ++ withG m rr left = withF n r0) ∧ Hid (ownR w.heap.size wr l left ∧ apart l o) ∧ Hid (ownR w.heap.size wr o dn) ∧ Hid (Below w.heap.size w wr)) (fun _ _ k _ _ => (intOf k).toNat)
  case atStart => exact ⟨n, r0, idP n, [], by omega, rfl, rfl, hr0, hr1, idP_len n, by simp; omega, by simp, hid rfl, hid ⟨ownl.alloc _, fun k hk e => by have := ownl.rowLt k hk; simp [Value.ownBlock] at e; omega⟩, hid ((own_made _).mono z0), hid (by refine Ext.bel ?_; repeat (with_reducible first | exact Ext.refl _ | apply Ext.alloc | apply Ext.aft | apply Ext.drew | apply Ext.drewN))⟩
  case round =>
    obtain ⟨m, rr, left, dn, hm, rfl, rfl, h0, h1, hl, hsz, hdn, HW, HL, HO, HB⟩ := hrel
    cases m with
    | zero =>
      have E := hid (show dn = withF n r0 by have := HW.out; simpa [withG] using this)
      have hz : ¬ (0 : Int) < 0 := by omega
      go_wp2_with fail
      go_ret
      exact ⟨_, rfl, by rw [← E.out]; exact HO.out, HB.out⟩
    | succ j =>
      obtain ⟨q, hqe, hq, hr2, hr3, hel, hst⟩ := with_step h0 h1 hl HW.out
      have hf := facN_pos j
      have hf7 := facN_le (show j ≤ 6 by omega)
      have hqt : rr.tdiv (facN j : Int) = q := by rw [Int.tdiv_eq_ediv_of_nonneg h0]; exact hqe
      have hq6 : (q : Int) ≤ 6 := by omega
      clear hqe
      obtain ⟨g, cap, rfl, hgl, hlc, hcm⟩ := own_some HL.out.1 (by intro e; subst e; simp at hl)
      rw [hl] at HL ⊢
      have hc := own_cell HL.out.1 hq
      obtain ⟨x, hx⟩ : ∃ x, x = left.getD q 0 := ⟨_, rfl⟩
      rw [← hx] at hc hst
      obtain ⟨r2, hr2e⟩ : ∃ r2, rr % (facN j : Int) = r2 := ⟨_, rfl⟩
      rw [hr2e] at hr2 hr3 hst
      have HS := hid hst
      have HE := hid hel
      have hkz : (0 : Int) < ((j + 1 : Nat) : Int) := by omega
      have hf0 : ((facN j : Int) == 0) = false := by simp; omega
      have hown := HO.out
      have hql : (q : Int) < left.length := by omega
      clear hx hst hel HW
      go_wp2_with (first | (go_at_call 84; refine pur (s_factE j _ _ (by omega) (by omega)) ?_) | (at_builtin; refine wpList_append_own _ rfl _ _ 24 rfl (w.heap.size) 2 i0 (.int .i64 0) 1 8 Try.underlying24 hi hz0 hz1 hz2 rfl (by decide) _ _ _ rfl (hown.alloc _) ⟨_, 0, none⟩ 1 1 [.int .i64 (x)] rfl rfl ?c1 ?c2 ?c3 ?c4 ?c5 ?_))
      try case c1 => exact cell_one_new _ _ _
      case c2 => first | rfl | (intro u hu; simp at hu; subst hu; rfl)
      case c3 => first | (unfold maxLen; omega) | (simp; unfold maxLen; omega)
      case c4 => first | omega | (simp; omega)
      case c5 => first | omega | (simp; omega)
      intro v' w1 hown' hgrow _
      have hL1 : ownR w.heap.size w1 (.slice (some ⟨g, 0, none⟩) (j + 1) cap) left := own_apart' (HL.out.1.alloc _) HL.out.2 hgrow
      have HB1 : Hid (Below w.heap.size w w1) := hid ((HB.out.alloc HB.out.size _).grown hgrow (by simp; omega) (fun k hk => own_row_ge hown k hk))
      have hs1 : w.heap.size ≤ w1.heap.size := by have := hgrow.size; simp at this; omega
      have HO1 : Hid (ownR w.heap.size w1 v' (dn ++ [x])) := hid (ownR.snoc hown')
      obtain ⟨hs1r, hok⟩ := cutH_rule (q := q) hL1 (by omega)
      obtain ⟨ad, c2, hs2r, hnews⟩ := cutL_rule (q := q + 1) hL1 (by omega)
      have HN := hid hnews
      have HK := hid hok.rd
      have e1 : ((q + 1 : Nat) : Int) = (q : Int) + 1 := by omega
      rw [e1, hl, show j + 1 - (q + 1) = j - q by omega] at hs2r
      have hm1 : left.length - (q + 1) = j - q := by omega
      have H1 := hid (vI_one (left.drop (q + 1)))
      have HD : Hid ((vI (left.drop (q + 1))).length = (j - q) * 1) := hid (by rw [vI_len, List.length_drop]; omega)
      have HT : Hid ((left.take q).length = q) := hid (by rw [List.length_take]; omega)
      have hj6 : j ≤ 6 := by omega
      have HEX : Hid (Ext w1.heap.size w1 w1) := hid (Ext.refl _)
      clear hown' hgrow hown hc hnews hok hq hql hL1 e1 hl
      go_wp2_with fail
      obtain ⟨lv, hlv⟩ : ∃ lv, lv = Value.slice (some ⟨g, 0, none⟩) (j + 1) cap := ⟨_, rfl⟩
      rw [← hlv] at hs1r hs2r ⊢
      clear hlv
      have hwq : IntKind.i64.wrap ((q : Int) + 1) = (q : Int) + 1 := by rw [IntKind.wrap_i64]; omega
      go_region_held3 (fun w' => Ext w1.heap.size w1 w') ((repeat (with_reducible first | assumption | exact Ext.refl _ | apply Ext.aft | apply Ext.alloc | apply Ext.drew | apply Ext.drewN))) (first | (go_at_call 109; refine viaI (g := id) (s_own _ _ _ (HK.out.below (Ext.bel (by assumption))) (by have := HT.out; omega)) ?_; intro t1 u1 z1 own1; (try simp at z1)) | (refine step_append_own (by rfl) _ _ 24 (by rfl) w1.heap.size 2 i0 (.int .i64 0) 1 8 Try.underlying24 hi hz0 hz1 hz2 rfl (by decide) t1 (left.take q).length (vI (left.take q)) (by rfl) (ownR.mono own1 (by first | exact Nat.le_refl _ | omega)) ad (j - q) c2 (vI (left.drop (q + 1))) (by rfl) HD.out (rd_keep HN.out (Ext.bel (by assumption))) H1.out (by have := HT.out; unfold maxLen; omega) (by have := HT.out; omega) (by omega) ?_; intro v3 w3 hw3 hg3; have hE3 := ext_grown (by assumption) hg3 (own_row_ge (ownR.mono own1 (by first | exact Nat.le_refl _ | omega)))))
      have HLn : Hid (ownR w1.heap.size w3 v3 (left.eraseIdx q)) := hid (by
        have e : left.eraseIdx q = left.take q ++ left.drop (q + 1) := List.eraseIdx_eq_take_drop_succ ..
        rw [e]
        unfold ownR
        have hl3 : (left.take q ++ left.drop (q + 1)).length = (left.take q).length + (j - q) := by
          have := HD.out
          rw [vI_len] at this
          rw [List.length_append]; omega
        rw [hl3]
        have h4 := hw3
        unfold vI at h4 ⊢
        rw [List.map_append]; exact h4)
      have HE3 := hid hE3
      clear hw3 hg3 own1
      go_wp2_with fail
      go_roundw
      case rel => exact ⟨j, r2, left.eraseIdx q, dn ++ [x], by omega, by go_num, by first | rfl | (simp [hr2e]), hr2, hr3, HE.out, Nat.le_trans hs1 HE3.out.2, by simp; omega, HS, hid ⟨HLn.out.mono hs1, apart_lt (own_row_ge HLn.out) HO1.out.rowLt⟩, hid (HO1.out.below HE3.out.1), hid (HB1.out.trans (HE3.out.1.mono hs1))⟩
      case measure => simp only [intOf]; omega
end Go.Proofs.Ytbkbcbanfnhjpaa

/- The permutations of a group: both texts. -/
namespace Go.Proofs.Ytbkbcbanfnhjpaa
open Go Go.RowKit

def memF (n : Nat) (rs : List Int) : List (List Int) := rs.map (withF n)
theorem memF_len (n : Nat) (rs : List Int) : (memF n rs).length = rs.length := by simp [memF]
theorem memF_snoc {n : Nat} {rs : List Int} {k : Nat} (h : k < rs.length) : memF n (rs.take (k + 1)) = memF n (rs.take k) ++ [withF n rs[k]] := by
  rw [take_snocI _ _ h]; unfold memF; rw [List.map_append]; rfl
theorem sB {B : Nat} {W w' : World} (h : Ext B W w') : (∀ b o, b < B → w'.cell? ⟨b, o, none⟩ = W.cell? ⟨b, o, none⟩) ∧ Hid (Ext B W w') := ⟨fun b o hb => h.1.cell (p := ⟨b, o, none⟩) hb, h⟩
theorem Ext.base {B : Nat} {W : World} (h : B ≤ W.heap.size) : Ext B W W := ⟨Below.refl _ _, h⟩
theorem Ext.grown {B : Nat} {W w w' : World} {o : Value} (h : Ext B W w) (hg : w.grownBy w' o.ownBlock) (ho : ∀ k, o.ownBlock = some k → B ≤ k) : Ext B W w' :=
  ⟨h.1.grown hg h.2 ho, Nat.le_trans h.2 hg.size⟩
theorem own_made2 (w : World) : ownE w.heap.size (w.alloc (.cells #[] 24)) (.slice (some ⟨w.heap.size, 0, none⟩) 0 0) [] [] :=
  ⟨rfl, World.ownsRow_made w #[] 0 (Nat.le_refl _) (by simp [maxLen]) (by simp), fun i h => by simp at h⟩
theorem one_new {w : World} {t : Value} {T : TypeId} : ∀ (j : Nat) (u : Value), [t][j]? = some u → (w.alloc (.cells #[t] T)).cell? ((⟨w.heap.size, 0, none⟩ : Addr).add j) = some u := by
  intro j u hj
  cases j with
  | zero => simp at hj; subst hj; simp [Addr.add]
  | succ j => simp at hj

set_option maxRecDepth 20000 in
set_option maxHeartbeats 4000000 in
theorem i_members (n : Nat) (r : Value) (rs : List Int) (w : World) (h : rdI w r rs) (hn : n ≤ 6) (hr : ∀ x ∈ rs, 0 ≤ x ∧ x < (facN n : Int)) (hl : rs.length ≤ 1048576) :
    Calls Try.prog 89 #[(.agg #[.int .i64 (n : Int), r])] w fun e w' => ∃ v, e = .returned v ∧ ownRR w.heap.size w' v (memF n rs) ∧ Below w.heap.size w w' := by
  obtain ⟨i1, hj, hy0, hy1, hy2⟩ := info_parts infoS
  obtain ⟨a, cap, hr0, hm, hc⟩ := id h
  have Hc := hid hc
  have Hr := hid hr
  subst hr0
  clear hc hm hr h
  go_enter Try.func89, Try.ntmps89
  go_wp2_with fail
  go_loopw [3, 9] (fun v i wr => ∃ (k : Nat) (es : List Value), k ≤ rs.length ∧ i = .int .i64 k ∧ Hid (ownE (w.heap.size + 1) wr v es (memF n (rs.take k))) ∧ Ext (w.heap.size + 1) (w.alloc (Obj.cells #[.int .i64 (n : Int), .slice a rs.length cap] 26)) wr) (fun _ i _ => rs.length - (intOf i).toNat)
  case atStart => exact ⟨0, [], by omega, rfl, hid (ownE.nil _ _), Ext.base (by simp)⟩
  case round =>
    obtain ⟨k, es, hk, rfl, HO, hE⟩ := hrel
    have c0 := hE.1.cell (p := ⟨w.heap.size, 0, none⟩) (by simp)
    have hs := hE.2
    simp [go_sem] at c0
    by_cases hlt : k < rs.length
    · obtain ⟨b, o, rfl, hcell⟩ := Hc.out (by intro e; subst e; simp at hlt)
      have h1 := hcell k hlt
      have hb := World.block_lt_of_cell? w _ h1
      have h2 := hE.1.cell (p := ⟨b, o + k, none⟩) (by simp at hb ⊢; omega)
      have h3 : (w.alloc (Obj.cells #[.int .i64 (n : Int), .slice (some ⟨b, o, none⟩) rs.length cap] 26)).cell? ⟨b, o + k, none⟩ = some (.int .i64 rs[k]) := by
        rw [alloc_cell, if_neg (by simp at hb; omega)]; exact h1
      rw [h3] at h2
      have hrg := Hr.out _ (List.getElem_mem hlt)
      have hsn := memF_snoc (n := n) hlt
      obtain ⟨x, hx⟩ : ∃ x, x = rs[k] := ⟨_, rfl⟩
      rw [← hx] at h2 hrg hsn
      have HS := hid hsn
      have HE := hid hE
      have hpl : (memF n (rs.take k)).length = k := by rw [memF_len, List.length_take]; omega
      have hltz : (k : Int) < (rs.length : Int) := by omega
      clear hx hsn hcell h1 h3 hE
      go_wp2_with fail
      refine viaI (g := id) (i_with n x _ hn hrg.1 hrg.2) ?_
      intro t1 u1 z1 own1
      try simp at z1
      have HOw := HO.out.below (below_aft wr u1)
      obtain ⟨a1, c1, hsh, _, _⟩ := own1.rd
      subst hsh
      have hpl2 := hpl
      go_wp2_with (at_builtin; refine wpList_append_own _ rfl _ _ 37 rfl (w.heap.size + 1) 24 i1 (.slice none 0 0) 1 24 Try.underlying37 hj hy0 hy1 hy2 rfl (by decide) _ _ _ rfl (HOw.below ((Below.refl _ _).alloc (Nat.le_refl _) _)).2.1 ⟨_, 0, none⟩ 1 1 [_] rfl rfl one_new ?c2 ?c3 ?c4 ?c5 ?_)
      case c2 => first | exact own_one own1 | (intro u hu; simp at hu; subst hu; exact own_one own1)
      case c3 => first | (unfold maxLen; omega) | (rw [hpl2]; unfold maxLen; omega)
      case c4 => first | omega | (rw [hpl2]; omega)
      case c5 => first | omega | (simp; omega)
      intro v' w1 hown' hgrow _
      have HN : Hid (ownE (w.heap.size + 1) w1 v' (es ++ [.slice a1 (withF n x).length c1]) (memF n (rs.take (k + 1)))) := hid (by
        rw [HS.out]
        exact ownE.snoc (HOw.below ((Below.refl _ _).alloc (Nat.le_refl _) _)) ((own1.mono (by omega)).alloc _) (by first | exact hown' | (rw [hpl2]; exact hown')) hgrow)
      have HE1 : Hid (Ext (w.heap.size + 1) (w.alloc (Obj.cells #[.int .i64 (n : Int), .slice (some ⟨b, o, none⟩) rs.length cap] 26)) w1) := hid (Ext.grown ((HE.out.aft u1).alloc _) hgrow (ownE.row HO.out))
      clear hown' hgrow own1 HOw
      go_wp2_with fail
      go_roundw
      case rel => exact ⟨k + 1, es ++ [.slice a1 (withF n x).length c1], by omega, by go_num, HN, HE1.out⟩
      case measure => simp only [intOf]; omega
    · obtain rfl : k = rs.length := by omega
      rw [List.take_length] at HO
      have hltz : ¬ (rs.length : Int) < (rs.length : Int) := by omega
      have HE := hid hE
      clear hE
      go_wp2_with fail
      go_ret
      exact ⟨_, rfl, ⟨es, HO.out.mono (by omega)⟩, ((Below.refl _ w).alloc (Nat.le_refl _) _).trans (HE.out.1.mono (by omega))⟩
end Go.Proofs.Ytbkbcbanfnhjpaa

/- The permutations of a group: the statement's text. -/
namespace Go.Proofs.Ytbkbcbanfnhjpaa
open Go Go.RowKit

theorem cell_of {w W : World} {b o B : Nat} {v : Value} (h : w.cell? ⟨b, o, none⟩ = some v) (hE : Ext B w W) (hb : b < B) : W.cell? ⟨b, o, none⟩ = some v := by
  rw [hE.1.cell (p := ⟨b, o, none⟩) hb]; exact h
set_option maxRecDepth 20000 in
set_option maxHeartbeats 8000000 in
theorem s_elements (n : Nat) (r : Value) (rs : List Int) (w : World) (h : rdI w r rs) (hn : n ≤ 6) (hr : ∀ x ∈ rs, 0 ≤ x ∧ x < (facN n : Int)) (hl : rs.length ≤ 1048576) :
    Calls Try.prog 83 #[(.agg #[.int .i64 (n : Int), r])] w fun e w' => ∃ v, e = .returned v ∧ ownRR w.heap.size w' v (memF n rs) ∧ Below w.heap.size w w' := by
  obtain ⟨i1, hj, hy0, hy1, hy2⟩ := info_parts infoS
  obtain ⟨a, cap, hr0, hm, hc⟩ := id h
  have Hc := hid hc
  have Hr := hid hr
  subst hr0
  clear hc hm hr h
  go_enter Try.func83, Try.ntmps83
  go_wp2_with fail
  go_loopw [3, 4] (fun v i wr => ∃ (k : Nat) (es : List Value), k ≤ rs.length ∧ i = .int .i64 k ∧ Hid (ownE (w.heap.size + 1) wr v es (memF n (rs.take k))) ∧ Ext (w.heap.size + 1) (w.alloc (Obj.cells #[.int .i64 (n : Int), .slice a rs.length cap] 26)) wr) (fun _ i _ => rs.length - (intOf i).toNat)
  case atStart => exact ⟨0, [], by omega, rfl, hid (by have := own_made2 (w.alloc (Obj.cells #[.int .i64 (n : Int), .slice a rs.length cap] 26)); simp only [World.alloc, Array.size_push] at this ⊢; exact this), (Ext.base (by simp)).alloc _⟩
  case round =>
    obtain ⟨k, es, hk, rfl, HO, hE⟩ := hrel
    have c0 := hE.1.cell (p := ⟨w.heap.size, 0, none⟩) (by simp)
    have c1 := hE.1.cell (p := ⟨w.heap.size, 1, none⟩) (by simp)
    simp [go_sem] at c0 c1
    have hs := hE.2
    by_cases hlt : k < rs.length
    · obtain ⟨b, o, rfl, hcell⟩ := Hc.out (by intro e; subst e; simp at hlt)
      have h1 := hcell k hlt
      have hb := World.block_lt_of_cell? w _ h1
      simp at hb
      have h2 : wr.cell? ⟨b, o + k, none⟩ = some (.int .i64 rs[k]) := by rw [hE.1.cell (p := ⟨b, o + k, none⟩) (by show b < w.heap.size + 1; omega), alloc_cell, if_neg (by omega)]; exact h1
      have hrg := Hr.out _ (List.getElem_mem hlt)
      have hsn := memF_snoc (n := n) hlt
      obtain ⟨x, hx⟩ : ∃ x, x = rs[k] := ⟨_, rfl⟩
      rw [← hx] at h2 hrg hsn
      have HS := hid hsn
      have HE := hid hE
      have hpl : (memF n (rs.take k)).length = k := by rw [memF_len, List.length_take]; omega
      have hltz : (k : Int) < (rs.length : Int) := by omega
      have hEB : Ext (w.heap.size + 1) wr wr := Ext.base hs
      have hnn : w.heap.size < w.heap.size + 1 := by omega
      have hbb : b < w.heap.size + 1 := by omega
      have HPL := hid hpl
      clear hx hsn hcell h1 hE hpl
      go_wp2_with fail
      go_region_held3 (fun w' => (∀ b o, b < w.heap.size + 1 → w'.cell? ⟨b, o, none⟩ = wr.cell? ⟨b, o, none⟩) ∧ Hid (Ext (w.heap.size + 1) wr w')) ((refine sB ?_; repeat (with_reducible first | assumption | apply Ext.aft | apply Ext.alloc | apply Ext.drew | apply Ext.drewN))) (first | (go_at_call 96; refine viaI (g := id) (s_with n x _ hn hrg.1 hrg.2) ?_; intro t1 u1 z1 own1; (try simp at z1); obtain ⟨a1, c1, hsh, _, _⟩ := own1.rd; subst hsh) | (refine step_append_own (by rfl) _ _ 37 (by rfl) (w.heap.size + 1) 24 i1 (.slice none 0 0) 1 24 Try.underlying37 hj hy0 hy1 hy2 rfl (by decide) _ (memF n (rs.take k)).length es (by rfl) (HO.out.below (by refine Ext.bel ?_; repeat (with_reducible first | exact Ext.refl _ | apply Ext.alloc | apply Ext.aft | apply Ext.drew | apply Ext.drewN))).2.1 ⟨_, 0, none⟩ 1 1 [_] (by rfl) (by rfl) one_new (by intro u hu; simp at hu; subst hu; exact own_one own1) (by rw [HPL.out]; unfold maxLen; omega) (by rw [HPL.out]; omega) (by simp; omega) ?_; intro v3 w3 hw3 hg3; have hE3 := Ext.grown (show Ext (w.heap.size + 1) wr _ by (repeat (with_reducible first | exact hEB | apply Ext.aft | apply Ext.alloc | apply Ext.drew))) hg3 (ownE.row HO.out)))
      have HN : Hid (ownE (w.heap.size + 1) w3 v3 (es ++ [.slice a1 (withF n x).length c1]) (memF n (rs.take (k + 1)))) := hid (by
        rw [HS.out]
        exact ownE.snoc (HO.out.below (by refine Ext.bel ?_; repeat (with_reducible first | exact Ext.refl _ | apply Ext.alloc | apply Ext.aft | apply Ext.drew | apply Ext.drewN))) ((own1.mono (by first | exact hs | (simp; omega) | omega)).alloc _) (by first | exact hw3 | (rw [HPL.out]; exact hw3)) hg3)
      have HE1 := hid (⟨HE.out.1.trans hE3.1, hE3.2⟩ : Ext (w.heap.size + 1) (w.alloc (Obj.cells #[.int .i64 (n : Int), .slice (some ⟨b, o, none⟩) rs.length cap] 26)) w3)
      clear hw3 hg3 own1 hE3
      go_wp2_with fail
      go_roundw
      case rel => exact ⟨k + 1, es ++ [.slice a1 (withF n x).length c1], by omega, by go_num, HN, HE1.out⟩
      case measure => simp only [intOf]; omega
    · obtain rfl : k = rs.length := by omega
      rw [List.take_length] at HO
      have hltz : ¬ (rs.length : Int) < (rs.length : Int) := by omega
      have HE := hid hE
      clear hE
      go_wp2_with fail
      go_ret
      exact ⟨_, rfl, ⟨es, HO.out.mono (by omega)⟩, ((Below.refl _ w).alloc (Nat.le_refl _) _).trans (HE.out.1.mono (by omega))⟩
end Go.Proofs.Ytbkbcbanfnhjpaa

/- The library's search, contains and equal at numbers: the shelf's contracts, laid at this program; a group's test for a permutation; lists that rise; flags: both texts. -/
namespace Go.Proofs.Ytbkbcbanfnhjpaa
open Go Go.RowKit
open Go.Shelf
def lay119_ren : Go.Shelf.Ren := ⟨fun | 49 => 122 | 59 => 134 | 60 => 135 | 68 => 149 | n => n, fun | 22 => 24 | 23 => 2 | 3 => 3 | 4 => 4 | 51 => 105 | 0 => 0 | n => n, fun | n => n⟩
theorem lay119 : Go.Proofs.SlLaysN.n49 Try.prog lay119_ren := {
  mixed := by kernel_rfl
  f49 := ⟨Try.f122.name, by decide, Try.func122.trans (congrArg some (by kernel_rfl))⟩
  f59 := ⟨Try.f134.name, by decide, Try.func134.trans (congrArg some (by kernel_rfl))⟩
  f60 := ⟨Try.f135.name, by decide, Try.func135.trans (congrArg some (by kernel_rfl))⟩
  f68 := ⟨Try.f149.name, by decide, Try.func149.trans (congrArg some (by kernel_rfl))⟩
  t0 := Try.underlying0
  a0 := Try.isAgg0
  z0 := Try.sizeOf0
  v0 := Try.zeroValue0
  t3 := Try.underlying3
  a3 := Try.isAgg3
  z3 := Try.sizeOf3
  v3 := Try.zeroValue3
  t4 := Try.underlying4
  a4 := Try.isAgg4
  z4 := Try.sizeOf4
  v4 := Try.zeroValue4
  t22 := Try.underlying24
  a22 := Try.isAgg24
  z22 := Try.sizeOf24
  v22 := Try.zeroValue24
  t23 := Try.underlying2
  a23 := Try.isAgg2
  z23 := Try.sizeOf2
  v23 := Try.zeroValue2
  t51 := Try.underlying105
  a51 := Try.isAgg105
  z51 := Try.sizeOf105
  v51 := Try.zeroValue105 }
def lay122_ren : Go.Shelf.Ren := ⟨fun | 31 => 125 | 29 => 137 | n => n, fun | 22 => 24 | 23 => 2 | 4 => 4 | 3 => 3 | 0 => 0 | n => n, fun | n => n⟩
theorem lay122 : Go.Proofs.SlLaysN.n31 Try.prog lay122_ren := {
  mixed := by kernel_rfl
  f29 := ⟨Try.f137.name, by decide, Try.func137.trans (congrArg some (by kernel_rfl))⟩
  f31 := ⟨Try.f125.name, by decide, Try.func125.trans (congrArg some (by kernel_rfl))⟩
  t0 := Try.underlying0
  a0 := Try.isAgg0
  z0 := Try.sizeOf0
  v0 := Try.zeroValue0
  t3 := Try.underlying3
  a3 := Try.isAgg3
  z3 := Try.sizeOf3
  v3 := Try.zeroValue3
  t4 := Try.underlying4
  a4 := Try.isAgg4
  z4 := Try.sizeOf4
  v4 := Try.zeroValue4
  t22 := Try.underlying24
  a22 := Try.isAgg24
  z22 := Try.sizeOf24
  v22 := Try.zeroValue24
  t23 := Try.underlying2
  a23 := Try.isAgg2
  z23 := Try.sizeOf2
  v23 := Try.zeroValue2 }
def lay134_ren : Go.Shelf.Ren := ⟨fun | 33 => 120 | n => n, fun | 22 => 24 | 23 => 2 | 4 => 4 | 3 => 3 | 0 => 0 | n => n, fun | n => n⟩
theorem lay134 : Go.Proofs.SlLaysN.n33 Try.prog lay134_ren := {
  mixed := by kernel_rfl
  f33 := ⟨Try.f120.name, by decide, Try.func120.trans (congrArg some (by kernel_rfl))⟩
  t0 := Try.underlying0
  a0 := Try.isAgg0
  z0 := Try.sizeOf0
  v0 := Try.zeroValue0
  t3 := Try.underlying3
  a3 := Try.isAgg3
  z3 := Try.sizeOf3
  v3 := Try.zeroValue3
  t4 := Try.underlying4
  a4 := Try.isAgg4
  z4 := Try.sizeOf4
  v4 := Try.zeroValue4
  t22 := Try.underlying24
  a22 := Try.isAgg24
  z22 := Try.sizeOf24
  v22 := Try.zeroValue24
  t23 := Try.underlying2
  a23 := Try.isAgg2
  z23 := Try.sizeOf2
  v23 := Try.zeroValue2 }

theorem rd_cells {w : World} {b o n cap : Nat} {xs : List Int} (h : rdI w (.slice (some ⟨b, o, none⟩) n cap) xs) : ∀ j, j < xs.length → w.cell? ⟨b, o + j, none⟩ = some (.int .i64 (xs.getD j 0)) := by
  intro j hj
  obtain ⟨a, cap', he, hm, hc⟩ := h
  cases he
  obtain ⟨b', o', e, hcell⟩ := hc (by intro e; subst e; simp at hj)
  cases e
  rw [hcell j hj]
  simp [List.getD, List.getElem?_eq_getElem hj]
theorem rd_shape {w : World} {v : Value} {xs : List Int} (h : rdI w v xs) : xs.length ≤ maxLen ∧ ((xs = [] ∧ ∃ a c, v = .slice a 0 c) ∨ (xs ≠ [] ∧ ∃ b o c, v = .slice (some ⟨b, o, none⟩) xs.length c)) := by
  obtain ⟨a, c, he, hm, hc⟩ := id h
  refine ⟨hm, ?_⟩
  by_cases hx : xs = []
  · subst hx; exact .inl ⟨rfl, a, c, he⟩
  · obtain ⟨b, o, rfl, _⟩ := hc hx
    exact .inr ⟨hx, b, o, c, he⟩
theorem lib_search {w : World} {v : Value} {xs : List Int} (h : rdI w v xs) (hne : xs ≠ []) (hm6 : xs.length ≤ 1048576) (hs : xs.Pairwise (· < ·)) (x : Int) :
    Calls Try.prog 122 #[v, .int .i64 x] w fun e w' => e = .returned (.tuple #[.int .i64 (xs.countP (· < x) : Nat), .bool (xs.contains x)]) ∧ Below w.heap.size w w' := by
  obtain ⟨hm, ⟨e, _⟩ | ⟨_, b, o, c, rfl⟩⟩ := rd_shape h
  · exact absurd e hne
  unfold maxLen at hm
  have hcall := AnyG.slices_BinarySearch_int lay119 b o xs.length c xs x w (Nat.le_refl _) (by omega) (rd_cells h) (by rw [List.take_length]; exact hs.imp fun h => by omega)
  change Calls Try.prog 122 _ _ _ at hcall
  rw [List.take_length] at hcall
  refine hcall.mono ?_
  rintro e w' ⟨rfl, q, rfl⟩
  exact ⟨rfl, below_drewN (Below.refl _ _) _⟩
theorem lib_searchB {w : World} {v : Value} {xs : List Int} (h : rdI w v xs) (hne : xs ≠ []) (hm6 : xs.length ≤ 1048576) (hs : xs.Pairwise (· < ·)) (x : Int) {c : Bool} (hc : c = xs.contains x) :
    Calls Try.prog 122 #[v, .int .i64 x] w fun e w' => e = .returned (.tuple #[.int .i64 (xs.countP (· < x) : Nat), .bool c]) ∧ Below w.heap.size w w' := by
  subst hc; exact lib_search h hne hm6 hs x
theorem lib_has {w : World} {v : Value} {xs : List Int} (h : rdI w v xs) (x : Int) :
    Calls Try.prog 125 #[v, .int .i64 x] w fun e w' => e = .returned (.bool (xs.contains x)) ∧ w = w' := by
  obtain ⟨hm, ⟨rfl, a, c, rfl⟩ | ⟨_, b, o, c, rfl⟩⟩ := rd_shape h
  · have hcall := AnyG.slices_Contains_int_empty lay122 a c x w
    change Calls Try.prog 125 _ _ _ at hcall
    refine hcall.mono ?_
    rintro e w' ⟨rfl, rfl⟩
    exact ⟨rfl, rfl⟩
  · unfold maxLen at hm
    have hcall := AnyG.slices_Contains_int lay122 b o xs.length c xs x w (Nat.le_refl _) (by omega) (rd_cells h)
    change Calls Try.prog 125 _ _ _ at hcall
    rw [List.take_length] at hcall
    refine hcall.mono ?_
    rintro e w' ⟨rfl, rfl⟩
    exact ⟨rfl, rfl⟩

set_option maxRecDepth 20000 in
set_option maxHeartbeats 4000000 in
theorem i_has (n : Int) (r v : Value) (rs xs : List Int) (w : World) (h : rdI w r rs) (hne : rs ≠ []) (hm6 : rs.length ≤ 1048576) (hs : rs.Pairwise (· < ·)) (h2 : ownR 0 w v xs) (hl : xs.length ≤ 6) :
    Calls Try.prog 63 #[(.agg #[.int .i64 n, r]), v] w fun e w' => e = .returned (.bool (rs.contains (rankF xs))) ∧ Below w.heap.size w w' := by
  have hr := h.alloc (Obj.cells #[.int .i64 n, r] 26)
  have ho := h2.alloc (Obj.cells #[.int .i64 n, r] 26)
  obtain ⟨B, hB⟩ : ∃ B, B = rs.contains (rankF xs) := ⟨_, rfl⟩
  rw [← hB]
  have HB := hid hB
  clear hB
  go_enter Try.func63, Try.ntmps63
  go_wp2_with fail
  refine wp_region_calm (by kernel_rfl) (by kernel_rfl) ?_
  go_big_quiet_step (fail)
  repeat (go_big_quiet_step (first | (go_at_call 91; exact calmp (i_rank 0 _ xs _ (ho.aft _) hl)) | (go_at_call 122; exact calm (lib_searchB (hr.aft _) hne hm6 hs _ HB.out))))
  refine wpQuiet_nil ?_; intro uq zq; try simp at zq
  go_wp2_with fail
  go_ret
  exact ⟨rfl, (by refine Ext.bel ?_; repeat (with_reducible first | exact Ext.refl _ | apply Ext.alloc | apply Ext.aft | apply Ext.drew | apply Ext.drewN | apply Ext.setCell | exact Nat.le_add_right _ _ | exact Nat.le_refl _ | (simp; done) | omega))⟩
set_option maxHeartbeats 2000000 in
theorem s_has (r : Value) (xs : List Int) (x : Int) (w : World) (h : rdI w r xs) :
    Calls Try.prog 102 #[r, .int .i64 x] w fun e w' => e = .returned (.bool (xs.contains x)) ∧ w = w' := by
  obtain ⟨a, cap, rfl, hm, hc⟩ := h
  have Hc := hid hc
  unfold maxLen at hm
  obtain ⟨P, hP⟩ : ∃ P, P = xs.contains x := ⟨_, rfl⟩
  rw [← hP]
  have HP := hid hP
  clear hc hP
  go_enter Try.func102, Try.ntmps102
  go_wp2_with fail
  go_loop [5] (fun i => ∃ k : Nat, k ≤ xs.length ∧ i = .int .i64 k ∧ Hid ((xs.take k).contains x = false)) (fun i => xs.length - (intOf i).toNat)
  case atStart => exact ⟨0, by omega, rfl, hid (by simp)⟩
  case round =>
    obtain ⟨k, hk, rfl, HA⟩ := hrel
    by_cases hlt : k < xs.length
    · obtain ⟨b, o, rfl, hcell⟩ := Hc.out (by intro e; subst e; simp at hlt)
      have h1 := hcell k hlt
      obtain ⟨y, hy⟩ : ∃ y, y = xs[k] := ⟨_, rfl⟩
      rw [← hy] at h1
      have HY := hid hy
      clear hy hcell
      by_cases hq : y = x
      · have e : Hid (P = true) := hid (by rw [HP.out]; simp only [List.contains_eq_mem, decide_eq_true_eq]; rw [← hq, HY.out]; exact List.getElem_mem hlt)
        have hqb : (y == x) = true := by simpa using hq
        have HQ := hid hq
        clear hq
        go_wp2_with fail
        go_ret
        exact ⟨ret_b (by rw [e.out]), rfl⟩
      · have hqb : (y == x) = false := by simpa using hq
        have HQ := hid hq
        clear hq
        go_wp2_with fail
        go_round
        case rel => exact ⟨k + 1, by omega, by go_num, hid (by
          have h2 := HA.out
          rw [take_snocI _ _ hlt]
          simp only [List.contains_eq_mem, decide_eq_false_iff_not, List.mem_append, List.mem_singleton] at h2 ⊢
          rintro (h3 | h3)
          · exact h2 h3
          · exact HQ.out (by rw [HY.out, h3]))⟩
        case measure => simp only [intOf]; omega
    · obtain rfl : k = xs.length := by omega
      have e : Hid (P = false) := hid (by have := HA.out; rw [List.take_length] at this; rw [HP.out]; exact this)
      go_wp2_with fail
      go_ret
      exact ⟨ret_b (by rw [e.out]), rfl⟩
end Go.Proofs.Ytbkbcbanfnhjpaa

/- Contracts: common divisors. -/
namespace Go.Proofs.Ytbkbcbanfnhjpaa
open Go Go.RowKit

theorem gcd_step (x y : Int) : Int.gcd y (x.tmod y) = Int.gcd x y := by
  rw [Int.tmod_def, Int.gcd_sub_mul_left_right, Int.gcd_comm]
theorem gcd_bd {x y B : Int} (hx : -B ≤ x ∧ x ≤ B) (hy : -B ≤ y ∧ y ≤ B) : (Int.gcd x y : Int) ≤ B := by
  by_cases h : x = 0
  · rw [h, Int.zero_gcd]; omega
  · have := Int.gcd_le_natAbs_left y h; omega

end Go.Proofs.Ytbkbcbanfnhjpaa

/- Contracts: ranges, primes of the reference, moduli. -/
namespace Go.Proofs.Ytbkbcbanfnhjpaa
open Go Go.RowKit

set_option maxHeartbeats 400000 in
theorem s_in (n a b : Int) (w : World) :
    Calls Try.prog 69 #[.int .i64 n, .int .i64 a, .int .i64 b] w fun e w' => e = .returned (.bool (inB n a b)) ∧ w = w' := by
  by_cases h1 : a ≤ n
  · by_cases h2 : n ≤ b
    · rw [inB_t h1 h2]; go_enter Try.func69, Try.ntmps69
      go_wp2
      go_ret
      exact ⟨rfl, rfl⟩
    · rw [inB_r (by omega)]; go_enter Try.func69, Try.ntmps69
      go_wp2
      go_ret
      exact ⟨rfl, rfl⟩
  · rw [inB_l (by omega)]; go_enter Try.func69, Try.ntmps69
    go_wp2
    go_ret
    exact ⟨rfl, rfl⟩

theorem in_lo {n a b : Int} (h : n < a) : inB n a b = false := inB_l h

end Go.Proofs.Ytbkbcbanfnhjpaa

/- Lists that rise, flags: the statement's text. -/
namespace Go.Proofs.Ytbkbcbanfnhjpaa
open Go Go.RowKit

/-- The number ahead of place k. -/
def prevI (xs : List Int) (k : Nat) : Int := if k = 0 then -1 else xs.getD (k - 1) 0
theorem prev_zero (xs : List Int) : prevI xs 0 = -1 := rfl
theorem prev_succ {xs : List Int} {k : Nat} (h : k < xs.length) : prevI xs (k + 1) = xs[k] := by
  unfold prevI; rw [if_neg (by omega), Nat.add_sub_cancel]; simp [List.getD, h]
theorem rises_drop {F : Int} {xs : List Int} {k : Nat} (h : k < xs.length) : risesB F (prevI xs k) (xs.drop k) = (decide (prevI xs k < xs[k]) && decide (xs[k] < F) && risesB F (prevI xs (k + 1)) (xs.drop (k + 1))) := by
  rw [List.drop_eq_getElem_cons h, prev_succ h]; rfl
theorem rises_f {F p x : Int} {b : Bool} (hp : -1 ≤ p) (h : ¬ (0 ≤ x ∧ x ≤ F - 1) ∨ x ≤ p) : (decide (p < x) && decide (x < F) && b) = false := by
  rcases h with h | h
  · have : ¬ (p < x ∧ x < F) := by omega
    by_cases h1 : p < x
    · have h2 : ¬ x < F := fun h2 => this ⟨h1, h2⟩
      simp [h2]
    · simp [h1]
  · have h1 : ¬ p < x := by omega
    simp [h1]
theorem rises_t {F p x : Int} {b : Bool} (h1 : p < x) (h2 : x ≤ F - 1) : (decide (p < x) && decide (x < F) && b) = b := by
  have : x < F := by omega
  simp [h1, this]
set_option maxRecDepth 20000 in
set_option maxHeartbeats 4000000 in
theorem s_rises (r : Value) (xs : List Int) (F : Int) (w : World) (h : rdI w r xs) (hF : 0 ≤ F ∧ F ≤ 720) :
    Calls Try.prog 115 #[r, .int .i64 F] w fun e w' => e = .returned (.bool (risesB F (-1) xs)) ∧ Below w.heap.size w w' := by
  obtain ⟨a, cap, rfl, hm, hc⟩ := h
  have Hc := hid hc
  unfold maxLen at hm
  obtain ⟨P, hP⟩ : ∃ P, P = risesB F (-1) xs := ⟨_, rfl⟩
  rw [← hP]
  have HP := hid hP
  clear hc hP
  go_enter Try.func115, Try.ntmps115
  go_wp2_with fail
  go_loopw [5] (fun i wr => ∃ (k : Nat) (uu : World), wr = aft w uu ∧ k ≤ xs.length ∧ i = .int .i64 k ∧ -1 ≤ prevI xs k ∧ Hid (risesB F (prevI xs k) (xs.drop k) = P)) (fun i _ => xs.length - (intOf i).toNat)
  case atStart => exact ⟨0, w, (aft_of (Below.refl _ _)).symm, by omega, rfl, by simp [prevI], hid (by rw [HP.out, prev_zero]; rfl)⟩
  case round =>
    obtain ⟨k, uu, rfl, hk, rfl, hp1, HA⟩ := hrel
    have zs := size_aft w uu
    by_cases hlt : k < xs.length
    · obtain ⟨b, o, rfl, hcell⟩ := Hc.out (by intro e; subst e; simp at hlt)
      have h1 := hcell k hlt
      have hb := World.block_lt_of_cell? w _ h1
      have hd := rises_drop (F := F) hlt
      rw [HA.out] at hd
      have HPS := hid (prev_succ hlt)
      have hpv : 0 < k → w.cell? ⟨b, o + (k - 1), none⟩ = some (.int .i64 (prevI xs k)) := fun h0 => by
        rw [hcell (k - 1) (by omega)]
        unfold prevI; rw [if_neg (by omega)]
        simp [List.getD, show k - 1 < xs.length by omega]
      obtain ⟨x, hx⟩ : ∃ x, x = xs[k] := ⟨_, rfl⟩
      rw [← hx] at h1 hd HPS
      obtain ⟨p, hpe⟩ : ∃ p, p = prevI xs k := ⟨_, rfl⟩
      rw [← hpe] at hp1 hd hpv
      have HD := hid hd
      have HPE := hid hpe
      have hltz : (k : Int) < (xs.length : Int) := by omega
      clear hx hcell hd hpe HA
      cases hin : inB x 0 (F - 1)
      · have hnot : ¬ (0 ≤ x ∧ x ≤ F - 1) := fun h => by rw [inB_t h.1 h.2] at hin; cases hin
        have e : Hid (P = false) := hid (HD.out.trans (rises_f hp1 (.inl hnot)))
        have HV := hid hpv
        clear hpv hnot
        go_wp2_with fail
        refine wp_region_calm (by kernel_rfl) (by kernel_rfl) ?_
        repeat (go_big_quiet_step (first | (go_at_call 69; exact calmpb (s_in _ _ _ _) hin)))
        refine wpQuiet_nil ?_; intro uq zq; try simp at zq
        go_wp2_with fail
        go_ret
        exact ⟨ret_b (by rw [e.out]), (by refine Ext.bel ?_; repeat (with_reducible first | exact Ext.refl _ | apply Ext.alloc | apply Ext.aft | apply Ext.drew | apply Ext.drewN | apply Ext.setCell | exact Nat.le_add_right _ _ | exact Nat.le_refl _ | (simp; done) | omega))⟩
      · have hrg := inB_iff.1 hin
        rcases Nat.eq_zero_or_pos k with h0 | hpos
        · have HR := hid (HD.out.trans (rises_t (show p < x by have := HPE.out; rw [h0] at this; simp [prevI] at this; omega) hrg.2))
          have H0 := hid h0
          have hkz : decide ((0 : Int) < (k : Int)) = false := by simp; omega
          have hkn : decide (0 < k) = false := by simp; omega
          clear hpv h0
          go_wp2_with fail
          refine wp_region_calm (by kernel_rfl) (by kernel_rfl) ?_
          repeat (go_big_quiet_step (first | (go_at_call 69; exact calmpb (s_in _ _ _ _) hin)))
          refine wpQuiet_nil ?_; intro uq zq; try simp at zq
          go_wp2_with fail
          go_roundw
          case rel => exact ⟨k + 1, _, (aft_of ((below_aft w uu).trans ((below_aft _ _).mono (size_aft w uu)))).symm, by omega, by go_num, by rw [HPS.out]; omega, hid HR.out.symm⟩
          case measure => simp only [intOf]; omega
        · obtain ⟨j, rfl⟩ : ∃ j, k = j + 1 := ⟨k - 1, by omega⟩
          have hv := hpv (by omega)
          rw [Nat.add_sub_cancel] at hv
          have hbv := World.block_lt_of_cell? w _ hv
          clear hpv
          by_cases hle : x ≤ p
          · have e : Hid (P = false) := hid (HD.out.trans (rises_f hp1 (.inr hle)))
            go_wp2_with fail
            refine wp_region_calm (by kernel_rfl) (by kernel_rfl) ?_
            repeat (go_big_quiet_step (first | (go_at_call 69; exact calmpb (s_in _ _ _ _) hin)))
            refine wpQuiet_nil ?_; intro uq zq; try simp at zq
            go_wp2_with fail
            go_ret
            exact ⟨ret_b (by rw [e.out]), (by refine Ext.bel ?_; repeat (with_reducible first | exact Ext.refl _ | apply Ext.alloc | apply Ext.aft | apply Ext.drew | apply Ext.drewN | apply Ext.setCell | exact Nat.le_add_right _ _ | exact Nat.le_refl _ | (simp; done) | omega))⟩
          · have HR := hid (HD.out.trans (rises_t (show p < x by omega) hrg.2))
            go_wp2_with fail
            refine wp_region_calm (by kernel_rfl) (by kernel_rfl) ?_
            repeat (go_big_quiet_step (first | (go_at_call 69; exact calmpb (s_in _ _ _ _) hin)))
            refine wpQuiet_nil ?_; intro uq zq; try simp at zq
            go_wp2_with fail
            go_roundw
            case rel => exact ⟨j + 2, _, (aft_of ((below_aft w uu).trans ((below_aft _ _).mono (size_aft w uu)))).symm, by omega, by go_num, by rw [HPS.out]; omega, hid HR.out.symm⟩
            case measure => simp only [intOf]; omega
    · obtain rfl : k = xs.length := by omega
      have e : Hid (P = true) := hid (by rw [← HA.out, List.drop_length]; rfl)
      go_wp2_with fail
      go_ret
      exact ⟨ret_b (by rw [e.out]), (by refine Ext.bel ?_; repeat (with_reducible first | exact Ext.refl _ | apply Ext.alloc | apply Ext.aft | apply Ext.drew | apply Ext.drewN | apply Ext.setCell | exact Nat.le_add_right _ _ | exact Nat.le_refl _ | (simp; done) | omega))⟩
end Go.Proofs.Ytbkbcbanfnhjpaa

/- Flags: slices of truth values. -/
namespace Go.Proofs.Ytbkbcbanfnhjpaa
open Go Go.RowKit

theorem infoB : (Try.prog.info? 4).map (fun i => (i.zero, i.size, i.bytes)) = some (some (.bool false), 1, 1) := by kernel_rfl
def vB (fs : List Bool) : List Value := fs.map Value.bool
theorem vB_len (fs : List Bool) : (vB fs).length = fs.length := by simp [vB]
/-- v owns a row of just these truth values. -/
def ownF (B : Nat) (w : World) (v : Value) (fs : List Bool) : Prop := w.ownsRow B 4 1 v fs.length (vB fs)
theorem ownF.kept {B : Nat} {w w' : World} {v : Value} {fs : List Bool} (h : ownF B w v fs) (hb : ∀ k, k < w.heap.size → v.ownBlock = some k → w'.heap[k]? = w.heap[k]?) : ownF B w' v fs := owns_kept h hb
theorem ownF.below {B : Nat} {w w' : World} {v : Value} {fs : List Bool} (h : ownF B w v fs) (hb : Below w.heap.size w w') : ownF B w' v fs := h.kept fun k hk _ => hb.block k hk
theorem ownF.mono {B B' : Nat} {w : World} {v : Value} {fs : List Bool} (h : ownF B w v fs) (hB : B' ≤ B) : ownF B' w v fs := by
  refine ⟨h.1, ?_⟩
  rcases h.2 with hn | ⟨g, cap, cur, rfl, hg, r⟩
  · exact .inl hn
  · exact .inr ⟨g, cap, cur, rfl, Nat.le_trans hB hg, r⟩
theorem ownF.shape {B : Nat} {w : World} {v : Value} {fs : List Bool} (h : ownF B w v fs) (hne : 0 < fs.length) : ∃ g cap, v = .slice (some ⟨g, 0, none⟩) fs.length cap ∧ B ≤ g ∧ g < w.heap.size := by
  rcases h.2 with ⟨e, h1⟩ | ⟨g, cap, cur, e, hb, hh, h1, h2, _⟩
  · omega
  · exact ⟨g, cap, e, hb, (Array.getElem?_eq_some_iff.1 hh).1⟩
theorem ownF.cell {B g cap n : Nat} {w : World} {fs : List Bool} (h : ownF B w (.slice (some ⟨g, 0, none⟩) n cap) fs) {q : Nat} (hq : q < fs.length) : w.cell? ⟨g, q, none⟩ = some (.bool (fs.getD q false)) := by
  have hn : n = fs.length := by
    rcases h.2 with ⟨e, h1⟩ | ⟨g', c, cur, e, _⟩
    · cases e
    · cases e; rfl
  subst hn
  rw [World.ownsRow.cellAt h q (by omega)]
  simp [vB, hq, List.getD]
theorem flagsOf_at {F : Nat} {xs : List Int} {q : Nat} (h : q < F) : (flagsOf F xs).getD q false = xs.contains (q : Int) := by
  rw [List.getD_eq_getElem?_getD, flagsOf_get h]; rfl
theorem vB_no (n : Nat) : (madeCells #[Value.bool false] n).toList = vB (List.replicate n false) := by
  rw [toList_madeCells_one]; simp [vB]
theorem flags_step {F : Nat} {xs : List Int} {q : Nat} (h : q < F) : (vB (flagsOf F xs)).set q (.bool true) = vB (flagsOf F (xs ++ [(q : Int)])) := by
  rw [← flagsOf_set h]; simp [vB, List.map_set]

set_option maxRecDepth 20000 in
set_option maxHeartbeats 4000000 in
theorem s_flags (n : Nat) (r : Value) (rs : List Int) (w : World) (h : rdI w r rs) (hn : n ≤ 6) (hr : ∀ x ∈ rs, 0 ≤ x ∧ x < (facN n : Int)) :
    Calls Try.prog 116 #[.int .i64 n, r] w fun e w' => ∃ v, e = .returned v ∧ ownF w.heap.size w' v (flagsOf (facN n) rs) ∧ Below w.heap.size w w' := by
  obtain ⟨i0, hi, hz0, hz1, hz2⟩ := info_parts infoB
  obtain ⟨a, cap, rfl, hm, hc⟩ := h
  unfold maxLen at hm
  have Hc := hid hc
  have Hr := hid hr
  have hf := facN_pos n
  have hf7 := facN_le hn
  obtain ⟨F, hF⟩ : ∃ F, F = facN n := ⟨_, rfl⟩
  have HF := hid hF
  rw [← hF] at hf hf7 hr ⊢
  clear hc hr hF
  go_enter Try.func116, Try.ntmps116
  go_wp2_with (first | (go_at_call 84; refine pur (s_fact n _ hn) ?_; rw [← HF.out]) | (at_make; refine wpList_make_full _ rfl _ _ 80 rfl w.heap.size 4 i0 (.bool false) 1 Try.underlying80 hi hz0 hz1 _ _ _ _ F rfl rfl rfl rfl (by rw [hz2]; omega) (by unfold maxLen; omega) (Nat.le_refl _) ?_))
  intro w1 hown hgr
  have hown : w1.ownsRow w.heap.size 4 1 (.slice (some ⟨w.heap.size, 0, none⟩) F F) F (vB (flagsOf F [])) := by rw [flagsOf_nil, ← vB_no]; exact hown
  have HB : Hid (Below w.heap.size w w1) := hid (Below.grown (Below.refl _ _) hgr (Nat.le_refl _) (fun k hk => by cases hk))
  have HO := hid hown
  clear hown hgr
  go_wp2_with fail
  go_loopw [6] (fun i wr => ∃ k : Nat, k ≤ rs.length ∧ i = .int .i64 k ∧ Hid (wr.ownsRow w.heap.size 4 1 (.slice (some ⟨w.heap.size, 0, none⟩) F F) F (vB (flagsOf F (rs.take k)))) ∧ Hid (Below w.heap.size w wr)) (fun i _ => rs.length - (intOf i).toNat)
  case atStart => exact ⟨0, by omega, rfl, HO, HB⟩
  case round =>
    obtain ⟨k, hk, rfl, HO, HB⟩ := hrel
    by_cases hlt : k < rs.length
    · obtain ⟨b, o, rfl, hcell⟩ := Hc.out (by intro e; subst e; simp at hlt)
      have h1 := hcell k hlt
      have h2 := HB.out.cell (p := ⟨b, o + k, none⟩) (World.block_lt_of_cell? w _ h1)
      rw [h1] at h2
      have hrg := Hr.out _ (List.getElem_mem hlt)
      rw [← HF.out] at hrg
      have htk := take_snocI rs k hlt
      obtain ⟨q, hq⟩ : ∃ q : Nat, (q : Int) = rs[k] := ⟨rs[k].toNat, by omega⟩
      rw [← hq] at h2 hrg htk
      have hqF : q < F := by omega
      have hcl := HO.out.cellAt q (by omega)
      have hlen : (vB (flagsOf F (rs.take k))).length = F := by rw [vB_len, flagsOf_len]
      obtain ⟨y, hy⟩ : ∃ y, (vB (flagsOf F (rs.take k)))[q]? = some y := ⟨_, List.getElem?_eq_getElem (by omega)⟩
      rw [hy] at hcl
      have hfr := HO.out.frozenAt q
      have hst := HO.out.stored q (.bool true)
      rw [flags_step hqF, ← htk] at hst
      have HS := hid hst
      have hkz : (k : Int) < (rs.length : Int) := by omega
      clear hst hy hlen hq hcell h1 htk
      go_wp2_with fail
      go_roundw
      case rel => exact ⟨k + 1, by omega, by go_num, hid HS.out.1, hid (Below.grown HB.out HS.out.2 HB.out.size (fun k hk => by injection hk with hk; omega))⟩
      case measure => simp only [intOf]; omega
    · obtain rfl : k = rs.length := by omega
      rw [List.take_length] at HO
      have hkz : ¬ (rs.length : Int) < (rs.length : Int) := by omega
      go_wp2_with fail
      go_ret
      exact ⟨_, rfl, by unfold ownF; rw [flagsOf_len]; exact HO.out, HB.out⟩
/-- A call that hands back something new. -/
theorem viaX {P : Program} {f : FuncId} {args : Array Value} {w : World} {Φ : World → Value → Prop} {g : Value → Value} {R : Ending → World → Prop}
    (h : Calls P f args w fun e w' => ∃ v, e = .returned (g v) ∧ Φ w' v ∧ Below w.heap.size w w')
    (hR : ∀ v u, w.heap.size ≤ (aft w u).heap.size → Φ (aft w u) v → R (.returned (g v)) (aft w u)) : Calls P f args w R :=
  h.mono fun e w' ⟨v, he, ho, hb⟩ => by subst he; obtain ⟨u, rfl⟩ := aft_ex hb; exact hR v u (size_aft w u) ho
end Go.Proofs.Ytbkbcbanfnhjpaa

/- IsGroup: the statement's text. -/
namespace Go.Proofs.Ytbkbcbanfnhjpaa
open Go Go.RowKit

theorem group_out {n : Int} {rs : List Int} (h : inB n 1 6 = false) : groupB n rs = false := by
  have : ¬ (1 ≤ n ∧ n ≤ 6) := fun h2 => by rw [inB_t h2.1 h2.2] at h; cases h
  simp [groupB, this]
theorem group_rises {n : Nat} {rs : List Int} (h : risesB (facN n : Int) (-1) rs = false) : groupB n rs = false := by
  simp [groupB, h]
theorem group_nil {n : Int} : groupB n [] = false := by simp [groupB]
theorem group_head {n : Int} {x : Int} {r : List Int} (h : x ≠ 0) : groupB n (x :: r) = false := by simp [groupB, h]
theorem group_closed {n : Nat} {x : Int} {r : List Int} (h1 : 1 ≤ n ∧ n ≤ 6) (h2 : risesB (facN n : Int) (-1) (x :: r) = true) (h3 : x = 0) : groupB n (x :: r) = closedB n (x :: r) := by
  subst h3
  have : (1 : Int) ≤ n ∧ (n : Int) ≤ 6 := by omega
  simp [groupB, h2, this]
def inG (n : Nat) (rs : List Int) (x y : Int) : Bool := rs.contains (rankF (prodF (withF n x) (withF n y)))
theorem all_take {α : Type} {xs : List α} {p : α → Bool} {k : Nat} (h : k < xs.length) (h1 : (xs.take k).all p = true) (h2 : p xs[k] = true) : (xs.take (k + 1)).all p = true := by
  rw [List.take_succ_eq_append_getElem h, List.all_append, h1]; simp [h2]
theorem all_no {α : Type} {xs : List α} {p : α → Bool} {k : Nat} (h : k < xs.length) (h2 : p xs[k] = false) : xs.all p = false := by
  rw [Bool.eq_false_iff]; intro h3
  rw [List.all_eq_true] at h3
  rw [h3 _ (List.getElem_mem h)] at h2; cases h2
theorem s_rankE (r : Value) (xs : List Int) (w : World) (q : Int) (h : rdI w r xs) (hl : xs.length ≤ 6) (hq : rankF xs = q) :
    Calls Try.prog 85 #[r] w fun e w' => e = .returned (.int .i64 q) ∧ Below w.heap.size w w' := by subst hq; exact s_rank r xs w h hl
theorem s_prodE (r1 r2 : Value) (xs ys zs : List Int) (w : World) (h1 : rdI w r1 xs) (h2 : rdI w r2 ys) (hr : ∀ y ∈ ys, 0 ≤ y ∧ y < xs.length) (hl : ys.length ≤ 6) (hz : prodF xs ys = zs) :
    Calls Try.prog 86 #[r1, r2] w fun e w' => ∃ v, e = .returned v ∧ ownR w.heap.size w' v zs ∧ Below w.heap.size w w' := by subst hz; exact s_prod r1 r2 xs ys w h1 h2 hr hl

theorem with_len {m : Nat} {x : Int} (h : m ≤ 6) (hx : 0 ≤ x ∧ x < (facN m : Int)) : (withF m x).length = m := (with_ok h hx.1 hx.2).len
set_option maxRecDepth 20000 in
set_option maxHeartbeats 8000000 in
theorem s_IsGroup (n : Int) (r : Value) (rs : List Int) (w : World) (h : rdI w r rs) (hl : rs.length ≤ 1048576) :
    Calls Try.prog 57 #[(.agg #[.int .i64 n, r])] w fun e w' => e = .returned (.bool (groupB n rs)) ∧ Below w.heap.size w w' := by
  have hR := h.alloc (Obj.cells #[.int .i64 n, r] 26)
  cases hin : inB n 1 6
  · rw [group_out hin]
    go_enter Try.func57, Try.ntmps57
    go_wp2_with fail
    refine wp_region_calm (by kernel_rfl) (by kernel_rfl) ?_
    repeat (go_big_quiet_step (first | (go_at_call 69; exact calmpb (s_in _ _ _ _) hin)))
    refine wpQuiet_nil ?_; intro uq zq; try simp at zq
    go_wp2_with fail
    go_ret
    exact ⟨rfl, (by refine Ext.bel ?_; repeat (with_reducible first | exact Ext.refl _ | apply Ext.alloc | apply Ext.aft | apply Ext.drew | apply Ext.drewN | apply Ext.setCell | exact Nat.le_add_right _ _ | exact Nat.le_refl _ | (simp; done) | omega))⟩
  have hn16 := inB_iff.1 hin
  obtain ⟨m, rfl⟩ : ∃ m : Nat, n = m := ⟨n.toNat, by omega⟩
  have hm6 : m ≤ 6 := by omega
  have hf := facN_pos m
  have hf7 := facN_le hm6
  cases hri : risesB (facN m : Int) (-1) rs
  · rw [group_rises hri]
    go_enter Try.func57, Try.ntmps57
    go_wp2_with fail
    refine wp_region_calm (by kernel_rfl) (by kernel_rfl) ?_
    repeat (go_big_quiet_step (first | (go_at_call 69; exact calmpb (s_in _ _ _ _) hin) | (go_at_call 84; exact calmp (s_fact m _ hm6)) | (go_at_call 115; exact calmb (s_rises _ _ _ _ (hR.aft _) (by omega)) hri)))
    refine wpQuiet_nil ?_; intro uq zq; try simp at zq
    go_wp2_with fail
    go_ret
    exact ⟨rfl, (by refine Ext.bel ?_; repeat (with_reducible first | exact Ext.refl _ | apply Ext.alloc | apply Ext.aft | apply Ext.drew | apply Ext.drewN | apply Ext.setCell | exact Nat.le_add_right _ _ | exact Nat.le_refl _ | (simp; done) | omega))⟩
  obtain ⟨a, cap, rfl, hmx, hc⟩ := id h
  rcases rs with _ | ⟨x0, rt⟩
  · rw [group_nil]
    simp only [List.length_nil] at *
    go_enter Try.func57, Try.ntmps57
    go_wp2_with fail
    refine wp_region_calm (by kernel_rfl) (by kernel_rfl) ?_
    repeat (go_big_quiet_step (first | (go_at_call 69; exact calmpb (s_in _ _ _ _) hin) | (go_at_call 84; exact calmp (s_fact m _ hm6)) | (go_at_call 115; exact calmb (s_rises _ [] _ _ (hR.aft _) (by omega)) hri)))
    refine wpQuiet_nil ?_; intro uq zq; try simp at zq
    go_wp2_with fail
    go_ret
    exact ⟨rfl, (by refine Ext.bel ?_; repeat (with_reducible first | exact Ext.refl _ | apply Ext.alloc | apply Ext.aft | apply Ext.drew | apply Ext.drewN | apply Ext.setCell | exact Nat.le_add_right _ _ | exact Nat.le_refl _ | (simp; done) | omega))⟩
  obtain ⟨b, o, rfl, hcell⟩ := hc (by simp)
  have hx0 := hcell 0 (by simp)
  have hxb := World.block_lt_of_cell? w _ hx0
  simp only [List.getElem_cons_zero, Nat.add_zero] at hx0 hxb
  have hgc := fun h3 : x0 = 0 => group_closed (n := m) (by omega) hri h3
  have hgh := fun h3 : x0 ≠ 0 => group_head (n := (m : Int)) (r := rt) h3
  obtain ⟨rs, hrs⟩ : ∃ rs, rs = x0 :: rt := ⟨_, rfl⟩
  have hpos : 0 < rs.length := by rw [hrs]; simp
  rw [← hrs] at h hl hR hri hmx hcell hgc hgh ⊢
  have hle : ((rs.length : Int) == 0) = false := by rw [beq_eq_false_iff_ne]; omega
  have hposz : (0 : Int) < (rs.length : Int) := by omega
  clear hrs hc
  by_cases hz : x0 = 0
  case neg =>
    rw [hgh hz]
    have hzb : (x0 == 0) = false := by simpa using hz
    have HZ := hid hz
    clear hgc hgh hz hcell
    go_enter Try.func57, Try.ntmps57
    go_wp2_with fail
    refine wp_region_calm (by kernel_rfl) (by kernel_rfl) ?_
    repeat (go_big_quiet_step (first | (go_at_call 69; exact calmpb (s_in _ _ _ _) hin) | (go_at_call 84; exact calmp (s_fact m _ hm6)) | (go_at_call 115; exact calmb (s_rises _ _ _ _ (hR.aft _) (by omega)) hri)))
    refine wpQuiet_nil ?_; intro uq zq; try simp at zq
    go_wp2_with fail
    go_ret
    exact ⟨rfl, (by refine Ext.bel ?_; repeat (with_reducible first | exact Ext.refl _ | apply Ext.alloc | apply Ext.aft | apply Ext.drew | apply Ext.drewN | apply Ext.setCell | exact Nat.le_add_right _ _ | exact Nat.le_refl _ | (simp; done) | omega))⟩
  rw [hgc hz]
  obtain ⟨C, hC⟩ : ∃ C, C = closedB m rs := ⟨_, rfl⟩
  rw [← hC]
  have HC := hid hC
  clear hC
  have hzb : (x0 == 0) = true := by simpa using hz
  have HZ := hid hz
  have Hr : Hid (∀ x ∈ rs, 0 ≤ x ∧ x < (facN m : Int)) := hid (fun x hx => by have := rises_mem rs _ hri x hx; omega)
  clear hgc hgh hz hcell
  go_enter Try.func57, Try.ntmps57
  go_wp2_with fail
  refine wp_region_calm (by kernel_rfl) (by kernel_rfl) ?_
  repeat (go_big_quiet_step (first | (go_at_call 69; exact calmpb (s_in _ _ _ _) hin) | (go_at_call 84; exact calmp (s_fact m _ hm6)) | (go_at_call 115; exact calmb (s_rises _ _ _ _ (hR.aft _) (by omega)) hri)))
  refine wpQuiet_nil ?_; intro uq zq; try simp at zq
  go_wp2_with fail
  refine viaX (g := id) (s_flags m _ rs _ (hR.aft _) hm6 Hr.out) ?_
  intro v1 u1 zz1 own1
  try simp at zz1
  go_wp2_with fail
  refine viaX (g := id) (s_elements m _ rs _ ((hR.aft _).aft _) hm6 Hr.out hl) ?_
  intro v2 u2 zz2 own2
  try simp at zz2
  go_wp2_with fail
  obtain ⟨W, hW⟩ : ∃ W, W = aft (aft (aft (w.alloc (Obj.cells #[.int .i64 (m : Int), .slice (some ⟨b, o, none⟩) rs.length cap] 26)) uq) u1) u2 := ⟨_, rfl⟩
  have HE : Hid (Ext w.heap.size w W) := hid (by rw [hW]; exact (by repeat (with_reducible first | exact Ext.refl _ | apply Ext.alloc | apply Ext.aft | apply Ext.drew | apply Ext.drewN | apply Ext.setCell | exact Nat.le_add_right _ _ | exact Nat.le_refl _ | (simp; done) | omega)))
  have ownf := own1.below (below_aft _ u2)
  have own2' := own2.rd
  rw [← hW] at ownf own2' ⊢
  obtain ⟨g, cf, hg, _, hgl⟩ := ownf.shape (by rw [flagsOf_len]; exact hf)
  rw [flagsOf_len] at hg
  subst hg
  obtain ⟨am, cm, hv2, hmm, hcm⟩ := own2'
  rw [memF_len] at hv2 hmm
  subst hv2
  have Hcm := hid hcm
  have HF := hid ownf
  have hlm : rs.length ≤ 1048576 := hl
  clear hW own1 own2 zz1 zz2 hcm ownf hR h hx0 hxb hmm
  go_loopw [5] (fun s wr => ∃ i : Nat, i ≤ rs.length ∧ s = .int .i64 i ∧ Ext W.heap.size W wr ∧ Hid ((rs.take i).all (fun x => rs.all fun y => inG m rs x y) = true)) (fun s _ => rs.length - (intOf s).toNat)
  case atStart => exact ⟨0, by omega, rfl, Ext.refl _, hid (by simp)⟩
  case round =>
    obtain ⟨i, hi, rfl, hE1, HA⟩ := hrel
    have HE1 := hid hE1
    obtain ⟨wo, rfl⟩ : ∃ wo : World, wo = wr := ⟨_, rfl⟩
    clear hE1
    by_cases hlt : i < rs.length
    · have hltz : (i : Int) < (rs.length : Int) := by omega
      go_wp2_with fail
      go_loopw [6] (fun s wr => ∃ k : Nat, k ≤ rs.length ∧ s = .int .i64 k ∧ Ext W.heap.size W wr ∧ Hid ((rs.take k).all (fun y => inG m rs rs[i] y) = true)) (fun s _ => rs.length - (intOf s).toNat)
      case atStart => exact ⟨0, by omega, rfl, HE1.out, hid (by simp)⟩
      case round =>
        obtain ⟨k, hk, rfl, hE2, HA2⟩ := hrel
        by_cases hlt2 : k < rs.length
        · have hltz2 : (k : Int) < (rs.length : Int) := by omega
          have hne : memF m rs ≠ [] := by intro e; have := memF_len m rs; rw [e] at this; simp at this; omega
          obtain ⟨bm, om, rfl, hcel⟩ := Hcm.out hne
          obtain ⟨e1, hc1, ho1⟩ := hcel i (by rw [memF_len]; exact hlt)
          obtain ⟨e2, hc2, ho2⟩ := hcel k (by rw [memF_len]; exact hlt2)
          have hw1 := with_ok hm6 (Hr.out _ (List.getElem_mem hlt)).1 (Hr.out _ (List.getElem_mem hlt)).2
          have hw2 := with_ok hm6 (Hr.out _ (List.getElem_mem hlt2)).1 (Hr.out _ (List.getElem_mem hlt2)).2
          have em1 : (memF m rs)[i]'(by rw [memF_len]; exact hlt) = withF m rs[i] := by simp [memF]
          have em2 : (memF m rs)[k]'(by rw [memF_len]; exact hlt2) = withF m rs[k] := by simp [memF]
          rw [em1] at ho1
          rw [em2] at ho2
          have hpl : (prodF (withF m rs[i]) (withF m rs[k])).length = m := by rw [prodF_len, hw2.len]
          have hrk := rankF_bd (prodF (withF m rs[i]) (withF m rs[k]))
          rw [hpl] at hrk
          obtain ⟨q, hq⟩ : ∃ q : Nat, rankF (prodF (withF m rs[i]) (withF m rs[k])) = q := ⟨(rankF (prodF (withF m rs[i]) (withF m rs[k]))).toNat, by omega⟩
          rw [hq] at hrk
          have hqF : q < facN m := by omega
          have hcq := HF.out.cell (q := q) (by rw [flagsOf_len]; exact hqF)
          rw [flagsOf_at hqF, ← hq] at hcq
          change _ = some (Value.bool (inG m rs rs[i] rs[k])) at hcq
          obtain ⟨A, hA⟩ : ∃ A, A = withF m rs[i] := ⟨_, rfl⟩
          obtain ⟨Bk, hBk⟩ : ∃ Bk, Bk = withF m rs[k] := ⟨_, rfl⟩
          rw [← hA] at ho1 hq hpl
          rw [← hBk] at ho2 hq hpl
          have hrng : Hid (∀ y ∈ Bk, 0 ≤ y ∧ y < (A.length : Int)) := hid (by rw [hA, with_len hm6 (Hr.out _ (List.getElem_mem hlt)), hBk]; exact hw2.rng)
          have hBl : Bk.length ≤ 6 := by rw [hBk, hw2.len]; exact hm6
          obtain ⟨ZZ, hZZ⟩ : ∃ ZZ, prodF A Bk = ZZ := ⟨_, rfl⟩
          rw [hZZ] at hq hpl
          have HO1 := hid ho1.rd
          have HO2 := hid ho2.rd
          have HQ := hid hq
          have HZ2 := hid hZZ
          have HPL := hid hpl
          have hqz : (q : Int) < (facN m : Int) := by omega
          have hb1 := World.block_lt_of_cell? W _ hc1
          obtain ⟨tv, htv⟩ : ∃ tv, tv = inG m rs rs[i] rs[k] := ⟨_, rfl⟩
          rw [← htv] at hcq
          have HT := hid htv
          clear hcel em1 em2 hw1 hw2 hA hBk ho1 ho2 hq hpl hZZ hne htv hrk
          go_wp2_with fail
          go_region_held3 (fun w' => (∀ b o, b < W.heap.size → w'.cell? ⟨b, o, none⟩ = W.cell? ⟨b, o, none⟩) ∧ Hid (Ext W.heap.size W w')) ((refine sB ?_; repeat (with_reducible first | assumption | apply Ext.aft | apply Ext.alloc | apply Ext.drew | apply Ext.drewN))) (first | (go_at_call 86; refine viaI (g := id) (s_prodE _ _ A Bk ZZ _ (HO1.out.below (Ext.bel (by repeat (with_reducible first | exact hE2 | apply Ext.aft | apply Ext.alloc | apply Ext.drew | apply Ext.drewN)))) (HO2.out.below (Ext.bel (by repeat (with_reducible first | exact hE2 | apply Ext.aft | apply Ext.alloc | apply Ext.drew | apply Ext.drewN)))) hrng.out hBl HZ2.out) ?_; intro t1 u3 z1 own3; (try simp at z1); have rd3 := own3.rd) | (go_at_call 85; refine via (s_rankE _ ZZ _ q (by (repeat (with_reducible first | assumption | apply rdI.aft | apply rdI.alloc | apply rdI.drew | apply rdI.drewN)); done) (by have := HPL.out; omega) HQ.out) ?_; intro u4 z4; (try simp at z4)))
          have HE4 : Hid (Ext W.heap.size W (aft (aft wr.drew u3) u4)) := hid (by repeat (with_reducible first | exact hE2 | apply Ext.aft | apply Ext.alloc | apply Ext.drew | apply Ext.drewN))
          clear own3 rd3
          cases tv
          · have e : Hid (C = false) := hid (by
              rw [HC.out]
              refine all_no hlt ?_
              exact all_no hlt2 HT.out.symm)
            go_wp2_with fail
            go_ret
            exact ⟨ret_b (by rw [e.out]), HE.out.bel.trans (HE4.out.1.mono HE.out.2)⟩
          · go_wp2_with fail
            go_roundw
            case rel => exact ⟨k + 1, by omega, by go_num, HE4.out, hid (all_take hlt2 HA2.out HT.out.symm)⟩
            case measure => simp only [intOf]; omega
        · obtain rfl : k = rs.length := by omega
          rw [List.take_length] at HA2
          have hltz2 : ¬ (rs.length : Int) < (rs.length : Int) := by omega
          have HE2 := hid hE2
          clear hE2
          go_wp2_with fail
          go_roundw
          case rel => exact ⟨i + 1, by omega, by go_num, HE2.out, hid (all_take hlt HA.out HA2.out)⟩
          case measure => simp only [intOf]; omega
    · obtain rfl : i = rs.length := by omega
      have e : Hid (C = true) := hid (by have := HA.out; rw [List.take_length] at this; rw [HC.out]; exact this)
      have hltz : ¬ (rs.length : Int) < (rs.length : Int) := by omega
      go_wp2_with fail
      go_ret
      exact ⟨ret_b (by rw [e.out]), HE.out.bel.trans (HE1.out.1.mono HE.out.2)⟩
end Go.Proofs.Ytbkbcbanfnhjpaa

/- slices.IndexFunc and slices.ContainsFunc over numbers, for whatever predicate. -/
namespace Go.Proofs.Ytbkbcbanfnhjpaa
open Go Go.RowKit

/-- What is asked of a predicate: in every world in which all that lay in w lies, it tells p and leaves such a world. -/
def predC (g : Nat) (lb : Array Value) (p : Int → Bool) (w : World) : Prop :=
  ∀ (W : World) (x : Int), Below w.heap.size w W → Calls Try.prog g (#[.int .i64 x] ++ lb) W fun e w' => e = .returned (.bool (p x)) ∧ Below w.heap.size w w'

/-- A call of a function with a body enters it. -/
theorem entersT {f : FuncId} {fn : Func} {c : Code} (hf : Try.prog.funcs[f]? = some fn) (hname : (fn.name == "runtime.NumGoroutine") = false) (hb : fn.body = some c) : ∀ (args : Array Value) (w : World), (callFunc f args).run Try.prog w = .ok (.enter f args) w := by
  intro args w
  have h1 : fn.name ≠ "runtime.NumGoroutine" := by simpa using hname
  simp [callFunc, hf, h1, hb, mark]
theorem any_take_f {xs : List Int} {p : Int → Bool} {k : Nat} (h : k < xs.length) (h1 : (xs.take k).any p = false) (h2 : p xs[k] = false) : (xs.take (k + 1)).any p = false := by
  rw [take_snocI _ _ h, List.any_append, h1]; simp [h2]
theorem any_hit {xs : List Int} {p : Int → Bool} {k : Nat} (h : k < xs.length) (h2 : p xs[k] = true) : xs.any p = true := List.any_eq_true.2 ⟨_, List.getElem_mem h, h2⟩

set_option maxHeartbeats 2000000 in
theorem lib_index (g : Nat) (lb : Array Value) (p : Int → Bool) (eg : ∀ args w, (callFunc g args).run Try.prog w = .ok (.enter g args) w) (r : Value) (xs : List Int) (w : World) (h : rdI w r xs) (hp : predC g lb p w) :
    Calls Try.prog 136 #[r, .func (.func g) #[] lb] w fun e w' => ∃ k : Int, e = .returned (.int .i64 k) ∧ xs.any p = decide (0 ≤ k) ∧ Below w.heap.size w w' := by
  obtain ⟨a, cap, rfl, hm, hc⟩ := h
  have Hc := hid hc
  have Hp := hid hp
  unfold maxLen at hm
  clear hc hp
  go_enter Try.func136, Try.ntmps136
  go_wp2_with fail
  go_loopw [5, 8] (fun _ i wr => ∃ k : Nat, k ≤ xs.length ∧ i = .int .i64 k ∧ Hid (Below w.heap.size w wr) ∧ Hid ((xs.take k).any p = false)) (fun _ i _ => xs.length - (intOf i).toNat)
  case atStart => exact ⟨0, by omega, rfl, hid (Below.refl _ _), hid (by simp)⟩
  case round =>
    obtain ⟨k, hk, rfl, HB, HA⟩ := hrel
    by_cases hlt : k < xs.length
    · obtain ⟨b, o, rfl, hcell⟩ := Hc.out (by intro e; subst e; simp at hlt)
      have h1 := hcell k hlt
      have h2 := HB.out.cell (p := ⟨b, o + k, none⟩) (World.block_lt_of_cell? w _ h1)
      rw [h1] at h2
      have hcall := Hp.out _ xs[k] HB.out
      obtain ⟨x, hx⟩ : ∃ x, x = xs[k] := ⟨_, rfl⟩
      rw [← hx] at h2 hcall
      have HX := hid hx
      have hltz : (k : Int) < (xs.length : Int) := by omega
      clear hx hcell h1
      cases hq : p x with
      | true =>
        rw [hq] at hcall
        have HQ := hid hq
        clear hq
        go_wp2_with fail
        refine hcall.mono ?_
        rintro e w' ⟨rfl, hb'⟩
        go_wp2_with fail
        go_ret
        exact ⟨_, rfl, by rw [any_hit hlt (by rw [← HX.out]; exact HQ.out)]; simp, hb'⟩
      | false =>
        rw [hq] at hcall
        have HQ := hid hq
        clear hq
        go_wp2_with fail
        refine hcall.mono ?_
        rintro e w' ⟨rfl, hb'⟩
        go_wp2_with fail
        go_roundw
        case rel => exact ⟨k + 1, by omega, by go_num, hid hb', hid (any_take_f hlt HA.out (by rw [← HX.out]; exact HQ.out))⟩
        case measure => simp only [intOf]; omega
    · obtain rfl : k = xs.length := by omega
      have hltz : ¬ (xs.length : Int) < (xs.length : Int) := by omega
      have HN := hid (show xs.any p = false by have := HA.out; rwa [List.take_length] at this)
      go_wp2
      go_ret
      exact ⟨_, rfl, by rw [HN.out]; simp, HB.out⟩

set_option maxHeartbeats 1000000 in
theorem lib_contains (g : Nat) (lb : Array Value) (p : Int → Bool) (eg : ∀ args w, (callFunc g args).run Try.prog w = .ok (.enter g args) w) (r : Value) (xs : List Int) (w : World) (h : rdI w r xs) (hp : predC g lb p w) :
    Calls Try.prog 123 #[r, .func (.func g) #[] lb] w fun e w' => e = .returned (.bool (xs.any p)) ∧ Below w.heap.size w w' := by
  obtain ⟨B, hB⟩ : ∃ B, B = xs.any p := ⟨_, rfl⟩
  rw [← hB]
  have HB := hid hB
  clear hB
  go_enter Try.func123, Try.ntmps123
  go_wp2_with (go_at_call 136; refine (lib_index g lb p eg r xs _ h hp).mono ?_; rintro e w' ⟨k, rfl, hk, hb⟩; have HK := hid hk; clear hk)
  go_ret
  exact ⟨ret_b (by rw [HB.out, HK.out]), hb⟩

/-- The same with its answer under a name. -/
theorem lib_containsB (g : Nat) (lb : Array Value) (p : Int → Bool) (eg : ∀ args w, (callFunc g args).run Try.prog w = .ok (.enter g args) w) (r : Value) (xs : List Int) (w : World) (h : rdI w r xs) (hp : predC g lb p w) (c : Bool) (hc : xs.any p = c) :
    Calls Try.prog 123 #[r, .func (.func g) #[] lb] w fun e w' => e = .returned (.bool c) ∧ Below w.heap.size w w' := by
  subst hc; exact lib_contains g lb p eg r xs w h hp
end Go.Proofs.Ytbkbcbanfnhjpaa

/- slices.ContainsFunc over slices of slices; the closure of IsGroup. -/
namespace Go.Proofs.Ytbkbcbanfnhjpaa
open Go Go.RowKit

/-- What is asked of a predicate over slices: in every world in which all that lay in w lies, at each of these lists, it tells p and leaves such a world. -/
def predR (g : Nat) (lb : Array Value) (p : List Int → Bool) (xss : List (List Int)) (w : World) : Prop :=
  ∀ (W : World) (v : Value) (xs : List Int), Below w.heap.size w W → xs ∈ xss → ownR 0 W v xs → Calls Try.prog g (#[v] ++ lb) W fun e w' => e = .returned (.bool (p xs)) ∧ Below w.heap.size w w'
theorem anyR_take_f {xs : List (List Int)} {p : List Int → Bool} {k : Nat} (h : k < xs.length) (h1 : (xs.take k).any p = false) (h2 : p xs[k] = false) : (xs.take (k + 1)).any p = false := by
  rw [List.take_succ_eq_append_getElem h, List.any_append, h1]; simp [h2]
theorem anyR_hit {xs : List (List Int)} {p : List Int → Bool} {k : Nat} (h : k < xs.length) (h2 : p xs[k] = true) : xs.any p = true := List.any_eq_true.2 ⟨_, List.getElem_mem h, h2⟩

set_option maxRecDepth 20000 in
set_option maxHeartbeats 2000000 in
theorem lib_indexR (g : Nat) (lb : Array Value) (p : List Int → Bool) (eg : ∀ args w, (callFunc g args).run Try.prog w = .ok (.enter g args) w) (r : Value) (xs : List (List Int)) (w : World) (h : rdRR w r xs) (hp : predR g lb p xs w) :
    Calls Try.prog 126 #[r, .func (.func g) #[] lb] w fun e w' => ∃ k : Int, e = .returned (.int .i64 k) ∧ xs.any p = decide (0 ≤ k) ∧ Below w.heap.size w w' := by
  obtain ⟨a, cap, rfl, hm, hc⟩ := h
  have Hc := hid hc
  have Hp := hid hp
  unfold maxLen at hm
  clear hc hp
  go_enter Try.func126, Try.ntmps126
  go_wp2_with fail
  go_loopw [5, 8] (fun _ i wr => ∃ k : Nat, k ≤ xs.length ∧ i = .int .i64 k ∧ Hid (Below w.heap.size w wr) ∧ Hid ((xs.take k).any p = false)) (fun _ i _ => xs.length - (intOf i).toNat)
  case atStart => exact ⟨0, by omega, rfl, hid (Below.refl _ _), hid (by simp)⟩
  case round =>
    obtain ⟨k, hk, rfl, HB, HA⟩ := hrel
    by_cases hlt : k < xs.length
    · obtain ⟨b, o, rfl, hcell⟩ := Hc.out (by intro e; subst e; simp at hlt)
      obtain ⟨e1, h1, ho⟩ := hcell k hlt
      have hbl := World.block_lt_of_cell? w _ h1
      have h2 := HB.out.cell (p := ⟨b, o + k, none⟩) hbl
      rw [h1] at h2
      have ho2 : ownR 0 wr e1 xs[k] := ho.kept fun j hj _ => HB.out.block j hj
      have hcall := Hp.out _ e1 xs[k] HB.out (List.getElem_mem hlt) ho2
      have hltz : (k : Int) < (xs.length : Int) := by omega
      clear hcell h1 ho ho2
      cases hq : p xs[k] with
      | true =>
        rw [hq] at hcall
        have HQ := hid hq
        clear hq
        go_wp2_with fail
        refine hcall.mono ?_
        rintro e w' ⟨rfl, hb'⟩
        go_wp2_with fail
        go_ret
        exact ⟨_, rfl, by rw [anyR_hit hlt HQ.out]; simp, hb'⟩
      | false =>
        rw [hq] at hcall
        have HQ := hid hq
        clear hq
        go_wp2_with fail
        refine hcall.mono ?_
        rintro e w' ⟨rfl, hb'⟩
        go_wp2_with fail
        go_roundw
        case rel => exact ⟨k + 1, by omega, by go_num, hid hb', hid (anyR_take_f hlt HA.out HQ.out)⟩
        case measure => simp only [intOf]; omega
    · obtain rfl : k = xs.length := by omega
      have hltz : ¬ (xs.length : Int) < (xs.length : Int) := by omega
      have HN := hid (show xs.any p = false by have := HA.out; rwa [List.take_length] at this)
      go_wp2
      go_ret
      exact ⟨_, rfl, by rw [HN.out]; simp, HB.out⟩
set_option maxHeartbeats 1000000 in
theorem lib_containsR (g : Nat) (lb : Array Value) (p : List Int → Bool) (eg : ∀ args w, (callFunc g args).run Try.prog w = .ok (.enter g args) w) (r : Value) (xs : List (List Int)) (w : World) (h : rdRR w r xs) (hp : predR g lb p xs w) (B : Bool) (hB : xs.any p = B) :
    Calls Try.prog 74 #[r, .func (.func g) #[] lb] w fun e w' => e = .returned (.bool B) ∧ Below w.heap.size w w' := by
  have HB := hid hB
  clear hB
  go_enter Try.func74, Try.ntmps74
  go_wp2_with (go_at_call 126; refine (lib_indexR g lb p eg r xs _ h hp).mono ?_; rintro e w' ⟨k, rfl, hk, hb⟩; have HK := hid hk; clear hk)
  go_ret
  exact ⟨ret_b (by rw [← HB.out, HK.out]), hb⟩

theorem i_prodE (r1 r2 : Value) (xs ys zs : List Int) (w : World) (h1 : rdI w r1 xs) (h2 : rdI w r2 ys) (hr : ∀ y ∈ ys, 0 ≤ y ∧ y < xs.length) (hl : ys.length ≤ 6) (hz : prodF xs ys = zs) :
    Calls Try.prog 104 #[r1, r2] w fun e w' => ∃ v, e = .returned v ∧ ownR w.heap.size w' v zs ∧ Below w.heap.size w w' := by subst hz; exact i_prod r1 r2 xs ys w h1 h2 hr hl
theorem i_hasE (n : Int) (r v : Value) (rs xs : List Int) (w : World) (b : Bool) (h : rdI w r rs) (hne : rs ≠ []) (hm6 : rs.length ≤ 1048576) (hs : rs.Pairwise (· < ·)) (h2 : ownR 0 w v xs) (hl : xs.length ≤ 6) (hb : rs.contains (rankF xs) = b) :
    Calls Try.prog 63 #[.agg #[.int .i64 n, r], v] w fun e w' => e = .returned (.bool b) ∧ Below w.heap.size w w' := by subst hb; exact i_has n r v rs xs w h hne hm6 hs h2 hl
set_option maxRecDepth 20000 in
set_option maxHeartbeats 8000000 in
theorem i_IsGroup1 (n : Int) (r va v : Value) (rs A X : List Int) (gb ab : Nat) (W : World) (hg0 : W.cell? ⟨gb, 0, none⟩ = some (.int .i64 n)) (hg1 : W.cell? ⟨gb, 1, none⟩ = some r) (ha : W.cell? ⟨ab, 0, none⟩ = some va)
    (h : rdI W r rs) (hne : rs ≠ []) (hm6 : rs.length ≤ 1048576) (hs : rs.Pairwise (· < ·)) (hA : rdI W va A) (hX : ownR 0 W v X) (hr : ∀ y ∈ X, 0 ≤ y ∧ y < (A.length : Int)) (hl : X.length ≤ 6) :
    Calls Try.prog 103 #[v, .pointer (some ⟨gb, 0, none⟩), .pointer (some ⟨ab, 0, none⟩)] W fun e w' => e = .returned (.bool (!rs.contains (rankF (prodF A X)))) ∧ Below W.heap.size W w' := by
  obtain ⟨Z, hZ⟩ : ∃ Z, prodF A X = Z := ⟨_, rfl⟩
  have hZl : Z.length ≤ 6 := by rw [← hZ, prodF_len]; exact hl
  rw [hZ]
  obtain ⟨b, hb⟩ : ∃ b, rs.contains (rankF Z) = b := ⟨_, rfl⟩
  rw [hb]
  have HZ := hid hZ
  have HB := hid hb
  have HR := hid hr
  have hgb := World.block_lt_of_cell? W _ hg0
  have hab := World.block_lt_of_cell? W _ ha
  have HS := hid hs
  have HNE := hid hne
  have hE0 : Ext W.heap.size W W := Ext.refl _
  clear hZ hb hr hs hne
  go_enter Try.func103, Try.ntmps103
  go_wp2_with fail
  go_region_held3 (fun w' => (∀ b o, b < W.heap.size → w'.cell? ⟨b, o, none⟩ = W.cell? ⟨b, o, none⟩) ∧ Hid (Ext W.heap.size W w')) ((refine sB ?_; repeat (with_reducible first | assumption | apply Ext.aft | apply Ext.alloc | apply Ext.drew | apply Ext.drewN))) (first | (go_at_call 104; refine viaI (g := id) (i_prodE _ _ A X Z _ (hA.below (Ext.bel (by repeat (with_reducible first | exact Ext.refl _ | apply Ext.aft | apply Ext.alloc | apply Ext.drew | apply Ext.drewN)))) (hX.rd.below (Ext.bel (by repeat (with_reducible first | exact Ext.refl _ | apply Ext.aft | apply Ext.alloc | apply Ext.drew | apply Ext.drewN)))) HR.out hl HZ.out) ?_; intro t1 u3 z1 own3; (try simp at z1)) | (go_at_call 63; refine via (i_hasE _ _ _ rs Z _ b (h.below (Ext.bel (by repeat (with_reducible first | exact Ext.refl _ | apply Ext.aft | apply Ext.alloc | apply Ext.drew | apply Ext.drewN)))) HNE.out hm6 HS.out (by first | exact own3.mono (Nat.zero_le _) | exact (own3.drew).mono (Nat.zero_le _)) hZl HB.out) ?_; intro u4 z4; (try simp at z4)))
  all_goals
    go_wp2_with fail
    go_ret
    exact ⟨rfl, (by refine Ext.bel ?_; repeat (with_reducible first | exact Ext.refl _ | apply Ext.alloc | apply Ext.aft | apply Ext.drew | apply Ext.drewN | apply Ext.setCell | exact Nat.le_add_right _ _ | exact Nat.le_refl _ | (simp; done) | omega))⟩
end Go.Proofs.Ytbkbcbanfnhjpaa

/- IsGroup: the program's text. -/
namespace Go.Proofs.Ytbkbcbanfnhjpaa
open Go Go.RowKit

theorem members_any {m : Nat} {rs : List Int} {x : Int} : (memF m rs).any (fun X => !rs.contains (rankF (prodF (withF m x) X))) = !(rs.all fun y => inG m rs x y) := by
  unfold memF
  rw [List.any_map]
  have : ∀ l : List Int, l.any ((fun X => !rs.contains (rankF (prodF (withF m x) X))) ∘ withF m) = !(l.all fun y => inG m rs x y) := by
    intro l
    induction l with
    | nil => rfl
    | cons y r ih => rw [List.any_cons, List.all_cons, ih]; simp only [Function.comp, inG, Bool.not_and]
  exact this rs
set_option maxRecDepth 20000 in
set_option maxHeartbeats 8000000 in
theorem i_IsGroup (n : Int) (r : Value) (rs : List Int) (w : World) (h : rdI w r rs) (hl : rs.length ≤ 1048576) :
    Calls Try.prog 43 #[(.agg #[.int .i64 n, r])] w fun e w' => e = .returned (.bool (groupB n rs)) ∧ Below w.heap.size w w' := by
  cases hin : inB n 1 6
  · rw [group_out hin]
    go_enter Try.func43, Try.ntmps43
    go_wp2_with (first | (go_at_call 73; refine pur (i_within _ _ _ _) ?_))
    go_ret
    exact ⟨rfl, (by refine Ext.bel ?_; repeat (with_reducible first | exact Ext.refl _ | apply Ext.alloc | apply Ext.aft | apply Ext.drew | apply Ext.drewN | apply Ext.setCell | exact Nat.le_add_right _ _ | exact Nat.le_refl _ | (simp; done) | omega))⟩
  have hn16 := inB_iff.1 hin
  obtain ⟨m, rfl⟩ : ∃ m : Nat, n = m := ⟨n.toNat, by omega⟩
  have hm6 : m ≤ 6 := by omega
  have hf := facN_pos m
  have hf7 := facN_le hm6
  obtain ⟨a, cap, rfl, hmx, hc⟩ := id h
  rcases rs with _ | ⟨x0, rt⟩
  · rw [group_nil]
    simp only [List.length_nil] at *
    go_enter Try.func43, Try.ntmps43
    go_wp2_with (first | (go_at_call 73; refine pur (i_within _ _ _ _) ?_))
    go_ret
    exact ⟨rfl, (by refine Ext.bel ?_; repeat (with_reducible first | exact Ext.refl _ | apply Ext.alloc | apply Ext.aft | apply Ext.drew | apply Ext.drewN | apply Ext.setCell | exact Nat.le_add_right _ _ | exact Nat.le_refl _ | (simp; done) | omega))⟩
  obtain ⟨b, o, rfl, hcell⟩ := hc (by simp)
  have hx0 := hcell 0 (by simp)
  have hxb := World.block_lt_of_cell? w _ hx0
  simp only [List.getElem_cons_zero, Nat.add_zero] at hx0 hxb
  have hgc := fun (h2 : risesB (facN m : Int) (-1) (x0 :: rt) = true) (h3 : x0 = 0) => group_closed (n := m) (by omega) h2 h3
  have hgr := fun (h2 : risesB (facN m : Int) (-1) (x0 :: rt) = false) => group_rises h2
  have hgh := fun h3 : x0 ≠ 0 => group_head (n := (m : Int)) (r := rt) h3
  obtain ⟨rs, hrs⟩ : ∃ rs, rs = x0 :: rt := ⟨_, rfl⟩
  have hpos : 0 < rs.length := by rw [hrs]; simp
  have hne : rs ≠ [] := by rw [hrs]; simp
  rw [← hrs] at h hl hmx hcell hgc hgh hgr ⊢
  have hle : ((rs.length : Int) == 0) = false := by rw [beq_eq_false_iff_ne]; omega
  have hposz : (0 : Int) < (rs.length : Int) := by omega
  clear hrs hc
  by_cases hz : x0 = 0
  case neg =>
    rw [hgh hz]
    have hzb : (x0 == 0) = false := by simpa using hz
    have HZ := hid hz
    clear hgc hgh hz hcell hgr hne
    go_enter Try.func43, Try.ntmps43
    go_wp2_with (first | (go_at_call 73; refine pur (i_within _ _ _ _) ?_))
    go_ret
    exact ⟨rfl, (by refine Ext.bel ?_; repeat (with_reducible first | exact Ext.refl _ | apply Ext.alloc | apply Ext.aft | apply Ext.drew | apply Ext.drewN | apply Ext.setCell | exact Nat.le_add_right _ _ | exact Nat.le_refl _ | (simp; done) | omega))⟩
  subst hz
  obtain ⟨C, hC⟩ : ∃ C, C = groupB m rs := ⟨_, rfl⟩
  rw [← hC] at hgc hgr ⊢
  have HCT := hid (fun h2 => hgc h2 rfl)
  have HCF := hid hgr
  have HNE := hid hne
  have HC0 := hid hcell
  obtain ⟨P, hP⟩ : ∃ P, P = risesB (facN m : Int) (-1) rs := ⟨_, rfl⟩
  have HP := hid hP
  have HR := hid h
  clear hgc hgh hcell hgr hne hC hP h
  go_enter Try.func43, Try.ntmps43
  go_wp2_with (first | (go_at_call 73; refine pur (i_within _ _ _ _) ?_))
  go_loopw [28] (fun i wr => ∃ (k : Nat) (uu : World), wr = aft (w.alloc (Obj.cells #[.int .i64 (m : Int), .slice (some ⟨b, o, none⟩) rs.length cap] 26)) uu ∧ k ≤ rs.length ∧ i = .int .i64 k ∧ -1 ≤ prevI rs k ∧ Hid (risesB (facN m : Int) (prevI rs k) (rs.drop k) = P)) (fun i _ => rs.length - (intOf i).toNat)
  case atStart => exact ⟨0, w.alloc (Obj.cells #[.int .i64 (m : Int), .slice (some ⟨b, o, none⟩) rs.length cap] 26), (aft_of (Below.refl _ _)).symm, by omega, rfl, by simp [prevI], hid (by rw [HP.out, prev_zero]; rfl)⟩
  case round =>
    obtain ⟨k, uu, rfl, hk, rfl, hp1, HA⟩ := hrel
    have zs := size_aft (w.alloc (Obj.cells #[.int .i64 (m : Int), .slice (some ⟨b, o, none⟩) rs.length cap] 26)) uu
    simp at zs
    by_cases hlt : k < rs.length
    · have h1 := HC0.out k hlt
      have hb := World.block_lt_of_cell? w _ h1
      have hd := rises_drop (F := (facN m : Int)) hlt
      rw [HA.out] at hd
      have HPS := hid (prev_succ hlt)
      have hpv : 0 < k → w.cell? ⟨b, o + (k - 1), none⟩ = some (.int .i64 (prevI rs k)) := fun h0 => by
        rw [HC0.out (k - 1) (by omega)]
        unfold prevI; rw [if_neg (by omega)]
        simp [List.getD, show k - 1 < rs.length by omega]
      obtain ⟨x, hx⟩ : ∃ x, x = rs[k] := ⟨_, rfl⟩
      rw [← hx] at h1 hd HPS
      obtain ⟨p, hpe⟩ : ∃ p, p = prevI rs k := ⟨_, rfl⟩
      rw [← hpe] at hp1 hd hpv
      have HD := hid hd
      have HPE := hid hpe
      have hltz : (k : Int) < (rs.length : Int) := by omega
      clear hx hd hpe HA
      cases hin2 : inB x 0 ((facN m : Int) - 1)
      · have hnot : ¬ (0 ≤ x ∧ x ≤ (facN m : Int) - 1) := fun h => by rw [inB_t h.1 h.2] at hin2; cases hin2
        have e : Hid (C = false) := hid (HCF.out (HP.out.symm.trans (HD.out.trans (rises_f hp1 (.inl hnot)))))
        have HV := hid hpv
        clear hpv hnot
        go_wp2_with (first | (go_at_call 73; refine pur (i_within _ _ _ _) ?_) | (go_at_call 90; refine pur (i_fact m _ hm6) ?_))
        go_ret
        exact ⟨ret_b (by rw [e.out]), (by refine Ext.bel ?_; repeat (with_reducible first | exact Ext.refl _ | apply Ext.alloc | apply Ext.aft | apply Ext.drew | apply Ext.drewN | apply Ext.setCell | exact Nat.le_add_right _ _ | exact Nat.le_refl _ | (simp; done) | omega))⟩
      · have hrg := inB_iff.1 hin2
        rcases Nat.eq_zero_or_pos k with h0 | hpos
        · have HR2 := hid (HD.out.trans (rises_t (show p < x by have := HPE.out; rw [h0] at this; simp [prevI] at this; omega) hrg.2))
          have H0 := hid h0
          have hkz : decide ((0 : Int) < (k : Int)) = false := by simp; omega
          have hkn : decide (0 < k) = false := by simp; omega
          clear hpv h0
          go_wp2_with (first | (go_at_call 73; refine pur (i_within _ _ _ _) ?_) | (go_at_call 90; refine pur (i_fact m _ hm6) ?_))
          go_roundw
          case rel => exact ⟨k + 1, uu, rfl, by omega, by go_num, by rw [HPS.out]; omega, hid HR2.out.symm⟩
          case measure => simp only [intOf]; omega
        · obtain ⟨j, rfl⟩ : ∃ j, k = j + 1 := ⟨k - 1, by omega⟩
          have hv := hpv (by omega)
          rw [Nat.add_sub_cancel] at hv
          have hbv := World.block_lt_of_cell? w _ hv
          clear hpv
          by_cases hle : x ≤ p
          · have e : Hid (C = false) := hid (HCF.out (HP.out.symm.trans (HD.out.trans (rises_f hp1 (.inr hle)))))
            go_wp2_with (first | (go_at_call 73; refine pur (i_within _ _ _ _) ?_) | (go_at_call 90; refine pur (i_fact m _ hm6) ?_))
            go_ret
            exact ⟨ret_b (by rw [e.out]), (by refine Ext.bel ?_; repeat (with_reducible first | exact Ext.refl _ | apply Ext.alloc | apply Ext.aft | apply Ext.drew | apply Ext.drewN | apply Ext.setCell | exact Nat.le_add_right _ _ | exact Nat.le_refl _ | (simp; done) | omega))⟩
          · have HR2 := hid (HD.out.trans (rises_t (show p < x by omega) hrg.2))
            go_wp2_with (first | (go_at_call 73; refine pur (i_within _ _ _ _) ?_) | (go_at_call 90; refine pur (i_fact m _ hm6) ?_))
            go_roundw
            case rel => exact ⟨j + 2, uu, rfl, by omega, by go_num, by rw [HPS.out]; omega, hid HR2.out.symm⟩
            case measure => simp only [intOf]; omega
    · obtain rfl : k = rs.length := by omega
      have hP1 : P = true := by rw [← HA.out, List.drop_length]; rfl
      rw [hP1] at HP
      have hri : risesB (facN m : Int) (-1) rs = true := HP.out.symm
      have Hr : Hid (∀ x ∈ rs, 0 ≤ x ∧ x < (facN m : Int)) := hid (fun x hx => by have := rises_mem rs _ hri x hx; omega)
      have Hpw : Hid (rs.Pairwise (· < ·)) := hid (rises_pair rs _ hri)
      have HC := hid (HCT.out hri)
      have hltz : ¬ (rs.length : Int) < (rs.length : Int) := by omega
      clear hri hP1
      go_wp2_with fail
      refine viaX (g := id) (i_members m _ rs _ ((HR.out.alloc _).aft _) hm6 Hr.out hl) ?_
      intro v2 u2 zz2 own2
      try simp at zz2
      obtain ⟨W, hW⟩ : ∃ W, W = aft (aft (w.alloc (Obj.cells #[.int .i64 (m : Int), .slice (some ⟨b, o, none⟩) rs.length cap] 26)) uu) u2 := ⟨_, rfl⟩
      have HE : Hid (Ext w.heap.size w W) := hid (by rw [hW]; exact (by repeat (with_reducible first | exact Ext.refl _ | apply Ext.alloc | apply Ext.aft | apply Ext.drew | apply Ext.drewN | apply Ext.setCell | exact Nat.le_add_right _ _ | exact Nat.le_refl _ | (simp; done) | omega)))
      have own2' := own2.rd
      have cg0 : W.cell? ⟨w.heap.size, 0, none⟩ = some (.int .i64 (m : Int)) := by rw [hW]; simp [go_sem, ↓IntWalk.iteOmega]
      have cg1 : W.cell? ⟨w.heap.size, 1, none⟩ = some (.slice (some ⟨b, o, none⟩) rs.length cap) := by rw [hW]; simp [go_sem, ↓IntWalk.iteOmega]
      have hRW : rdI W (.slice (some ⟨b, o, none⟩) rs.length cap) rs := by rw [hW]; exact ((HR.out.alloc _).aft _).aft _
      rw [← hW] at own2' ⊢
      have HRW := hid hRW
      have HMM := hid own2'
      obtain ⟨am, cm, hv2, hmm, hcm⟩ := own2'
      rw [memF_len] at hv2 hmm
      subst hv2
      have Hcm := hid hcm
      have hgb := World.block_lt_of_cell? W _ cg0
      have CG0 := hid cg0
      have CG1 := hid cg1
      clear hW own2 zz2 hcm hx0 hxb hmm hRW cg0 cg1 zs
      go_wp2_with fail
      go_loopw [59, 7] (fun s _ wr => ∃ i : Nat, i ≤ rs.length ∧ s = .int .i64 i ∧ Ext W.heap.size W wr ∧ Hid ((rs.take i).all (fun x => rs.all fun y => inG m rs x y) = true)) (fun s _ _ => rs.length - (intOf s).toNat)
      case atStart => exact ⟨0, by omega, rfl, Ext.refl _, hid (by simp)⟩
      case round =>
        obtain ⟨i, hi, rfl, hE1, HA⟩ := hrel
        have HE1 := hid hE1
        by_cases hlt : i < rs.length
        · have hltz : (i : Int) < (rs.length : Int) := by omega
          have hnem : memF m rs ≠ [] := by intro e; have := memF_len m rs; rw [e] at this; simp at this; omega
          obtain ⟨bm, om, rfl, hcel⟩ := Hcm.out hnem
          obtain ⟨e1, hc1, ho1⟩ := hcel i (by rw [memF_len]; exact hlt)
          have hc2 := hE1.1.cell (p := ⟨bm, om + i, none⟩) (World.block_lt_of_cell? W _ hc1)
          rw [hc1] at hc2
          have em1 : (memF m rs)[i]'(by rw [memF_len]; exact hlt) = withF m rs[i] := by simp [memF]
          rw [em1] at ho1
          obtain ⟨a1, c1, hsh, _, _⟩ := ho1.rd
          subst hsh
          have hal := with_len hm6 (Hr.out _ (List.getElem_mem hlt))
          obtain ⟨wo, hwo⟩ : ∃ wo, wo = wr.alloc (.cells #[.slice a1 (withF m rs[i]).length c1] 24) := ⟨_, rfl⟩
          have hEo : Ext W.heap.size W wo := by rw [hwo]; exact hE1.alloc _
          have cA : wo.cell? ⟨wr.heap.size, 0, none⟩ = some (.slice a1 (withF m rs[i]).length c1) := by rw [hwo, alloc_cell, if_pos rfl]; rfl
          have hpr : predR 103 #[.pointer (some ⟨w.heap.size, 0, none⟩), .pointer (some ⟨wr.heap.size, 0, none⟩)] (fun X => !rs.contains (rankF (prodF (withF m rs[i]) X))) (memF m rs) wo := by
            intro W' v X hb hX hv
            have hX2 : ∃ y ∈ rs, withF m y = X := by simpa [memF] using hX
            obtain ⟨y, hy, rfl⟩ := hX2
            have hwy := with_ok hm6 (Hr.out _ hy).1 (Hr.out _ hy).2
            have hbW : Below W.heap.size W W' := hEo.1.trans (hb.mono hEo.2)
            refine (i_IsGroup1 (m : Int) (.slice (some ⟨b, o, none⟩) rs.length cap) (.slice a1 (withF m rs[i]).length c1) v rs (withF m rs[i]) (withF m y) w.heap.size wr.heap.size W' ?_ ?_ ?_ (HRW.out.below hbW) HNE.out hl Hpw.out (ho1.rd.below hbW) hv ?_ (by rw [hwy.len]; exact hm6)).mono ?_
            · rw [hbW.cell (p := ⟨w.heap.size, 0, none⟩) hgb]; exact CG0.out
            · rw [hbW.cell (p := ⟨w.heap.size, 1, none⟩) hgb]; exact CG1.out
            · rw [hb.cell (p := ⟨wr.heap.size, 0, none⟩) (World.block_lt_of_cell? wo _ cA)]; exact cA
            · rw [hal]; exact hwy.rng
            · rintro e w' ⟨rfl, h2⟩
              exact ⟨rfl, hb.trans (h2.mono hb.size)⟩
          have HPR := hid hpr
          obtain ⟨tv, htv⟩ : ∃ tv, tv = rs.all (fun y => inG m rs rs[i] y) := ⟨_, rfl⟩
          have hany : Hid ((memF m rs).any (fun X => !rs.contains (rankF (prodF (withF m rs[i]) X))) = !tv) := hid (by rw [htv]; exact members_any)
          have HMo := hid (HMM.out.below hEo.1)
          have HWO := hid hwo
          have HEo := hid hEo
          have HT := hid htv
          have eg : ∀ args w, (callFunc 103 args).run Try.prog w = .ok (.enter 103 args) w := entersT Try.func103 (by kernel_rfl) rfl
          clear hcel em1 hnem ho1 hc1 hpr hwo hEo cA htv hE1 hal
          go_wp2_with fail
          rw [← HWO.out]
          refine via (lib_containsR _ _ _ eg _ _ _ HMo.out HPR.out (!tv) hany.out) ?_
          intro u5 z5
          have HE5 : Hid (Ext W.heap.size W (aft wo u5)) := hid (HEo.out.aft u5)
          cases tv
          · have e : Hid (C = false) := hid (by rw [HC.out]; exact all_no hlt HT.out.symm)
            go_wp2_with fail
            go_ret
            exact ⟨ret_b (by rw [e.out]), HE.out.bel.trans (HE5.out.1.mono HE.out.2)⟩
          · go_wp2_with fail
            go_roundw
            case rel => exact ⟨i + 1, by omega, by go_num, HE5.out, hid (all_take hlt HA.out HT.out.symm)⟩
            case measure => simp only [intOf]; omega
        · obtain rfl : i = rs.length := by omega
          have e : Hid (C = true) := hid (by rw [HC.out]; have := HA.out; rw [List.take_length] at this; exact this)
          have hltz : ¬ (rs.length : Int) < (rs.length : Int) := by omega
          clear hE1
          go_wp2_with fail
          go_ret
          exact ⟨ret_b (by rw [e.out]), HE.out.bel.trans (HE1.out.1.mono HE.out.2)⟩
end Go.Proofs.Ytbkbcbanfnhjpaa

/- A slice of numbers that came in. -/
namespace Go.Proofs.Ytbkbcbanfnhjpaa
open Go Go.ChangeShapes Go.WideShapes Go.ChangeAt Go.RowKit

theorem cellsInt : Try.prog.cellsOf 2 = 1 := by kernel_rfl

set_option maxRecDepth 100000 in
theorem rdI_open {H : Type} {enc : TypeId × Value → H} {W : World} {base : Nat} {v : Value} {d : DataW H} {p : List MemPlace} (hval : Value.okWide Try.prog W .any base 24 v) (h : DataW.Trod enc Try.prog W 0 (fun _ => true) true 24 v d p) :
    ∃ zs, rdI W v zs := by
  obtain ⟨a1, len, cap, rfl⟩ := okWide_slice Try.underlying24 hval
  obtain ⟨fuel, hf⟩ := h
  rcases open_ints Try.underlying24 Try.underlying2 cellsInt hf with ⟨hcs, hx⟩ | ⟨a, len', cap', zs, hcs, _, hl, hm, hz, hx, hcell, hwz⟩
  · simp [Value.cells] at hcs
    obtain ⟨rfl, rfl, rfl⟩ := hcs
    exact ⟨[], none, 0, rfl, by simp [maxLen], fun h => absurd rfl h⟩
  · simp [Value.cells] at hcs
    obtain ⟨rfl, rfl, rfl⟩ := hcs
    simp only [if_true] at hz
    have hlen : (zs.take len).length = len := by rw [List.length_take]; omega
    refine ⟨zs.take len, some a, cap, by rw [hlen], by omega, fun hne => ?_⟩
    obtain ⟨ab, ao, spot⟩ := a
    have hpos : 0 < zs.length := by
      rcases Nat.eq_zero_or_pos zs.length with h0 | h0
      · exact absurd (by rw [List.eq_nil_of_length_eq_zero h0]; simp) hne
      · exact h0
    have hspot : spot = none := by simpa [Addr.add] using World.cell?_spot (hcell 0 hpos)
    subst hspot
    refine ⟨ab, ao, rfl, fun i hi => ?_⟩
    have hcj := hcell i (by omega)
    rw [Addr.add_lit] at hcj
    rw [hcj]
    simp [List.getD, List.getElem?_eq_getElem (show i < zs.length by omega)]
end Go.Proofs.Ytbkbcbanfnhjpaa

/- A slice of numbers within what came in. -/
namespace Go.Proofs.Ytbkbcbanfnhjpaa
open Go Go.ChangeShapes Go.WideShapes Go.ChangeAt Go.RowKit

set_option maxRecDepth 100000 in
theorem rdI_openC {H : Type} {enc : TypeId × Value → H} {W : World} {v : Value} {n : Nat} {y : DataW H × List MemPlace} (hf : DataW.trod enc Try.prog W 0 (fun _ => true) true n 24 [v] = some y) :
    ∃ a len cap zs, v = .slice a len cap ∧ rdI W v zs := by
  rcases open_ints Try.underlying24 Try.underlying2 cellsInt hf with ⟨hcs, hx⟩ | ⟨a, len, cap, zs, hcs, _, hl, hm, hz, hx, hcell, hwz⟩
  · simp at hcs
    subst hcs
    exact ⟨none, 0, 0, [], rfl, none, 0, rfl, by simp [maxLen], fun h => absurd rfl h⟩
  · simp at hcs
    subst hcs
    simp only [if_true] at hz
    have hlen : (zs.take len).length = len := by rw [List.length_take]; omega
    refine ⟨some a, len, cap, zs.take len, rfl, some a, cap, by rw [hlen], by omega, fun hne => ?_⟩
    obtain ⟨ab, ao, spot⟩ := a
    have hpos : 0 < zs.length := by
      rcases Nat.eq_zero_or_pos zs.length with h0 | h0
      · exact absurd (by rw [List.eq_nil_of_length_eq_zero h0]; simp) hne
      · exact h0
    have hspot : spot = none := by simpa [Addr.add] using World.cell?_spot (hcell 0 hpos)
    subst hspot
    refine ⟨ab, ao, rfl, fun i hi => ?_⟩
    have hcj := hcell i (by omega)
    rw [Addr.add_lit] at hcj
    rw [hcj]
    simp [List.getD, List.getElem?_eq_getElem (show i < zs.length by omega)]
end Go.Proofs.Ytbkbcbanfnhjpaa
