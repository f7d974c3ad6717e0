/- Several small texts in one: B0 B1 A1 M0 A2 M1 A3 B2 B3 B8 H1 B7 A4 A5 A6 A7 A8 A9 G1 M2 C2. -/
import Derived.Test.YtganmeiaflkkoaaRows
import Derived.WalkKit
import Derived.WalkSpells
import Derived.WalkLawsBesides
import Derived.Deep.QuietTactic
import Derived.BigQuiet
import Derived.Deep.RegionWith
import Derived.Deep.DeepFit
import Derived.Deep.DeepMust
import Derived.Deep.AppendSrc
import Derived.Lib.SliceRun
/- Small laws on worlds: 'aft w u' is u where u is w with new blocks and draws, else w. They let a walk see through a call of which only 'Below' is known. -/
namespace Go.Proofs.Ytganmeiaflkkoaa
open Go Go.RowKit

theorem hid {p : Prop} (h : p) : Hid p := h

open Classical in
noncomputable def aft (w u : World) : World := if Below w.heap.size w u then u else w

theorem aft_of {w u : World} (h : Below w.heap.size w u) : aft w u = u := by unfold aft; rw [if_pos h]
theorem below_aft (w u : World) : Below w.heap.size w (aft w u) := by
  unfold aft; split
  · assumption
  · exact Below.refl _ _
theorem aft_ex {w w' : World} (h : Below w.heap.size w w') : ∃ u, w' = aft w u := ⟨w', (aft_of h).symm⟩
theorem size_aft (w u : World) : w.heap.size ≤ (aft w u).heap.size := (below_aft w u).size
theorem lt_aft {w u : World} {b : Nat} (h : b < w.heap.size) : b < (aft w u).heap.size := Nat.lt_of_lt_of_le h (size_aft w u)
theorem le_aft {w u : World} {b : Nat} (h : b ≤ w.heap.size) : b ≤ (aft w u).heap.size := Nat.le_trans h (size_aft w u)
/-- What a cell of a block that came later holds: never looked into. -/
noncomputable def nwC (w u : World) (b o : Nat) : Option Value := (aft w u).cell? ⟨b, o, none⟩
noncomputable def nwF (w u : World) (b o : Nat) : Bool := (aft w u).frozen? ⟨b, o, none⟩
theorem aft_cell (w u : World) (b o : Nat) : (aft w u).cell? ⟨b, o, none⟩ = if b < w.heap.size then w.cell? ⟨b, o, none⟩ else nwC w u b o := by
  split
  · exact (below_aft w u).cell (p := ⟨b, o, none⟩) ‹_›
  · rfl
theorem aft_frozen (w u : World) (b o : Nat) : (aft w u).frozen? ⟨b, o, none⟩ = if b < w.heap.size then w.frozen? ⟨b, o, none⟩ else nwF w u b o := by
  split
  · exact (below_aft w u).frozen (p := ⟨b, o, none⟩) ‹_›
  · rfl
theorem alloc_cell (w : World) (c : Array Value) (t : TypeId) (b o : Nat) : (w.alloc (.cells c t)).cell? ⟨b, o, none⟩ = if b = w.heap.size then c[o]? else w.cell? ⟨b, o, none⟩ := by
  split
  · rename_i h; subst h; exact World.cell?_alloc_new w c t o
  · exact World.cell?_alloc_old w _ ⟨b, o, none⟩ ‹_›
theorem alloc_frozen (w : World) (c : Array Value) (t : TypeId) (b o : Nat) : (w.alloc (.cells c t)).frozen? ⟨b, o, none⟩ = if b = w.heap.size then false else w.frozen? ⟨b, o, none⟩ := by
  split
  · rename_i h; subst h; exact World.frozen?_alloc_new w c t o
  · exact World.frozen?_alloc_old w _ ⟨b, o, none⟩ ‹_›
theorem set_cell (w : World) (b o b' o' : Nat) (v : Value) : (w.setCell ⟨b, o, none⟩ v).cell? ⟨b', o', none⟩ = if b = b' ∧ o = o' then (w.cell? ⟨b, o, none⟩).map (fun _ => v) else w.cell? ⟨b', o', none⟩ := by
  split
  · rename_i h
    obtain ⟨rfl, rfl⟩ := h
    cases hc : w.cell? ⟨b, o, none⟩ with
    | none =>
      have e : (w.setCell ⟨b, o, none⟩ v).cell? ⟨b, o, none⟩ = none := by
        unfold World.cell? at hc ⊢
        simp only [World.setCell, Array.getElem?_modify]
        cases hb : w.heap[b]? with
        | none => simp
        | some x => rw [hb] at hc; cases x <;> simp at hc ⊢ <;> omega
      rw [e]; rfl
    | some x => exact World.cell?_setCell_same w _ v hc
  · rename_i h
    refine World.cell?_setCell_other w _ _ v ?_
    intro e
    injection e with e1 e2
    exact h ⟨e1, e2⟩
attribute [go_sem] aft_cell aft_frozen alloc_cell alloc_frozen set_cell

/-- 'Below', and no block has gone: closed under each step of a walk. -/
def Ext (B : Nat) (w W : World) : Prop := Below B w W ∧ B ≤ W.heap.size
theorem Ext.refl (w : World) : Ext w.heap.size w w := ⟨Below.refl _ _, Nat.le_refl _⟩
theorem Ext.alloc {B : Nat} {w W : World} (h : Ext B w W) (o : Obj) : Ext B w (W.alloc o) := ⟨h.1.alloc h.2 o, by have := h.2; simp; omega⟩
theorem Ext.aft {B : Nat} {w W : World} (h : Ext B w W) (u : World) : Ext B w (aft W u) := ⟨h.1.trans ((below_aft W u).mono h.2), le_aft h.2⟩
theorem Ext.drew {B : Nat} {w W : World} (h : Ext B w W) : Ext B w W.drew := ⟨h.1.drew, h.2⟩
theorem Ext.drewN {B : Nat} {w W : World} (h : Ext B w W) (n : Nat) : Ext B w (W.drewN n) := ⟨below_drewN h.1 n, h.2⟩
theorem Ext.setCell {B : Nat} {w W : World} (h : Ext B w W) (b o : Nat) (k : Option Nat) (v : Value) (hb : B ≤ b) : Ext B w (W.setCell ⟨b, o, k⟩ v) := ⟨h.1.setCell (p := ⟨b, o, k⟩) hb v, by have := h.2; simp [World.setCell]; omega⟩
theorem Ext.bel {w W : World} (h : Ext w.heap.size w W) : Below w.heap.size w W := h.1
theorem Ext.below {w W W' : World} (h : Ext w.heap.size w W) (k : Below W.heap.size W W') : Ext w.heap.size w W' := ⟨h.1.trans (k.mono h.2), Nat.le_trans h.2 k.size⟩

/-- A call of which the value is known, and that the world has at most grown. -/
theorem via {P : Program} {f : FuncId} {args : Array Value} {w : World} {v : Value} {R : Ending → World → Prop}
    (h : Calls P f args w fun e w' => e = .returned v ∧ Below w.heap.size w w') (hR : ∀ u, w.heap.size ≤ (aft w u).heap.size → R (.returned v) (aft w u)) : Calls P f args w R :=
  h.mono fun e w' ⟨he, hb⟩ => by subst he; obtain ⟨u, rfl⟩ := aft_ex hb; exact hR u (size_aft w u)
/-- A call of which the value is known, and that the world is as it was. -/
theorem pur {P : Program} {f : FuncId} {args : Array Value} {w : World} {v : Value} {R : Ending → World → Prop}
    (h : Calls P f args w fun e w' => e = .returned v ∧ w = w') (hR : R (.returned v) w) : Calls P f args w R :=
  h.mono fun e w' ⟨he, hb⟩ => by subst he; subst hb; exact hR
/-- The first as the second's weaker form. -/
theorem weak {P : Program} {f : FuncId} {args : Array Value} {w : World} {v : Value}
    (h : Calls P f args w fun e w' => e = .returned v ∧ w = w') : Calls P f args w fun e w' => e = .returned v ∧ Below w.heap.size w w' :=
  h.mono fun e w' ⟨he, hb⟩ => ⟨he, by subst hb; exact Below.refl _ _⟩

/-- A region that draws its order, whose operations read what was there at its beginning, and whose calls at most make memory: ONE walk, in the order of the text. -/
theorem wp_region_calm {P : Program} {id : Nat} {Q : Exit → Act → World → Prop} {a : Act} {w : World} {l : List Oper} (hm : P.follows .mixedOrders = true) (hB : Region.lexB .any l.toArray = true)
    (h : wpQuiet P l.toArray (fun w' => ∃ u, w' = aft w u) (fun a' => ∀ u, w.heap.size ≤ (aft w u).heap.size → Q .normal a' (aft w u)) l a) : (Code.region id l.toArray true).wp P Q a w :=
  wp_region_quiet (C := fun w' => ∃ u, w' = aft w u) hm hB (aft_ex (Below.drew (Below.refl w.heap.size w))) (by
    have e : (fun a' => ∀ u, w.heap.size ≤ (aft w u).heap.size → Q .normal a' (aft w u)) = (fun a' => ∀ w', (∃ u, w' = aft w u) → Q .normal a' w') := by
      funext a'; refine propext ⟨fun k w' ⟨u, hu⟩ => ?_, fun k u _ => k _ ⟨u, rfl⟩⟩
      subst hu; exact k u (size_aft w u)
    rw [e] at h
    simpa using h)
theorem calm {P : Program} {f : FuncId} {args : Array Value} {w u : World} {v : Value}
    (h : Calls P f args (aft w u) fun e w' => e = .returned v ∧ Below (aft w u).heap.size (aft w u) w') : Calls P f args (aft w u) fun e w'' => e = .returned v ∧ ∃ u', w'' = aft w u' :=
  h.mono fun _ _ ⟨he, hb⟩ => ⟨he, aft_ex ((below_aft w u).trans (hb.mono (size_aft w u)))⟩
theorem calmb {P : Program} {f : FuncId} {args : Array Value} {w u : World} {b c : Bool}
    (h : Calls P f args (aft w u) fun e w' => e = .returned (.bool b) ∧ Below (aft w u).heap.size (aft w u) w') (hb : b = c) : Calls P f args (aft w u) fun e w'' => e = .returned (.bool c) ∧ ∃ u', w'' = aft w u' :=
  by subst hb; exact calm h
theorem calmp {P : Program} {f : FuncId} {args : Array Value} {w u : World} {v : Value}
    (h : Calls P f args (aft w u) fun e w' => e = .returned v ∧ aft w u = w') : Calls P f args (aft w u) fun e w'' => e = .returned v ∧ ∃ u', w'' = aft w u' := calm (weak h)
theorem calmpb {P : Program} {f : FuncId} {args : Array Value} {w u : World} {b c : Bool}
    (h : Calls P f args (aft w u) fun e w' => e = .returned (.bool b) ∧ aft w u = w') (hb : b = c) : Calls P f args (aft w u) fun e w'' => e = .returned (.bool c) ∧ ∃ u', w'' = aft w u' := calmb (weak h) hb
end Go.Proofs.Ytganmeiaflkkoaa

/- Slices of int64: what a slice reads as; what a call has made. -/
namespace Go.Proofs.Ytganmeiaflkkoaa
open Go Go.RowKit

def vI (xs : List Int) : List Value := xs.map (Value.int .i64)
theorem vI_len (xs : List Int) : (vI xs).length = xs.length := by simp [vI]

/-- v owns, from block B on, a row of just these numbers. -/
def ownR (B : Nat) (w : World) (v : Value) (xs : List Int) : Prop := w.ownsRow B 2 1 v xs.length (vI xs)
/-- v reads as these numbers. -/
def rdI (w : World) (v : Value) (xs : List Int) : Prop :=
  ∃ a cap, v = .slice a xs.length cap ∧ xs.length ≤ maxLen ∧ (xs ≠ [] → ∃ b o, a = some ⟨b, o, none⟩ ∧ ∀ i, (h : i < xs.length) → w.cell? ⟨b, o + i, none⟩ = some (.int .i64 xs[i]))

theorem ownR.nil (B : Nat) (w : World) : ownR B w (.slice none 0 0) [] := World.ownsRow_nil _ _ _ _
theorem ownR.kept {B : Nat} {w w' : World} {v : Value} {xs : List Int} (h : ownR B w v xs) (hb : ∀ k, k < w.heap.size → v.ownBlock = some k → w'.heap[k]? = w.heap[k]?) : ownR B w' v xs := by
  unfold ownR at *
  refine ⟨h.1, ?_⟩
  rcases h.2 with hn | ⟨g, cap, cur, rfl, hg, hh, r⟩
  · exact .inl hn
  · have hlt : g < w.heap.size := (Array.getElem?_eq_some_iff.1 hh).1
    exact .inr ⟨g, cap, cur, rfl, hg, by rw [hb g hlt rfl]; exact hh, r⟩
theorem ownR.below {B : Nat} {w w' : World} {v : Value} {xs : List Int} (h : ownR B w v xs) (hb : Below w.heap.size w w') : ownR B w' v xs := h.kept fun k hk _ => hb.block k hk
theorem ownR.alloc {B : Nat} {w : World} {v : Value} {xs : List Int} (h : ownR B w v xs) (o : Obj) : ownR B (w.alloc o) v xs := h.below (Below.alloc (Below.refl _ _) (Nat.le_refl _) o)
theorem ownR.aft {B : Nat} {w : World} {v : Value} {xs : List Int} (h : ownR B w v xs) (u : World) : ownR B (aft w u) v xs := h.below (below_aft w u)
theorem ownR.drew {B : Nat} {w : World} {v : Value} {xs : List Int} (h : ownR B w v xs) : ownR B w.drew v xs := h.below (Below.drew (Below.refl _ _))
theorem ownR.mono {B B' : Nat} {w : World} {v : Value} {xs : List Int} (h : ownR B w v xs) (hB : B' ≤ B) : ownR B' w v xs := by
  refine ⟨h.1, ?_⟩
  rcases h.2 with hn | ⟨g, cap, cur, rfl, hg, r⟩
  · exact .inl hn
  · exact .inr ⟨g, cap, cur, rfl, Nat.le_trans hB hg, r⟩
theorem ownR.setCell {B : Nat} {w : World} {v : Value} {xs : List Int} (h : ownR B w v xs) (b o : Nat) (k : Option Nat) (x : Value) (hb : b < B) : ownR B (w.setCell ⟨b, o, k⟩ x) v xs := by
  refine ownR.kept h fun j _ hj => ?_
  have h1 := World.ownsRow.lt h j hj
  simp only [World.setCell, Array.getElem?_modify]
  rw [if_neg (by show ¬ b = j; omega)]
theorem ownR.rd {B : Nat} {w : World} {v : Value} {xs : List Int} (h : ownR B w v xs) : rdI w v xs := by
  rcases h.2 with ⟨rfl, hn⟩ | ⟨g, cap, cur, rfl, hg, hh, h1, h2, h3⟩
  · have : xs = [] := List.eq_nil_of_length_eq_zero hn
    subst this
    exact ⟨none, 0, rfl, by simp [maxLen], fun h => absurd rfl h⟩
  · refine ⟨_, cap, rfl, by omega, fun _ => ⟨g, 0, rfl, fun i hi => ?_⟩⟩
    have hc := World.ownsRow.cells h (g := g) rfl i (.int .i64 xs[i]) (by simp [vI, hi])
    by_cases h0 : i = 0
    · subst h0; simpa [Addr.add] using hc
    · simpa [Addr.add, h0] using hc
theorem rdI.below {w w' : World} {v : Value} {xs : List Int} (h : rdI w v xs) (hb : Below w.heap.size w w') : rdI w' v xs := by
  obtain ⟨a, cap, rfl, hm, hc⟩ := h
  refine ⟨a, cap, rfl, hm, fun hne => ?_⟩
  obtain ⟨b, o, rfl, hcell⟩ := hc hne
  refine ⟨b, o, rfl, fun i hi => ?_⟩
  have h1 := hcell i hi
  rw [hb.cell (p := ⟨b, o + i, none⟩) (World.block_lt_of_cell? w _ h1)]
  exact h1
theorem rdI.alloc {w : World} {v : Value} {xs : List Int} (h : rdI w v xs) (o : Obj) : rdI (w.alloc o) v xs := h.below (Below.alloc (Below.refl _ _) (Nat.le_refl _) o)
theorem rdI.aft {w : World} {v : Value} {xs : List Int} (h : rdI w v xs) (u : World) : rdI (aft w u) v xs := h.below (below_aft w u)
theorem rdI.drew {w : World} {v : Value} {xs : List Int} (h : rdI w v xs) : rdI w.drew v xs := h.below (Below.drew (Below.refl _ _))
theorem rdI.drewN {w : World} {v : Value} {xs : List Int} (h : rdI w v xs) (n : Nat) : rdI (w.drewN n) v xs := h.below (below_drewN (Below.refl _ _) n)

/-- A call that hands back a new slice. -/
theorem viaI {P : Program} {f : FuncId} {args : Array Value} {w : World} {xs : List Int} {g : Value → Value} {R : Ending → World → Prop}
    (h : Calls P f args w fun e w' => ∃ v, e = .returned (g v) ∧ ownR w.heap.size w' v xs ∧ Below w.heap.size w w')
    (hR : ∀ v u, w.heap.size ≤ (aft w u).heap.size → ownR w.heap.size (aft w u) v xs → R (.returned (g v)) (aft w u)) : Calls P f args w R :=
  h.mono fun e w' ⟨v, he, ho, hb⟩ => by subst he; obtain ⟨u, rfl⟩ := aft_ex hb; exact hR v u (size_aft w u) ho

theorem viaE {P : Program} {f : FuncId} {args : Array Value} {w : World} {xs ys : List Int} {g : Value → Value} {R : Ending → World → Prop}
    (h : Calls P f args w fun e w' => ∃ v, e = .returned (g v) ∧ ownR w.heap.size w' v xs ∧ Below w.heap.size w w') (he : xs = ys)
    (hR : ∀ v u, w.heap.size ≤ (aft w u).heap.size → ownR w.heap.size (aft w u) v ys → R (.returned (g v)) (aft w u)) : Calls P f args w R := by
  subst he; exact viaI h hR

/-- Behind an append to a row of the call's own. -/
theorem grown_aft {W w1 w2 : World} {row : Option Nat} (h : Ext W.heap.size W w1) (hg : w1.grownBy w2 row) (hr : ∀ k, row = some k → W.heap.size ≤ k) : ∃ u, w2 = aft W u :=
  aft_ex (h.1.grown hg h.2 hr)
theorem own_row_ge {B : Nat} {w : World} {v : Value} {xs : List Int} (h : ownR B w v xs) : ∀ k, v.ownBlock = some k → B ≤ k := fun k hk => (World.ownsRow.lt h k hk).1
theorem infoI : (Try.prog.info? 2).map (fun i => (i.zero, i.size, i.bytes)) = some (some (.int .i64 0), 1, 8) := by kernel_rfl
theorem ownR.snoc {B : Nat} {w : World} {v : Value} {xs : List Int} {x : Int} (h : w.ownsRow B 2 1 v (xs.length + 1) (vI xs ++ [.int .i64 x])) : ownR B w v (xs ++ [x]) := by
  unfold ownR; simpa [vI] using h
end Go.Proofs.Ytganmeiaflkkoaa

/- Contracts of the smallest number functions. -/
namespace Go.Proofs.Ytganmeiaflkkoaa
open Go Go.RowKit

def inB (n a b : Int) : Bool := decide (a ≤ n) && decide (n ≤ b)
theorem inB_t {n a b : Int} (h1 : a ≤ n) (h2 : n ≤ b) : inB n a b = true := by simp [inB, *]
theorem inB_l {n a b : Int} (h1 : n < a) : inB n a b = false := by simp [inB]; intro; omega
theorem inB_r {n a b : Int} (h1 : b < n) : inB n a b = false := by simp [inB]; intro; omega
theorem inB_iff {n a b : Int} : inB n a b = true ↔ a ≤ n ∧ n ≤ b := by simp [inB]

set_option maxHeartbeats 400000 in
theorem i_within (n a b : Int) (w : World) :
    Calls Try.prog 61 #[.int .i64 n, .int .i64 a, .int .i64 b] w fun e w' => e = .returned (.bool (inB n a b)) ∧ w = w' := by
  by_cases h1 : a ≤ n
  · by_cases h2 : n ≤ b
    · rw [inB_t h1 h2]; go_enter Try.func61, Try.ntmps61
      go_wp2
      go_ret
      exact ⟨rfl, rfl⟩
    · rw [inB_r (by omega)]; go_enter Try.func61, Try.ntmps61
      go_wp2
      go_ret
      exact ⟨rfl, rfl⟩
  · rw [inB_l (by omega)]; go_enter Try.func61, Try.ntmps61
    go_wp2
    go_ret
    exact ⟨rfl, rfl⟩

end Go.Proofs.Ytganmeiaflkkoaa

/- Plain arithmetic: primes. -/
namespace Go.Proofs.Ytganmeiaflkkoaa

def noDivB (n : Int) : Bool := (List.range 1001).all fun d => decide (d < 2) || decide (n < (d : Int) * d) || decide (n % (d : Int) ≠ 0)
/-- A prime number up to 1000000. -/
def primeB (n : Int) : Bool := decide (2 ≤ n) && decide (n ≤ 1000000) && noDivB n
/-- A prime number up to 97. -/
def smallP (n : Int) : Bool := decide (n ≤ 97) && primeB n

theorem noDiv_t {n : Int} {k : Nat} (h : ∀ j : Nat, 2 ≤ j → j < k → n % (j : Int) ≠ 0) (hk : n < (k : Int) * k) : noDivB n = true := by
  unfold noDivB
  rw [List.all_eq_true]
  intro d _
  by_cases h2 : d < 2
  · simp [h2]
  by_cases h3 : n < (d : Int) * d
  · simp [h3]
  have : d < k := by
    rcases Nat.lt_or_ge d k with h4 | h4
    · exact h4
    · have h6 : (k : Int) * k ≤ (d : Int) * d := Int.mul_le_mul (by omega) (by omega) (by omega) (by omega)
      omega
  have h7 := h d (by omega) this
  simp [h7]

theorem noDiv_f {n : Int} {k : Nat} (h2 : 2 ≤ k) (hk : (k : Int) * k ≤ n) (hn : n ≤ 1000000) (hm : n % (k : Int) = 0) : noDivB n = false := by
  unfold noDivB
  rw [List.all_eq_false]
  have hk1 : k < 1001 := by
    rcases Nat.lt_or_ge k 1001 with h | h
    · exact h
    · have h6 : (1001 : Int) * 1001 ≤ (k : Int) * k := Int.mul_le_mul (by omega) (by omega) (by omega) (by omega)
      omega
  refine ⟨k, List.mem_range.2 hk1, ?_⟩
  have a : ¬ k < 2 := by omega
  have b : ¬ n < (k : Int) * k := by omega
  simp [a, b, hm]

theorem sq_bd {k : Nat} (h : k ≤ 1001) : 0 ≤ (k : Int) * k ∧ (k : Int) * k ≤ 1002001 := by
  have h6 : (k : Int) * k ≤ (1001 : Int) * 1001 := Int.mul_le_mul (by omega) (by omega) (by omega) (by omega)
  have h7 : (0 : Int) ≤ (k : Int) * k := Int.mul_nonneg (by omega) (by omega)
  exact ⟨h7, by omega⟩

theorem sq_lt {n : Int} {k : Nat} (hn : n ≤ 1000000) (h : (k : Int) * k ≤ n) : k ≤ 1000 := by
  rcases Nat.lt_or_ge k 1001 with h' | h'
  · omega
  · have h6 : (1001 : Int) * 1001 ≤ (k : Int) * k := Int.mul_le_mul (by omega) (by omega) (by omega) (by omega)
    omega

theorem primeB_out {n : Int} (h : n < 2 ∨ 1000000 < n) : primeB n = false := by
  unfold primeB
  rcases h with h | h
  · have : ¬ 2 ≤ n := by omega
    simp [this]
  · have : ¬ n ≤ 1000000 := by omega
    simp [this]
theorem primeB_in {n : Int} (h1 : 2 ≤ n) (h2 : n ≤ 1000000) : primeB n = noDivB n := by simp [primeB, h1, h2]
theorem smallP_hi {n : Int} (h : 97 < n) : smallP n = false := by
  have : ¬ n ≤ 97 := by omega
  simp [smallP, this]
theorem smallP_lo {n : Int} (h : n ≤ 97) : smallP n = primeB n := by simp [smallP, h]
theorem smallP_bd {n : Int} (h : smallP n = true) : 2 ≤ n ∧ n ≤ 97 := by
  simp [smallP, primeB] at h
  omega
theorem smallP_prime {n : Int} (h : smallP n = true) : primeB n = true := by
  simp [smallP] at h
  exact h.2
theorem smallP_out {n : Int} (h : n < 2 ∨ 97 < n) : smallP n = false := by
  rcases h with h | h
  · by_cases h3 : n ≤ 97
    · rw [smallP_lo h3, primeB_out (.inl h)]
    · exact smallP_hi (by omega)
  · exact smallP_hi h
end Go.Proofs.Ytganmeiaflkkoaa

/- Contracts: primes. -/
namespace Go.Proofs.Ytganmeiaflkkoaa
open Go Go.RowKit

set_option maxHeartbeats 400000 in
theorem i_IsPrime (n : Int) (w : World) :
    Calls Try.prog 93 #[.int .i64 n] w fun e w' => e = .returned (.bool (primeB n)) ∧ w = w' := by
  by_cases h1 : 2 ≤ n ∧ n ≤ 1000000
  · obtain ⟨h1, h2⟩ := h1
    rw [primeB_in h1 h2]
    have hin := inB_t h1 h2
    go_enter Try.func93, Try.ntmps93
    go_wp2_with (go_at_call 61; refine (i_within _ _ _ _).mono ?_; rintro e w' ⟨rfl, rfl⟩)
    go_loop [3] (fun d => ∃ k : Nat, 2 ≤ k ∧ k ≤ 1001 ∧ d = .int .i64 k ∧ ∀ j : Nat, 2 ≤ j → j < k → n % (j : Int) ≠ 0) (fun d => 1001 - (intOf d).toNat)
    case atStart => exact ⟨2, by omega, by omega, rfl, by omega⟩
    case round =>
      obtain ⟨k, hk2, hk, rfl, hj⟩ := hrel
      have hq := sq_bd hk
      by_cases hlt : (k : Int) * k ≤ n
      · have hk3 := sq_lt h2 hlt
        by_cases hm : n % (k : Int) = 0
        · have HF := hid (noDiv_f hk2 hlt h2 hm)
          have hm' : (n % (k : Int) == 0) = true := by simp [hm]
          clear hm hj
          go_wp2
          go_ret
          exact ⟨by rw [HF.out]; rfl, rfl⟩
        · have hm' : (n % (k : Int) == 0) = false := by simp [hm]
          have Hj := hid hj
          clear hj
          have Hm := hid hm
          clear hm
          go_wp2
          go_round
          case rel => exact ⟨k + 1, by omega, by omega, by go_num, fun j a b => by rcases Nat.lt_or_ge j k with h | h; (exact Hj.out j a h); (obtain rfl : j = k := by omega); exact Hm.out⟩
          case measure => simp [intOf]; omega
      · have HF := hid (noDiv_t hj (by omega))
        clear hj
        go_wp2
        go_ret
        exact ⟨by rw [HF.out]; rfl, rfl⟩
  · rw [primeB_out (by omega)]
    have hin : inB n 2 1000000 = false := by
      rcases Int.lt_or_le n 2 with h | h
      · exact inB_l h
      · exact inB_r (by omega)
    go_enter Try.func93, Try.ntmps93
    go_wp2_with (go_at_call 61; refine (i_within _ _ _ _).mono ?_; rintro e w' ⟨rfl, rfl⟩)
    go_ret
    exact ⟨rfl, rfl⟩
end Go.Proofs.Ytganmeiaflkkoaa

/- Plain arithmetic: powers, remainders, valuations, moduli. -/
namespace Go.Proofs.Ytganmeiaflkkoaa

theorem pow_pos' {n : Int} (h : 1 ≤ n) (k : Nat) : 1 ≤ n ^ k := by
  induction k with
  | zero => simp
  | succ k ih => rw [Int.pow_succ]; have := Int.mul_le_mul ih h (by omega) (by omega); omega
theorem pow_mono {n : Int} (h : 1 ≤ n) {a b : Nat} (hab : a ≤ b) : n ^ a ≤ n ^ b := by
  induction hab with
  | refl => exact Int.le_refl _
  | step _ ih =>
    rename_i m _
    rw [Int.pow_succ]
    have h1 := pow_pos' h m
    have := Int.mul_le_mul (Int.le_refl (n ^ m)) h (by omega) (by omega)
    omega
theorem pow_step {n B : Int} {e k : Nat} (h : 1 ≤ n) (hb : n ^ e ≤ B) (hk : k < e) : 1 ≤ n ^ k ∧ n ^ k ≤ B ∧ 1 ≤ n ^ k * n ∧ n ^ k * n ≤ B := by
  have h1 := pow_pos' h k
  have h2 := pow_pos' h (k + 1)
  have h3 := pow_mono h (show k + 1 ≤ e from hk)
  have h4 := pow_mono h (show k ≤ e by omega)
  rw [Int.pow_succ] at h2 h3
  omega

theorem tmod_emod {n m : Int} : (n.tmod m) % m = n % m := by
  rw [Int.tmod_def, show n - m * n.tdiv m = n + m * (-(n.tdiv m)) by rw [Int.mul_neg]; omega, Int.add_mul_emod_self_left]
theorem tmod_bd {n m : Int} (h : 0 < m) : -m < n.tmod m ∧ n.tmod m < m := by
  refine ⟨Int.lt_tmod_of_pos _ h, Int.tmod_lt_of_pos _ h⟩
theorem mod_fix {n m : Int} (_h : 0 < m) : (n.tmod m + m) % m = n % m := by
  rw [Int.add_emod_right, tmod_emod]
theorem tmod_zero_iff {n p : Int} : n.tmod p = 0 ↔ n % p = 0 := by
  rw [← Int.dvd_iff_tmod_eq_zero, Int.dvd_iff_emod_eq_zero]

/-! ### How often p divides n -/
def vlF : Nat → Int → Int → Nat
  | 0, _, _ => 0
  | f + 1, n, p => if n % p = 0 then vlF f (n / p) p + 1 else 0
def vl (n p : Int) : Nat := vlF n.natAbs n p

theorem vlF_eq {p c : Int} (hp : 2 ≤ p) (hc : ¬ c % p = 0) : ∀ (k f : Nat), k ≤ f → vlF f (c * p ^ k) p = k := by
  intro k
  induction k with
  | zero =>
    intro f _
    cases f with
    | zero => rfl
    | succ f => simp only [Int.pow_zero, Int.mul_one, vlF]; rw [if_neg hc]
  | succ k ih =>
    intro f hf
    cases f with
    | zero => omega
    | succ f =>
      have e : c * p ^ (k + 1) = c * p ^ k * p := by rw [Int.pow_succ, Int.mul_assoc]
      simp only [vlF]
      rw [if_pos (by rw [e]; exact Int.mul_emod_left _ _), e, Int.mul_ediv_cancel _ (by omega), ih f (by omega)]
theorem pow_gt (p : Int) (hp : 2 ≤ p) (k : Nat) : (k : Int) < p ^ k := by
  induction k with
  | zero => simp
  | succ k ih =>
    rw [Int.pow_succ]
    have := Int.mul_le_mul (show (k : Int) + 1 ≤ p ^ k by omega) hp (by omega) (by omega)
    omega
theorem vl_eq {n p c : Int} {k : Nat} (hp : 2 ≤ p) (hn : n = c * p ^ k) (hc : ¬ c % p = 0) : vl n p = k := by
  unfold vl
  have h0 : c ≠ 0 := fun h => hc (by rw [h]; simp)
  have h1 := pow_gt p hp k
  have h2 : n.natAbs = c.natAbs * (p ^ k).natAbs := by rw [hn, Int.natAbs_mul]
  have h3 : 1 ≤ c.natAbs := by omega
  have h4 := Nat.mul_le_mul h3 (Nat.le_refl (p ^ k).natAbs)
  have h5 : k ≤ n.natAbs := by omega
  rw [hn] at h5 ⊢
  exact vlF_eq hp hc k _ h5
/-- n is p to the power of vl times something that p does not divide. -/
theorem vl_ex {p : Int} (hp : 2 ≤ p) : ∀ (f : Nat) (n : Int), n ≠ 0 → n.natAbs ≤ f → ∃ (c : Int) (k : Nat), n = c * p ^ k ∧ ¬ c % p = 0 := by
  intro f
  induction f with
  | zero => intro n h0 h; omega
  | succ f ih =>
    intro n h0 hf
    by_cases h : n % p = 0
    · have hd : n = n / p * p := by have := Int.ediv_mul_cancel (Int.dvd_of_emod_eq_zero h); omega
      have h1 : n / p ≠ 0 := fun h' => h0 (by rw [hd, h']; simp)
      have h2 : n.natAbs = (n / p).natAbs * p.natAbs := by rw [← Int.natAbs_mul, ← hd]
      have h3 := Nat.mul_le_mul (Nat.le_refl (n / p).natAbs) (show 2 ≤ p.natAbs by omega)
      obtain ⟨c, k, e, hc⟩ := ih (n / p) h1 (by omega)
      exact ⟨c, k + 1, by rw [Int.pow_succ, ← Int.mul_assoc, ← e]; exact hd, hc⟩
    · exact ⟨n, 0, by simp, h⟩
theorem vl_spec {n p : Int} (hp : 2 ≤ p) (hn : n ≠ 0) : ∃ c, n = c * p ^ vl n p ∧ ¬ c % p = 0 ∧ n / p ^ vl n p = c := by
  obtain ⟨c, k, e, hc⟩ := vl_ex hp n.natAbs n hn (Nat.le_refl _)
  have hk := vl_eq hp e hc
  have h1 := pow_pos' (show 1 ≤ p by omega) k
  rw [hk]
  exact ⟨c, e, hc, by rw [e]; exact Int.mul_ediv_cancel _ (by omega)⟩

/-! ### Moduli -/
def modu (p n : Int) : Int := if p ^ n.toNat ≤ 1000000000 then p ^ n.toNat else 0
/-- A valid ring. -/
def ringB (p n : Int) : Bool := smallP p && (decide (1 ≤ n) && decide (n ≤ 40) && decide (p ^ n.toNat ≤ 1000000000))
theorem ringB_iff {p n : Int} : ringB p n = true ↔ smallP p = true ∧ 1 ≤ n ∧ n ≤ 40 ∧ p ^ n.toNat ≤ 1000000000 := by
  simp [ringB, and_assoc]
theorem modu_ring {p n : Int} (h : ringB p n = true) : modu p n = p ^ n.toNat := by
  unfold modu; rw [if_pos (ringB_iff.1 h).2.2.2]
theorem pow_large {p : Int} (hp : 2 ≤ p) {k : Nat} (hk : 30 ≤ k) : 1000000000 < p ^ k := by
  have h1 : p ^ 30 ≤ p ^ k := pow_mono (by omega) hk
  have h2 : (2 : Int) ^ 30 ≤ p ^ 30 := by
    have h : ∀ j : Nat, (2 : Int) ^ j ≤ p ^ j := by
      intro j
      induction j with
      | zero => simp
      | succ j ih => rw [Int.pow_succ, Int.pow_succ]; exact Int.mul_le_mul ih hp (by omega) (by have := pow_pos' (show 1 ≤ p by omega) j; omega)
    exact h 30
  have h3 : (2 : Int) ^ 30 = 1073741824 := by decide
  omega
end Go.Proofs.Ytganmeiaflkkoaa

/- Contracts: remainders, powers, valuations, common divisors. -/
namespace Go.Proofs.Ytganmeiaflkkoaa
open Go Go.RowKit

theorem ret_i {a b : Int} (h : a = b) : Ending.returned (.int .i64 a) = .returned (.int .i64 b) := by rw [h]
theorem ret_b {a b : Bool} (h : a = b) : Ending.returned (.bool a) = .returned (.bool b) := by rw [h]

set_option maxHeartbeats 400000 in
theorem i_mod (n m : Int) (w : World) (h1 : 1 ≤ m) (h2 : m ≤ 4000000000000000000) :
    Calls Try.prog 36 #[.int .i64 n, .int .i64 m] w fun e w' => e = .returned (.int .i64 (n % m)) ∧ w = w' := by
  have hb := @tmod_bd n m (by omega)
  have HF := hid (@mod_fix n m (by omega))
  go_enter Try.func36, Try.ntmps36
  go_wp2
  go_ret
  exact ⟨ret_i HF.out, rfl⟩
set_option maxHeartbeats 400000 in
theorem s_mod (n m : Int) (w : World) (h1 : 1 ≤ m) (h2 : m ≤ 4000000000000000000) :
    Calls Try.prog 75 #[.int .i64 n, .int .i64 m] w fun e w' => e = .returned (.int .i64 (n % m)) ∧ w = w' := by
  have hb := @tmod_bd n m (by omega)
  have HF := hid (@mod_fix n m (by omega))
  go_enter Try.func75, Try.ntmps75
  go_wp2
  go_ret
  exact ⟨ret_i HF.out, rfl⟩

set_option maxHeartbeats 400000 in
theorem i_power (n e : Int) (w : World) (hn : 1 ≤ n) (he : e ≤ 4000000000000000000) (hb : n ^ e.toNat ≤ 4000000000000000000) :
    Calls Try.prog 73 #[.int .i64 n, .int .i64 e] w fun e1 w' => e1 = .returned (.int .i64 (n ^ e.toNat)) ∧ w = w' := by
  obtain ⟨P, hP⟩ : ∃ P, P = n ^ e.toNat := ⟨_, rfl⟩
  have hst := fun k (hk : k < e.toNat) => pow_step hn hb hk
  rw [← hP]
  have Hst := hid hst
  have HP := hid hP
  clear hst hP hb
  go_enter Try.func73, Try.ntmps73
  go_wp2_with fail
  go_loop [5, 7] (fun o i => ∃ k : Nat, k ≤ e.toNat ∧ i = .int .i64 k ∧ o = .int .i64 (n ^ k)) (fun _ i => e.toNat - (intOf i).toNat)
  case atStart => exact ⟨0, by omega, rfl, by simp⟩
  case round =>
    obtain ⟨k, hk, rfl, rfl⟩ := hrel
    by_cases hlt : (k : Int) < e
    · have hk2 : k < e.toNat := by omega
      have h := Hst.out k hk2
      go_wp2
      go_round
      case rel => exact ⟨k + 1, by omega, by go_num, by rw [Int.pow_succ]⟩
      case measure => simp [intOf]; omega
    · have e1 : k = e.toNat := by omega
      have He := hid e1
      clear e1
      go_wp2
      go_ret
      exact ⟨ret_i (by rw [HP.out, He.out]), rfl⟩
end Go.Proofs.Ytganmeiaflkkoaa

/- Readers of slices: sums, comparisons, marks. -/
namespace Go.Proofs.Ytganmeiaflkkoaa
open Go Go.RowKit

def lsum : List Int → Int
  | [] => 0
  | x :: r => x + lsum r
theorem lsum_snoc (xs : List Int) (x : Int) : lsum (xs ++ [x]) = lsum xs + x := by
  induction xs with
  | nil => simp [lsum]
  | cons y r ih => simp only [List.cons_append, lsum, ih]; omega
theorem take_snocI (xs : List Int) (k : Nat) (h : k < xs.length) : xs.take (k + 1) = xs.take k ++ [xs[k]] := by
  rw [List.take_succ_eq_append_getElem h]
theorem lsum_take {xs : List Int} {k : Nat} (h : k < xs.length) : lsum (xs.take (k + 1)) = lsum (xs.take k) + xs[k] := by rw [take_snocI _ _ h, lsum_snoc]
theorem lsum_bd {B : Int} (xs : List Int) (h : ∀ x ∈ xs, 0 ≤ x ∧ x ≤ B) : 0 ≤ lsum xs ∧ lsum xs ≤ B * xs.length := by
  induction xs with
  | nil => simp [lsum]
  | cons y r ih =>
    have h1 := h y (by simp)
    have h2 := ih (fun x hx => h x (by simp [hx]))
    have e : B * ((r.length + 1 : Nat) : Int) = B * (r.length : Int) + B := by rw [Int.natCast_add, Int.mul_add]; simp
    simp only [lsum, List.length_cons]
    rw [e]
    omega
theorem lsum_take_bd {xs : List Int} (h : ∀ x ∈ xs, 0 ≤ x ∧ x ≤ 1000) (hl : xs.length ≤ 1000) (k : Nat) : 0 ≤ lsum (xs.take k) ∧ lsum (xs.take k) ≤ 1000000 := by
  have h1 := lsum_bd (B := 1000) (xs.take k) (fun x hx => h x (List.mem_of_mem_take hx))
  have h2 : (xs.take k).length ≤ 1000 := by rw [List.length_take]; omega
  omega


end Go.Proofs.Ytganmeiaflkkoaa

/- Marks: slices of the call's own that are written and read again. -/
namespace Go.Proofs.Ytganmeiaflkkoaa
open Go Go.RowKit

open Classical in
noncomputable def aftB (B : Nat) (w u : World) : World := if Below B w u then u else w
theorem below_aftB (B : Nat) (w u : World) : Below B w (aftB B w u) := by
  unfold aftB; split
  · assumption
  · exact Below.refl _ _
theorem aftB_ex {B : Nat} {w w' : World} (h : Below B w w') : ∃ u, w' = aftB B w u := ⟨w', by unfold aftB; rw [if_pos h]⟩
theorem size_aftB (B : Nat) (w u : World) : w.heap.size ≤ (aftB B w u).heap.size := (below_aftB B w u).size
noncomputable def nwCB (B : Nat) (w u : World) (b o : Nat) : Option Value := (aftB B w u).cell? ⟨b, o, none⟩
noncomputable def nwFB (B : Nat) (w u : World) (b o : Nat) : Bool := (aftB B w u).frozen? ⟨b, o, none⟩
theorem aftB_cell (B : Nat) (w u : World) (b o : Nat) : (aftB B w u).cell? ⟨b, o, none⟩ = if b < B then w.cell? ⟨b, o, none⟩ else nwCB B w u b o := by
  split
  · exact (below_aftB B w u).cell (p := ⟨b, o, none⟩) ‹_›
  · rfl
theorem aftB_frozen (B : Nat) (w u : World) (b o : Nat) : (aftB B w u).frozen? ⟨b, o, none⟩ = if b < B then w.frozen? ⟨b, o, none⟩ else nwFB B w u b o := by
  split
  · exact (below_aftB B w u).frozen (p := ⟨b, o, none⟩) ‹_›
  · rfl
attribute [go_sem] aftB_cell aftB_frozen
theorem Ext.aftB {B : Nat} {w W : World} (h : Ext B w W) (B' : Nat) (u : World) (hB : B ≤ B') : Ext B w (aftB B' W u) := ⟨h.1.trans ((below_aftB B' W u).mono hB), Nat.le_trans h.2 (size_aftB _ _ _)⟩

/-- v's row lies below L. -/
def rowLt (L : Nat) (v : Value) : Prop := ∀ k, v.ownBlock = some k → k < L
theorem rowLt.mono {L L' : Nat} {v : Value} (h : rowLt L v) (hl : L ≤ L') : rowLt L' v := fun k hk => Nat.lt_of_lt_of_le (h k hk) hl
theorem ownR.rowLt {B : Nat} {w : World} {v : Value} {xs : List Int} (h : ownR B w v xs) : rowLt w.heap.size v := fun k hk => (World.ownsRow.lt h k hk).2
theorem ownR.aftB {B0 B : Nat} {w : World} {v : Value} {xs : List Int} (h : ownR B0 w v xs) (u : World) (hl : Go.Proofs.Ytganmeiaflkkoaa.rowLt B v) : ownR B0 (aftB B w u) v xs :=
  h.kept fun k _ hk => (below_aftB B w u).block k (hl k hk)
theorem rdI.aftB {B L : Nat} {w : World} {v : Value} {xs : List Int} (h : rdI w v xs) (u : World) (hl : rowLt L v) (hB : L ≤ B) : rdI (aftB B w u) v xs := by
  obtain ⟨a, cap, rfl, hm, hc⟩ := h
  refine ⟨a, cap, rfl, hm, fun hne => ?_⟩
  obtain ⟨b, o, rfl, hcell⟩ := hc hne
  refine ⟨b, o, rfl, fun i hi => ?_⟩
  have h1 := hcell i hi
  have h2 := hl b rfl
  rw [(below_aftB B w u).cell (p := ⟨b, o + i, none⟩) (show b < B by omega)]
  exact h1

theorem rdI.belowB {B L : Nat} {w w' : World} {v : Value} {xs : List Int} (hb : Below B w w') (h : rdI w v xs) (hl : Go.Proofs.Ytganmeiaflkkoaa.rowLt L v) (hB : L ≤ B) : rdI w' v xs := by
  obtain ⟨u, rfl⟩ := aftB_ex hb; exact h.aftB u hl hB
theorem le_aftB {B b : Nat} {w u : World} (h : b ≤ w.heap.size) : b ≤ (Go.Proofs.Ytganmeiaflkkoaa.aftB B w u).heap.size := Nat.le_trans h (size_aftB B w u)
theorem le_alloc {b : Nat} {w : World} {o : Obj} (h : b ≤ w.heap.size) : b ≤ (w.alloc o).heap.size := by simp; omega
theorem le_set {b : Nat} {w : World} {a : Addr} {v : Value} (h : b ≤ w.heap.size) : b ≤ (w.setCell a v).heap.size := by simpa using h

def marks (k : Int) (n : Nat) : List Int := (List.range n).map fun (i : Nat) => k + (i : Int)
theorem marks_len (k : Int) (n : Nat) : (marks k n).length = n := by simp [marks]
theorem marks_succ (k : Int) (n : Nat) : marks k (n + 1) = marks k n ++ [k + n] := by simp [marks, List.range_succ]

theorem mark_step {k : Int} {xs : List Int} {j : Nat} (h : j < xs.length) :
    (vI (marks k j ++ xs.drop j)).set j (.int .i64 (k + j)) = vI (marks k (j + 1) ++ xs.drop (j + 1)) := by
  have e : (marks k j ++ xs.drop j).set j (k + j) = marks k (j + 1) ++ xs.drop (j + 1) := by
    have hl := marks_len k j
    rw [List.set_append_right _ _ (by omega), hl, Nat.sub_self, List.drop_eq_getElem_cons h, List.set_cons_zero, marks_succ, List.append_assoc]
    rfl
  rw [← e]
  simp [vI, List.map_set]
theorem grownBy_refl (w : World) (row : Option Nat) : w.grownBy w row := ⟨rfl, rfl, rfl, Nat.le_refl _, fun _ _ _ => rfl⟩
theorem grownBy_trans {a b c : World} {row : Option Nat} (h : a.grownBy b row) (k : b.grownBy c row) : a.grownBy c row :=
  ⟨k.os.trans h.os, k.tape.trans h.tape, k.output.trans h.output, Nat.le_trans h.size k.size, fun i hi hn => (k.block i (Nat.lt_of_lt_of_le hi h.size) hn).trans (h.block i hi hn)⟩


end Go.Proofs.Ytganmeiaflkkoaa

/- A copy of a slice: laws.toInt64S. -/
namespace Go.Proofs.Ytganmeiaflkkoaa
open Go Go.RowKit

/-- The first j numbers, then noughts. -/
def part (xs : List Int) (j : Nat) : List Int := xs.take j ++ List.replicate (xs.length - j) 0
theorem part_len {xs : List Int} {j : Nat} (h : j ≤ xs.length) : (part xs j).length = xs.length := by simp [part]; omega
theorem part_all (xs : List Int) : part xs xs.length = xs := by simp [part]
theorem part_zero (xs : List Int) : part xs 0 = List.replicate xs.length 0 := by simp [part]
theorem part_step {xs : List Int} {j : Nat} (h : j < xs.length) : (vI (part xs j)).set j (.int .i64 xs[j]) = vI (part xs (j + 1)) := by
  have e : (part xs j).set j xs[j] = part xs (j + 1) := by
    unfold part
    have hl : (xs.take j).length = j := by rw [List.length_take]; omega
    obtain ⟨d, hd⟩ : ∃ d, xs.length - j = d + 1 := ⟨xs.length - j - 1, by omega⟩
    rw [List.set_append_right _ _ (by omega), hl, Nat.sub_self, hd, List.replicate_succ, List.set_cons_zero, take_snocI _ _ h, List.append_assoc, show xs.length - (j + 1) = d by omega]
    rfl
  rw [← e]
  simp [vI, List.map_set]
theorem vI_zeros (n : Nat) : (madeCells #[Value.int .i64 0] n).toList = vI (List.replicate n 0) := by
  rw [toList_madeCells_one]; simp [vI]

end Go.Proofs.Ytganmeiaflkkoaa

/- Copies of slices, slices without noughts at their ends: both texts. -/
namespace Go.Proofs.Ytganmeiaflkkoaa
open Go Go.RowKit

/-- Nothing is appended. -/
theorem wpList_append_nothing {P : Program} {w : World} {ops : Array Oper} {rest : List Oper} {o : Oper} {a : Act} {Q : Exit → Act → World → Prop} (hgd : o.guard = none) (s x : Operand) (t : TypeId)
    (ho : o.op = .call { callee := .builtin .append, args := #[s, x], argTypes := #[t, t] })
    (e : TypeId) (i : TypeInfo) (ht : P.underlying t = some (.slice e)) (hi : P.info? e = some i)
    (b off n cap c : Nat) (hs : a.eval s = .slice (some ⟨b, off, none⟩) n cap) (hn : n ≤ cap) (hx : a.eval x = .slice none 0 c)
    (h : wpList P ops Q rest (a.put o.dst (.slice (some ⟨b, off, none⟩) n cap)) w) : wpList P ops Q (o :: rest) a w := by
  refine wpList_plain hgd fun K hK => ?_
  have hrun := run_append_room_src (P := P) w t t o.type e i ht hi b off n cap (.slice none 0 c) 0 [] (Src.ofNil w ht c) (by omega) (fun j hj => by simp at hj) (fun j hj => by simp at hj)
  have hw : w.setCells b (off + n * i.size) [] = w := rfl
  rw [hw] at hrun
  unfold Oper.wp
  simp [execOp, ho, resolve, invoke, builtin, hs, hx, hrun, Result.andThen]
  exact hK _ _ h

theorem rd_news {w : World} {b o cap : Nat} {xs : List Int} (h : rdI w (.slice (some ⟨b, o, none⟩) xs.length cap) xs) : ∀ j u, (vI xs)[j]? = some u → w.cell? ((⟨b, o, none⟩ : Addr).add j) = some u := by
  intro j u hj
  obtain ⟨a, cap', he, hm, hc⟩ := h
  cases he
  obtain ⟨hlt, hu⟩ := List.getElem?_eq_some_iff.1 hj
  have hlt' : j < xs.length := by rwa [vI_len] at hlt
  obtain ⟨b', o', he2, hcell⟩ := hc (by intro e; subst e; simp at hlt')
  cases he2
  rw [Addr.add_lit, hcell j hlt', ← hu]
  simp [vI]
theorem vI_one (xs : List Int) : ∀ u ∈ vI xs, u.oneCell' = true := by
  intro u hu
  simp only [vI, List.mem_map] at hu
  obtain ⟨x, _, rfl⟩ := hu
  rfl
theorem rd_none {w : World} {n cap : Nat} {xs : List Int} (h : rdI w (.slice none n cap) xs) : xs = [] ∧ n = 0 := by
  obtain ⟨a, cap', he, hm, hc⟩ := h
  cases he
  rcases xs with _ | ⟨x, r⟩
  · exact ⟨rfl, rfl⟩
  · obtain ⟨b, o, e, _⟩ := hc (by simp)
    cases e
theorem rd_some {w : World} {n cap : Nat} {a : Addr} {xs : List Int} (h : rdI w (.slice (some a) n cap) xs) : n = xs.length ∧ n ≤ maxLen := by
  obtain ⟨a', cap', he, hm, hc⟩ := h
  cases he
  exact ⟨rfl, hm⟩

theorem own_made (w : World) : ownR w.heap.size (w.alloc (.cells #[] 2)) (.slice (some ⟨w.heap.size, 0, none⟩) 0 0) [] :=
  World.ownsRow_made w #[] 0 (Nat.le_refl _) (by simp [maxLen]) (by simp)

set_option maxRecDepth 20000 in
set_option maxHeartbeats 2000000 in
theorem i_clone (r : Value) (xs : List Int) (w : World) (h : rdI w r xs) (hl : xs.length ≤ 1000000) :
    Calls Try.prog 35 #[r] w fun e w' => ∃ v, e = .returned v ∧ ownR w.heap.size w' v xs ∧ Below w.heap.size w w' := by
  obtain ⟨i0, hi, hz0, hz1, hz2⟩ := info_parts infoI
  have q : ∀ (w : World) (a : Option Addr) (n c n' c' : Nat), (binOp .eql 26 (.slice a n c) (.slice none n' c')).run Try.prog w = .ok (.bool a.isNone) w := fun w a n c n' c' => Lib.run_eql_slice_nil w _ _ a n c n' c' Try.underlying26
  obtain ⟨a, cap, rfl, _, _⟩ := id h
  rcases a with _ | a
  · obtain ⟨rfl, _⟩ := rd_none h
    clear h
    simp only [List.length_nil]
    go_enter Try.func35, Try.ntmps35
    go_wp2_with (at_builtin; refine wpList_append_nothing rfl _ _ 26 rfl 2 i0 Try.underlying26 hi w.heap.size 0 0 0 cap rfl (Nat.le_refl _) rfl ?_)
    go_ret
    first
      | exact ⟨_, rfl, ownR.nil _ _, (by refine Ext.bel ?_; repeat (with_reducible first | exact Ext.refl _ | apply Ext.alloc | apply Ext.aft | apply Ext.drew | apply Ext.drewN | apply Ext.setCell | exact Nat.le_add_right _ _ | exact Nat.le_refl _ | (simp; done) | omega))⟩
      | exact ⟨_, rfl, own_made w, (by refine Ext.bel ?_; repeat (with_reducible first | exact Ext.refl _ | apply Ext.alloc | apply Ext.aft | apply Ext.drew | apply Ext.drewN | apply Ext.setCell | exact Nat.le_add_right _ _ | exact Nat.le_refl _ | (simp; done) | omega))⟩
  · obtain ⟨b, o, k⟩ := a
    have hk : xs = [] ∨ k = none := by
      obtain ⟨a', cap', he, hm, hc⟩ := id h
      cases he
      rcases xs with _ | ⟨x, r⟩
      · exact .inl rfl
      · obtain ⟨b', o', e, _⟩ := hc (by simp)
        cases e
        exact .inr rfl
    obtain ⟨a, ha⟩ : ∃ a : Addr, a = ⟨b, o, k⟩ := ⟨_, rfl⟩
    have HN : Hid (∀ j u, (vI xs)[j]? = some u → (w.alloc (.cells #[] 2)).cell? (a.add j) = some u) := hid (by
      rcases hk with rfl | rfl
      · intro j u hj; simp [vI] at hj
      · subst ha; exact rd_news (h.alloc _))
    rw [← ha]
    have H1 := hid (vI_one xs)
    clear h ha hk
    go_enter Try.func35, Try.ntmps35
    go_wp2_with (at_builtin; refine wpList_append_own _ rfl _ _ 26 rfl w.heap.size 2 i0 (.int .i64 0) 1 8 Try.underlying26 hi hz0 hz1 hz2 rfl (by decide) _ _ _ rfl (own_made w) a xs.length cap (vI xs) rfl (by rw [vI_len, Nat.mul_one]) HN.out H1.out (by simp only [List.length_nil]; unfold maxLen; omega) (by simp only [List.length_nil]; omega) (by simp) ?_)
    intro v' w1 hown hgr _
    have HO : Hid (ownR w.heap.size w1 v' xs) := hid (by unfold ownR; simpa [vI] using hown)
    have HB : Hid (Below w.heap.size w w1) := hid (((Below.refl _ w).alloc (Nat.le_refl _) _).grown hgr (by simp) (by intro k hk; simp [Value.ownBlock] at hk; omega))
    clear hown hgr
    go_wp2_with fail
    go_ret
    exact ⟨_, rfl, HO.out, HB.out⟩
set_option maxRecDepth 20000 in
set_option maxHeartbeats 2000000 in
theorem s_own (r : Value) (xs : List Int) (w : World) (h : rdI w r xs) (hl : xs.length ≤ 1000000) :
    Calls Try.prog 74 #[r] w fun e w' => ∃ v, e = .returned v ∧ ownR w.heap.size w' v xs ∧ Below w.heap.size w w' := by
  obtain ⟨i0, hi, hz0, hz1, hz2⟩ := info_parts infoI
  have q : ∀ (w : World) (a : Option Addr) (n c n' c' : Nat), (binOp .eql 26 (.slice a n c) (.slice none n' c')).run Try.prog w = .ok (.bool a.isNone) w := fun w a n c n' c' => Lib.run_eql_slice_nil w _ _ a n c n' c' Try.underlying26
  obtain ⟨a, cap, rfl, _, _⟩ := id h
  rcases a with _ | a
  · obtain ⟨rfl, _⟩ := rd_none h
    clear h
    simp only [List.length_nil]
    go_enter Try.func74, Try.ntmps74
    go_wp2_with (at_builtin; refine wpList_append_nothing rfl _ _ 26 rfl 2 i0 Try.underlying26 hi w.heap.size 0 0 0 cap rfl (Nat.le_refl _) rfl ?_)
    go_ret
    first
      | exact ⟨_, rfl, ownR.nil _ _, (by refine Ext.bel ?_; repeat (with_reducible first | exact Ext.refl _ | apply Ext.alloc | apply Ext.aft | apply Ext.drew | apply Ext.drewN | apply Ext.setCell | exact Nat.le_add_right _ _ | exact Nat.le_refl _ | (simp; done) | omega))⟩
      | exact ⟨_, rfl, own_made w, (by refine Ext.bel ?_; repeat (with_reducible first | exact Ext.refl _ | apply Ext.alloc | apply Ext.aft | apply Ext.drew | apply Ext.drewN | apply Ext.setCell | exact Nat.le_add_right _ _ | exact Nat.le_refl _ | (simp; done) | omega))⟩
  · obtain ⟨b, o, k⟩ := a
    have hk : xs = [] ∨ k = none := by
      obtain ⟨a', cap', he, hm, hc⟩ := id h
      cases he
      rcases xs with _ | ⟨x, r⟩
      · exact .inl rfl
      · obtain ⟨b', o', e, _⟩ := hc (by simp)
        cases e
        exact .inr rfl
    obtain ⟨a, ha⟩ : ∃ a : Addr, a = ⟨b, o, k⟩ := ⟨_, rfl⟩
    have HN : Hid (∀ j u, (vI xs)[j]? = some u → (w.alloc (.cells #[] 2)).cell? (a.add j) = some u) := hid (by
      rcases hk with rfl | rfl
      · intro j u hj; simp [vI] at hj
      · subst ha; exact rd_news (h.alloc _))
    rw [← ha]
    have H1 := hid (vI_one xs)
    clear h ha hk
    go_enter Try.func74, Try.ntmps74
    go_wp2_with (at_builtin; refine wpList_append_own _ rfl _ _ 26 rfl w.heap.size 2 i0 (.int .i64 0) 1 8 Try.underlying26 hi hz0 hz1 hz2 rfl (by decide) _ _ _ rfl (own_made w) a xs.length cap (vI xs) rfl (by rw [vI_len, Nat.mul_one]) HN.out H1.out (by simp only [List.length_nil]; unfold maxLen; omega) (by simp only [List.length_nil]; omega) (by simp) ?_)
    intro v' w1 hown hgr _
    have HO : Hid (ownR w.heap.size w1 v' xs) := hid (by unfold ownR; simpa [vI] using hown)
    have HB : Hid (Below w.heap.size w w1) := hid (((Below.refl _ w).alloc (Nat.le_refl _) _).grown hgr (by simp) (by intro k hk; simp [Value.ownBlock] at hk; omega))
    clear hown hgr
    go_wp2_with fail
    go_ret
    exact ⟨_, rfl, HO.out, HB.out⟩
end Go.Proofs.Ytganmeiaflkkoaa

/- slices.IndexFunc and slices.ContainsFunc over numbers, for whatever predicate. -/
namespace Go.Proofs.Ytganmeiaflkkoaa
open Go Go.RowKit

/-- What is asked of a predicate: in every world in which all that lay in w lies, it tells p and leaves such a world. -/
def predC (g : Nat) (lb : Array Value) (p : Int → Bool) (w : World) : Prop :=
  ∀ (W : World) (x : Int), Below w.heap.size w W → Calls Try.prog g (#[.int .i64 x] ++ lb) W fun e w' => e = .returned (.bool (p x)) ∧ Below w.heap.size w w'

/-- A call of a function with a body enters it. -/
theorem entersT {f : FuncId} {fn : Func} {c : Code} (hf : Try.prog.funcs[f]? = some fn) (hname : (fn.name == "runtime.NumGoroutine") = false) (hb : fn.body = some c) : ∀ (args : Array Value) (w : World), (callFunc f args).run Try.prog w = .ok (.enter f args) w := by
  intro args w
  have h1 : fn.name ≠ "runtime.NumGoroutine" := by simpa using hname
  simp [callFunc, hf, h1, hb, mark]
theorem any_take_f {xs : List Int} {p : Int → Bool} {k : Nat} (h : k < xs.length) (h1 : (xs.take k).any p = false) (h2 : p xs[k] = false) : (xs.take (k + 1)).any p = false := by
  rw [take_snocI _ _ h, List.any_append, h1]; simp [h2]
theorem any_hit {xs : List Int} {p : Int → Bool} {k : Nat} (h : k < xs.length) (h2 : p xs[k] = true) : xs.any p = true := List.any_eq_true.2 ⟨_, List.getElem_mem h, h2⟩

set_option maxHeartbeats 2000000 in
theorem lib_index (g : Nat) (lb : Array Value) (p : Int → Bool) (eg : ∀ args w, (callFunc g args).run Try.prog w = .ok (.enter g args) w) (r : Value) (xs : List Int) (w : World) (h : rdI w r xs) (hp : predC g lb p w) :
    Calls Try.prog 84 #[r, .func (.func g) #[] lb] w fun e w' => ∃ k : Int, e = .returned (.int .i64 k) ∧ xs.any p = decide (0 ≤ k) ∧ Below w.heap.size w w' := by
  obtain ⟨a, cap, rfl, hm, hc⟩ := h
  have Hc := hid hc
  have Hp := hid hp
  unfold maxLen at hm
  clear hc hp
  go_enter Try.func84, Try.ntmps84
  go_wp2_with fail
  go_loopw [5, 8] (fun _ i wr => ∃ k : Nat, k ≤ xs.length ∧ i = .int .i64 k ∧ Hid (Below w.heap.size w wr) ∧ Hid ((xs.take k).any p = false)) (fun _ i _ => xs.length - (intOf i).toNat)
  case atStart => exact ⟨0, by omega, rfl, hid (Below.refl _ _), hid (by simp)⟩
  case round =>
    obtain ⟨k, hk, rfl, HB, HA⟩ := hrel
    by_cases hlt : k < xs.length
    · obtain ⟨b, o, rfl, hcell⟩ := Hc.out (by intro e; subst e; simp at hlt)
      have h1 := hcell k hlt
      have h2 := HB.out.cell (p := ⟨b, o + k, none⟩) (World.block_lt_of_cell? w _ h1)
      rw [h1] at h2
      have hcall := Hp.out _ xs[k] HB.out
      obtain ⟨x, hx⟩ : ∃ x, x = xs[k] := ⟨_, rfl⟩
      rw [← hx] at h2 hcall
      have HX := hid hx
      have hltz : (k : Int) < (xs.length : Int) := by omega
      clear hx hcell h1
      cases hq : p x with
      | true =>
        rw [hq] at hcall
        have HQ := hid hq
        clear hq
        go_wp2_with fail
        refine hcall.mono ?_
        rintro e w' ⟨rfl, hb'⟩
        go_wp2_with fail
        go_ret
        exact ⟨_, rfl, by rw [any_hit hlt (by rw [← HX.out]; exact HQ.out)]; simp, hb'⟩
      | false =>
        rw [hq] at hcall
        have HQ := hid hq
        clear hq
        go_wp2_with fail
        refine hcall.mono ?_
        rintro e w' ⟨rfl, hb'⟩
        go_wp2_with fail
        go_roundw
        case rel => exact ⟨k + 1, by omega, by go_num, hid hb', hid (any_take_f hlt HA.out (by rw [← HX.out]; exact HQ.out))⟩
        case measure => simp only [intOf]; omega
    · obtain rfl : k = xs.length := by omega
      have hltz : ¬ (xs.length : Int) < (xs.length : Int) := by omega
      have HN := hid (show xs.any p = false by have := HA.out; rwa [List.take_length] at this)
      go_wp2
      go_ret
      exact ⟨_, rfl, by rw [HN.out]; simp, HB.out⟩

set_option maxHeartbeats 1000000 in
theorem lib_contains (g : Nat) (lb : Array Value) (p : Int → Bool) (eg : ∀ args w, (callFunc g args).run Try.prog w = .ok (.enter g args) w) (r : Value) (xs : List Int) (w : World) (h : rdI w r xs) (hp : predC g lb p w) :
    Calls Try.prog 54 #[r, .func (.func g) #[] lb] w fun e w' => e = .returned (.bool (xs.any p)) ∧ Below w.heap.size w w' := by
  obtain ⟨B, hB⟩ : ∃ B, B = xs.any p := ⟨_, rfl⟩
  rw [← hB]
  have HB := hid hB
  clear hB
  go_enter Try.func54, Try.ntmps54
  go_wp2_with (go_at_call 84; refine (lib_index g lb p eg r xs _ h hp).mono ?_; rintro e w' ⟨k, rfl, hk, hb⟩; have HK := hid hk; clear hk)
  go_ret
  exact ⟨ret_b (by rw [HB.out, HK.out]), hb⟩

/-- The same with its answer under a name. -/
theorem lib_containsB (g : Nat) (lb : Array Value) (p : Int → Bool) (eg : ∀ args w, (callFunc g args).run Try.prog w = .ok (.enter g args) w) (r : Value) (xs : List Int) (w : World) (h : rdI w r xs) (hp : predC g lb p w) (c : Bool) (hc : xs.any p = c) :
    Calls Try.prog 54 #[r, .func (.func g) #[] lb] w fun e w' => e = .returned (.bool c) ∧ Below w.heap.size w w' := by
  subst hc; exact lib_contains g lb p eg r xs w h hp
end Go.Proofs.Ytganmeiaflkkoaa

/- Contracts: common divisors. -/
namespace Go.Proofs.Ytganmeiaflkkoaa
open Go Go.RowKit

theorem gcd_step (x y : Int) : Int.gcd y (x.tmod y) = Int.gcd x y := by
  rw [Int.tmod_def, Int.gcd_sub_mul_left_right, Int.gcd_comm]
theorem gcd_bd {x y B : Int} (hx : -B ≤ x ∧ x ≤ B) (hy : -B ≤ y ∧ y ≤ B) : (Int.gcd x y : Int) ≤ B := by
  by_cases h : x = 0
  · rw [h, Int.zero_gcd]; omega
  · have := Int.gcd_le_natAbs_left y h; omega

end Go.Proofs.Ytganmeiaflkkoaa

/- Contracts: ranges, primes of the reference, moduli. -/
namespace Go.Proofs.Ytganmeiaflkkoaa
open Go Go.RowKit

set_option maxHeartbeats 400000 in
theorem s_in (n a b : Int) (w : World) :
    Calls Try.prog 57 #[.int .i64 n, .int .i64 a, .int .i64 b] w fun e w' => e = .returned (.bool (inB n a b)) ∧ w = w' := by
  by_cases h1 : a ≤ n
  · by_cases h2 : n ≤ b
    · rw [inB_t h1 h2]; go_enter Try.func57, Try.ntmps57
      go_wp2
      go_ret
      exact ⟨rfl, rfl⟩
    · rw [inB_r (by omega)]; go_enter Try.func57, Try.ntmps57
      go_wp2
      go_ret
      exact ⟨rfl, rfl⟩
  · rw [inB_l (by omega)]; go_enter Try.func57, Try.ntmps57
    go_wp2
    go_ret
    exact ⟨rfl, rfl⟩

set_option maxHeartbeats 400000 in
theorem i_isValue (n : Int) (w : World) :
    Calls Try.prog 96 #[.int .i64 n] w fun e w' => e = .returned (.bool (inB n (-1000000000000) 1000000000000)) ∧ w = w' := by
  go_enter Try.func96, Try.ntmps96
  go_wp2_with (go_at_call 61; refine (i_within _ _ _ _).mono ?_; rintro e w' ⟨rfl, rfl⟩)
  go_ret
  exact ⟨rfl, rfl⟩
theorem in_lo {n a b : Int} (h : n < a) : inB n a b = false := inB_l h

set_option maxHeartbeats 400000 in
theorem s_prime (n : Int) (w : World) (hn : n ≤ 1000000) :
    Calls Try.prog 92 #[.int .i64 n] w fun e w' => e = .returned (.bool (primeB n)) ∧ w = w' := by
  by_cases h1 : 2 ≤ n
  · rw [primeB_in h1 hn]
    go_enter Try.func92, Try.ntmps92
    go_wp2
    go_loop [3] (fun d => ∃ k : Nat, 2 ≤ k ∧ k ≤ 1001 ∧ d = .int .i64 k ∧ ∀ j : Nat, 2 ≤ j → j < k → n % (j : Int) ≠ 0) (fun d => 1001 - (intOf d).toNat)
    case atStart => exact ⟨2, by omega, by omega, rfl, by omega⟩
    case round =>
      obtain ⟨k, hk2, hk, rfl, hj⟩ := hrel
      have hq := sq_bd hk
      by_cases hlt : (k : Int) * k ≤ n
      · have hk3 := sq_lt hn hlt
        by_cases hm : n % (k : Int) = 0
        · have HF := hid (noDiv_f hk2 hlt hn hm)
          have hm' : (n % (k : Int) == 0) = true := by simp [hm]
          clear hm hj
          go_wp2
          go_ret
          exact ⟨by rw [HF.out]; rfl, rfl⟩
        · have hm' : (n % (k : Int) == 0) = false := by simp [hm]
          have Hj := hid hj
          clear hj
          have Hm := hid hm
          clear hm
          go_wp2
          go_round
          case rel => exact ⟨k + 1, by omega, by omega, by go_num, fun j a b => by rcases Nat.lt_or_ge j k with h | h; (exact Hj.out j a h); (obtain rfl : j = k := by omega); exact Hm.out⟩
          case measure => simp [intOf]; omega
      · have HF := hid (noDiv_t hj (by omega))
        clear hj
        go_wp2
        go_ret
        exact ⟨by rw [HF.out]; rfl, rfl⟩
  · rw [primeB_out (by omega)]
    go_enter Try.func92, Try.ntmps92
    go_wp2
    go_ret
    exact ⟨rfl, rfl⟩

set_option maxHeartbeats 400000 in
theorem i_small (n : Int) (w : World) :
    Calls Try.prog 82 #[.int .i64 n] w fun e w' => e = .returned (.bool (smallP n)) ∧ w = w' := by
  by_cases h : n ≤ 97
  · rw [smallP_lo h]
    go_enter Try.func82, Try.ntmps82
    go_wp2_with (go_at_call 93; refine (i_IsPrime _ _).mono ?_; rintro e w' ⟨rfl, rfl⟩)
    go_ret
    exact ⟨rfl, rfl⟩
  · rw [smallP_hi (by omega)]
    go_enter Try.func82, Try.ntmps82
    go_wp2_with (go_at_call 93; refine (i_IsPrime _ _).mono ?_; rintro e w' ⟨rfl, rfl⟩)
    go_ret
    exact ⟨rfl, rfl⟩

set_option maxHeartbeats 400000 in
theorem s_small (n : Int) (w : World) :
    Calls Try.prog 77 #[.int .i64 n] w fun e w' => e = .returned (.bool (smallP n)) ∧ w = w' := by
  by_cases h : 2 ≤ n ∧ n ≤ 97
  · rw [smallP_lo h.2]
    have hin := inB_t h.1 h.2
    go_enter Try.func77, Try.ntmps77
    go_wp2_with fail
    refine (s_in _ _ _ _).mono ?_; rintro e w' ⟨rfl, rfl⟩
    go_wp2_with fail
    refine (s_prime _ _ (by omega)).mono ?_; rintro e w' ⟨rfl, rfl⟩
    go_wp2_with fail
    go_ret
    exact ⟨rfl, rfl⟩
  · rw [smallP_out (by omega)]
    have hin : inB n 2 97 = false := by
      rcases Int.lt_or_le n 2 with h | h
      · exact inB_l h
      · exact inB_r (by omega)
    go_enter Try.func77, Try.ntmps77
    go_wp2_with fail
    refine (s_in _ _ _ _).mono ?_; rintro e w' ⟨rfl, rfl⟩
    go_wp2_with fail
    go_ret
    exact ⟨rfl, rfl⟩

set_option maxHeartbeats 400000 in
theorem s_modulus (p n : Int) (w : World) (hp : 2 ≤ p) (hp2 : p ≤ 1000000) (hn : -4000000000000000000 ≤ n ∧ n ≤ 4000000000000000000) :
    Calls Try.prog 41 #[.int .i64 p, .int .i64 n] w fun e w' => e = .returned (.int .i64 (modu p n)) ∧ w = w' := by
  go_enter Try.func41, Try.ntmps41
  go_wp2_with fail
  go_loop [1, 5] (fun i o => ∃ k : Nat, k ≤ n.toNat ∧ i = .int .i64 (n - k) ∧ o = .int .i64 (p ^ k) ∧ p ^ k ≤ 1000000000) (fun i _ => (intOf i).toNat)
  case atStart => exact ⟨0, by omega, by go_num, by simp, by simp⟩
  case round =>
    obtain ⟨k, hk, rfl, rfl, hb⟩ := hrel
    have h1 := pow_pos' (show 1 ≤ p by omega) k
    by_cases hlt : (k : Int) < n
    · have h2 : 0 ≤ p ^ k * p ∧ p ^ k * p ≤ 1000000000 * 1000000 := by
        have a := Int.mul_le_mul hb hp2 (by omega) (by omega)
        have b := Int.mul_nonneg (show 0 ≤ p ^ k by omega) (show 0 ≤ p by omega)
        exact ⟨b, a⟩
      have hlt2 : 0 < n - k := by omega
      have hk2 : k < n.toNat := by omega
      by_cases hbig : p ^ k * p ≤ 1000000000
      · go_wp2
        go_round
        case rel => exact ⟨k + 1, by omega, by go_num, by rw [Int.pow_succ], by rw [Int.pow_succ]; exact hbig⟩
        case measure => simp [intOf]; omega
      · have HF : Hid (modu p n = 0) := by
          refine hid ?_
          unfold modu
          have := pow_mono (show 1 ≤ p by omega) (show k + 1 ≤ n.toNat by omega)
          rw [Int.pow_succ] at this
          rw [if_neg (by omega)]
        go_wp2
        go_ret
        exact ⟨ret_i (by rw [HF.out]), rfl⟩
    · have HF : Hid (modu p n = p ^ k) := by
        refine hid ?_
        have : n.toNat = k := by omega
        unfold modu
        rw [this, if_pos hb]
      have hlt2 : ¬ 0 < n - k := by omega
      go_wp2
      go_ret
      exact ⟨ret_i (by rw [HF.out]), rfl⟩
end Go.Proofs.Ytganmeiaflkkoaa

/- Contracts: rings. -/
namespace Go.Proofs.Ytganmeiaflkkoaa
open Go Go.RowKit


theorem ringB_f {p n : Int} (h : smallP p = false ∨ n < 1) : ringB p n = false := by
  rcases h with h | h
  · simp [ringB, h]
  · have : ¬ 1 ≤ n := by omega
    simp [ringB, this]
theorem ringB_big {p n : Int} {k : Nat} (hp : 2 ≤ p) (hk : (k : Int) ≤ n) (hb : 1000000000 < p ^ k) : ringB p n = false := by
  have := pow_mono (show 1 ≤ p by omega) (show k ≤ n.toNat by omega)
  have h2 : ¬ p ^ n.toNat ≤ 1000000000 := by omega
  simp [ringB, h2]
theorem ringB_t {p n : Int} {k : Nat} (hs : smallP p = true) (h1 : 1 ≤ n) (hk : n = k) (h40 : n ≤ 40) (hb : p ^ k ≤ 1000000000) : ringB p n = true := by
  have : n.toNat = k := by omega
  simp [ringB, hs, h1, h40, this, hb]

set_option maxHeartbeats 1000000 in
theorem i_IsRing (p n : Int) (w : World) :
    Calls Try.prog 51 #[(.agg #[.int .i64 p, .int .i64 n])] w fun e w' => e = .returned (.bool (ringB p n)) ∧ Below w.heap.size w w' := by
  by_cases hs : smallP p = true
  · by_cases hn : 1 ≤ n
    · have hp := smallP_bd hs
      obtain ⟨B, hB⟩ : ∃ B, B = ringB p n := ⟨_, rfl⟩
      rw [← hB]
      have HB := hid hB
      clear hB
      rcases (show n ≤ 40 ∨ 40 < n by omega) with h40 | h40
      all_goals
        go_enter Try.func51, Try.ntmps51
        go_wp2_with (go_at_call 82; refine pur (i_small _ _) ?_)
        go_loop [3, 16] (fun o i => ∃ k : Nat, (k : Int) ≤ n ∧ k ≤ 40 ∧ i = .int .i64 k ∧ o = .int .i64 (p ^ k) ∧ p ^ k ≤ 1000000000) (fun _ i => 41 - (intOf i).toNat)
        case atStart => exact ⟨0, by omega, by omega, rfl, by simp, by simp⟩
        case round =>
          obtain ⟨k, hk, hk40, rfl, rfl, hb⟩ := hrel
          have h1 := pow_pos' (show 1 ≤ p by omega) k
          by_cases hlt : (k : Int) < n ∧ k < 40
          · obtain ⟨hlt, hlt2⟩ := hlt
            have h2 : 0 ≤ p ^ k * p ∧ p ^ k * p ≤ 1000000000 * 97 := by
              have a := Int.mul_le_mul hb hp.2 (by omega) (by omega)
              have b := Int.mul_nonneg (show 0 ≤ p ^ k by omega) (show 0 ≤ p by omega)
              exact ⟨b, a⟩
            by_cases hbig : p ^ k * p ≤ 1000000000
            · go_wp2
              go_round
              case rel => exact ⟨k + 1, by omega, by omega, by go_num, by rw [Int.pow_succ], by rw [Int.pow_succ]; exact hbig⟩
              case measure => simp [intOf]; omega
            · have HF := hid (ringB_big (p := p) (n := n) (k := k + 1) (by omega) (by omega) (by rw [Int.pow_succ]; omega))
              go_wp2
              go_ret
              exact ⟨ret_b (by rw [HB.out, HF.out]), (by refine Ext.bel ?_; repeat (with_reducible first | exact Ext.refl _ | apply Ext.alloc | apply Ext.aft | apply Ext.drew | apply Ext.drewN | apply Ext.setCell | exact Nat.le_add_right _ _ | exact Nat.le_refl _ | (simp; done) | omega))⟩
          · have HF : Hid (ringB p n = true) := by
              refine hid ?_
              by_cases h : n = k
              · exact ringB_t hs hn h (by omega) hb
              · have := pow_large (show 2 ≤ p by omega) (show 30 ≤ k by omega)
                omega
            first
              | (have hlt3 : ¬ (k : Int) < n := (by omega); go_wp2; go_ret; exact ⟨ret_b (by rw [HB.out, HF.out]), (by refine Ext.bel ?_; repeat (with_reducible first | exact Ext.refl _ | apply Ext.alloc | apply Ext.aft | apply Ext.drew | apply Ext.drewN | apply Ext.setCell | exact Nat.le_add_right _ _ | exact Nat.le_refl _ | (simp; done) | omega))⟩)
              | (have hlt3 : ¬ k < 40 := (by omega); go_wp2; go_ret; exact ⟨ret_b (by rw [HB.out, HF.out]), (by refine Ext.bel ?_; repeat (with_reducible first | exact Ext.refl _ | apply Ext.alloc | apply Ext.aft | apply Ext.drew | apply Ext.drewN | apply Ext.setCell | exact Nat.le_add_right _ _ | exact Nat.le_refl _ | (simp; done) | omega))⟩)
    · rw [ringB_f (.inr (by omega))]
      have hn' : n < 1 := by omega
      go_enter Try.func51, Try.ntmps51
      go_wp2_with (go_at_call 82; refine pur (i_small _ _) ?_)
      go_ret
      exact ⟨rfl, (by refine Ext.bel ?_; repeat (with_reducible first | exact Ext.refl _ | apply Ext.alloc | apply Ext.aft | apply Ext.drew | apply Ext.drewN | apply Ext.setCell | exact Nat.le_add_right _ _ | exact Nat.le_refl _ | (simp; done) | omega))⟩
  · have hs' : smallP p = false := by simpa using hs
    rw [ringB_f (.inl hs')]
    go_enter Try.func51, Try.ntmps51
    go_wp2_with (go_at_call 82; refine pur (i_small _ _) ?_)
    go_ret
    exact ⟨rfl, (by refine Ext.bel ?_; repeat (with_reducible first | exact Ext.refl _ | apply Ext.alloc | apply Ext.aft | apply Ext.drew | apply Ext.drewN | apply Ext.setCell | exact Nat.le_add_right _ _ | exact Nat.le_refl _ | (simp; done) | omega))⟩
end Go.Proofs.Ytganmeiaflkkoaa

/- Contracts: rings, by value. -/
namespace Go.Proofs.Ytganmeiaflkkoaa
open Go Go.RowKit


theorem modu_pos {p n : Int} (hp : 2 ≤ p) : (0 < modu p n) ↔ p ^ n.toNat ≤ 1000000000 := by
  unfold modu
  have := pow_pos' (show 1 ≤ p by omega) n.toNat
  split <;> constructor <;> intro <;> omega

set_option maxHeartbeats 1000000 in
theorem s_IsRing (p n : Int) (w : World) :
    Calls Try.prog 43 #[(.agg #[.int .i64 p, .int .i64 n])] w fun e w' => e = .returned (.bool (ringB p n)) ∧ Below w.heap.size w w' := by
  by_cases hs : smallP p = true
  · have hp := smallP_bd hs
    by_cases hn : 1 ≤ n ∧ n ≤ 40
    · have hin := inB_t hn.1 hn.2
      by_cases hm : 0 < modu p n
      · have e : ringB p n = true := ringB_iff.2 ⟨hs, hn.1, hn.2, (modu_pos hp.1).1 hm⟩
        rw [e]
        clear e
        go_enter Try.func43, Try.ntmps43
        go_wp2_with (first | (go_at_call 77; refine pur (s_small _ _) ?_) | (go_at_call 57; refine pur (s_in _ _ _ _) ?_) | (go_at_call 41; refine pur (s_modulus _ _ _ (by omega) (by omega) (by omega)) ?_))
        go_ret
        exact ⟨rfl, (by refine Ext.bel ?_; repeat (with_reducible first | exact Ext.refl _ | apply Ext.alloc | apply Ext.aft | apply Ext.drew | apply Ext.drewN | apply Ext.setCell | exact Nat.le_add_right _ _ | exact Nat.le_refl _ | (simp; done) | omega))⟩
      · have e : ringB p n = false := by
          cases h : ringB p n
          · rfl
          · exact absurd ((modu_pos hp.1).2 (ringB_iff.1 h).2.2.2) hm
        rw [e]
        clear e
        have hd : decide (0 < modu p n) = false := by simpa using hm
        go_enter Try.func43, Try.ntmps43
        go_wp2_with (first | (go_at_call 77; refine pur (s_small _ _) ?_) | (go_at_call 57; refine pur (s_in _ _ _ _) ?_) | (go_at_call 41; refine pur (s_modulus _ _ _ (by omega) (by omega) (by omega)) ?_))
        go_ret
        exact ⟨rfl, (by refine Ext.bel ?_; repeat (with_reducible first | exact Ext.refl _ | apply Ext.alloc | apply Ext.aft | apply Ext.drew | apply Ext.drewN | apply Ext.setCell | exact Nat.le_add_right _ _ | exact Nat.le_refl _ | (simp; done) | omega))⟩
    · have hin : inB n 1 40 = false := by
        rcases Int.lt_or_le n 1 with h | h
        · exact inB_l h
        · exact inB_r (by omega)
      have e : ringB p n = false := by
        cases h : ringB p n
        · rfl
        · have := ringB_iff.1 h; omega
      rw [e]
      clear e hn
      go_enter Try.func43, Try.ntmps43
      go_wp2_with (first | (go_at_call 77; refine pur (s_small _ _) ?_) | (go_at_call 57; refine pur (s_in _ _ _ _) ?_))
      go_ret
      exact ⟨rfl, (by refine Ext.bel ?_; repeat (with_reducible first | exact Ext.refl _ | apply Ext.alloc | apply Ext.aft | apply Ext.drew | apply Ext.drewN | apply Ext.setCell | exact Nat.le_add_right _ _ | exact Nat.le_refl _ | (simp; done) | omega))⟩
  · have hs' : smallP p = false := by simpa using hs
    rw [ringB_f (.inl hs')]
    go_enter Try.func43, Try.ntmps43
    go_wp2_with (go_at_call 77; refine pur (s_small _ _) ?_)
    go_ret
    exact ⟨rfl, (by refine Ext.bel ?_; repeat (with_reducible first | exact Ext.refl _ | apply Ext.alloc | apply Ext.aft | apply Ext.drew | apply Ext.drewN | apply Ext.setCell | exact Nat.le_add_right _ _ | exact Nat.le_refl _ | (simp; done) | omega))⟩

set_option maxHeartbeats 400000 in
theorem i_modulus (p n : Int) (w : World) (h : ringB p n = true) :
    Calls Try.prog 37 #[(.agg #[.int .i64 p, .int .i64 n])] w fun e w' => e = .returned (.int .i64 (p ^ n.toNat)) ∧ Below w.heap.size w w' := by
  have h' := ringB_iff.1 h
  have hp := smallP_bd h'.1
  have h2 := h'.2
  have Hb := hid (show p ^ n.toNat ≤ 4000000000000000000 by omega)
  clear h h'
  go_enter Try.func37, Try.ntmps37
  go_wp2_with (go_at_call 73; refine pur (i_power _ _ _ (by omega) (by omega) Hb.out) ?_)
  go_ret
  exact ⟨rfl, (by refine Ext.bel ?_; repeat (with_reducible first | exact Ext.refl _ | apply Ext.alloc | apply Ext.aft | apply Ext.drew | apply Ext.drewN | apply Ext.setCell | exact Nat.le_add_right _ _ | exact Nat.le_refl _ | (simp; done) | omega))⟩

set_option maxHeartbeats 400000 in
theorem i_has (p n a : Int) (w : World) (h : ringB p n = true) :
    Calls Try.prog 56 #[(.agg #[.int .i64 p, .int .i64 n]), .int .i64 a] w fun e w' => e = .returned (.bool (inB a 0 (p ^ n.toNat - 1))) ∧ Below w.heap.size w w' := by
  have h2 := (ringB_iff.1 h).2
  have h3 := pow_pos' (show 1 ≤ p by have := smallP_bd (ringB_iff.1 h).1; omega) n.toNat
  have H := hid h
  clear h
  go_enter Try.func56, Try.ntmps56
  go_wp2_with (first | (go_at_call 37; refine via (i_modulus _ _ _ H.out) ?_; intro u1 z1; try simp at z1) | (go_at_call 61; refine pur (i_within _ _ _ _) ?_))
  go_ret
  exact ⟨rfl, (by refine Ext.bel ?_; repeat (with_reducible first | exact Ext.refl _ | apply Ext.alloc | apply Ext.aft | apply Ext.drew | apply Ext.drewN | apply Ext.setCell | exact Nat.le_add_right _ _ | exact Nat.le_refl _ | (simp; done) | omega))⟩

end Go.Proofs.Ytganmeiaflkkoaa

/- Contracts: p-adic numbers that are valid. -/
namespace Go.Proofs.Ytganmeiaflkkoaa
open Go Go.RowKit


/-- A valid p-adic number. -/
def padicB (p v u n : Int) : Bool := smallP p && inB v (-60) 60 && (if n = 0 then u == 0 else ringB p n && inB u 0 (p ^ n.toNat - 1) && (u % p != 0))

theorem padicB_f1 {p v u n : Int} (h : smallP p = false) : padicB p v u n = false := by simp [padicB, h]
theorem padicB_f2 {p v u n : Int} (h : inB v (-60) 60 = false) : padicB p v u n = false := by simp [padicB, h]

end Go.Proofs.Ytganmeiaflkkoaa

/- Contracts: p-adic numbers: valid ones, shifts. -/
namespace Go.Proofs.Ytganmeiaflkkoaa
open Go Go.RowKit


theorem padicB_alt {p v u n : Int} (h1 : smallP p = true) (h2 : inB v (-60) 60 = true) (h3 : ¬ n = 0) :
    padicB p v u n = (ringB p n && inB u 1 (p ^ n.toNat - 1) && (u % p != 0)) := by
  have e : padicB p v u n = (ringB p n && inB u 0 (p ^ n.toNat - 1) && (u % p != 0)) := by simp [padicB, h1, h2, h3]
  rw [e]
  by_cases hu : u = 0
  · subst hu; simp
  · cases h : inB u 1 (p ^ n.toNat - 1)
    · cases h' : inB u 0 (p ^ n.toNat - 1)
      · rfl
      · have := inB_iff.1 h'
        have := inB_t (n := u) (a := 1) (b := p ^ n.toNat - 1) (by omega) (by omega)
        rw [h] at this; cases this
    · have := inB_iff.1 h
      rw [inB_t (n := u) (a := 0) (by omega) (by omega)]

structure Pd where
  (p v u n : Int)
def Pd.zero : Pd := ⟨0, 0, 0, 0⟩
/-- A number, or ErrLimit. -/
def limF (x : Pd) : Pd × Int := if padicB x.p x.v x.u x.n = true then (x, 0) else (.zero, 3)

theorem inB_ff {n a b : Int} (h : inB n a b = false) : n < a ∨ b < n := by
  rcases Int.lt_or_le n a with h1 | h1
  · exact .inl h1
  · rcases Int.lt_or_le b n with h2 | h2
    · exact .inr h2
    · rw [inB_t h1 h2] at h; cases h
theorem padicB_place {p v u n : Int} (h : padicB p v u n = true) : smallP p = true ∧ -60 ≤ v ∧ v ≤ 60 := by
  simp only [padicB, Bool.and_eq_true] at h
  exact ⟨h.1.1, inB_iff.1 h.1.2⟩

theorem padic_facts {p v u n : Int} (h : padicB p v u n = true) : (2 ≤ p ∧ p ≤ 97) ∧ (-60 ≤ v ∧ v ≤ 60) ∧ (0 ≤ u ∧ u ≤ 1000000000) ∧ (0 ≤ n ∧ n ≤ 40) ∧ p ^ n.toNat ≤ 1000000000 := by
  have h0 := padicB_place h
  have hp := smallP_bd h0.1
  by_cases h3 : n = 0
  · subst h3
    have : u = 0 := by simp [padicB] at h; exact h.2
    subst this
    exact ⟨hp, h0.2, by omega, by omega, by simp⟩
  · simp only [padicB, h3, if_false, Bool.and_eq_true] at h
    have hr := ringB_iff.1 h.2.1.1
    have hu := inB_iff.1 h.2.1.2
    exact ⟨hp, h0.2, by omega, by omega, hr.2.2.2⟩

theorem padic_unit {p v u n : Int} (h : padicB p v u n = true) (hn : ¬ n = 0) : ringB p n = true ∧ (0 ≤ u ∧ u ≤ p ^ n.toNat - 1) ∧ ¬ u % p = 0 := by
  simp only [padicB, hn, if_false, Bool.and_eq_true] at h
  exact ⟨h.2.1.1, inB_iff.1 h.2.1.2, by simpa using h.2.2⟩

end Go.Proofs.Ytganmeiaflkkoaa

/- Polynomials with valid coefficients: both texts. -/
namespace Go.Proofs.Ytganmeiaflkkoaa
open Go Go.RowKit

/-- A number that is no coefficient. -/
def noCoef : Int → Bool := fun c => !inB c (-1000000) 1000000
/-- The last one is not 0. -/
def lastNZ (xs : List Int) : Bool := xs.getLast? != some 0
/-- A valid polynomial. -/
def polyB (xs : List Int) : Bool := decide (xs.length ≤ 9) && !(xs.any noCoef) && lastNZ xs
theorem polyB_iff {xs : List Int} : polyB xs = true ↔ xs.length ≤ 9 ∧ xs.any noCoef = false ∧ lastNZ xs = true := by
  simp [polyB, and_assoc]
theorem coef_bd {xs : List Int} (h : xs.any noCoef = false) : ∀ x ∈ xs, -1000000 ≤ x ∧ x ≤ 1000000 := by
  intro x hx
  have := List.any_eq_false.1 h x hx
  simp [noCoef] at this
  exact inB_iff.1 this
theorem lastNZ_nil : lastNZ [] = true := rfl
theorem lastNZ_at {xs : List Int} {k : Nat} (h : xs.length = k + 1) : lastNZ xs = (xs[k]'(by omega) != 0) := by
  unfold lastNZ
  have e : xs.getLast? = some (xs[k]'(by omega)) := by
    rw [List.getLast?_eq_getElem?, show xs.length - 1 = k by omega, List.getElem?_eq_getElem]
  rw [e]
  simp [bne]

set_option maxHeartbeats 400000 in
theorem pred_coef (w : World) : predC 83 #[] noCoef w := fun W x hb => by
  have HB := hid hb
  unfold noCoef
  clear hb
  show Calls Try.prog 83 #[.int .i64 x] W _
  cases h : inB x (-1000000) 1000000
  all_goals
    go_enter Try.func83, Try.ntmps83
    go_wp2_with (go_at_call 61; refine pur (i_within _ _ _ _) ?_)
    go_ret
    exact ⟨rfl, HB.out⟩

set_option maxHeartbeats 2000000 in
theorem i_IsPolynomial (r : Value) (xs : List Int) (w : World) (h : rdI w r xs) :
    Calls Try.prog 52 #[r] w fun e w' => e = .returned (.bool (polyB xs)) ∧ Below w.heap.size w w' := by
  have eg : ∀ args w, (callFunc 83 args).run Try.prog w = .ok (.enter 83 args) w := entersT Try.func83 (by kernel_rfl) rfl
  have hlen : xs.length ≤ maxLen := by obtain ⟨a, cap, _, hm, _⟩ := h; exact hm
  unfold maxLen at hlen
  by_cases hl : xs.length ≤ 9
  · obtain ⟨B, hB⟩ : ∃ B, B = xs.any noCoef := ⟨_, rfl⟩
    have H3 := hid hB.symm
    cases B
    · have e : polyB xs = lastNZ xs := by unfold polyB; rw [← hB]; simp [hl]
      rw [e]; clear e hB
      rcases Nat.eq_zero_or_pos xs.length with h0 | h0
      · obtain rfl : xs = [] := List.eq_nil_of_length_eq_zero h0
        rw [lastNZ_nil]
        obtain ⟨a, cap, rfl, _, _⟩ := id h
        change rdI w (.slice a 0 cap) [] at h
        go_enter Try.func52, Try.ntmps52
        go_wp2_with (go_at_call 54; refine via (lib_containsB _ _ _ eg _ _ _ (by repeat (with_reducible first | assumption | apply rdI.aft | apply rdI.alloc | apply rdI.drew | apply rdI.drewN)) (pred_coef _) _ H3.out) ?_; intro uu zz; try simp at zz)
        go_ret
        exact ⟨rfl, (by refine Ext.bel ?_; repeat (with_reducible first | exact Ext.refl _ | apply Ext.alloc | apply Ext.aft | apply Ext.drew | apply Ext.drewN | apply Ext.setCell | exact Nat.le_add_right _ _ | exact Nat.le_refl _ | (simp; done) | omega))⟩
      · obtain ⟨k, hk⟩ : ∃ k, xs.length = k + 1 := ⟨xs.length - 1, by omega⟩
        rw [lastNZ_at hk]
        obtain ⟨a, cap, rfl, _, hc⟩ := id h
        obtain ⟨b, o, rfl, hcell⟩ := hc (by intro e; subst e; simp at h0)
        have h1 := hcell k (by omega)
        have h1b := World.block_lt_of_cell? w _ h1
        obtain ⟨x, hx⟩ : ∃ x, x = xs[k] := ⟨_, rfl⟩
        rw [← hx] at h1 ⊢
        clear hx hcell hc
        rw [hk] at h ⊢
        have hl2 : k + 1 ≤ 9 := by omega
        have hk9 : (k : Int) + 1 ≤ 9 := by omega
        have hk0 : 0 ≤ (k : Int) := by omega
        clear hl hlen h0
        cases hx0 : (x == 0)
        all_goals
          go_enter Try.func52, Try.ntmps52
          go_wp2_with (go_at_call 54; refine via (lib_containsB _ _ _ eg _ _ _ (by repeat (with_reducible first | assumption | apply rdI.aft | apply rdI.alloc | apply rdI.drew | apply rdI.drewN)) (pred_coef _) _ H3.out) ?_; intro uu zz; try simp at zz)
          go_ret
          exact ⟨by simp [bne, hx0]; try omega, (by refine Ext.bel ?_; repeat (with_reducible first | exact Ext.refl _ | apply Ext.alloc | apply Ext.aft | apply Ext.drew | apply Ext.drewN | apply Ext.setCell | exact Nat.le_add_right _ _ | exact Nat.le_refl _ | (simp; done) | omega))⟩
    · have e : polyB xs = false := by unfold polyB; rw [← hB]; simp
      rw [e]; clear e hB
      obtain ⟨a, cap, rfl, _, _⟩ := id h
      go_enter Try.func52, Try.ntmps52
      go_wp2_with (go_at_call 54; refine via (lib_containsB _ _ _ eg _ _ _ (by repeat (with_reducible first | assumption | apply rdI.aft | apply rdI.alloc | apply rdI.drew | apply rdI.drewN)) (pred_coef _) _ H3.out) ?_; intro uu zz; try simp at zz)
      go_ret
      exact ⟨rfl, (by refine Ext.bel ?_; repeat (with_reducible first | exact Ext.refl _ | apply Ext.alloc | apply Ext.aft | apply Ext.drew | apply Ext.drewN | apply Ext.setCell | exact Nat.le_add_right _ _ | exact Nat.le_refl _ | (simp; done) | omega))⟩
  · have e : polyB xs = false := by unfold polyB; simp [hl]
    rw [e]; clear e
    obtain ⟨a, cap, rfl, _, _⟩ := id h
    have hl' : ¬ (xs.length : Int) ≤ 9 := by omega
    go_enter Try.func52, Try.ntmps52
    go_wp2_with fail
    go_ret
    exact ⟨rfl, (by refine Ext.bel ?_; repeat (with_reducible first | exact Ext.refl _ | apply Ext.alloc | apply Ext.aft | apply Ext.drew | apply Ext.drewN | apply Ext.setCell | exact Nat.le_add_right _ _ | exact Nat.le_refl _ | (simp; done) | omega))⟩
end Go.Proofs.Ytganmeiaflkkoaa

/- Plain arithmetic: Bezout's numbers. -/
namespace Go.Proofs.Ytganmeiaflkkoaa

/-- The first of Bezout's numbers, by the division steps. -/
def bx : Nat → Int → Int → Int → Int → Int
  | 0, _, x, _, _ => x
  | f + 1, r, x, s, u => if s = 0 then x else bx f s u (r % s) (x - r / s * u)

theorem bx_fuel : ∀ (f g : Nat) (r x s u : Int), 0 ≤ s → s.toNat < f → s.toNat < g → bx f r x s u = bx g r x s u := by
  intro f
  induction f with
  | zero => intro g r x s u _ h; omega
  | succ f ih =>
    intro g r x s u hs hf hg
    cases g with
    | zero => omega
    | succ g =>
      unfold bx
      by_cases h : s = 0
      · rw [if_pos h, if_pos h]
      · have h1 := Int.emod_nonneg r h
        have h2 := Int.emod_lt_of_pos r (show 0 < s by omega)
        rw [if_neg h, if_neg h, ih g _ _ _ _ h1 (by omega) (by omega)]

theorem bx_zero (f : Nat) (r x u : Int) : bx (f + 1) r x 0 u = x := by unfold bx; rw [if_pos rfl]
theorem bx_step (f : Nat) (r x s u : Int) (h : s ≠ 0) : bx (f + 1) r x s u = bx f s u (r % s) (x - r / s * u) := by
  conv => lhs; unfold bx
  rw [if_neg h]
/-- x and u have opposite signs, and x s and u r add up to b. -/
def Lin (b r x s u : Int) : Prop := ∃ X U g : Int, (g = 1 ∨ g = -1) ∧ 0 ≤ X ∧ 0 ≤ U ∧ x = g * X ∧ u = -(g * U) ∧ X * s + U * r = b
theorem Lin.step {b r x s u : Int} (h : Lin b r x s u) (hr : 0 ≤ r) (hs : 0 < s) : Lin b s u (r % s) (x - r / s * u) := by
  obtain ⟨X, U, g, hg, hX, hU, rfl, rfl, hb⟩ := h
  have hq : 0 ≤ r / s := Int.ediv_nonneg hr (by omega)
  refine ⟨U, X + r / s * U, -g, by omega, hU, ?_, ?_, ?_, ?_⟩
  · have := Int.mul_nonneg hq hU; omega
  · rw [Int.neg_mul]
  · rw [Int.neg_mul, Int.neg_neg, Int.mul_add, Int.mul_neg, Int.sub_neg, Int.mul_left_comm]
  · have e : r = r % s + s * (r / s) := by have := Int.emod_add_mul_ediv r s; omega
    rw [← hb]
    have : U * r = U * (r % s) + U * (s * (r / s)) := by rw [← Int.mul_add, ← e]
    rw [this, Int.add_mul]
    have : r / s * U * s = U * (s * (r / s)) := by rw [Int.mul_comm (r / s) U, Int.mul_assoc, Int.mul_comm (r / s) s]
    omega
theorem Lin.bd {b r x s u : Int} (h : Lin b r x s u) (hr : 0 ≤ r) (hs : 0 < s) : -b ≤ x ∧ x ≤ b := by
  obtain ⟨X, U, g, hg, hX, hU, rfl, rfl, hb⟩ := h
  have h1 := Int.mul_nonneg hU hr
  have h2 : X * 1 ≤ X * s := Int.mul_le_mul_of_nonneg_left (by omega) hX
  rcases hg with rfl | rfl
  · rw [Int.one_mul]; omega
  · rw [Int.neg_mul, Int.one_mul]; omega
theorem Lin.bd2 {b r x s u : Int} (h : Lin b r x s u) (hr : 0 < r) (hs : 0 ≤ s) : -b ≤ u ∧ u ≤ b := by
  obtain ⟨X, U, g, hg, hX, hU, rfl, rfl, hb⟩ := h
  have h1 := Int.mul_nonneg hX hs
  have h2 : U * 1 ≤ U * r := Int.mul_le_mul_of_nonneg_left (by omega) hU
  rcases hg with rfl | rfl
  · rw [Int.one_mul]; omega
  · rw [Int.neg_mul, Int.one_mul]; omega
theorem Lin.x0 (a b : Int) : Lin b a 1 b 0 := ⟨1, 0, 1, .inl rfl, by omega, by omega, by omega, by omega, by omega⟩
theorem Lin.y0 (a b : Int) : Lin a a 0 b 1 := ⟨0, 1, -1, .inr rfl, by omega, by omega, by omega, by omega, by omega⟩
/-- What the round computes fits. -/
theorem Lin.fits {b r x s u : Int} (h : Lin b r x s u) (hr : 0 ≤ r) (hs : 0 < s) (hb : b ≤ 1000000000000) :
    -2000000000000 ≤ r / s * u ∧ r / s * u ≤ 2000000000000 ∧ -1000000000000 ≤ x - r / s * u ∧ x - r / s * u ≤ 1000000000000 := by
  have h1 := h.bd hr hs
  have h2 := (h.step hr hs).bd2 hs (Int.emod_nonneg _ (by omega))
  omega
/-- The inverse of a by m, where there is one. -/
def inv (a m : Int) : Int := bx (m.toNat + 1) a 1 m 0 % m
end Go.Proofs.Ytganmeiaflkkoaa

/- Contracts: Bezout, inverses. -/
namespace Go.Proofs.Ytganmeiaflkkoaa
open Go Go.RowKit

theorem div_mod_sub {r s : Int} : r - r / s * s = r % s := by have := Int.emod_add_mul_ediv r s; rw [Int.mul_comm]; omega

set_option maxHeartbeats 1000000 in
theorem s_Bezout (a b : Int) (w : World) (ha : 0 ≤ a ∧ a ≤ 1000000000000) (hb : 1 ≤ b ∧ b ≤ 1000000000000) :
    Calls Try.prog 95 #[.int .i64 a, .int .i64 b] w fun e w' => e = .returned (.tuple #[.int .i64 (bx (b.toNat + 1) a 1 b 0), .int .i64 (bx (b.toNat + 1) a 0 b 1)]) ∧ w = w' := by
  go_enter Try.func95, Try.ntmps95
  go_wp2_with fail
  go_loop [6, 7, 8, 9, 10, 11, 12] (fun t6 t7 t8 t9 t10 t11 _ => ∃ (f : Nat) (r x y s u v : Int), t6 = .int .i64 r ∧ t7 = .int .i64 x ∧ t8 = .int .i64 y ∧ t9 = .int .i64 s ∧ t10 = .int .i64 u ∧ t11 = .int .i64 v ∧ s.toNat < f ∧
    (0 ≤ r ∧ r ≤ 1000000000000) ∧ (0 ≤ s ∧ s ≤ 1000000000000) ∧ Lin b r x s u ∧ Lin a r y s v ∧ bx f r x s u = bx (b.toNat + 1) a 1 b 0 ∧ bx f r y s v = bx (b.toNat + 1) a 0 b 1) (fun _ _ _ t9 _ _ _ => (intOf t9).toNat)
  case atStart => exact ⟨b.toNat + 1, a, 1, 0, b, 0, 1, rfl, rfl, rfl, rfl, rfl, rfl, by omega, ha, by omega, Lin.x0 _ _, Lin.y0 _ _, rfl, rfl⟩
  case round =>
    obtain ⟨f, r, x, y, s, u, v, rfl, rfl, rfl, rfl, rfl, rfl, hf, hr, hs, hx, hy, ex, ey⟩ := hrel
    by_cases h0 : s = 0
    · subst h0
      obtain ⟨f, rfl⟩ : ∃ g, f = g + 1 := ⟨f - 1, by omega⟩
      have Ex := hid ((bx_zero _ _ _ _).symm.trans ex)
      have Ey := hid ((bx_zero _ _ _ _).symm.trans ey)
      clear ex ey hx hy
      go_wp2
      go_ret2
      exact ⟨by rw [← Ex.out, ← Ey.out]; rfl, rfl⟩
    · have hs1 : 0 < s := by omega
      have fx := hx.fits hr.1 hs1 hb.2
      have fy := hy.fits hr.1 hs1 ha.2
      have hm := Int.emod_nonneg r h0
      have hm2 := Int.emod_lt_of_pos r hs1
      have hq : 0 ≤ r / s * s ∧ r / s * s ≤ 1000000000000 := by have := @div_mod_sub r s; have := Int.mul_nonneg (Int.ediv_nonneg hr.1 hs.1) hs.1; omega
      have HX := hid (hx.step hr.1 hs1)
      have HY := hid (hy.step hr.1 hs1)
      obtain ⟨f, rfl⟩ : ∃ g, f = g + 1 := ⟨f - 1, by omega⟩
      have Ex := hid ((bx_step _ _ _ _ _ h0).symm.trans ex)
      have Ey := hid ((bx_step _ _ _ _ _ h0).symm.trans ey)
      have E := hid (@div_mod_sub r s)
      have hq1 : 0 ≤ r / s ∧ r / s ≤ 1000000000000 := by
        refine ⟨Int.ediv_nonneg hr.1 hs.1, ?_⟩
        have : r / s * 1 ≤ r / s * s := Int.mul_le_mul_of_nonneg_left (by omega) (Int.ediv_nonneg hr.1 hs.1)
        omega
      have hn : (s == 0) = false := by simpa using h0
      have hn' : (s != 0) = true := by simpa using h0
      clear ex ey hx hy h0
      go_wp2
      go_round
      case rel => exact ⟨f, s, u, v, r % s, x - r / s * u, y - r / s * v, rfl, rfl, rfl, by rw [E.out], rfl, rfl, by omega, by omega, by omega, HX.out, HY.out, Ex.out, Ey.out⟩
      case measure => simp only [intOf]; rw [E.out]; omega

set_option maxHeartbeats 1000000 in
theorem i_Bezout (a b : Int) (w : World) (ha : 0 ≤ a ∧ a ≤ 1000000000000) (hb : 1 ≤ b ∧ b ≤ 1000000000000) :
    Calls Try.prog 94 #[.int .i64 a, .int .i64 b] w fun e w' => e = .returned (.tuple #[.int .i64 (bx (b.toNat + 1) a 1 b 0), .int .i64 (bx (b.toNat + 1) a 0 b 1), .int .i64 0]) ∧ w = w' := by
  have ha1 := inB_t (n := a) (a := -1000000000000) (b := 1000000000000) (by omega) (by omega)
  have hb1 := inB_t (n := b) (a := -1000000000000) (b := 1000000000000) (by omega) (by omega)
  go_enter Try.func94, Try.ntmps94
  go_wp2_with fail
  refine pur (i_isValue _ _) ?_
  go_wp2_with fail
  refine pur (i_isValue _ _) ?_
  go_wp2_with fail
  go_loop [7, 8, 9, 10, 11, 12, 13] (fun t6 t7 t8 t9 t10 t11 _ => ∃ (f : Nat) (r x y s u v : Int), t6 = .int .i64 r ∧ t7 = .int .i64 x ∧ t8 = .int .i64 y ∧ t9 = .int .i64 s ∧ t10 = .int .i64 u ∧ t11 = .int .i64 v ∧ s.toNat < f ∧
    (0 ≤ r ∧ r ≤ 1000000000000) ∧ (0 ≤ s ∧ s ≤ 1000000000000) ∧ Lin b r x s u ∧ Lin a r y s v ∧ bx f r x s u = bx (b.toNat + 1) a 1 b 0 ∧ bx f r y s v = bx (b.toNat + 1) a 0 b 1) (fun _ _ _ t9 _ _ _ => (intOf t9).toNat)
  case atStart => exact ⟨b.toNat + 1, a, 1, 0, b, 0, 1, rfl, rfl, rfl, rfl, rfl, rfl, by omega, ha, by omega, Lin.x0 _ _, Lin.y0 _ _, rfl, rfl⟩
  case round =>
    obtain ⟨f, r, x, y, s, u, v, rfl, rfl, rfl, rfl, rfl, rfl, hf, hr, hs, hx, hy, ex, ey⟩ := hrel
    by_cases h0 : s = 0
    · subst h0
      obtain ⟨f, rfl⟩ : ∃ g, f = g + 1 := ⟨f - 1, by omega⟩
      have Ex := hid ((bx_zero _ _ _ _).symm.trans ex)
      have Ey := hid ((bx_zero _ _ _ _).symm.trans ey)
      have hr0 := hr.1
      clear ex ey hx hy
      go_wp2
      go_ret3
      exact ⟨by rw [← Ex.out, ← Ey.out]; rfl, rfl⟩
    · have hs1 : 0 < s := by omega
      have fx := hx.fits hr.1 hs1 hb.2
      have fy := hy.fits hr.1 hs1 ha.2
      have hm := Int.emod_nonneg r h0
      have hm2 := Int.emod_lt_of_pos r hs1
      have hq : 0 ≤ r / s * s ∧ r / s * s ≤ 1000000000000 := by have := @div_mod_sub r s; have := Int.mul_nonneg (Int.ediv_nonneg hr.1 hs.1) hs.1; omega
      have HX := hid (hx.step hr.1 hs1)
      have HY := hid (hy.step hr.1 hs1)
      obtain ⟨f, rfl⟩ : ∃ g, f = g + 1 := ⟨f - 1, by omega⟩
      have Ex := hid ((bx_step _ _ _ _ _ h0).symm.trans ex)
      have Ey := hid ((bx_step _ _ _ _ _ h0).symm.trans ey)
      have E := hid (@div_mod_sub r s)
      have hq1 : 0 ≤ r / s ∧ r / s ≤ 1000000000000 := by
        refine ⟨Int.ediv_nonneg hr.1 hs.1, ?_⟩
        have : r / s * 1 ≤ r / s * s := Int.mul_le_mul_of_nonneg_left (by omega) (Int.ediv_nonneg hr.1 hs.1)
        omega
      have hn : (s == 0) = false := by simpa using h0
      have hn' : (s != 0) = true := by simpa using h0
      clear ex ey hx hy h0
      go_wp2
      go_round
      case rel => exact ⟨f, s, u, v, r % s, x - r / s * u, y - r / s * v, rfl, rfl, rfl, by rw [E.out], rfl, rfl, by omega, by omega, by omega, HX.out, HY.out, Ex.out, Ey.out⟩
      case measure => simp only [intOf]; rw [E.out]; omega

set_option maxHeartbeats 400000 in
theorem s_inverse (a m : Int) (w : World) (ha : 0 ≤ a ∧ a ≤ 1000000000000) (hb : 1 ≤ m ∧ m ≤ 1000000000000) :
    Calls Try.prog 91 #[.int .i64 a, .int .i64 m] w fun e w' => e = .returned (.int .i64 (inv a m)) ∧ w = w' := by
  go_enter Try.func91, Try.ntmps91
  go_wp2_with (first | (go_at_call 95; refine pur (s_Bezout _ _ _ ha hb) ?_) | (go_at_call 75; refine pur (s_mod _ _ _ (by omega) (by omega)) ?_))
  go_ret
  exact ⟨rfl, rfl⟩

set_option maxHeartbeats 400000 in
theorem i_inverse (p n a : Int) (w : World) (h : ringB p n = true) (ha : 0 ≤ a ∧ a ≤ 1000000000000) :
    Calls Try.prog 89 #[(.agg #[.int .i64 p, .int .i64 n]), .int .i64 a] w fun e w' => e = .returned (.int .i64 (inv a (p ^ n.toNat))) ∧ Below w.heap.size w w' := by
  have h2 := (ringB_iff.1 h).2
  have h3 := pow_pos' (show 1 ≤ p by have := smallP_bd (ringB_iff.1 h).1; omega) n.toNat
  have H := hid h
  have hm : 1 ≤ p ^ n.toNat ∧ p ^ n.toNat ≤ 1000000000000 := by omega
  clear h
  go_enter Try.func89, Try.ntmps89
  go_wp2_with (first | (go_at_call 37; refine via (i_modulus _ _ _ H.out) ?_; intro uu zz; try simp at zz) | (go_at_call 94; refine pur (i_Bezout _ _ _ ha hm) ?_) | (go_at_call 36; refine pur (i_mod _ _ _ (by omega) (by omega)) ?_))
  go_ret
  exact ⟨rfl, (by refine Ext.bel ?_; repeat (with_reducible first | exact Ext.refl _ | apply Ext.alloc | apply Ext.aft | apply Ext.drew | apply Ext.drewN | apply Ext.setCell | exact Nat.le_add_right _ _ | exact Nat.le_refl _ | (simp; done) | omega))⟩

/-- The first error of a ring and a residue that has to be a unit. -/
def unitF (p n a : Int) : Int := if ringB p n = true then (if inB a 0 (p ^ n.toNat - 1) = true then (if a % p = 0 then 5 else 0) else 2) else 1
def codeF (p n a : Int) : Int := if ringB p n = true then (if inB a 0 (p ^ n.toNat - 1) = true then 0 else 2) else 1
set_option maxHeartbeats 400000 in
theorem s_code (p n a : Int) (w : World) :
    Calls Try.prog 90 #[(.agg #[.int .i64 p, .int .i64 n]), .int .i64 a] w fun e w' => e = .returned (.int .i64 (codeF p n a)) ∧ Below w.heap.size w w' := by
  cases h : ringB p n
  · have e : codeF p n a = 1 := by simp [codeF, h]
    rw [e]; clear e
    go_enter Try.func90, Try.ntmps90
    go_wp2_with (go_at_call 43; refine via (s_IsRing _ _ _) ?_; intro uu zz; try simp at zz)
    go_ret
    exact ⟨rfl, (by refine Ext.bel ?_; repeat (with_reducible first | exact Ext.refl _ | apply Ext.alloc | apply Ext.aft | apply Ext.drew | apply Ext.drewN | apply Ext.setCell | exact Nat.le_add_right _ _ | exact Nat.le_refl _ | (simp; done) | omega))⟩
  have hp := smallP_bd (ringB_iff.1 h).1
  have hr := ringB_iff.1 h
  have hn := hr.2.1
  have hn2 := hr.2.2.1
  have hM := modu_ring h
  have h6 := pow_pos' (show 1 ≤ p by omega) n.toNat
  have hM1 : 0 ≤ modu p n ∧ modu p n ≤ 1000000000 := by rw [hM]; omega
  cases h2 : inB a 0 (p ^ n.toNat - 1)
  · have e : codeF p n a = 2 := by simp [codeF, h, h2]
    rw [e]; clear e
    rw [← hM] at h2
    clear hM h6 hr
    go_enter Try.func90, Try.ntmps90
    go_wp2_with (first | (go_at_call 43; refine via (s_IsRing _ _ _) ?_; intro uu zz; try simp at zz) | (go_at_call 41; refine pur (s_modulus _ _ _ (by omega) (by omega) (by omega)) ?_) | (go_at_call 57; refine pur (s_in _ _ _ _) ?_))
    go_ret
    exact ⟨rfl, (by refine Ext.bel ?_; repeat (with_reducible first | exact Ext.refl _ | apply Ext.alloc | apply Ext.aft | apply Ext.drew | apply Ext.drewN | apply Ext.setCell | exact Nat.le_add_right _ _ | exact Nat.le_refl _ | (simp; done) | omega))⟩
  · have e : codeF p n a = 0 := by simp [codeF, h, h2]
    rw [e]; clear e
    rw [← hM] at h2
    clear hM h6 hr
    go_enter Try.func90, Try.ntmps90
    go_wp2_with (first | (go_at_call 43; refine via (s_IsRing _ _ _) ?_; intro uu zz; try simp at zz) | (go_at_call 41; refine pur (s_modulus _ _ _ (by omega) (by omega) (by omega)) ?_) | (go_at_call 57; refine pur (s_in _ _ _ _) ?_))
    go_ret
    exact ⟨rfl, (by refine Ext.bel ?_; repeat (with_reducible first | exact Ext.refl _ | apply Ext.alloc | apply Ext.aft | apply Ext.drew | apply Ext.drewN | apply Ext.setCell | exact Nat.le_add_right _ _ | exact Nat.le_refl _ | (simp; done) | omega))⟩
end Go.Proofs.Ytganmeiaflkkoaa
