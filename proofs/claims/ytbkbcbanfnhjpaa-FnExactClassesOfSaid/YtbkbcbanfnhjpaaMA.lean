/- Several small texts in one: B0 B1 A1 M0 A2 M1 A3 B2 B3 K1 B4 B5. -/
import Derived.Test.YtbkbcbanfnhjpaaRows
import Derived.WalkKit
import Derived.WalkSpells
import Derived.WalkLawsBesides
import Derived.Deep.QuietTactic
import Derived.BigQuiet
import Derived.Deep.RegionWith
import Derived.Deep.DeepFit
import Derived.Deep.DeepMust
import Derived.StillTail
/- Small laws on worlds: 'aft w u' is u where u is w with new blocks and draws, else w. They let a walk see through a call of which only 'Below' is known. -/
namespace Go.Proofs.Ytbkbcbanfnhjpaa
open Go Go.RowKit

theorem hid {p : Prop} (h : p) : Hid p := h

open Classical in
noncomputable def aft (w u : World) : World := if Below w.heap.size w u then u else w

theorem aft_of {w u : World} (h : Below w.heap.size w u) : aft w u = u := by unfold aft; rw [if_pos h]
theorem below_aft (w u : World) : Below w.heap.size w (aft w u) := by
  unfold aft; split
  · assumption
  · exact Below.refl _ _
theorem aft_ex {w w' : World} (h : Below w.heap.size w w') : ∃ u, w' = aft w u := ⟨w', (aft_of h).symm⟩
theorem size_aft (w u : World) : w.heap.size ≤ (aft w u).heap.size := (below_aft w u).size
theorem lt_aft {w u : World} {b : Nat} (h : b < w.heap.size) : b < (aft w u).heap.size := Nat.lt_of_lt_of_le h (size_aft w u)
theorem le_aft {w u : World} {b : Nat} (h : b ≤ w.heap.size) : b ≤ (aft w u).heap.size := Nat.le_trans h (size_aft w u)
/-- What a cell of a block that came later holds: never looked into. -/
noncomputable def nwC (w u : World) (b o : Nat) : Option Value := (aft w u).cell? ⟨b, o, none⟩
noncomputable def nwF (w u : World) (b o : Nat) : Bool := (aft w u).frozen? ⟨b, o, none⟩
theorem aft_cell (w u : World) (b o : Nat) : (aft w u).cell? ⟨b, o, none⟩ = if b < w.heap.size then w.cell? ⟨b, o, none⟩ else nwC w u b o := by
  split
  · exact (below_aft w u).cell (p := ⟨b, o, none⟩) ‹_›
  · rfl
theorem aft_frozen (w u : World) (b o : Nat) : (aft w u).frozen? ⟨b, o, none⟩ = if b < w.heap.size then w.frozen? ⟨b, o, none⟩ else nwF w u b o := by
  split
  · exact (below_aft w u).frozen (p := ⟨b, o, none⟩) ‹_›
  · rfl
theorem alloc_cell (w : World) (c : Array Value) (t : TypeId) (b o : Nat) : (w.alloc (.cells c t)).cell? ⟨b, o, none⟩ = if b = w.heap.size then c[o]? else w.cell? ⟨b, o, none⟩ := by
  split
  · rename_i h; subst h; exact World.cell?_alloc_new w c t o
  · exact World.cell?_alloc_old w _ ⟨b, o, none⟩ ‹_›
theorem alloc_frozen (w : World) (c : Array Value) (t : TypeId) (b o : Nat) : (w.alloc (.cells c t)).frozen? ⟨b, o, none⟩ = if b = w.heap.size then false else w.frozen? ⟨b, o, none⟩ := by
  split
  · rename_i h; subst h; exact World.frozen?_alloc_new w c t o
  · exact World.frozen?_alloc_old w _ ⟨b, o, none⟩ ‹_›
theorem set_cell (w : World) (b o b' o' : Nat) (v : Value) : (w.setCell ⟨b, o, none⟩ v).cell? ⟨b', o', none⟩ = if b = b' ∧ o = o' then (w.cell? ⟨b, o, none⟩).map (fun _ => v) else w.cell? ⟨b', o', none⟩ := by
  split
  · rename_i h
    obtain ⟨rfl, rfl⟩ := h
    cases hc : w.cell? ⟨b, o, none⟩ with
    | none =>
      have e : (w.setCell ⟨b, o, none⟩ v).cell? ⟨b, o, none⟩ = none := by
        unfold World.cell? at hc ⊢
        simp only [World.setCell, Array.getElem?_modify]
        cases hb : w.heap[b]? with
        | none => simp
        | some x => rw [hb] at hc; cases x <;> simp at hc ⊢ <;> omega
      rw [e]; rfl
    | some x => exact World.cell?_setCell_same w _ v hc
  · rename_i h
    refine World.cell?_setCell_other w _ _ v ?_
    intro e
    injection e with e1 e2
    exact h ⟨e1, e2⟩
attribute [go_sem] aft_cell aft_frozen alloc_cell alloc_frozen set_cell

/-- 'Below', and no block has gone: closed under each step of a walk. -/
def Ext (B : Nat) (w W : World) : Prop := Below B w W ∧ B ≤ W.heap.size
theorem Ext.refl (w : World) : Ext w.heap.size w w := ⟨Below.refl _ _, Nat.le_refl _⟩
theorem Ext.alloc {B : Nat} {w W : World} (h : Ext B w W) (o : Obj) : Ext B w (W.alloc o) := ⟨h.1.alloc h.2 o, by have := h.2; simp; omega⟩
theorem Ext.aft {B : Nat} {w W : World} (h : Ext B w W) (u : World) : Ext B w (aft W u) := ⟨h.1.trans ((below_aft W u).mono h.2), le_aft h.2⟩
theorem Ext.drew {B : Nat} {w W : World} (h : Ext B w W) : Ext B w W.drew := ⟨h.1.drew, h.2⟩
theorem Ext.drewN {B : Nat} {w W : World} (h : Ext B w W) (n : Nat) : Ext B w (W.drewN n) := ⟨below_drewN h.1 n, h.2⟩
theorem Ext.setCell {B : Nat} {w W : World} (h : Ext B w W) (b o : Nat) (k : Option Nat) (v : Value) (hb : B ≤ b) : Ext B w (W.setCell ⟨b, o, k⟩ v) := ⟨h.1.setCell (p := ⟨b, o, k⟩) hb v, by have := h.2; simp [World.setCell]; omega⟩
theorem Ext.bel {w W : World} (h : Ext w.heap.size w W) : Below w.heap.size w W := h.1
theorem Ext.below {w W W' : World} (h : Ext w.heap.size w W) (k : Below W.heap.size W W') : Ext w.heap.size w W' := ⟨h.1.trans (k.mono h.2), Nat.le_trans h.2 k.size⟩

/-- A call of which the value is known, and that the world has at most grown. -/
theorem via {P : Program} {f : FuncId} {args : Array Value} {w : World} {v : Value} {R : Ending → World → Prop}
    (h : Calls P f args w fun e w' => e = .returned v ∧ Below w.heap.size w w') (hR : ∀ u, w.heap.size ≤ (aft w u).heap.size → R (.returned v) (aft w u)) : Calls P f args w R :=
  h.mono fun e w' ⟨he, hb⟩ => by subst he; obtain ⟨u, rfl⟩ := aft_ex hb; exact hR u (size_aft w u)
/-- A call of which the value is known, and that the world is as it was. -/
theorem pur {P : Program} {f : FuncId} {args : Array Value} {w : World} {v : Value} {R : Ending → World → Prop}
    (h : Calls P f args w fun e w' => e = .returned v ∧ w = w') (hR : R (.returned v) w) : Calls P f args w R :=
  h.mono fun e w' ⟨he, hb⟩ => by subst he; subst hb; exact hR
/-- The first as the second's weaker form. -/
theorem weak {P : Program} {f : FuncId} {args : Array Value} {w : World} {v : Value}
    (h : Calls P f args w fun e w' => e = .returned v ∧ w = w') : Calls P f args w fun e w' => e = .returned v ∧ Below w.heap.size w w' :=
  h.mono fun e w' ⟨he, hb⟩ => ⟨he, by subst hb; exact Below.refl _ _⟩

/-- A region that draws its order, whose operations read what was there at its beginning, and whose calls at most make memory: ONE walk, in the order of the text. -/
theorem wp_region_calm {P : Program} {id : Nat} {Q : Exit → Act → World → Prop} {a : Act} {w : World} {l : List Oper} (hm : P.follows .mixedOrders = true) (hB : Region.lexB .any l.toArray = true)
    (h : wpQuiet P l.toArray (fun w' => ∃ u, w' = aft w u) (fun a' => ∀ u, w.heap.size ≤ (aft w u).heap.size → Q .normal a' (aft w u)) l a) : (Code.region id l.toArray true).wp P Q a w :=
  wp_region_quiet (C := fun w' => ∃ u, w' = aft w u) hm hB (aft_ex (Below.drew (Below.refl w.heap.size w))) (by
    have e : (fun a' => ∀ u, w.heap.size ≤ (aft w u).heap.size → Q .normal a' (aft w u)) = (fun a' => ∀ w', (∃ u, w' = aft w u) → Q .normal a' w') := by
      funext a'; refine propext ⟨fun k w' ⟨u, hu⟩ => ?_, fun k u _ => k _ ⟨u, rfl⟩⟩
      subst hu; exact k u (size_aft w u)
    rw [e] at h
    simpa using h)
theorem calm {P : Program} {f : FuncId} {args : Array Value} {w u : World} {v : Value}
    (h : Calls P f args (aft w u) fun e w' => e = .returned v ∧ Below (aft w u).heap.size (aft w u) w') : Calls P f args (aft w u) fun e w'' => e = .returned v ∧ ∃ u', w'' = aft w u' :=
  h.mono fun _ _ ⟨he, hb⟩ => ⟨he, aft_ex ((below_aft w u).trans (hb.mono (size_aft w u)))⟩
theorem calmb {P : Program} {f : FuncId} {args : Array Value} {w u : World} {b c : Bool}
    (h : Calls P f args (aft w u) fun e w' => e = .returned (.bool b) ∧ Below (aft w u).heap.size (aft w u) w') (hb : b = c) : Calls P f args (aft w u) fun e w'' => e = .returned (.bool c) ∧ ∃ u', w'' = aft w u' :=
  by subst hb; exact calm h
theorem calmp {P : Program} {f : FuncId} {args : Array Value} {w u : World} {v : Value}
    (h : Calls P f args (aft w u) fun e w' => e = .returned v ∧ aft w u = w') : Calls P f args (aft w u) fun e w'' => e = .returned v ∧ ∃ u', w'' = aft w u' := calm (weak h)
theorem calmpb {P : Program} {f : FuncId} {args : Array Value} {w u : World} {b c : Bool}
    (h : Calls P f args (aft w u) fun e w' => e = .returned (.bool b) ∧ aft w u = w') (hb : b = c) : Calls P f args (aft w u) fun e w'' => e = .returned (.bool c) ∧ ∃ u', w'' = aft w u' := calmb (weak h) hb
end Go.Proofs.Ytbkbcbanfnhjpaa

/- Slices of int64: what a slice reads as; what a call has made. -/
namespace Go.Proofs.Ytbkbcbanfnhjpaa
open Go Go.RowKit

def vI (xs : List Int) : List Value := xs.map (Value.int .i64)
theorem vI_len (xs : List Int) : (vI xs).length = xs.length := by simp [vI]

/-- v owns, from block B on, a row of just these numbers. -/
def ownR (B : Nat) (w : World) (v : Value) (xs : List Int) : Prop := w.ownsRow B 2 1 v xs.length (vI xs)
/-- v reads as these numbers. -/
def rdI (w : World) (v : Value) (xs : List Int) : Prop :=
  ∃ a cap, v = .slice a xs.length cap ∧ xs.length ≤ maxLen ∧ (xs ≠ [] → ∃ b o, a = some ⟨b, o, none⟩ ∧ ∀ i, (h : i < xs.length) → w.cell? ⟨b, o + i, none⟩ = some (.int .i64 xs[i]))

theorem ownR.nil (B : Nat) (w : World) : ownR B w (.slice none 0 0) [] := World.ownsRow_nil _ _ _ _
theorem ownR.kept {B : Nat} {w w' : World} {v : Value} {xs : List Int} (h : ownR B w v xs) (hb : ∀ k, k < w.heap.size → v.ownBlock = some k → w'.heap[k]? = w.heap[k]?) : ownR B w' v xs := by
  unfold ownR at *
  refine ⟨h.1, ?_⟩
  rcases h.2 with hn | ⟨g, cap, cur, rfl, hg, hh, r⟩
  · exact .inl hn
  · have hlt : g < w.heap.size := (Array.getElem?_eq_some_iff.1 hh).1
    exact .inr ⟨g, cap, cur, rfl, hg, by rw [hb g hlt rfl]; exact hh, r⟩
theorem ownR.below {B : Nat} {w w' : World} {v : Value} {xs : List Int} (h : ownR B w v xs) (hb : Below w.heap.size w w') : ownR B w' v xs := h.kept fun k hk _ => hb.block k hk
theorem ownR.alloc {B : Nat} {w : World} {v : Value} {xs : List Int} (h : ownR B w v xs) (o : Obj) : ownR B (w.alloc o) v xs := h.below (Below.alloc (Below.refl _ _) (Nat.le_refl _) o)
theorem ownR.aft {B : Nat} {w : World} {v : Value} {xs : List Int} (h : ownR B w v xs) (u : World) : ownR B (aft w u) v xs := h.below (below_aft w u)
theorem ownR.drew {B : Nat} {w : World} {v : Value} {xs : List Int} (h : ownR B w v xs) : ownR B w.drew v xs := h.below (Below.drew (Below.refl _ _))
theorem ownR.mono {B B' : Nat} {w : World} {v : Value} {xs : List Int} (h : ownR B w v xs) (hB : B' ≤ B) : ownR B' w v xs := by
  refine ⟨h.1, ?_⟩
  rcases h.2 with hn | ⟨g, cap, cur, rfl, hg, r⟩
  · exact .inl hn
  · exact .inr ⟨g, cap, cur, rfl, Nat.le_trans hB hg, r⟩
theorem ownR.setCell {B : Nat} {w : World} {v : Value} {xs : List Int} (h : ownR B w v xs) (b o : Nat) (k : Option Nat) (x : Value) (hb : b < B) : ownR B (w.setCell ⟨b, o, k⟩ x) v xs := by
  refine ownR.kept h fun j _ hj => ?_
  have h1 := World.ownsRow.lt h j hj
  simp only [World.setCell, Array.getElem?_modify]
  rw [if_neg (by show ¬ b = j; omega)]
theorem ownR.rd {B : Nat} {w : World} {v : Value} {xs : List Int} (h : ownR B w v xs) : rdI w v xs := by
  rcases h.2 with ⟨rfl, hn⟩ | ⟨g, cap, cur, rfl, hg, hh, h1, h2, h3⟩
  · have : xs = [] := List.eq_nil_of_length_eq_zero hn
    subst this
    exact ⟨none, 0, rfl, by simp [maxLen], fun h => absurd rfl h⟩
  · refine ⟨_, cap, rfl, by omega, fun _ => ⟨g, 0, rfl, fun i hi => ?_⟩⟩
    have hc := World.ownsRow.cells h (g := g) rfl i (.int .i64 xs[i]) (by simp [vI, hi])
    by_cases h0 : i = 0
    · subst h0; simpa [Addr.add] using hc
    · simpa [Addr.add, h0] using hc
theorem rdI.below {w w' : World} {v : Value} {xs : List Int} (h : rdI w v xs) (hb : Below w.heap.size w w') : rdI w' v xs := by
  obtain ⟨a, cap, rfl, hm, hc⟩ := h
  refine ⟨a, cap, rfl, hm, fun hne => ?_⟩
  obtain ⟨b, o, rfl, hcell⟩ := hc hne
  refine ⟨b, o, rfl, fun i hi => ?_⟩
  have h1 := hcell i hi
  rw [hb.cell (p := ⟨b, o + i, none⟩) (World.block_lt_of_cell? w _ h1)]
  exact h1
theorem rdI.alloc {w : World} {v : Value} {xs : List Int} (h : rdI w v xs) (o : Obj) : rdI (w.alloc o) v xs := h.below (Below.alloc (Below.refl _ _) (Nat.le_refl _) o)
theorem rdI.aft {w : World} {v : Value} {xs : List Int} (h : rdI w v xs) (u : World) : rdI (aft w u) v xs := h.below (below_aft w u)
theorem rdI.drew {w : World} {v : Value} {xs : List Int} (h : rdI w v xs) : rdI w.drew v xs := h.below (Below.drew (Below.refl _ _))
theorem rdI.drewN {w : World} {v : Value} {xs : List Int} (h : rdI w v xs) (n : Nat) : rdI (w.drewN n) v xs := h.below (below_drewN (Below.refl _ _) n)

/-- A call that hands back a new slice. -/
theorem viaI {P : Program} {f : FuncId} {args : Array Value} {w : World} {xs : List Int} {g : Value → Value} {R : Ending → World → Prop}
    (h : Calls P f args w fun e w' => ∃ v, e = .returned (g v) ∧ ownR w.heap.size w' v xs ∧ Below w.heap.size w w')
    (hR : ∀ v u, w.heap.size ≤ (aft w u).heap.size → ownR w.heap.size (aft w u) v xs → R (.returned (g v)) (aft w u)) : Calls P f args w R :=
  h.mono fun e w' ⟨v, he, ho, hb⟩ => by subst he; obtain ⟨u, rfl⟩ := aft_ex hb; exact hR v u (size_aft w u) ho

theorem viaE {P : Program} {f : FuncId} {args : Array Value} {w : World} {xs ys : List Int} {g : Value → Value} {R : Ending → World → Prop}
    (h : Calls P f args w fun e w' => ∃ v, e = .returned (g v) ∧ ownR w.heap.size w' v xs ∧ Below w.heap.size w w') (he : xs = ys)
    (hR : ∀ v u, w.heap.size ≤ (aft w u).heap.size → ownR w.heap.size (aft w u) v ys → R (.returned (g v)) (aft w u)) : Calls P f args w R := by
  subst he; exact viaI h hR

/-- Behind an append to a row of the call's own. -/
theorem grown_aft {W w1 w2 : World} {row : Option Nat} (h : Ext W.heap.size W w1) (hg : w1.grownBy w2 row) (hr : ∀ k, row = some k → W.heap.size ≤ k) : ∃ u, w2 = aft W u :=
  aft_ex (h.1.grown hg h.2 hr)
theorem own_row_ge {B : Nat} {w : World} {v : Value} {xs : List Int} (h : ownR B w v xs) : ∀ k, v.ownBlock = some k → B ≤ k := fun k hk => (World.ownsRow.lt h k hk).1
theorem infoI : (Try.prog.info? 2).map (fun i => (i.zero, i.size, i.bytes)) = some (some (.int .i64 0), 1, 8) := by kernel_rfl
theorem ownR.snoc {B : Nat} {w : World} {v : Value} {xs : List Int} {x : Int} (h : w.ownsRow B 2 1 v (xs.length + 1) (vI xs ++ [.int .i64 x])) : ownR B w v (xs ++ [x]) := by
  unfold ownR; simpa [vI] using h
end Go.Proofs.Ytbkbcbanfnhjpaa

/- Contracts of the smallest number functions. -/
namespace Go.Proofs.Ytbkbcbanfnhjpaa
open Go Go.RowKit

def inB (n a b : Int) : Bool := decide (a ≤ n) && decide (n ≤ b)
theorem inB_t {n a b : Int} (h1 : a ≤ n) (h2 : n ≤ b) : inB n a b = true := by simp [inB, *]
theorem inB_l {n a b : Int} (h1 : n < a) : inB n a b = false := by simp [inB]; intro; omega
theorem inB_r {n a b : Int} (h1 : b < n) : inB n a b = false := by simp [inB]; intro; omega
theorem inB_iff {n a b : Int} : inB n a b = true ↔ a ≤ n ∧ n ≤ b := by simp [inB]

set_option maxHeartbeats 400000 in
theorem i_within (n a b : Int) (w : World) :
    Calls Try.prog 73 #[.int .i64 n, .int .i64 a, .int .i64 b] w fun e w' => e = .returned (.bool (inB n a b)) ∧ w = w' := by
  by_cases h1 : a ≤ n
  · by_cases h2 : n ≤ b
    · rw [inB_t h1 h2]; go_enter Try.func73, Try.ntmps73
      go_wp2
      go_ret
      exact ⟨rfl, rfl⟩
    · rw [inB_r (by omega)]; go_enter Try.func73, Try.ntmps73
      go_wp2
      go_ret
      exact ⟨rfl, rfl⟩
  · rw [inB_l (by omega)]; go_enter Try.func73, Try.ntmps73
    go_wp2
    go_ret
    exact ⟨rfl, rfl⟩

end Go.Proofs.Ytbkbcbanfnhjpaa

/- Plain arithmetic: primes. -/
namespace Go.Proofs.Ytbkbcbanfnhjpaa

def noDivB (n : Int) : Bool := (List.range 1001).all fun d => decide (d < 2) || decide (n < (d : Int) * d) || decide (n % (d : Int) ≠ 0)
/-- A prime number up to 1000000. -/
def primeB (n : Int) : Bool := decide (2 ≤ n) && decide (n ≤ 1000000) && noDivB n
/-- A prime number up to 97. -/
def smallP (n : Int) : Bool := decide (n ≤ 97) && primeB n

theorem noDiv_t {n : Int} {k : Nat} (h : ∀ j : Nat, 2 ≤ j → j < k → n % (j : Int) ≠ 0) (hk : n < (k : Int) * k) : noDivB n = true := by
  unfold noDivB
  rw [List.all_eq_true]
  intro d _
  by_cases h2 : d < 2
  · simp [h2]
  by_cases h3 : n < (d : Int) * d
  · simp [h3]
  have : d < k := by
    rcases Nat.lt_or_ge d k with h4 | h4
    · exact h4
    · have h6 : (k : Int) * k ≤ (d : Int) * d := Int.mul_le_mul (by omega) (by omega) (by omega) (by omega)
      omega
  have h7 := h d (by omega) this
  simp [h7]

theorem noDiv_f {n : Int} {k : Nat} (h2 : 2 ≤ k) (hk : (k : Int) * k ≤ n) (hn : n ≤ 1000000) (hm : n % (k : Int) = 0) : noDivB n = false := by
  unfold noDivB
  rw [List.all_eq_false]
  have hk1 : k < 1001 := by
    rcases Nat.lt_or_ge k 1001 with h | h
    · exact h
    · have h6 : (1001 : Int) * 1001 ≤ (k : Int) * k := Int.mul_le_mul (by omega) (by omega) (by omega) (by omega)
      omega
  refine ⟨k, List.mem_range.2 hk1, ?_⟩
  have a : ¬ k < 2 := by omega
  have b : ¬ n < (k : Int) * k := by omega
  simp [a, b, hm]

theorem sq_bd {k : Nat} (h : k ≤ 1001) : 0 ≤ (k : Int) * k ∧ (k : Int) * k ≤ 1002001 := by
  have h6 : (k : Int) * k ≤ (1001 : Int) * 1001 := Int.mul_le_mul (by omega) (by omega) (by omega) (by omega)
  have h7 : (0 : Int) ≤ (k : Int) * k := Int.mul_nonneg (by omega) (by omega)
  exact ⟨h7, by omega⟩

theorem sq_lt {n : Int} {k : Nat} (hn : n ≤ 1000000) (h : (k : Int) * k ≤ n) : k ≤ 1000 := by
  rcases Nat.lt_or_ge k 1001 with h' | h'
  · omega
  · have h6 : (1001 : Int) * 1001 ≤ (k : Int) * k := Int.mul_le_mul (by omega) (by omega) (by omega) (by omega)
    omega

theorem primeB_out {n : Int} (h : n < 2 ∨ 1000000 < n) : primeB n = false := by
  unfold primeB
  rcases h with h | h
  · have : ¬ 2 ≤ n := by omega
    simp [this]
  · have : ¬ n ≤ 1000000 := by omega
    simp [this]
theorem primeB_in {n : Int} (h1 : 2 ≤ n) (h2 : n ≤ 1000000) : primeB n = noDivB n := by simp [primeB, h1, h2]
theorem smallP_hi {n : Int} (h : 97 < n) : smallP n = false := by
  have : ¬ n ≤ 97 := by omega
  simp [smallP, this]
theorem smallP_lo {n : Int} (h : n ≤ 97) : smallP n = primeB n := by simp [smallP, h]
theorem smallP_bd {n : Int} (h : smallP n = true) : 2 ≤ n ∧ n ≤ 97 := by
  simp [smallP, primeB] at h
  omega
theorem smallP_prime {n : Int} (h : smallP n = true) : primeB n = true := by
  simp [smallP] at h
  exact h.2
theorem smallP_out {n : Int} (h : n < 2 ∨ 97 < n) : smallP n = false := by
  rcases h with h | h
  · by_cases h3 : n ≤ 97
    · rw [smallP_lo h3, primeB_out (.inl h)]
    · exact smallP_hi (by omega)
  · exact smallP_hi h
end Go.Proofs.Ytbkbcbanfnhjpaa

/- Contracts: primes. -/
namespace Go.Proofs.Ytbkbcbanfnhjpaa
open Go Go.RowKit

end Go.Proofs.Ytbkbcbanfnhjpaa

/- Plain arithmetic: powers, remainders, valuations, moduli. -/
namespace Go.Proofs.Ytbkbcbanfnhjpaa

theorem pow_pos' {n : Int} (h : 1 ≤ n) (k : Nat) : 1 ≤ n ^ k := by
  induction k with
  | zero => simp
  | succ k ih => rw [Int.pow_succ]; have := Int.mul_le_mul ih h (by omega) (by omega); omega
theorem pow_mono {n : Int} (h : 1 ≤ n) {a b : Nat} (hab : a ≤ b) : n ^ a ≤ n ^ b := by
  induction hab with
  | refl => exact Int.le_refl _
  | step _ ih =>
    rename_i m _
    rw [Int.pow_succ]
    have h1 := pow_pos' h m
    have := Int.mul_le_mul (Int.le_refl (n ^ m)) h (by omega) (by omega)
    omega
theorem pow_step {n B : Int} {e k : Nat} (h : 1 ≤ n) (hb : n ^ e ≤ B) (hk : k < e) : 1 ≤ n ^ k ∧ n ^ k ≤ B ∧ 1 ≤ n ^ k * n ∧ n ^ k * n ≤ B := by
  have h1 := pow_pos' h k
  have h2 := pow_pos' h (k + 1)
  have h3 := pow_mono h (show k + 1 ≤ e from hk)
  have h4 := pow_mono h (show k ≤ e by omega)
  rw [Int.pow_succ] at h2 h3
  omega

theorem tmod_emod {n m : Int} : (n.tmod m) % m = n % m := by
  rw [Int.tmod_def, show n - m * n.tdiv m = n + m * (-(n.tdiv m)) by rw [Int.mul_neg]; omega, Int.add_mul_emod_self_left]
theorem tmod_bd {n m : Int} (h : 0 < m) : -m < n.tmod m ∧ n.tmod m < m := by
  refine ⟨Int.lt_tmod_of_pos _ h, Int.tmod_lt_of_pos _ h⟩
theorem mod_fix {n m : Int} (_h : 0 < m) : (n.tmod m + m) % m = n % m := by
  rw [Int.add_emod_right, tmod_emod]
theorem tmod_zero_iff {n p : Int} : n.tmod p = 0 ↔ n % p = 0 := by
  rw [← Int.dvd_iff_tmod_eq_zero, Int.dvd_iff_emod_eq_zero]

/-! ### How often p divides n -/
def vlF : Nat → Int → Int → Nat
  | 0, _, _ => 0
  | f + 1, n, p => if n % p = 0 then vlF f (n / p) p + 1 else 0
def vl (n p : Int) : Nat := vlF n.natAbs n p

theorem vlF_eq {p c : Int} (hp : 2 ≤ p) (hc : ¬ c % p = 0) : ∀ (k f : Nat), k ≤ f → vlF f (c * p ^ k) p = k := by
  intro k
  induction k with
  | zero =>
    intro f _
    cases f with
    | zero => rfl
    | succ f => simp only [Int.pow_zero, Int.mul_one, vlF]; rw [if_neg hc]
  | succ k ih =>
    intro f hf
    cases f with
    | zero => omega
    | succ f =>
      have e : c * p ^ (k + 1) = c * p ^ k * p := by rw [Int.pow_succ, Int.mul_assoc]
      simp only [vlF]
      rw [if_pos (by rw [e]; exact Int.mul_emod_left _ _), e, Int.mul_ediv_cancel _ (by omega), ih f (by omega)]
theorem pow_gt (p : Int) (hp : 2 ≤ p) (k : Nat) : (k : Int) < p ^ k := by
  induction k with
  | zero => simp
  | succ k ih =>
    rw [Int.pow_succ]
    have := Int.mul_le_mul (show (k : Int) + 1 ≤ p ^ k by omega) hp (by omega) (by omega)
    omega
theorem vl_eq {n p c : Int} {k : Nat} (hp : 2 ≤ p) (hn : n = c * p ^ k) (hc : ¬ c % p = 0) : vl n p = k := by
  unfold vl
  have h0 : c ≠ 0 := fun h => hc (by rw [h]; simp)
  have h1 := pow_gt p hp k
  have h2 : n.natAbs = c.natAbs * (p ^ k).natAbs := by rw [hn, Int.natAbs_mul]
  have h3 : 1 ≤ c.natAbs := by omega
  have h4 := Nat.mul_le_mul h3 (Nat.le_refl (p ^ k).natAbs)
  have h5 : k ≤ n.natAbs := by omega
  rw [hn] at h5 ⊢
  exact vlF_eq hp hc k _ h5
/-- n is p to the power of vl times something that p does not divide. -/
theorem vl_ex {p : Int} (hp : 2 ≤ p) : ∀ (f : Nat) (n : Int), n ≠ 0 → n.natAbs ≤ f → ∃ (c : Int) (k : Nat), n = c * p ^ k ∧ ¬ c % p = 0 := by
  intro f
  induction f with
  | zero => intro n h0 h; omega
  | succ f ih =>
    intro n h0 hf
    by_cases h : n % p = 0
    · have hd : n = n / p * p := by have := Int.ediv_mul_cancel (Int.dvd_of_emod_eq_zero h); omega
      have h1 : n / p ≠ 0 := fun h' => h0 (by rw [hd, h']; simp)
      have h2 : n.natAbs = (n / p).natAbs * p.natAbs := by rw [← Int.natAbs_mul, ← hd]
      have h3 := Nat.mul_le_mul (Nat.le_refl (n / p).natAbs) (show 2 ≤ p.natAbs by omega)
      obtain ⟨c, k, e, hc⟩ := ih (n / p) h1 (by omega)
      exact ⟨c, k + 1, by rw [Int.pow_succ, ← Int.mul_assoc, ← e]; exact hd, hc⟩
    · exact ⟨n, 0, by simp, h⟩
theorem vl_spec {n p : Int} (hp : 2 ≤ p) (hn : n ≠ 0) : ∃ c, n = c * p ^ vl n p ∧ ¬ c % p = 0 ∧ n / p ^ vl n p = c := by
  obtain ⟨c, k, e, hc⟩ := vl_ex hp n.natAbs n hn (Nat.le_refl _)
  have hk := vl_eq hp e hc
  have h1 := pow_pos' (show 1 ≤ p by omega) k
  rw [hk]
  exact ⟨c, e, hc, by rw [e]; exact Int.mul_ediv_cancel _ (by omega)⟩

/-! ### Moduli -/
def modu (p n : Int) : Int := if p ^ n.toNat ≤ 1000000000 then p ^ n.toNat else 0
/-- A valid ring. -/
def ringB (p n : Int) : Bool := smallP p && (decide (1 ≤ n) && decide (n ≤ 40) && decide (p ^ n.toNat ≤ 1000000000))
theorem ringB_iff {p n : Int} : ringB p n = true ↔ smallP p = true ∧ 1 ≤ n ∧ n ≤ 40 ∧ p ^ n.toNat ≤ 1000000000 := by
  simp [ringB, and_assoc]
theorem modu_ring {p n : Int} (h : ringB p n = true) : modu p n = p ^ n.toNat := by
  unfold modu; rw [if_pos (ringB_iff.1 h).2.2.2]
theorem pow_large {p : Int} (hp : 2 ≤ p) {k : Nat} (hk : 30 ≤ k) : 1000000000 < p ^ k := by
  have h1 : p ^ 30 ≤ p ^ k := pow_mono (by omega) hk
  have h2 : (2 : Int) ^ 30 ≤ p ^ 30 := by
    have h : ∀ j : Nat, (2 : Int) ^ j ≤ p ^ j := by
      intro j
      induction j with
      | zero => simp
      | succ j ih => rw [Int.pow_succ, Int.pow_succ]; exact Int.mul_le_mul ih hp (by omega) (by have := pow_pos' (show 1 ≤ p by omega) j; omega)
    exact h 30
  have h3 : (2 : Int) ^ 30 = 1073741824 := by decide
  omega
end Go.Proofs.Ytbkbcbanfnhjpaa

/- Contracts: remainders, powers, valuations, common divisors. -/
namespace Go.Proofs.Ytbkbcbanfnhjpaa
open Go Go.RowKit

theorem ret_i {a b : Int} (h : a = b) : Ending.returned (.int .i64 a) = .returned (.int .i64 b) := by rw [h]
theorem ret_b {a b : Bool} (h : a = b) : Ending.returned (.bool a) = .returned (.bool b) := by rw [h]

end Go.Proofs.Ytbkbcbanfnhjpaa

/- Readers of slices: sums, comparisons, marks. -/
namespace Go.Proofs.Ytbkbcbanfnhjpaa
open Go Go.RowKit

def lsum : List Int → Int
  | [] => 0
  | x :: r => x + lsum r
theorem lsum_snoc (xs : List Int) (x : Int) : lsum (xs ++ [x]) = lsum xs + x := by
  induction xs with
  | nil => simp [lsum]
  | cons y r ih => simp only [List.cons_append, lsum, ih]; omega
theorem take_snocI (xs : List Int) (k : Nat) (h : k < xs.length) : xs.take (k + 1) = xs.take k ++ [xs[k]] := by
  rw [List.take_succ_eq_append_getElem h]
theorem lsum_take {xs : List Int} {k : Nat} (h : k < xs.length) : lsum (xs.take (k + 1)) = lsum (xs.take k) + xs[k] := by rw [take_snocI _ _ h, lsum_snoc]
theorem lsum_bd {B : Int} (xs : List Int) (h : ∀ x ∈ xs, 0 ≤ x ∧ x ≤ B) : 0 ≤ lsum xs ∧ lsum xs ≤ B * xs.length := by
  induction xs with
  | nil => simp [lsum]
  | cons y r ih =>
    have h1 := h y (by simp)
    have h2 := ih (fun x hx => h x (by simp [hx]))
    have e : B * ((r.length + 1 : Nat) : Int) = B * (r.length : Int) + B := by rw [Int.natCast_add, Int.mul_add]; simp
    simp only [lsum, List.length_cons]
    rw [e]
    omega
theorem lsum_take_bd {xs : List Int} (h : ∀ x ∈ xs, 0 ≤ x ∧ x ≤ 1000) (hl : xs.length ≤ 1000) (k : Nat) : 0 ≤ lsum (xs.take k) ∧ lsum (xs.take k) ≤ 1000000 := by
  have h1 := lsum_bd (B := 1000) (xs.take k) (fun x hx => h x (List.mem_of_mem_take hx))
  have h2 : (xs.take k).length ≤ 1000 := by rw [List.length_take]; omega
  omega


set_option maxHeartbeats 1000000 in
theorem l_eqI (r1 r2 : Value) (xs : List Int) (w : World) (h : rdI w r1 xs) (h' : rdI w r2 xs) :
    Calls Try.prog 80 #[r1, r2] w fun e w' => e = .returned (.bool true) ∧ Below w.heap.size w w' := by
  obtain ⟨a, cap, rfl, hm, hc⟩ := h
  obtain ⟨a', cap', rfl, hm', hc'⟩ := h'
  have Hc := hid hc
  have Hc' := hid hc'
  unfold maxLen at hm
  clear hc hc' hm'
  go_enter Try.func80, Try.ntmps80
  go_wp2_with fail
  go_loopw [5] (fun i wr => ∃ (k : Nat) (uu : World), wr = aft w uu ∧ k ≤ xs.length ∧ i = .int .i64 k) (fun i _ => xs.length - (intOf i).toNat)
  case atStart => exact ⟨0, w, (aft_of (Below.refl _ _)).symm, by omega, rfl⟩
  case round =>
    obtain ⟨k, uu, rfl, hk, rfl⟩ := hrel
    by_cases hlt : k < xs.length
    · obtain ⟨b, o, rfl, hcell⟩ := Hc.out (by intro e; subst e; simp at hlt)
      obtain ⟨b', o', rfl, hcell'⟩ := Hc'.out (by intro e; subst e; simp at hlt)
      have h1 := hcell k hlt
      have h2 := hcell' k hlt
      have h3 := World.block_lt_of_cell? w _ h1
      have h4 := World.block_lt_of_cell? w _ h2
      obtain ⟨x, hx⟩ : ∃ x, x = xs[k] := ⟨_, rfl⟩
      rw [← hx] at h1 h2
      have hz : ((k : Int) : Int) < (xs.length : Int) := by omega
      have hz0 : (0 : Int) ≤ (k : Int) := by omega
      have zs := size_aft w uu
      clear hx hcell hcell'
      go_wp2_with fail
      refine wp_region_calm (by kernel_rfl) (by kernel_rfl) ?_
      repeat (go_big_quiet_step (fail))
      refine wpQuiet_nil ?_; intro uq zq; try simp at zq
      go_wp2_with fail
      go_roundw
      case rel => exact ⟨k + 1, _, (aft_of ((below_aft w uu).trans ((below_aft _ _).mono (size_aft w uu)))).symm, by omega, by go_num⟩
      case measure => simp [intOf]; omega
    · obtain rfl : k = xs.length := by omega
      go_wp2
      go_ret
      exact ⟨rfl, (by refine Ext.bel ?_; repeat (with_reducible first | exact Ext.refl _ | apply Ext.alloc | apply Ext.aft | apply Ext.drew | apply Ext.drewN | apply Ext.setCell | exact Nat.le_add_right _ _ | exact Nat.le_refl _ | (simp; done) | omega))⟩
end Go.Proofs.Ytbkbcbanfnhjpaa

/- Marks: slices of the call's own that are written and read again. -/
namespace Go.Proofs.Ytbkbcbanfnhjpaa
open Go Go.RowKit

open Classical in
noncomputable def aftB (B : Nat) (w u : World) : World := if Below B w u then u else w
theorem below_aftB (B : Nat) (w u : World) : Below B w (aftB B w u) := by
  unfold aftB; split
  · assumption
  · exact Below.refl _ _
theorem aftB_ex {B : Nat} {w w' : World} (h : Below B w w') : ∃ u, w' = aftB B w u := ⟨w', by unfold aftB; rw [if_pos h]⟩
theorem size_aftB (B : Nat) (w u : World) : w.heap.size ≤ (aftB B w u).heap.size := (below_aftB B w u).size
noncomputable def nwCB (B : Nat) (w u : World) (b o : Nat) : Option Value := (aftB B w u).cell? ⟨b, o, none⟩
noncomputable def nwFB (B : Nat) (w u : World) (b o : Nat) : Bool := (aftB B w u).frozen? ⟨b, o, none⟩
theorem aftB_cell (B : Nat) (w u : World) (b o : Nat) : (aftB B w u).cell? ⟨b, o, none⟩ = if b < B then w.cell? ⟨b, o, none⟩ else nwCB B w u b o := by
  split
  · exact (below_aftB B w u).cell (p := ⟨b, o, none⟩) ‹_›
  · rfl
theorem aftB_frozen (B : Nat) (w u : World) (b o : Nat) : (aftB B w u).frozen? ⟨b, o, none⟩ = if b < B then w.frozen? ⟨b, o, none⟩ else nwFB B w u b o := by
  split
  · exact (below_aftB B w u).frozen (p := ⟨b, o, none⟩) ‹_›
  · rfl
attribute [go_sem] aftB_cell aftB_frozen
theorem Ext.aftB {B : Nat} {w W : World} (h : Ext B w W) (B' : Nat) (u : World) (hB : B ≤ B') : Ext B w (aftB B' W u) := ⟨h.1.trans ((below_aftB B' W u).mono hB), Nat.le_trans h.2 (size_aftB _ _ _)⟩

/-- v's row lies below L. -/
def rowLt (L : Nat) (v : Value) : Prop := ∀ k, v.ownBlock = some k → k < L
theorem rowLt.mono {L L' : Nat} {v : Value} (h : rowLt L v) (hl : L ≤ L') : rowLt L' v := fun k hk => Nat.lt_of_lt_of_le (h k hk) hl
theorem ownR.rowLt {B : Nat} {w : World} {v : Value} {xs : List Int} (h : ownR B w v xs) : rowLt w.heap.size v := fun k hk => (World.ownsRow.lt h k hk).2
theorem ownR.aftB {B0 B : Nat} {w : World} {v : Value} {xs : List Int} (h : ownR B0 w v xs) (u : World) (hl : Go.Proofs.Ytbkbcbanfnhjpaa.rowLt B v) : ownR B0 (aftB B w u) v xs :=
  h.kept fun k _ hk => (below_aftB B w u).block k (hl k hk)
theorem rdI.aftB {B L : Nat} {w : World} {v : Value} {xs : List Int} (h : rdI w v xs) (u : World) (hl : rowLt L v) (hB : L ≤ B) : rdI (aftB B w u) v xs := by
  obtain ⟨a, cap, rfl, hm, hc⟩ := h
  refine ⟨a, cap, rfl, hm, fun hne => ?_⟩
  obtain ⟨b, o, rfl, hcell⟩ := hc hne
  refine ⟨b, o, rfl, fun i hi => ?_⟩
  have h1 := hcell i hi
  have h2 := hl b rfl
  rw [(below_aftB B w u).cell (p := ⟨b, o + i, none⟩) (show b < B by omega)]
  exact h1

theorem rdI.belowB {B L : Nat} {w w' : World} {v : Value} {xs : List Int} (hb : Below B w w') (h : rdI w v xs) (hl : Go.Proofs.Ytbkbcbanfnhjpaa.rowLt L v) (hB : L ≤ B) : rdI w' v xs := by
  obtain ⟨u, rfl⟩ := aftB_ex hb; exact h.aftB u hl hB
theorem le_aftB {B b : Nat} {w u : World} (h : b ≤ w.heap.size) : b ≤ (Go.Proofs.Ytbkbcbanfnhjpaa.aftB B w u).heap.size := Nat.le_trans h (size_aftB B w u)
theorem le_alloc {b : Nat} {w : World} {o : Obj} (h : b ≤ w.heap.size) : b ≤ (w.alloc o).heap.size := by simp; omega
theorem le_set {b : Nat} {w : World} {a : Addr} {v : Value} (h : b ≤ w.heap.size) : b ≤ (w.setCell a v).heap.size := by simpa using h

def marks (k : Int) (n : Nat) : List Int := (List.range n).map fun (i : Nat) => k + (i : Int)
theorem marks_len (k : Int) (n : Nat) : (marks k n).length = n := by simp [marks]
theorem marks_succ (k : Int) (n : Nat) : marks k (n + 1) = marks k n ++ [k + n] := by simp [marks, List.range_succ]

theorem mark_step {k : Int} {xs : List Int} {j : Nat} (h : j < xs.length) :
    (vI (marks k j ++ xs.drop j)).set j (.int .i64 (k + j)) = vI (marks k (j + 1) ++ xs.drop (j + 1)) := by
  have e : (marks k j ++ xs.drop j).set j (k + j) = marks k (j + 1) ++ xs.drop (j + 1) := by
    have hl := marks_len k j
    rw [List.set_append_right _ _ (by omega), hl, Nat.sub_self, List.drop_eq_getElem_cons h, List.set_cons_zero, marks_succ, List.append_assoc]
    rfl
  rw [← e]
  simp [vI, List.map_set]
theorem grownBy_refl (w : World) (row : Option Nat) : w.grownBy w row := ⟨rfl, rfl, rfl, Nat.le_refl _, fun _ _ _ => rfl⟩
theorem grownBy_trans {a b c : World} {row : Option Nat} (h : a.grownBy b row) (k : b.grownBy c row) : a.grownBy c row :=
  ⟨k.os.trans h.os, k.tape.trans h.tape, k.output.trans h.output, Nat.le_trans h.size k.size, fun i hi hn => (k.block i (Nat.lt_of_lt_of_le hi h.size) hn).trans (h.block i hi hn)⟩

set_option maxHeartbeats 1000000 in
theorem l_markI (B : Nat) (r : Value) (xs : List Int) (k : Int) (w : World) (h : ownR B w r xs) (hk : 0 ≤ k ∧ k ≤ 1000000000000000) (hl : xs.length ≤ 1000000000000000) :
    Calls Try.prog 81 #[r, .int .i64 k] w fun e w' => e = .returned (.int .i64 (k + xs.length)) ∧ ownR B w' r (marks k xs.length) ∧ Below B w w' := by
  rcases h.2 with ⟨rfl, hn⟩ | ⟨g, cap, cur, rfl, hg, hh, hr⟩
  · obtain rfl : xs = [] := List.eq_nil_of_length_eq_zero hn
    go_enter Try.func81, Try.ntmps81
    go_wp2_with fail
    refine wp_loop_rounds 1 ?_; rw [rounds_succ]
    go_wp2
    go_ret
    exact ⟨ret_i (by simp), by simpa [marks] using ownR.nil B w, Below.refl _ _⟩
  have hlt0 : g < w.heap.size := (Array.getElem?_eq_some_iff.1 hh).1
  have H0 := hid h
  have hn : xs.length ≤ cap := hr.1
  clear hh hr h
  go_enter Try.func81, Try.ntmps81
  go_wp2_with fail
  go_loopw [1, 5] (fun kk i wr => ∃ j : Nat, j ≤ xs.length ∧ i = .int .i64 j ∧ kk = .int .i64 (k + j) ∧ wr.ownsRow B 2 1 (.slice (some ⟨g, 0, none⟩) xs.length cap) xs.length (vI (marks k j ++ xs.drop j)) ∧ w.grownBy wr (some g)) (fun _ i _ => xs.length - (intOf i).toNat)
  case atStart => exact ⟨0, by omega, rfl, by go_num, by have := H0.out; unfold ownR at this; simpa [marks] using this, grownBy_refl _ _⟩
  case round =>
    obtain ⟨j, hj, rfl, rfl, hown, hgr⟩ := hrel
    by_cases hlt : j < xs.length
    · have h1 := hown.cellAt j (by omega)
      have hlen : (vI (marks k j ++ xs.drop j)).length = xs.length := by rw [vI_len, List.length_append, marks_len, List.length_drop]; omega
      obtain ⟨x, hx⟩ : ∃ x, (vI (marks k j ++ xs.drop j))[j]? = some x := ⟨_, List.getElem?_eq_getElem (by omega)⟩
      rw [hx] at h1
      have h2 := hown.frozenAt j
      have hst := hown.stored j (.int .i64 (k + j))
      rw [mark_step hlt] at hst
      have HS := hid hst
      have HG := hid hgr
      clear hst hx hlen hown hgr
      go_wp2
      go_roundw
      case rel => exact ⟨j + 1, by omega, by go_num, by go_num, HS.out.1, grownBy_trans HG.out HS.out.2⟩
      case measure => simp [intOf]; omega
    · obtain rfl : j = xs.length := by omega
      have HO := hid hown
      have HG := hid hgr
      clear hown hgr
      go_wp2
      go_ret
      refine ⟨rfl, ?_, Below.grown (Below.refl _ _) HG.out (by omega) (fun k hk => by injection hk with hk; omega)⟩
      have := HO.out
      unfold ownR
      rw [marks_len]
      simpa using this

set_option maxHeartbeats 1000000 in
theorem l_heldI (r : Value) (n : Nat) (k : Int) (w : World) (h : rdI w r (marks k n)) (hk : 0 ≤ k ∧ k ≤ 1000000000000000) (hl : n ≤ 1000000000000000) :
    Calls Try.prog 82 #[r, .int .i64 k] w fun e w' => e = .returned (.int .i64 (k + n)) ∧ w = w' := by
  obtain ⟨a, cap, rfl, hm, hc⟩ := h
  have Hc := hid hc
  rw [marks_len]
  clear hc hm
  go_enter Try.func82, Try.ntmps82
  go_wp2_with fail
  go_loop [1, 5] (fun kk i => ∃ j : Nat, j ≤ n ∧ i = .int .i64 j ∧ kk = .int .i64 (k + j)) (fun _ i => n - (intOf i).toNat)
  case atStart => exact ⟨0, by omega, rfl, by go_num⟩
  case round =>
    obtain ⟨j, hj, rfl, rfl⟩ := hrel
    by_cases hlt : j < n
    · have hne : marks k n ≠ [] := by intro e; have := marks_len k n; rw [e] at this; simp at this; omega
      obtain ⟨b, o, rfl, hcell⟩ := Hc.out hne
      have h1 := hcell j (by rw [marks_len]; exact hlt)
      have e1 : (marks k n)[j]'(by rw [marks_len]; exact hlt) = k + j := by simp [marks]
      rw [e1] at h1
      have hbq : ((k + j : Int) == (k + j : Int)) = true := by simp
      clear e1 hcell hne
      go_wp2
      go_round
      case rel => exact ⟨j + 1, by omega, by go_num, by go_num⟩
      case measure => simp [intOf]; omega
    · obtain rfl : j = n := by omega
      go_wp2
      go_ret
      exact ⟨rfl, rfl⟩
end Go.Proofs.Ytbkbcbanfnhjpaa

/- Slices of slices of numbers. -/
namespace Go.Proofs.Ytbkbcbanfnhjpaa
open Go Go.RowKit

theorem infoS : (Try.prog.info? 24).map (fun i => (i.zero, i.size, i.bytes)) = some (some (.slice none 0 0), 1, 24) := by kernel_rfl
theorem own_one {B : Nat} {w : World} {e : Value} {xs : List Int} (h : ownR B w e xs) : e.oneCell' = true := by
  rcases h.2 with ⟨rfl, _⟩ | ⟨g, cap, cur, rfl, _⟩ <;> rfl
/-- A row of slices is no row of numbers. -/
theorem own_apart {B B' n : Nat} {w : World} {v e : Value} {es : List Value} {xs : List Int} (h : w.ownsRow B 24 1 v n es) (he : ownR B' w e xs) : ∀ k, e.ownBlock = some k → v.ownBlock ≠ some k := by
  intro k hk hv
  rcases he.2 with ⟨rfl, _⟩ | ⟨g, cap, cur, rfl, _, hg, _⟩
  · simp [Value.ownBlock] at hk
  · rcases h.2 with ⟨rfl, _⟩ | ⟨g', cap', cur', rfl, _, hg', _⟩
    · simp [Value.ownBlock] at hv
    · simp [Value.ownBlock] at hk hv
      subst hk hv
      rw [hg] at hg'
      cases hg'
/-- v owns a row of just these slices, each of which owns just these numbers. -/
def ownE (B : Nat) (w : World) (v : Value) (es : List Value) (xss : List (List Int)) : Prop :=
  es.length = xss.length ∧ w.ownsRow B 24 1 v xss.length es ∧ ∀ i, (h : i < xss.length) → ∃ e, es[i]? = some e ∧ ownR B w e xss[i]
def ownRR (B : Nat) (w : World) (v : Value) (xss : List (List Int)) : Prop := ∃ es, ownE B w v es xss
/-- v reads as these lists. -/
def rdRR (w : World) (v : Value) (xss : List (List Int)) : Prop :=
  ∃ a cap, v = .slice a xss.length cap ∧ xss.length ≤ maxLen ∧ (xss ≠ [] → ∃ b o, a = some ⟨b, o, none⟩ ∧ ∀ i, (h : i < xss.length) → ∃ e, w.cell? ⟨b, o + i, none⟩ = some e ∧ ownR 0 w e xss[i])
theorem owns_kept {B T n : Nat} {w w' : World} {v : Value} {es : List Value} (h : w.ownsRow B T 1 v n es) (hb : ∀ k, k < w.heap.size → v.ownBlock = some k → w'.heap[k]? = w.heap[k]?) : w'.ownsRow B T 1 v n es := by
  refine ⟨h.1, ?_⟩
  rcases h.2 with hn | ⟨g, cap, cur, rfl, hg, hh, r⟩
  · exact .inl hn
  · exact .inr ⟨g, cap, cur, rfl, hg, by rw [hb g (Array.getElem?_eq_some_iff.1 hh).1 rfl]; exact hh, r⟩
theorem ownE.nil (B : Nat) (w : World) : ownE B w (.slice none 0 0) [] [] := ⟨rfl, World.ownsRow_nil _ _ _ _, fun i h => by simp at h⟩
theorem ownE.below {B : Nat} {w w' : World} {v : Value} {es : List Value} {xss : List (List Int)} (h : ownE B w v es xss) (hb : Below w.heap.size w w') : ownE B w' v es xss :=
  ⟨h.1, owns_kept h.2.1 fun k hk _ => hb.block k hk, fun i hi => by obtain ⟨e, h1, h2⟩ := h.2.2 i hi; exact ⟨e, h1, h2.below hb⟩⟩
theorem ownRR.below {B : Nat} {w w' : World} {v : Value} {xss : List (List Int)} (h : ownRR B w v xss) (hb : Below w.heap.size w w') : ownRR B w' v xss := by obtain ⟨es, h⟩ := h; exact ⟨es, h.below hb⟩
theorem ownRR.aft {B : Nat} {w : World} {v : Value} {xss : List (List Int)} (h : ownRR B w v xss) (u : World) : ownRR B (aft w u) v xss := h.below (below_aft w u)
theorem ownE.mono {B B' : Nat} {w : World} {v : Value} {es : List Value} {xss : List (List Int)} (h : ownE B w v es xss) (hB : B' ≤ B) : ownE B' w v es xss := by
  refine ⟨h.1, ⟨h.2.1.1, ?_⟩, fun i hi => by obtain ⟨e, h1, h2⟩ := h.2.2 i hi; exact ⟨e, h1, h2.mono hB⟩⟩
  rcases h.2.1.2 with hn | ⟨g, cap, cur, rfl, hg, r⟩
  · exact .inl hn
  · exact .inr ⟨g, cap, cur, rfl, Nat.le_trans hB hg, r⟩
theorem ownRR.mono {B B' : Nat} {w : World} {v : Value} {xss : List (List Int)} (h : ownRR B w v xss) (hB : B' ≤ B) : ownRR B' w v xss := by obtain ⟨es, h⟩ := h; exact ⟨es, h.mono hB⟩
theorem ownRR.rd {B : Nat} {w : World} {v : Value} {xss : List (List Int)} (h : ownRR B w v xss) : rdRR w v xss := by
  obtain ⟨es, hl, h, he⟩ := h
  rcases h.2 with ⟨rfl, hn⟩ | ⟨g, cap, cur, rfl, hg, hh, h1, h2, h3⟩
  · have : xss = [] := List.eq_nil_of_length_eq_zero hn
    subst this
    exact ⟨none, 0, rfl, by simp [maxLen], fun h => absurd rfl h⟩
  · refine ⟨_, cap, rfl, by omega, fun _ => ⟨g, 0, rfl, fun i hi => ?_⟩⟩
    obtain ⟨e, he1, he2⟩ := he i hi
    have hc := World.ownsRow.cells h (g := g) rfl i e he1
    refine ⟨e, ?_, he2.mono (Nat.zero_le _)⟩
    by_cases h0 : i = 0
    · subst h0; simpa [Addr.add] using hc
    · simpa [Addr.add, h0] using hc
theorem rdRR.below {w w' : World} {v : Value} {xss : List (List Int)} (h : rdRR w v xss) (hb : Below w.heap.size w w') : rdRR w' v xss := by
  obtain ⟨a, cap, rfl, hm, hc⟩ := h
  refine ⟨a, cap, rfl, hm, fun hne => ?_⟩
  obtain ⟨b, o, rfl, hcell⟩ := hc hne
  refine ⟨b, o, rfl, fun i hi => ?_⟩
  obtain ⟨e, h1, h2⟩ := hcell i hi
  exact ⟨e, by rw [hb.cell (p := ⟨b, o + i, none⟩) (World.block_lt_of_cell? w _ h1)]; exact h1, h2.below hb⟩
theorem rdRR.alloc {w : World} {v : Value} {xss : List (List Int)} (h : rdRR w v xss) (o : Obj) : rdRR (w.alloc o) v xss := h.below (Below.alloc (Below.refl _ _) (Nat.le_refl _) o)
theorem rdRR.aft {w : World} {v : Value} {xss : List (List Int)} (h : rdRR w v xss) (u : World) : rdRR (Go.Proofs.Ytbkbcbanfnhjpaa.aft w u) v xss := h.below (below_aft w u)
theorem rdRR.drew {w : World} {v : Value} {xss : List (List Int)} (h : rdRR w v xss) : rdRR w.drew v xss := h.below (Below.drew (Below.refl _ _))
/-- Behind an append of a slice of the call's own. -/
theorem ownE.snoc {B : Nat} {w w1 : World} {v v' e : Value} {es : List Value} {xss : List (List Int)} {xs : List Int} (h : ownE B w v es xss) (he : ownR B w e xs)
    (hown : w1.ownsRow B 24 1 v' (xss.length + 1) (es ++ [e])) (hgr : w.grownBy w1 v.ownBlock) : ownE B w1 v' (es ++ [e]) (xss ++ [xs]) := by
  have keep : ∀ {e xs}, ownR B w e xs → ownR B w1 e xs := fun he => he.kept fun k hk hb => hgr.block k hk (fun x => own_apart h.2.1 he k hb x.symm)
  refine ⟨by simp [h.1], by simpa using hown, fun i hi => ?_⟩
  rcases Nat.lt_or_ge i xss.length with hlt | hge
  · obtain ⟨e', h1, h2⟩ := h.2.2 i hlt
    exact ⟨e', by rw [List.getElem?_append_left (by rw [h.1]; exact hlt)]; exact h1, by rw [List.getElem_append_left hlt]; exact keep h2⟩
  · obtain rfl : i = xss.length := by simp at hi; omega
    exact ⟨e, by rw [List.getElem?_append_right (by rw [h.1]; exact Nat.le_refl _), h.1]; simp, by simpa using keep he⟩
theorem ownE.row {B : Nat} {w : World} {v : Value} {es : List Value} {xss : List (List Int)} (h : ownE B w v es xss) : ∀ k, v.ownBlock = some k → B ≤ k := fun k hk => (World.ownsRow.lt h.2.1 k hk).1

/-- A call that hands back a new slice of slices. -/
theorem viaRR {P : Program} {f : FuncId} {args : Array Value} {w : World} {xss : List (List Int)} {g : Value → Value} {R : Ending → World → Prop}
    (h : Calls P f args w fun e w' => ∃ v, e = .returned (g v) ∧ ownRR w.heap.size w' v xss ∧ Below w.heap.size w w')
    (hR : ∀ v u, w.heap.size ≤ (aft w u).heap.size → ownRR w.heap.size (aft w u) v xss → R (.returned (g v)) (aft w u)) : Calls P f args w R :=
  h.mono fun e w' ⟨v, he, ho, hb⟩ => by subst he; obtain ⟨u, rfl⟩ := aft_ex hb; exact hR v u (size_aft w u) ho
end Go.Proofs.Ytbkbcbanfnhjpaa

/- A region that draws its order: a head that reads and calls calmly, behind it a tail in one forced order (a store, say). One walk of the text's order serves every order. -/
namespace Go.Proofs.Ytbkbcbanfnhjpaa
open Go Go.RowKit

/-- Each operation of the head waits for earlier ones alone. -/
def earlierB (md : Region.Mode) (ops : Array Oper) : Bool :=
  (List.range ops.size).all fun i => match ops[i]? with
    | some o => o.after.toList.all fun e => !Region.binds md e || decide (e.on < i)
    | none => true

section
variable {P : Program} {md : Region.Mode} {ops hd : Array Oper} {C : World → Prop} {T : Act → Prop} {Q : Exit → Act → World → Prop} {N : Nat}

theorem yielded_head (hN : ∀ i, i < N → hd[i]? = ops[i]?) (tmps : Array Value) (j : Nat) (h : j < N) : yielded hd tmps j = yielded ops tmps j := by
  unfold yielded; rw [hN j h]

def extL (n N : Nat) (l : Array Bool) : Array Bool := (l.toList ++ List.replicate (n - N) false).toArray

theorem extL_size {n N : Nat} {l : Array Bool} (h : l.size = N) (hn : N ≤ n) : (extL n N l).size = n := by simp [extL]; omega
theorem extL_lo {n N : Nat} {l : Array Bool} (h : l.size = N) (i : Nat) (hi : i < N) (d : Bool) : (extL n N l).getD i d = l.getD i d := by
  simp only [extL, Array.getD_eq_getD_getElem?, List.getElem?_toArray]
  rw [List.getElem?_append_left (by simpa [h] using hi)]
  simp
theorem extL_set {n N : Nat} {l : Array Bool} (h : l.size = N) (i : Nat) (hi : i < N) : (extL n N l).setIfInBounds i true = extL n N (l.setIfInBounds i true) := by
  simp only [extL, List.setIfInBounds_toArray]
  rw [List.set_append_left _ _ (by simpa [h] using hi)]
  simp

theorem head_ready (hsz : hd.size = N) (hN : ∀ i, i < N → hd[i]? = ops[i]?) (he : earlierB md hd = true) {l : Array Bool} (hl : l.size = N) {i : Nat} (hi : i < N) :
    i ∈ Region.ready md ops (extL ops.size N l) ↔ i ∈ Region.ready md hd l := by
  rw [mem_ready, mem_ready, extL_lo hl i hi, hN i hi]
  constructor
  · rintro ⟨h1, o, ho, h2⟩
    refine ⟨h1, o, ho, fun e hem hb => ?_⟩
    have h3 := List.all_eq_true.1 he i (List.mem_range.2 (by omega))
    rw [hN i hi, ho] at h3
    have h4 := List.all_eq_true.1 h3 e (by simpa using hem)
    simp only [hb, Bool.not_true, Bool.false_or, decide_eq_true_eq] at h4
    have := h2 e hem hb
    rwa [extL_lo hl e.on (by omega)] at this
  · rintro ⟨h1, o, ho, h2⟩
    refine ⟨h1, o, ho, fun e hem hb => ?_⟩
    have h3 := List.all_eq_true.1 he i (List.mem_range.2 (by omega))
    rw [hN i hi, ho] at h3
    have h4 := List.all_eq_true.1 h3 e (by simpa using hem)
    simp only [hb, Bool.not_true, Bool.false_or, decide_eq_true_eq] at h4
    rw [extL_lo hl e.on (by omega)]
    exact h2 e hem hb

/-- The first that has not come up is ready. -/
theorem some_ready (hsz : hd.size = N) (he : earlierB md hd = true) {l : Array Bool} (hl : l.size = N) : ∀ (k : Nat), k < N → l.getD k true = false → ∃ i, i ∈ Region.ready md hd l := by
  intro k
  induction k using Nat.strongRecOn with
  | _ k ih =>
    intro hk hun
    by_cases h : ∃ j, j < k ∧ l.getD j true = false
    · obtain ⟨j, hj, hu⟩ := h; exact ih j hj (by omega) hu
    · refine ⟨k, mem_ready.2 ⟨hun, hd[k]'(by omega), Array.getElem?_eq_getElem (by omega), fun e hem hb => ?_⟩⟩
      have h3 := List.all_eq_true.1 he k (List.mem_range.2 (by omega))
      rw [Array.getElem?_eq_getElem (by omega)] at h3
      have h4 := List.all_eq_true.1 h3 e (by simpa using hem)
      simp only [hb, Bool.not_true, Bool.false_or, decide_eq_true_eq] at h4
      cases hg : l.getD e.on false with
      | true => rfl
      | false =>
        exfalso
        refine h ⟨e.on, h4, ?_⟩
        have hlt : e.on < l.size := by omega
        simp [hlt] at hg ⊢
        exact hg

theorem wpAny_more {fuel : Nat} : ∀ {listed : Array Bool} {a : Act} {w : World}, wpAny P md ops Q fuel listed a w → wpAny P md ops Q (fuel + 1) listed a w := by
  induction fuel with
  | zero => intro listed a w h; exact ⟨fun _ => h.2, fun i hi => by rw [h.1] at hi; cases hi⟩
  | succ f ih => intro listed a w h; exact ⟨h.1, fun i hi => wpOp_mono (fun a' w' h' => ih h') (h.2 i hi)⟩
theorem wpAny_more' {g : Nat} (f : Nat) {listed : Array Bool} {a : Act} {w : World} (h : wpAny P md ops Q g listed a w) : wpAny P md ops Q (f + g) listed a w := by
  induction f with
  | zero => rw [Nat.zero_add]; exact h
  | succ f ih => rw [show f + 1 + g = (f + g) + 1 by omega]; exact wpAny_more ih

theorem guard_lt (hsz : hd.size = N) (hgB : (List.range hd.size).all (fun i => match hd[i]? with | some o => (match o.guard with | some (j, _) => decide (j < i) | none => true) | none => true) = true) {i : Nat} {o : Oper} (ho : hd[i]? = some o) (tmps : Array Value)
    (hN : ∀ i, i < N → hd[i]? = ops[i]?) : Region.wanted o (yielded hd tmps) = Region.wanted o (yielded ops tmps) := by
  have hi : i < hd.size := (Array.getElem?_eq_some_iff.1 ho).1
  have h3 := List.all_eq_true.1 hgB i (List.mem_range.2 hi)
  rw [ho] at h3
  unfold Region.wanted
  cases hg : o.guard with
  | none => rfl
  | some q =>
    obtain ⟨j, b⟩ := q
    simp only [hg, decide_eq_true_eq] at h3
    simp only [yielded_head hN tmps j (by omega)]

def guardsB (ops : Array Oper) : Bool := (List.range ops.size).all (fun i => match ops[i]? with | some o => (match o.guard with | some (j, _) => decide (j < i) | none => true) | none => true)

theorem head_any (hsz : hd.size = N) (hN : ∀ i, i < N → hd[i]? = ops[i]?) (hlt : N < ops.size) (he : earlierB md hd = true) (hg : guardsB hd = true)
    (hs : Region.sinkB md ops N = true) (hc : Region.chainB md ops N = true) {g : Nat}
    (hbase : ∀ a w, C w → T a → wpAny P md ops Q g (extL ops.size N (Array.replicate N true)) a w) :
    ∀ (f : Nat) (l : Array Bool) (a : Act) (w : World), l.size = N → HeadInv md ops N (extL ops.size N l) → C w → wpAnyQ P md hd C T f l a → wpAny P md ops Q (f + g) (extL ops.size N l) a w := by
  intro f
  have allT : ∀ l : Array Bool, l.size = N → Region.ready md hd l = [] → l = Array.replicate N true := by
    intro l hl hr
    apply Array.ext (by simp [hl])
    intro i h1 h2
    simp only [Array.getElem_replicate]
    cases hx : l[i] with
    | true => rfl
    | false =>
      obtain ⟨j, hj⟩ := some_ready (md := md) hsz he hl i (by omega) (by simp [h1, hx])
      rw [hr] at hj; cases hj
  have rlt : ∀ (l : Array Bool), l.size = N → HeadInv md ops N (extL ops.size N l) → (∃ i, i ∈ Region.ready md hd l) → ∀ i ∈ Region.ready md ops (extL ops.size N l), i < N := by
    intro l hl inv ⟨j, hj⟩ i hi
    rcases Nat.lt_or_ge i N with h | h
    · exact h
    · have hjN : j < N := by obtain ⟨_, o, ho, _⟩ := mem_ready.1 hj; have := (Array.getElem?_eq_some_iff.1 ho).1; omega
      have := (mem_ready.1 hj).1
      exact absurd hi (tail_waits hs hc hlt inv _ j rfl hjN (by rw [extL_lo hl j hjN]; exact this) i h)
  induction f with
  | zero =>
    intro l a w hl inv hw h
    rw [allT l hl h.1]
    exact wpAny_more' 0 (hbase a w hw h.2)
  | succ f ih =>
    intro l a w hl inv hw h
    by_cases hr : Region.ready md hd l = []
    · rw [allT l hl hr]
      exact wpAny_more' _ (hbase a w hw (h.1 hr))
    · have hex : ∃ i, i ∈ Region.ready md hd l := by
        cases hq : Region.ready md hd l with
        | nil => exact absurd hq hr
        | cons i _ => exact ⟨i, by simp⟩
      rw [show f + 1 + g = (f + g) + 1 by omega]
      refine ⟨fun h0 => ?_, fun i hi => ?_⟩
      · obtain ⟨j, hj⟩ := hex
        have hjN : j < N := by obtain ⟨_, o, ho, _⟩ := mem_ready.1 hj; have := (Array.getElem?_eq_some_iff.1 ho).1; omega
        have := (head_ready hsz hN he hl hjN).2 hj
        rw [h0] at this; cases this
      · have hiN := rlt l hl inv hex i hi
        have hi' := (head_ready hsz hN he hl hiN).1 hi
        have hq := h.2 i hi'
        have inv' := inv.set hi hiN
        rw [extL_set hl i hiN] at inv' ⊢
        unfold qOp at hq
        unfold wpOp
        rw [← hN i hiN]
        cases ho : hd[i]? with
        | none => simp only [ho] at hq; exact ih _ _ _ (by simpa using hl) inv' hw hq
        | some o =>
          simp only [ho] at hq
          dsimp only
          rw [← guard_lt hsz hg ho a.tmps hN]
          split
          · rename_i hwt
            simp only [hwt, if_true] at hq
            exact .inl (Oper.wp_of_quiet hw (fun a' w' hw' k => ih _ _ _ (by simpa using hl) inv' hw' k) hq)
          · rename_i hwt
            simp only [hwt] at hq
            exact ih _ _ _ (by simpa using hl) inv' hw hq

/-- The checks, in one word. -/
def calmTailB (l : List Oper) (n : Nat) : Bool :=
  decide (n < l.length) && Region.lexB .any (l.take n).toArray && earlierB .any (l.take n).toArray && guardsB (l.take n).toArray && Region.sinkB .any l.toArray n && Region.chainB .any l.toArray n &&
  Region.seqB .any l.toArray (l.length - n) n (extL l.length n (Array.replicate n true))

theorem wp_region_calm_tail {id : Nat} {a : Act} {w : World} {l : List Oper} (n : Nat) (hm : P.follows .mixedOrders = true) (hB : calmTailB l n = true)
    (h : wpQuiet P (l.take n).toArray (fun w' => ∃ u, w' = aft w u) (fun a' => ∀ u, w.heap.size ≤ (aft w u).heap.size → wpList P l.toArray Q (l.drop n) a' (aft w u)) (l.take n) a) : (Code.region id l.toArray true).wp P Q a w := by
  simp only [calmTailB, Bool.and_eq_true, decide_eq_true_eq] at hB
  obtain ⟨⟨⟨⟨⟨⟨hlt, hlex⟩, he⟩, hg⟩, hs⟩, hc⟩, hseq⟩ := hB
  have htl : (l.take n).length = n := by simp; omega
  have hsz : (l.take n).toArray.size = n := by simpa using htl
  have hN : ∀ i, i < n → (l.take n).toArray[i]? = l.toArray[i]? := fun i hi => by simp [hi]
  have hszl : l.toArray.size = l.length := by simp
  refine wp_region_any hm ?_
  have inv0 : HeadInv .any l.toArray n (extL l.toArray.size n (Array.replicate n false)) := by
    have e : extL l.toArray.size n (Array.replicate n false) = Array.replicate l.toArray.size false := by
      apply Array.ext'
      simp only [extL, Array.toList_replicate, List.replicate_append_replicate, List.size_toArray]
      congr 1; omega
    rw [e]
    exact ⟨by simp, fun j oj _ hl => (by rw [getD_replicate_false] at hl; cases hl), fun t _ ht => getD_in (by simpa using ht) (getD_replicate_false _ _)⟩
  have hQ : wpAnyQ P .any (l.take n).toArray (fun w' => ∃ u, w' = aft w u) (fun a' => ∀ u, w.heap.size ≤ (aft w u).heap.size → wpList P l.toArray Q (l.drop n) a' (aft w u)) n (Array.replicate n false) a := by
    simp only [Region.lexB, Bool.and_eq_true] at hlex
    have h1 := wpAnyQ_lex (P := P) (C := fun w' => ∃ u, w' = aft w u) (md := .any) (Q := fun a' => ∀ u, w.heap.size ≤ (aft w u).heap.size → wpList P l.toArray Q (l.drop n) a' (aft w u)) hlex.1 (l.take n) 0 (Array.replicate n false) a (by simp) (by
      have := hlex.2
      rw [hsz] at this
      rw [htl]; exact this) h
    rw [htl] at h1
    exact h1
  have H := head_any (P := P) (C := fun w' => ∃ u, w' = aft w u) (Q := Q) (g := l.length - n) hsz hN (by rw [hszl]; exact hlt) he hg hs hc (fun a' w' ⟨u, hu⟩ hT => by
    subst hu
    have := wpAny_of_seq (md := .any) (Q' := Q) (l.drop n) n (extL l.toArray.size n (Array.replicate n true)) a' (aft w u) (fun j => by simp [List.getElem?_drop]) (by rw [hszl, List.length_drop]; exact hseq) (hT u (size_aft w u))
    rwa [List.length_drop] at this)
    n (Array.replicate n false) a { w with drawn := w.drawn + 1 } (by simp) inv0 (aft_ex (Below.drew (Below.refl w.heap.size w))) hQ
  have e : extL l.toArray.size n (Array.replicate n false) = Array.replicate l.toArray.size false := by
    apply Array.ext'
    simp only [extL, Array.toList_replicate, List.replicate_append_replicate, List.size_toArray]
    congr 1; omega
  rw [e] at H
  rwa [show n + (l.length - n) = l.toArray.size by simp; omega] at H
end
end Go.Proofs.Ytbkbcbanfnhjpaa

/- As B4, with ONE new block that may be made at any time: 'a, b := f(g(x), h(y))' where a is a struct in memory. -/
namespace Go.Proofs.Ytbkbcbanfnhjpaa
open Go Go.RowKit

/-- u, where u is W with new blocks, block b one of them and holding just Z. -/
def okZ (W : World) (b : Nat) (Z : Obj) (u : World) : Prop := Below W.heap.size W u ∧ W.heap.size ≤ b ∧ u.heap[b]? = some Z
def padZ (W : World) (b : Nat) (Z : Obj) : World := { W with heap := (W.heap.toList ++ List.replicate (b + 1 - W.heap.size) Z).toArray }
open Classical in
noncomputable def aftZ (W : World) (b : Nat) (Z : Obj) (u : World) : World := if okZ W b Z u then u else padZ W b Z
theorem below_padZ (W : World) (b : Nat) (Z : Obj) : Below W.heap.size W (padZ W b Z) := by
  refine ⟨rfl, rfl, rfl, by simp [padZ], fun k hk => ?_⟩
  simp only [padZ, List.getElem?_toArray]
  rw [List.getElem?_append_left (by simpa using hk)]
  simp
theorem padZ_at (W : World) (b : Nat) (Z : Obj) (h : W.heap.size ≤ b) : (padZ W b Z).heap[b]? = some Z := by
  simp only [padZ, List.getElem?_toArray]
  rw [List.getElem?_append_right (by simpa using h), List.getElem?_replicate, if_pos (by simp; omega)]
theorem below_aftZ (W : World) (b : Nat) (Z : Obj) (u : World) : Below W.heap.size W (aftZ W b Z u) := by
  unfold aftZ; split
  · rename_i h; exact h.1
  · exact below_padZ _ _ _
theorem aftZ_at (W : World) (b : Nat) (Z : Obj) (u : World) (h : W.heap.size ≤ b) : (aftZ W b Z u).heap[b]? = some Z := by
  unfold aftZ; split
  · rename_i h'; exact h'.2.2
  · exact padZ_at _ _ _ h
theorem aftZ_ex {W w : World} {b : Nat} {Z : Obj} (h : okZ W b Z w) : ∃ u, w = aftZ W b Z u := ⟨w, by unfold aftZ; rw [if_pos h]⟩
theorem size_aftZ (W : World) (b : Nat) (Z : Obj) (u : World) : W.heap.size ≤ (aftZ W b Z u).heap.size := (below_aftZ W b Z u).size
theorem lt_aftZ (W : World) (b : Nat) (Z : Obj) (u : World) (h : W.heap.size ≤ b) : b < (aftZ W b Z u).heap.size := (Array.getElem?_eq_some_iff.1 (aftZ_at W b Z u h)).1
noncomputable def nwCZ (W : World) (b : Nat) (Z : Obj) (u : World) (b' o : Nat) : Option Value := (aftZ W b Z u).cell? ⟨b', o, none⟩
noncomputable def nwFZ (W : World) (b : Nat) (Z : Obj) (u : World) (b' o : Nat) : Bool := (aftZ W b Z u).frozen? ⟨b', o, none⟩
theorem aftZ_cell (W : World) (b : Nat) (zs : Array Value) (T : TypeId) (u : World) (b' o : Nat) :
    (aftZ W b (.cells zs T) u).cell? ⟨b', o, none⟩ = if b' < W.heap.size then W.cell? ⟨b', o, none⟩ else if b' = b then zs[o]? else nwCZ W b (.cells zs T) u b' o := by
  split
  · exact (below_aftZ W b _ u).cell (p := ⟨b', o, none⟩) ‹_›
  · split
    · rename_i h1 h2
      subst h2
      have := aftZ_at W b' (.cells zs T) u (by omega)
      simp [World.cell?, this]
    · rfl
theorem aftZ_frozen (W : World) (b : Nat) (zs : Array Value) (T : TypeId) (u : World) (b' o : Nat) :
    (aftZ W b (.cells zs T) u).frozen? ⟨b', o, none⟩ = if b' < W.heap.size then W.frozen? ⟨b', o, none⟩ else if b' = b then false else nwFZ W b (.cells zs T) u b' o := by
  split
  · exact (below_aftZ W b _ u).frozen (p := ⟨b', o, none⟩) ‹_›
  · split
    · rename_i h1 h2
      subst h2
      have := aftZ_at W b' (.cells zs T) u (by omega)
      simp [World.frozen?, this]
    · rfl
attribute [go_sem] aftZ_cell aftZ_frozen
theorem Ext.aftZ {B : Nat} {w W : World} (h : Ext B w W) (b : Nat) (Z : Obj) (u : World) : Ext B w (aftZ W b Z u) := ⟨h.1.trans ((below_aftZ W b Z u).mono h.2), Nat.le_trans h.2 (size_aftZ _ _ _ _)⟩

/-- The class of worlds of the walk: before the block is made, and behind. -/
noncomputable def aftS (W : World) (S : Option Nat) (Z : Obj) (u : World) : World := match S with | none => aft W u | some b => aftZ W b Z u
theorem below_aftS (W : World) (S : Option Nat) (Z : Obj) (u : World) : Below W.heap.size W (aftS W S Z u) := by
  cases S
  · exact below_aft W u
  · exact below_aftZ W _ Z u
noncomputable def nwCS (W : World) (S : Option Nat) (Z : Obj) (u : World) (b' o : Nat) : Option Value := (aftS W S Z u).cell? ⟨b', o, none⟩
noncomputable def nwFS (W : World) (S : Option Nat) (Z : Obj) (u : World) (b' o : Nat) : Bool := (aftS W S Z u).frozen? ⟨b', o, none⟩
theorem aftS_cell (W : World) (S : Option Nat) (Z : Obj) (u : World) (b' o : Nat) : (aftS W S Z u).cell? ⟨b', o, none⟩ = if b' < W.heap.size then W.cell? ⟨b', o, none⟩ else nwCS W S Z u b' o := by
  split
  · exact (below_aftS W S Z u).cell (p := ⟨b', o, none⟩) ‹_›
  · rfl
theorem aftS_frozen (W : World) (S : Option Nat) (Z : Obj) (u : World) (b' o : Nat) : (aftS W S Z u).frozen? ⟨b', o, none⟩ = if b' < W.heap.size then W.frozen? ⟨b', o, none⟩ else nwFS W S Z u b' o := by
  split
  · exact (below_aftS W S Z u).frozen (p := ⟨b', o, none⟩) ‹_›
  · rfl
attribute [go_sem] aftS_cell aftS_frozen
def clsS (W : World) (Z : Obj) (S : Option Nat) (w' : World) : Prop := ∃ u, w' = aftS W S Z u ∧ (∀ b, S = some b → W.heap.size ≤ b)
theorem clsS_grow {W w w' : World} {Z : Obj} {S : Option Nat} (h : clsS W Z S w) (hb : Below w.heap.size w w') : clsS W Z S w' := by
  obtain ⟨u, rfl, hS⟩ := h
  cases S with
  | none =>
    obtain ⟨u', hu'⟩ := aft_ex ((below_aft W u).trans (Below.mono hb (size_aft W u)))
    exact ⟨u', hu', hS⟩
  | some b =>
    have h1 := hS b rfl
    obtain ⟨u', hu'⟩ := aftZ_ex (W := W) (b := b) (Z := Z) (w := w') ⟨(below_aftZ W b Z u).trans (Below.mono hb (size_aftZ W b Z u)), h1, by rw [hb.block b (lt_aftZ W b Z u h1)]; exact aftZ_at W b Z u h1⟩
    exact ⟨u', hu', hS⟩
theorem calmS {P : Program} {f : FuncId} {args : Array Value} {W u : World} {Z : Obj} {S : Option Nat} {v : Value} (hS : ∀ b, S = some b → W.heap.size ≤ b)
    (h : Calls P f args (aftS W S Z u) fun e w' => e = .returned v ∧ Below (aftS W S Z u).heap.size (aftS W S Z u) w') : Calls P f args (aftS W S Z u) fun e w'' => e = .returned v ∧ ∃ u', w'' = aftS W S Z u' :=
  h.mono fun _ _ ⟨he, hb⟩ => ⟨he, by obtain ⟨u', h1, _⟩ := clsS_grow ⟨u, rfl, hS⟩ hb; exact ⟨u', h1⟩⟩

section
variable {P : Program} {md : Region.Mode} {ops hd : Array Oper} {Q : Exit → Act → World → Prop} {k : Nat} {al : Oper}

theorem qOp_put' {C : World → Prop} {j : Nat} {oj : Oper} {v : Value} (hj : hd[j]? = some oj) (hap : al.apart hd oj = true) (hsj : ∀ cs b, oj.op ≠ .select cs b) {K K' : Act → Prop} {a : Act}
    (hK : ∀ a, K a → K' (a.put al.dst v)) (h : qOp P hd C j K a) : qOp P hd C j K' (a.put al.dst v) := by
  obtain ⟨h1, h2, h3⟩ := Oper.apart_spec hap
  unfold qOp at *
  simp only [hj] at *
  rw [wanted_put oj a al.dst v h1]
  split
  · rename_i hw
    simp only [hw, if_true] at h
    obtain ⟨u, hu, hn⟩ := h
    refine ⟨u, fun w hw' => ?_, ?_⟩
    · have := hu w hw'
      unfold Oper.quietAt at *
      rwa [execOp_put oj hsj a al.dst v h1]
    · rw [Act.put_comm a v u h2]; exact hK _ hn
  · rename_i hw
    simp only [hw] at h
    rw [Act.put_comm a v undef h2]; exact hK _ h

theorem wpAnyQ_put {C : World → Prop} {T : Act → Prop} {v : Value} (hap : ∀ (j : Nat) (oj : Oper), hd[j]? = some oj → al.apart hd oj = true) (hsel : ∀ (j : Nat) (o : Oper) cs b, hd[j]? = some o → o.op ≠ .select cs b) :
    ∀ (f : Nat) (l : Array Bool) (a : Act), wpAnyQ P md hd C T f l a → wpAnyQ P md hd C (fun a' => ∃ a0, a' = a0.put al.dst v ∧ T a0) f l (a.put al.dst v) := by
  intro f
  induction f with
  | zero => intro l a h; exact ⟨h.1, a, rfl, h.2⟩
  | succ f ih =>
    intro l a h
    refine ⟨fun h0 => ⟨a, rfl, h.1 h0⟩, fun i hi => ?_⟩
    obtain ⟨_, o, ho, _⟩ := mem_ready.1 hi
    exact qOp_put' ho (hap i o ho) (fun cs b => hsel i o cs b ho) (fun a' h' => ih _ _ h') (h.2 i hi)

def extA (n k : Nat) (fl : Bool) (l : Array Bool) : Array Bool := (l.toList ++ fl :: List.replicate (n - k - 1) false).toArray
theorem extA_lo {n k : Nat} {fl : Bool} {l : Array Bool} (h : l.size = k) (i : Nat) (hi : i < k) (d : Bool) : (extA n k fl l).getD i d = l.getD i d := by
  simp only [extA, Array.getD_eq_getD_getElem?, List.getElem?_toArray]
  rw [List.getElem?_append_left (by simpa [h] using hi)]
  simp
theorem extA_at {n k : Nat} {fl : Bool} {l : Array Bool} (h : l.size = k) (d : Bool) : (extA n k fl l).getD k d = fl := by
  simp only [extA, Array.getD_eq_getD_getElem?, List.getElem?_toArray]
  rw [List.getElem?_append_right (by simp [h])]
  simp [h]
theorem extA_set {n k : Nat} {fl : Bool} {l : Array Bool} (h : l.size = k) (i : Nat) (hi : i < k) : (extA n k fl l).setIfInBounds i true = extA n k fl (l.setIfInBounds i true) := by
  simp only [extA, List.setIfInBounds_toArray]
  rw [List.set_append_left _ _ (by simpa [h] using hi)]
  simp
theorem extA_flag {n k : Nat} {l : Array Bool} (h : l.size = k) : (extA n k false l).setIfInBounds k true = extA n k true l := by
  simp only [extA, List.setIfInBounds_toArray]
  rw [List.set_append_right _ _ (by simp [h])]
  simp [h]

theorem head_readyA (hsz : hd.size = k) (hN : ∀ i, i < k → hd[i]? = ops[i]?) (he : earlierB md hd = true) {fl : Bool} {l : Array Bool} (hl : l.size = k) {i : Nat} (hi : i < k) :
    i ∈ Region.ready md ops (extA ops.size k fl l) ↔ i ∈ Region.ready md hd l := by
  rw [mem_ready, mem_ready, extA_lo hl i hi, hN i hi]
  have key : ∀ o, ops[i]? = some o → ∀ e ∈ o.after, Region.binds md e = true → e.on < i := by
    intro o ho e hem hb
    have h3 := List.all_eq_true.1 he i (List.mem_range.2 (by omega))
    rw [hN i hi, ho] at h3
    have h4 := List.all_eq_true.1 h3 e (by simpa using hem)
    simpa only [hb, Bool.not_true, Bool.false_or, decide_eq_true_eq] using h4
  constructor
  · rintro ⟨h1, o, ho, h2⟩
    refine ⟨h1, o, ho, fun e hem hb => ?_⟩
    have := h2 e hem hb
    rwa [extA_lo hl e.on (by have := key o ho e hem hb; omega)] at this
  · rintro ⟨h1, o, ho, h2⟩
    refine ⟨h1, o, ho, fun e hem hb => ?_⟩
    rw [extA_lo hl e.on (by have := key o ho e hem hb; omega)]
    exact h2 e hem hb

theorem all_listed (hsz : hd.size = k) (he : earlierB md hd = true) {l : Array Bool} (hl : l.size = k) (hr : Region.ready md hd l = []) : l = Array.replicate k true := by
  apply Array.ext (by simp [hl])
  intro i h1 h2
  simp only [Array.getElem_replicate]
  cases hx : l[i] with
  | true => rfl
  | false =>
    obtain ⟨j, hj⟩ := some_ready (md := md) hsz he hl i (by omega) (by simp [h1, hx])
    rw [hr] at hj; cases hj

theorem ready_ltA (hsz : hd.size = k) (hlt : k + 1 < ops.size) (hs : Region.sinkB md ops (k + 1) = true) (hc : Region.chainB md ops (k + 1) = true)
    {fl : Bool} {l : Array Bool} (hl : l.size = k) (inv : HeadInv md ops (k + 1) (extA ops.size k fl l)) (hex : fl = false ∨ ∃ i, i ∈ Region.ready md hd l) : ∀ i ∈ Region.ready md ops (extA ops.size k fl l), i < k + 1 := by
  intro i hi
  rcases Nat.lt_or_ge i (k + 1) with h | h
  · exact h
  · rcases hex with rfl | ⟨j, hj⟩
    · exact absurd hi (tail_waits hs hc hlt inv _ k rfl (by omega) (extA_at hl true) i h)
    · have hjN : j < k := by obtain ⟨_, o, ho, _⟩ := mem_ready.1 hj; have := (Array.getElem?_eq_some_iff.1 ho).1; omega
      exact absurd hi (tail_waits hs hc hlt inv _ j rfl (by omega) (by rw [extA_lo hl j hjN]; exact (mem_ready.1 hj).1) i h)

/-- Behind the new block. -/
theorem any_behind (hsz : hd.size = k) (hN : ∀ i, i < k → hd[i]? = ops[i]?) (hlt : k + 1 < ops.size) (he : earlierB md hd = true) (hg : guardsB hd = true)
    (hs : Region.sinkB md ops (k + 1) = true) (hc : Region.chainB md ops (k + 1) = true) {g : Nat} {C : World → Prop} {T : Act → Prop}
    (hbase : ∀ a w, C w → T a → wpAny P md ops Q g (extA ops.size k true (Array.replicate k true)) a w) :
    ∀ (f : Nat) (l : Array Bool) (a : Act) (w : World), l.size = k → HeadInv md ops (k + 1) (extA ops.size k true l) → C w → wpAnyQ P md hd C T f l a → wpAny P md ops Q (f + g) (extA ops.size k true l) a w := by
  intro f
  induction f with
  | zero =>
    intro l a w hl inv hw h
    rw [all_listed hsz he hl h.1]
    exact wpAny_more' 0 (hbase a w hw h.2)
  | succ f ih =>
    intro l a w hl inv hw h
    by_cases hr : Region.ready md hd l = []
    · rw [all_listed hsz he hl hr]
      exact wpAny_more' _ (hbase a w hw (h.1 hr))
    · have hex : ∃ i, i ∈ Region.ready md hd l := by
        cases hq : Region.ready md hd l with
        | nil => exact absurd hq hr
        | cons i _ => exact ⟨i, by simp⟩
      rw [show f + 1 + g = (f + g) + 1 by omega]
      refine ⟨fun h0 => ?_, fun i hi => ?_⟩
      · obtain ⟨j, hj⟩ := hex
        have hjN : j < k := by obtain ⟨_, o, ho, _⟩ := mem_ready.1 hj; have := (Array.getElem?_eq_some_iff.1 ho).1; omega
        have := (head_readyA (fl := true) hsz hN he hl hjN).2 hj
        rw [h0] at this; cases this
      · have hiN := ready_ltA hsz hlt hs hc hl inv (.inr hex) i hi
        have hik : i < k := by
          rcases Nat.lt_or_ge i k with h' | h'
          · exact h'
          · obtain rfl : i = k := by omega
            have := (mem_ready.1 hi).1
            rw [extA_at hl] at this; cases this
        have hi' := (head_readyA hsz hN he hl hik).1 hi
        have hq := h.2 i hi'
        have inv' := inv.set hi hiN
        rw [extA_set hl i hik] at inv' ⊢
        unfold qOp at hq
        unfold wpOp
        rw [← hN i hik]
        cases ho : hd[i]? with
        | none => simp only [ho] at hq; exact ih _ _ _ (by simpa using hl) inv' hw hq
        | some o =>
          simp only [ho] at hq
          dsimp only
          rw [← guard_lt hsz hg ho a.tmps hN]
          split
          · rename_i hwt
            simp only [hwt, if_true] at hq
            exact .inl (Oper.wp_of_quiet hw (fun a' w' hw' k' => ih _ _ _ (by simpa using hl) inv' hw' k') hq)
          · rename_i hwt
            simp only [hwt] at hq
            exact ih _ _ _ (by simpa using hl) inv' hw hq

/-- Each slot is written once. -/
def dstB (hd : Array Oper) : Bool := (List.range hd.size).all fun i => (List.range hd.size).all fun j => decide (i = j) || (match hd[i]?, hd[j]? with
  | some x, some y => x.dst.isNone || x.dst != y.dst
  | _, _ => true)
theorem dstB_spec (h : dstB hd = true) {i j : Nat} {x y : Oper} (hi : hd[i]? = some x) (hj : hd[j]? = some y) (hne : i ≠ j) {d : Tmp} (hd' : x.dst = some d) : y.dst ≠ some d := by
  have hi' := (Array.getElem?_eq_some_iff.1 hi).1
  have hj' := (Array.getElem?_eq_some_iff.1 hj).1
  have h1 := List.all_eq_true.1 (List.all_eq_true.1 h i (List.mem_range.2 hi')) j (List.mem_range.2 hj')
  rw [hi, hj] at h1
  simp [hne, hd'] at h1
  exact fun e => h1 e.symm
theorem put_other (a : Act) (y : Option Tmp) (u : Value) (d : Tmp) (h : y ≠ some d) : (a.put y u).tmps[d]? = a.tmps[d]? := by
  cases y with
  | none => rfl
  | some e =>
    simp only [Act.put]
    rw [Array.getElem?_setIfInBounds_ne (by intro e'; exact h (by rw [e']))]
theorem keepSlot {C : World → Prop} {aF : Act} (hdst : dstB hd = true) {i : Nat} {o : Oper} {d : Tmp} (ho : hd[i]? = some o) (hd' : o.dst = some d) :
    ∀ (f : Nat) (l : Array Bool) (a : Act), l.size = k → l.getD i true = true → wpAnyQ P md hd C (fun a' => a' = aF) f l a → aF.tmps[d]? = a.tmps[d]? := by
  intro f
  induction f with
  | zero => intro l a _ _ h; rw [h.2]
  | succ f ih =>
    intro l a hl hli h
    cases hr : Region.ready md hd l with
    | nil => rw [h.1 hr]
    | cons j _ =>
      have hj : j ∈ Region.ready md hd l := by rw [hr]; simp
      obtain ⟨hun, oj, hoj, _⟩ := mem_ready.1 hj
      have hne : i ≠ j := by intro e; subst e; rw [hli] at hun; cases hun
      obtain ⟨v, _, hK⟩ := yieldsIn_of_qOp hoj (h.2 j hj)
      have h1 := ih _ _ (by simpa using hl) (by
        simp only [Array.getD_eq_getD_getElem?] at hli ⊢
        rw [Array.getElem?_setIfInBounds_ne (Ne.symm hne)]; exact hli) hK
      rw [h1, put_other a oj.dst v d (dstB_spec hdst ho hoj hne hd')]
theorem put_same (a : Act) (d : Tmp) (u v : Value) (h : (a.put (some d) u).tmps[d]? = (a.put (some d) v).tmps[d]?) : a.put (some d) u = a.put (some d) v := by
  simp only [Act.put] at h ⊢
  congr 1
  by_cases hlt : d < a.tmps.size
  · simp [hlt] at h; rw [h]
  · rw [Array.setIfInBounds_eq_of_size_le (Nat.le_of_not_lt hlt), Array.setIfInBounds_eq_of_size_le (Nat.le_of_not_lt hlt)]

/-- Ahead of the new block. -/
theorem any_ahead (hsz : hd.size = k) (hN : ∀ i, i < k → hd[i]? = ops[i]?) (hal : ops[k]? = some al) (hlt : k + 1 < ops.size) (he : earlierB md hd = true) (he2 : ∀ e ∈ al.after, Region.binds md e = true → e.on < k) (hg : guardsB hd = true)
    (hgal : al.guard = none) (hdst : dstB hd = true) (hap : ∀ (j : Nat) (oj : Oper), hd[j]? = some oj → al.apart hd oj = true) (hsel : ∀ (j : Nat) (o : Oper) cs b, hd[j]? = some o → o.op ≠ .select cs b)
    (hs : Region.sinkB md ops (k + 1) = true) (hc : Region.chainB md ops (k + 1) = true) {g : Nat} {W : World} {Z : Obj} {aF : Act}
    (hrun : ∀ (a : Act) (w : World), (execOp a.eval al).run P w = .ok (.value (.pointer (some ⟨w.heap.size, 0, none⟩))) (w.alloc Z))
    (hbase : ∀ b, W.heap.size ≤ b → ∀ a w, clsS W Z (some b) w → (∃ a0, a = a0.put al.dst (.pointer (some ⟨b, 0, none⟩)) ∧ a0 = aF) → wpAny P md ops Q g (extA ops.size k true (Array.replicate k true)) a w) :
    ∀ (f : Nat) (l : Array Bool) (a : Act) (w : World), l.size = k → HeadInv md ops (k + 1) (extA ops.size k false l) → clsS W Z none w → (∀ S, (∀ b, S = some b → W.heap.size ≤ b) → wpAnyQ P md hd (clsS W Z S) (fun a' => a' = aF) f l a) → wpAny P md ops Q (f + 1 + g) (extA ops.size k false l) a w := by
  have step : ∀ (f : Nat) (l : Array Bool) (a : Act) (w : World), l.size = k → HeadInv md ops (k + 1) (extA ops.size k true l) → clsS W Z none w → (∀ S, (∀ b, S = some b → W.heap.size ≤ b) → wpAnyQ P md hd (clsS W Z S) (fun a' => a' = aF) f l a) →
      wpOp P ops Q k (wpAny P md ops Q (f + g) (extA ops.size k true l)) a w := by
    intro f l a w hl inv hw h
    unfold wpOp
    rw [hal]
    dsimp only
    have hwt : Region.wanted al (yielded ops a.tmps) = true := by unfold Region.wanted; rw [hgal]
    rw [if_pos hwt]
    refine .inl ?_
    unfold Oper.wp
    rw [hrun a w]
    simp only [Oper.upon]
    obtain ⟨u, hu, _⟩ := hw
    have hW : W.heap.size ≤ w.heap.size := by rw [hu]; exact size_aft W u
    have hC : clsS W Z (some w.heap.size) (w.alloc Z) := by
      obtain ⟨u', hu'⟩ := aftZ_ex (W := W) (b := w.heap.size) (Z := Z) (w := w.alloc Z)
        ⟨Below.alloc (by rw [hu]; exact below_aft W u) hW Z, hW, by show (w.heap.push Z)[w.heap.size]? = some Z; simp⟩
      exact ⟨u', hu', fun b hb => by injection hb with hb; omega⟩
    exact any_behind (P := P) (Q := Q) (C := clsS W Z (some w.heap.size)) (T := fun a' => ∃ a0, a' = a0.put al.dst (.pointer (some ⟨w.heap.size, 0, none⟩)) ∧ a0 = aF) hsz hN hlt he hg hs hc
      (fun a' w' hw' hT => hbase w.heap.size hW a' w' hw' hT) f l _ _ hl inv hC (wpAnyQ_put hap hsel f l a (h (some w.heap.size) (fun b hb => by injection hb with hb; omega)))
  intro f
  have hnone : ∀ b : Nat, (none : Option Nat) = some b → W.heap.size ≤ b := fun b hb => by cases hb
  have kready : ∀ l : Array Bool, l.size = k → Region.ready md hd l = [] → k ∈ Region.ready md ops (extA ops.size k false l) := by
    intro l hl hr
    have := all_listed hsz he hl hr
    refine mem_ready.2 ⟨extA_at hl true, al, hal, fun e hem hb => ?_⟩
    have h1 := he2 e hem hb
    rw [extA_lo hl e.on h1, this]
    simp [h1]
  induction f with
  | zero =>
    intro l a w hl inv hw h
    have hr := (h none hnone).1
    rw [show 0 + 1 + g = (0 + g) + 1 by omega]
    refine ⟨fun h0 => (by have := kready l hl hr; rw [h0] at this; cases this), fun i hi => ?_⟩
    have hiN := ready_ltA hsz hlt hs hc hl inv (.inl rfl) i hi
    have hik : i = k := by
      rcases Nat.lt_or_ge i k with h' | h'
      · have := (head_readyA hsz hN he hl h').1 hi; rw [hr] at this; cases this
      · omega
    subst hik
    have inv' := inv.set hi hiN
    rw [extA_flag hl] at inv' ⊢
    exact step 0 l a w hl inv' hw h
  | succ f ih =>
    intro l a w hl inv hw h
    rw [show f + 1 + 1 + g = (f + 1 + g) + 1 by omega]
    refine ⟨fun h0 => ?_, fun i hi => ?_⟩
    · by_cases hr : Region.ready md hd l = []
      · have := kready l hl hr; rw [h0] at this; cases this
      · cases hq : Region.ready md hd l with
        | nil => exact absurd hq hr
        | cons j _ =>
          have hj : j ∈ Region.ready md hd l := by rw [hq]; simp
          have hjN : j < k := by obtain ⟨_, o, ho, _⟩ := mem_ready.1 hj; have := (Array.getElem?_eq_some_iff.1 ho).1; omega
          have := (head_readyA (fl := false) hsz hN he hl hjN).2 hj
          rw [h0] at this; cases this
    · have hiN := ready_ltA hsz hlt hs hc hl inv (.inl rfl) i hi
      rcases Nat.lt_or_ge i k with hik | hik
      · have hi' := (head_readyA hsz hN he hl hik).1 hi
        have inv' := inv.set hi hiN
        rw [extA_set hl i hik] at inv' ⊢
        have hq := (h none hnone).2 i hi'
        have hall : ∀ S, (∀ b, S = some b → W.heap.size ≤ b) → qOp P hd (clsS W Z S) i (wpAnyQ P md hd (clsS W Z S) (fun a' => a' = aF) f (l.setIfInBounds i true)) a := fun S hS => (h S hS).2 i hi'
        obtain ⟨_, o, ho, _⟩ := mem_ready.1 hi'
        unfold wpOp
        rw [← hN i hik, ho]
        dsimp only
        rw [← guard_lt hsz hg ho a.tmps hN]
        by_cases hwt : Region.wanted o (yielded hd a.tmps) = true
        · rw [if_pos hwt]
          refine .inl ?_
          -- the value that it yields is the same in every class
          have hv : ∃ v, (∀ w, clsS W Z none w → o.quietAt P a (clsS W Z none) w v) ∧ ∀ S, (∀ b, S = some b → W.heap.size ≤ b) → wpAnyQ P md hd (clsS W Z S) (fun a' => a' = aF) f (l.setIfInBounds i true) (a.put o.dst v) := by
            have hq0 := hall none hnone
            obtain ⟨v, hy, hK⟩ := yieldsIn_of_qOp ho hq0
            have hli : (l.setIfInBounds i true).getD i true = true := by
              simp [Array.getD_eq_getD_getElem?, hl, hik]
            refine ⟨v, fun w hw => ?_, fun S hS => ?_⟩
            · rcases hy with ⟨_, hy⟩ | ⟨hy, _⟩
              · exact hy w hw
              · rw [hwt] at hy; cases hy
            · obtain ⟨v', hy', hK'⟩ := yieldsIn_of_qOp ho (hall S hS)
              have e : a.put o.dst v = a.put o.dst v' := by
                cases hdo : o.dst with
                | none => rfl
                | some d =>
                  rw [hdo] at hK hK'
                  have h1 := keepSlot hdst ho hdo f _ _ (by simpa using hl) hli hK
                  have h2 := keepSlot hdst ho hdo f _ _ (by simpa using hl) hli hK'
                  exact put_same a d v v' (h1.symm.trans h2)
              rw [e]; exact hK'
          obtain ⟨v, hv1, hv2⟩ := hv
          exact Oper.wp_of_quiet (C := clsS W Z none) (K := fun a' => a' = a.put o.dst v) hw (fun a' w' hw' k' => by subst k'; exact ih _ _ _ (by simpa using hl) inv' hw' hv2) ⟨v, hv1, rfl⟩
        · rw [if_neg hwt]
          refine ih _ _ _ (by simpa using hl) inv' hw (fun S hS => ?_)
          have := hall S hS
          unfold qOp at this
          simp only [ho] at this
          rw [if_neg hwt] at this
          exact this
      · obtain rfl : i = k := by omega
        have inv' := inv.set hi hiN
        rw [extA_flag hl] at inv' ⊢
        have := step (f + 1) l a w hl inv' hw h
        exact this
/-- The checks, in one word: k is the new block's operation. -/
def calmNewB (l : List Oper) (k : Nat) : Bool :=
  decide (k + 1 < l.length) && Region.lexB .any (l.take k).toArray && earlierB .any (l.take k).toArray && guardsB (l.take k).toArray && dstB (l.take k).toArray && Region.sinkB .any l.toArray (k + 1) && Region.chainB .any l.toArray (k + 1) &&
  Region.seqB .any l.toArray (l.length - (k + 1)) (k + 1) (extA l.length k true (Array.replicate k true)) &&
  (match l[k]? with
   | some al => al.guard.isNone && (al.after.toList.all fun e => !Region.binds .any e || decide (e.on < k)) && ((l.take k).all fun o => al.apart (l.take k).toArray o)
   | none => false)

theorem wp_region_calm_new' {id : Nat} {a : Act} {W : World} {l : List Oper} (k : Nat) (Z : Obj) (aF : Act) (al : Oper) (hm : P.follows .mixedOrders = true) (hB : calmNewB l k = true) (hal : l[k]? = some al)
    (hrun : ∀ (a : Act) (w : World), (execOp a.eval al).run P w = .ok (.value (.pointer (some ⟨w.heap.size, 0, none⟩))) (w.alloc Z))
    (h : ∀ S : Option Nat, (∀ b, S = some b → W.heap.size ≤ b) → wpQuiet P (l.take k).toArray (fun w' => ∃ u, w' = aftS W S Z u) (fun a' => a' = aF) (l.take k) a)
    (hT : ∀ b u, W.heap.size ≤ b → b < (aftZ W b Z u).heap.size → wpList P l.toArray Q (l.drop (k + 1)) (aF.put al.dst (.pointer (some ⟨b, 0, none⟩))) (aftZ W b Z u)) : (Code.region id l.toArray true).wp P Q a W := by
  simp only [calmNewB, Bool.and_eq_true, decide_eq_true_eq, hal] at hB
  obtain ⟨⟨⟨⟨⟨⟨⟨⟨hlt, hlex⟩, he⟩, hg⟩, hdst⟩, hs⟩, hc⟩, hseq⟩, ⟨hgal, hdeps⟩, hap⟩ := hB
  have htl : (l.take k).length = k := by simp; omega
  have hsz : (l.take k).toArray.size = k := by simpa using htl
  have hN : ∀ i, i < k → (l.take k).toArray[i]? = l.toArray[i]? := fun i hi => by simp [hi]
  have hszl : l.toArray.size = l.length := by simp
  refine wp_region_any hm ?_
  have hcls : ∀ S : Option Nat, (∀ b, S = some b → W.heap.size ≤ b) → clsS W Z S = (fun w' => ∃ u, w' = aftS W S Z u) := by
    intro S hS
    funext w'
    exact propext ⟨fun ⟨u, hu, _⟩ => ⟨u, hu⟩, fun ⟨u, hu⟩ => ⟨u, hu, hS⟩⟩
  have e : extA l.toArray.size k false (Array.replicate k false) = Array.replicate l.toArray.size false := by
    apply Array.ext'
    simp only [extA, Array.toList_replicate, List.size_toArray]
    rw [← List.replicate_succ, List.replicate_append_replicate]
    congr 1; omega
  have inv0 : HeadInv .any l.toArray (k + 1) (extA l.toArray.size k false (Array.replicate k false)) := by
    rw [e]
    exact ⟨by simp, fun j oj _ hl => (by rw [getD_replicate_false] at hl; cases hl), fun t _ ht => getD_in (by simpa using ht) (getD_replicate_false _ _)⟩
  simp only [Region.lexB, Bool.and_eq_true] at hlex
  have hQ : ∀ S : Option Nat, (∀ b, S = some b → W.heap.size ≤ b) → wpAnyQ P .any (l.take k).toArray (clsS W Z S) (fun a' => a' = aF) k (Array.replicate k false) a := by
    intro S hS
    rw [hcls S hS]
    have h1 := wpAnyQ_lex (P := P) (C := fun w' => ∃ u, w' = aftS W S Z u) (md := .any) (Q := fun a' => a' = aF) hlex.1 (l.take k) 0 (Array.replicate k false) a (by simp) (by
      have := hlex.2
      rw [hsz] at this
      rw [htl]; exact this) (h S hS)
    rw [htl] at h1
    exact h1
  have H := any_ahead (P := P) (md := .any) (hd := (l.take k).toArray) (ops := l.toArray) (Q := Q) (al := al) (k := k) (g := l.length - (k + 1)) (W := W) (Z := Z) (aF := aF) hsz hN (by simpa using hal) (by rw [hszl]; exact hlt) he
    (fun e' hem hb => by
      have := List.all_eq_true.1 hdeps e' (by simpa using hem)
      simpa only [hb, Bool.not_true, Bool.false_or, decide_eq_true_eq] using this)
    hg (by simpa using hgal) hdst (fun j oj hj => List.all_eq_true.1 hap oj (by
      have hj' : j < (l.take k).length := by rw [htl]; have := (Array.getElem?_eq_some_iff.1 hj).1; omega
      have : (l.take k)[j]? = some oj := by simpa using hj
      exact List.mem_of_getElem? this))
    (Region.noSelect_spec hlex.1) hs hc hrun
    (fun b hb a' w' ⟨u, hu, _⟩ ⟨a0, ha, ha0⟩ => by
      subst ha0 ha
      have hu' : w' = aftZ W b Z u := hu
      subst hu'
      have := wpAny_of_seq (md := .any) (Q' := Q) (l.drop (k + 1)) (k + 1) (extA l.toArray.size k true (Array.replicate k true)) (a0.put al.dst (.pointer (some ⟨b, 0, none⟩))) (aftZ W b Z u) (fun j => by simp [List.getElem?_drop]) (by rw [hszl, List.length_drop]; exact hseq) (hT b u hb (lt_aftZ W b Z u hb))
      rwa [List.length_drop] at this)
    k (Array.replicate k false) a { W with drawn := W.drawn + 1 } (by simp) inv0 (by
      obtain ⟨u, hu⟩ := aft_ex (w := W) (w' := { W with drawn := W.drawn + 1 }) (Below.drew (Below.refl W.heap.size W))
      exact ⟨u, hu, fun b hb => by cases hb⟩) hQ
  rw [e] at H
  rwa [show k + 1 + (l.length - (k + 1)) = l.toArray.size by simp; omega] at H
theorem wp_region_calm_new {id : Nat} {a : Act} {W : World} {l : List Oper} (k : Nat) (Z : Obj) (al : Oper) (hm : P.follows .mixedOrders = true) (hB : calmNewB l k = true) (hal : l[k]? = some al)
    (hrun : ∀ (a : Act) (w : World), (execOp a.eval al).run P w = .ok (.value (.pointer (some ⟨w.heap.size, 0, none⟩))) (w.alloc Z))
    (h : ∃ aF, (∀ S : Option Nat, (∀ b, S = some b → W.heap.size ≤ b) → wpQuiet P (l.take k).toArray (fun w' => ∃ u, w' = aftS W S Z u) (fun a' => a' = aF) (l.take k) a) ∧
      ∀ b u, W.heap.size ≤ b → b < (aftZ W b Z u).heap.size → wpList P l.toArray Q (l.drop (k + 1)) (aF.put al.dst (.pointer (some ⟨b, 0, none⟩))) (aftZ W b Z u)) : (Code.region id l.toArray true).wp P Q a W := by
  obtain ⟨aF, h1, h2⟩ := h
  exact wp_region_calm_new' k Z aF al hm hB hal hrun h1 h2
end
end Go.Proofs.Ytbkbcbanfnhjpaa
