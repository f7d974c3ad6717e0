/- Several small texts in one: B0 B1 A1 M0 A2 M1 A3 B2 B3 B8 H1 B7 A4. -/
import Derived.Test.YtdhnpmjoajaeiaaRows
import Derived.WalkKit
import Derived.WalkSpells
import Derived.WalkLawsBesides
import Derived.Deep.QuietTactic
import Derived.BigQuiet
import Derived.Deep.RegionWith
import Derived.Deep.DeepFit
import Derived.Deep.DeepMust
import Derived.Deep.AppendSrc
import Derived.Lib.SliceRun
/- Small laws on worlds: 'aft w u' is u where u is w with new blocks and draws, else w. They let a walk see through a call of which only 'Below' is known. -/
namespace Go.Proofs.Ytdhnpmjoajaeiaa
open Go Go.RowKit

theorem hid {p : Prop} (h : p) : Hid p := h

open Classical in
noncomputable def aft (w u : World) : World := if Below w.heap.size w u then u else w

theorem aft_of {w u : World} (h : Below w.heap.size w u) : aft w u = u := by unfold aft; rw [if_pos h]
theorem below_aft (w u : World) : Below w.heap.size w (aft w u) := by
  unfold aft; split
  · assumption
  · exact Below.refl _ _
theorem aft_ex {w w' : World} (h : Below w.heap.size w w') : ∃ u, w' = aft w u := ⟨w', (aft_of h).symm⟩
theorem size_aft (w u : World) : w.heap.size ≤ (aft w u).heap.size := (below_aft w u).size
theorem lt_aft {w u : World} {b : Nat} (h : b < w.heap.size) : b < (aft w u).heap.size := Nat.lt_of_lt_of_le h (size_aft w u)
theorem le_aft {w u : World} {b : Nat} (h : b ≤ w.heap.size) : b ≤ (aft w u).heap.size := Nat.le_trans h (size_aft w u)
/-- What a cell of a block that came later holds: never looked into. -/
noncomputable def nwC (w u : World) (b o : Nat) : Option Value := (aft w u).cell? ⟨b, o, none⟩
noncomputable def nwF (w u : World) (b o : Nat) : Bool := (aft w u).frozen? ⟨b, o, none⟩
theorem aft_cell (w u : World) (b o : Nat) : (aft w u).cell? ⟨b, o, none⟩ = if b < w.heap.size then w.cell? ⟨b, o, none⟩ else nwC w u b o := by
  split
  · exact (below_aft w u).cell (p := ⟨b, o, none⟩) ‹_›
  · rfl
theorem aft_frozen (w u : World) (b o : Nat) : (aft w u).frozen? ⟨b, o, none⟩ = if b < w.heap.size then w.frozen? ⟨b, o, none⟩ else nwF w u b o := by
  split
  · exact (below_aft w u).frozen (p := ⟨b, o, none⟩) ‹_›
  · rfl
theorem alloc_cell (w : World) (c : Array Value) (t : TypeId) (b o : Nat) : (w.alloc (.cells c t)).cell? ⟨b, o, none⟩ = if b = w.heap.size then c[o]? else w.cell? ⟨b, o, none⟩ := by
  split
  · rename_i h; subst h; exact World.cell?_alloc_new w c t o
  · exact World.cell?_alloc_old w _ ⟨b, o, none⟩ ‹_›
theorem alloc_frozen (w : World) (c : Array Value) (t : TypeId) (b o : Nat) : (w.alloc (.cells c t)).frozen? ⟨b, o, none⟩ = if b = w.heap.size then false else w.frozen? ⟨b, o, none⟩ := by
  split
  · rename_i h; subst h; exact World.frozen?_alloc_new w c t o
  · exact World.frozen?_alloc_old w _ ⟨b, o, none⟩ ‹_›
theorem set_cell (w : World) (b o b' o' : Nat) (v : Value) : (w.setCell ⟨b, o, none⟩ v).cell? ⟨b', o', none⟩ = if b = b' ∧ o = o' then (w.cell? ⟨b, o, none⟩).map (fun _ => v) else w.cell? ⟨b', o', none⟩ := by
  split
  · rename_i h
    obtain ⟨rfl, rfl⟩ := h
    cases hc : w.cell? ⟨b, o, none⟩ with
    | none =>
      have e : (w.setCell ⟨b, o, none⟩ v).cell? ⟨b, o, none⟩ = none := by
        unfold World.cell? at hc ⊢
        simp only [World.setCell, Array.getElem?_modify]
        cases hb : w.heap[b]? with
        | none => simp
        | some x => rw [hb] at hc; cases x <;> simp at hc ⊢ <;> omega
      rw [e]; rfl
    | some x => exact World.cell?_setCell_same w _ v hc
  · rename_i h
    refine World.cell?_setCell_other w _ _ v ?_
    intro e
    injection e with e1 e2
    exact h ⟨e1, e2⟩
attribute [go_sem] aft_cell aft_frozen alloc_cell alloc_frozen set_cell

/-- 'Below', and no block has gone: closed under each step of a walk. -/
def Ext (B : Nat) (w W : World) : Prop := Below B w W ∧ B ≤ W.heap.size
theorem Ext.refl (w : World) : Ext w.heap.size w w := ⟨Below.refl _ _, Nat.le_refl _⟩
theorem Ext.alloc {B : Nat} {w W : World} (h : Ext B w W) (o : Obj) : Ext B w (W.alloc o) := ⟨h.1.alloc h.2 o, by have := h.2; simp; omega⟩
theorem Ext.aft {B : Nat} {w W : World} (h : Ext B w W) (u : World) : Ext B w (aft W u) := ⟨h.1.trans ((below_aft W u).mono h.2), le_aft h.2⟩
theorem Ext.drew {B : Nat} {w W : World} (h : Ext B w W) : Ext B w W.drew := ⟨h.1.drew, h.2⟩
theorem Ext.drewN {B : Nat} {w W : World} (h : Ext B w W) (n : Nat) : Ext B w (W.drewN n) := ⟨below_drewN h.1 n, h.2⟩
theorem Ext.setCell {B : Nat} {w W : World} (h : Ext B w W) (b o : Nat) (k : Option Nat) (v : Value) (hb : B ≤ b) : Ext B w (W.setCell ⟨b, o, k⟩ v) := ⟨h.1.setCell (p := ⟨b, o, k⟩) hb v, by have := h.2; simp [World.setCell]; omega⟩
theorem Ext.bel {w W : World} (h : Ext w.heap.size w W) : Below w.heap.size w W := h.1
theorem Ext.below {w W W' : World} (h : Ext w.heap.size w W) (k : Below W.heap.size W W') : Ext w.heap.size w W' := ⟨h.1.trans (k.mono h.2), Nat.le_trans h.2 k.size⟩

/-- A call of which the value is known, and that the world has at most grown. -/
theorem via {P : Program} {f : FuncId} {args : Array Value} {w : World} {v : Value} {R : Ending → World → Prop}
    (h : Calls P f args w fun e w' => e = .returned v ∧ Below w.heap.size w w') (hR : ∀ u, w.heap.size ≤ (aft w u).heap.size → R (.returned v) (aft w u)) : Calls P f args w R :=
  h.mono fun e w' ⟨he, hb⟩ => by subst he; obtain ⟨u, rfl⟩ := aft_ex hb; exact hR u (size_aft w u)
/-- A call of which the value is known, and that the world is as it was. -/
theorem pur {P : Program} {f : FuncId} {args : Array Value} {w : World} {v : Value} {R : Ending → World → Prop}
    (h : Calls P f args w fun e w' => e = .returned v ∧ w = w') (hR : R (.returned v) w) : Calls P f args w R :=
  h.mono fun e w' ⟨he, hb⟩ => by subst he; subst hb; exact hR
/-- The first as the second's weaker form. -/
theorem weak {P : Program} {f : FuncId} {args : Array Value} {w : World} {v : Value}
    (h : Calls P f args w fun e w' => e = .returned v ∧ w = w') : Calls P f args w fun e w' => e = .returned v ∧ Below w.heap.size w w' :=
  h.mono fun e w' ⟨he, hb⟩ => ⟨he, by subst hb; exact Below.refl _ _⟩

/-- A region that draws its order, whose operations read what was there at its beginning, and whose calls at most make memory: ONE walk, in the order of the text. -/
theorem wp_region_calm {P : Program} {id : Nat} {Q : Exit → Act → World → Prop} {a : Act} {w : World} {l : List Oper} (hm : P.follows .mixedOrders = true) (hB : Region.lexB .any l.toArray = true)
    (h : wpQuiet P l.toArray (fun w' => ∃ u, w' = aft w u) (fun a' => ∀ u, w.heap.size ≤ (aft w u).heap.size → Q .normal a' (aft w u)) l a) : (Code.region id l.toArray true).wp P Q a w :=
  wp_region_quiet (C := fun w' => ∃ u, w' = aft w u) hm hB (aft_ex (Below.drew (Below.refl w.heap.size w))) (by
    have e : (fun a' => ∀ u, w.heap.size ≤ (aft w u).heap.size → Q .normal a' (aft w u)) = (fun a' => ∀ w', (∃ u, w' = aft w u) → Q .normal a' w') := by
      funext a'; refine propext ⟨fun k w' ⟨u, hu⟩ => ?_, fun k u _ => k _ ⟨u, rfl⟩⟩
      subst hu; exact k u (size_aft w u)
    rw [e] at h
    simpa using h)
theorem calm {P : Program} {f : FuncId} {args : Array Value} {w u : World} {v : Value}
    (h : Calls P f args (aft w u) fun e w' => e = .returned v ∧ Below (aft w u).heap.size (aft w u) w') : Calls P f args (aft w u) fun e w'' => e = .returned v ∧ ∃ u', w'' = aft w u' :=
  h.mono fun _ _ ⟨he, hb⟩ => ⟨he, aft_ex ((below_aft w u).trans (hb.mono (size_aft w u)))⟩
theorem calmb {P : Program} {f : FuncId} {args : Array Value} {w u : World} {b c : Bool}
    (h : Calls P f args (aft w u) fun e w' => e = .returned (.bool b) ∧ Below (aft w u).heap.size (aft w u) w') (hb : b = c) : Calls P f args (aft w u) fun e w'' => e = .returned (.bool c) ∧ ∃ u', w'' = aft w u' :=
  by subst hb; exact calm h
theorem calmp {P : Program} {f : FuncId} {args : Array Value} {w u : World} {v : Value}
    (h : Calls P f args (aft w u) fun e w' => e = .returned v ∧ aft w u = w') : Calls P f args (aft w u) fun e w'' => e = .returned v ∧ ∃ u', w'' = aft w u' := calm (weak h)
theorem calmpb {P : Program} {f : FuncId} {args : Array Value} {w u : World} {b c : Bool}
    (h : Calls P f args (aft w u) fun e w' => e = .returned (.bool b) ∧ aft w u = w') (hb : b = c) : Calls P f args (aft w u) fun e w'' => e = .returned (.bool c) ∧ ∃ u', w'' = aft w u' := calmb (weak h) hb
end Go.Proofs.Ytdhnpmjoajaeiaa

/- Slices of int64: what a slice reads as; what a call has made. -/
namespace Go.Proofs.Ytdhnpmjoajaeiaa
open Go Go.RowKit

def vI (xs : List Int) : List Value := xs.map (Value.int .i64)
theorem vI_len (xs : List Int) : (vI xs).length = xs.length := by simp [vI]

/-- v owns, from block B on, a row of just these numbers. -/
def ownR (B : Nat) (w : World) (v : Value) (xs : List Int) : Prop := w.ownsRow B 2 1 v xs.length (vI xs)
/-- v reads as these numbers. -/
def rdI (w : World) (v : Value) (xs : List Int) : Prop :=
  ∃ a cap, v = .slice a xs.length cap ∧ xs.length ≤ maxLen ∧ (xs ≠ [] → ∃ b o, a = some ⟨b, o, none⟩ ∧ ∀ i, (h : i < xs.length) → w.cell? ⟨b, o + i, none⟩ = some (.int .i64 xs[i]))

theorem ownR.nil (B : Nat) (w : World) : ownR B w (.slice none 0 0) [] := World.ownsRow_nil _ _ _ _
theorem ownR.kept {B : Nat} {w w' : World} {v : Value} {xs : List Int} (h : ownR B w v xs) (hb : ∀ k, k < w.heap.size → v.ownBlock = some k → w'.heap[k]? = w.heap[k]?) : ownR B w' v xs := by
  unfold ownR at *
  refine ⟨h.1, ?_⟩
  rcases h.2 with hn | ⟨g, cap, cur, rfl, hg, hh, r⟩
  · exact .inl hn
  · have hlt : g < w.heap.size := (Array.getElem?_eq_some_iff.1 hh).1
    exact .inr ⟨g, cap, cur, rfl, hg, by rw [hb g hlt rfl]; exact hh, r⟩
theorem ownR.below {B : Nat} {w w' : World} {v : Value} {xs : List Int} (h : ownR B w v xs) (hb : Below w.heap.size w w') : ownR B w' v xs := h.kept fun k hk _ => hb.block k hk
theorem ownR.alloc {B : Nat} {w : World} {v : Value} {xs : List Int} (h : ownR B w v xs) (o : Obj) : ownR B (w.alloc o) v xs := h.below (Below.alloc (Below.refl _ _) (Nat.le_refl _) o)
theorem ownR.aft {B : Nat} {w : World} {v : Value} {xs : List Int} (h : ownR B w v xs) (u : World) : ownR B (aft w u) v xs := h.below (below_aft w u)
theorem ownR.drew {B : Nat} {w : World} {v : Value} {xs : List Int} (h : ownR B w v xs) : ownR B w.drew v xs := h.below (Below.drew (Below.refl _ _))
theorem ownR.mono {B B' : Nat} {w : World} {v : Value} {xs : List Int} (h : ownR B w v xs) (hB : B' ≤ B) : ownR B' w v xs := by
  refine ⟨h.1, ?_⟩
  rcases h.2 with hn | ⟨g, cap, cur, rfl, hg, r⟩
  · exact .inl hn
  · exact .inr ⟨g, cap, cur, rfl, Nat.le_trans hB hg, r⟩
theorem ownR.setCell {B : Nat} {w : World} {v : Value} {xs : List Int} (h : ownR B w v xs) (b o : Nat) (k : Option Nat) (x : Value) (hb : b < B) : ownR B (w.setCell ⟨b, o, k⟩ x) v xs := by
  refine ownR.kept h fun j _ hj => ?_
  have h1 := World.ownsRow.lt h j hj
  simp only [World.setCell, Array.getElem?_modify]
  rw [if_neg (by show ¬ b = j; omega)]
theorem ownR.rd {B : Nat} {w : World} {v : Value} {xs : List Int} (h : ownR B w v xs) : rdI w v xs := by
  rcases h.2 with ⟨rfl, hn⟩ | ⟨g, cap, cur, rfl, hg, hh, h1, h2, h3⟩
  · have : xs = [] := List.eq_nil_of_length_eq_zero hn
    subst this
    exact ⟨none, 0, rfl, by simp [maxLen], fun h => absurd rfl h⟩
  · refine ⟨_, cap, rfl, by omega, fun _ => ⟨g, 0, rfl, fun i hi => ?_⟩⟩
    have hc := World.ownsRow.cells h (g := g) rfl i (.int .i64 xs[i]) (by simp [vI, hi])
    by_cases h0 : i = 0
    · subst h0; simpa [Addr.add] using hc
    · simpa [Addr.add, h0] using hc
theorem rdI.below {w w' : World} {v : Value} {xs : List Int} (h : rdI w v xs) (hb : Below w.heap.size w w') : rdI w' v xs := by
  obtain ⟨a, cap, rfl, hm, hc⟩ := h
  refine ⟨a, cap, rfl, hm, fun hne => ?_⟩
  obtain ⟨b, o, rfl, hcell⟩ := hc hne
  refine ⟨b, o, rfl, fun i hi => ?_⟩
  have h1 := hcell i hi
  rw [hb.cell (p := ⟨b, o + i, none⟩) (World.block_lt_of_cell? w _ h1)]
  exact h1
theorem rdI.alloc {w : World} {v : Value} {xs : List Int} (h : rdI w v xs) (o : Obj) : rdI (w.alloc o) v xs := h.below (Below.alloc (Below.refl _ _) (Nat.le_refl _) o)
theorem rdI.aft {w : World} {v : Value} {xs : List Int} (h : rdI w v xs) (u : World) : rdI (aft w u) v xs := h.below (below_aft w u)
theorem rdI.drew {w : World} {v : Value} {xs : List Int} (h : rdI w v xs) : rdI w.drew v xs := h.below (Below.drew (Below.refl _ _))
theorem rdI.drewN {w : World} {v : Value} {xs : List Int} (h : rdI w v xs) (n : Nat) : rdI (w.drewN n) v xs := h.below (below_drewN (Below.refl _ _) n)

/-- A call that hands back a new slice. -/
theorem viaI {P : Program} {f : FuncId} {args : Array Value} {w : World} {xs : List Int} {g : Value → Value} {R : Ending → World → Prop}
    (h : Calls P f args w fun e w' => ∃ v, e = .returned (g v) ∧ ownR w.heap.size w' v xs ∧ Below w.heap.size w w')
    (hR : ∀ v u, w.heap.size ≤ (aft w u).heap.size → ownR w.heap.size (aft w u) v xs → R (.returned (g v)) (aft w u)) : Calls P f args w R :=
  h.mono fun e w' ⟨v, he, ho, hb⟩ => by subst he; obtain ⟨u, rfl⟩ := aft_ex hb; exact hR v u (size_aft w u) ho

theorem viaE {P : Program} {f : FuncId} {args : Array Value} {w : World} {xs ys : List Int} {g : Value → Value} {R : Ending → World → Prop}
    (h : Calls P f args w fun e w' => ∃ v, e = .returned (g v) ∧ ownR w.heap.size w' v xs ∧ Below w.heap.size w w') (he : xs = ys)
    (hR : ∀ v u, w.heap.size ≤ (aft w u).heap.size → ownR w.heap.size (aft w u) v ys → R (.returned (g v)) (aft w u)) : Calls P f args w R := by
  subst he; exact viaI h hR

/-- Behind an append to a row of the call's own. -/
theorem grown_aft {W w1 w2 : World} {row : Option Nat} (h : Ext W.heap.size W w1) (hg : w1.grownBy w2 row) (hr : ∀ k, row = some k → W.heap.size ≤ k) : ∃ u, w2 = aft W u :=
  aft_ex (h.1.grown hg h.2 hr)
theorem own_row_ge {B : Nat} {w : World} {v : Value} {xs : List Int} (h : ownR B w v xs) : ∀ k, v.ownBlock = some k → B ≤ k := fun k hk => (World.ownsRow.lt h k hk).1
theorem infoI : (Try.prog.info? 2).map (fun i => (i.zero, i.size, i.bytes)) = some (some (.int .i64 0), 1, 8) := by kernel_rfl
theorem ownR.snoc {B : Nat} {w : World} {v : Value} {xs : List Int} {x : Int} (h : w.ownsRow B 2 1 v (xs.length + 1) (vI xs ++ [.int .i64 x])) : ownR B w v (xs ++ [x]) := by
  unfold ownR; simpa [vI] using h
end Go.Proofs.Ytdhnpmjoajaeiaa

/- Contracts of the smallest number functions. -/
namespace Go.Proofs.Ytdhnpmjoajaeiaa
open Go Go.RowKit

def inB (n a b : Int) : Bool := decide (a ≤ n) && decide (n ≤ b)
theorem inB_t {n a b : Int} (h1 : a ≤ n) (h2 : n ≤ b) : inB n a b = true := by simp [inB, *]
theorem inB_l {n a b : Int} (h1 : n < a) : inB n a b = false := by simp [inB]; intro; omega
theorem inB_r {n a b : Int} (h1 : b < n) : inB n a b = false := by simp [inB]; intro; omega
theorem inB_iff {n a b : Int} : inB n a b = true ↔ a ≤ n ∧ n ≤ b := by simp [inB]

set_option maxHeartbeats 400000 in
theorem i_within (n a b : Int) (w : World) :
    Calls Try.prog 56 #[.int .i64 n, .int .i64 a, .int .i64 b] w fun e w' => e = .returned (.bool (inB n a b)) ∧ w = w' := by
  by_cases h1 : a ≤ n
  · by_cases h2 : n ≤ b
    · rw [inB_t h1 h2]; go_enter Try.func56, Try.ntmps56
      go_wp2
      go_ret
      exact ⟨rfl, rfl⟩
    · rw [inB_r (by omega)]; go_enter Try.func56, Try.ntmps56
      go_wp2
      go_ret
      exact ⟨rfl, rfl⟩
  · rw [inB_l (by omega)]; go_enter Try.func56, Try.ntmps56
    go_wp2
    go_ret
    exact ⟨rfl, rfl⟩

end Go.Proofs.Ytdhnpmjoajaeiaa

/- Plain arithmetic: primes. -/
namespace Go.Proofs.Ytdhnpmjoajaeiaa

def noDivB (n : Int) : Bool := (List.range 1001).all fun d => decide (d < 2) || decide (n < (d : Int) * d) || decide (n % (d : Int) ≠ 0)
/-- A prime number up to 1000000. -/
def primeB (n : Int) : Bool := decide (2 ≤ n) && decide (n ≤ 1000000) && noDivB n
/-- A prime number up to 97. -/
def smallP (n : Int) : Bool := decide (n ≤ 97) && primeB n

theorem noDiv_t {n : Int} {k : Nat} (h : ∀ j : Nat, 2 ≤ j → j < k → n % (j : Int) ≠ 0) (hk : n < (k : Int) * k) : noDivB n = true := by
  unfold noDivB
  rw [List.all_eq_true]
  intro d _
  by_cases h2 : d < 2
  · simp [h2]
  by_cases h3 : n < (d : Int) * d
  · simp [h3]
  have : d < k := by
    rcases Nat.lt_or_ge d k with h4 | h4
    · exact h4
    · have h6 : (k : Int) * k ≤ (d : Int) * d := Int.mul_le_mul (by omega) (by omega) (by omega) (by omega)
      omega
  have h7 := h d (by omega) this
  simp [h7]

theorem noDiv_f {n : Int} {k : Nat} (h2 : 2 ≤ k) (hk : (k : Int) * k ≤ n) (hn : n ≤ 1000000) (hm : n % (k : Int) = 0) : noDivB n = false := by
  unfold noDivB
  rw [List.all_eq_false]
  have hk1 : k < 1001 := by
    rcases Nat.lt_or_ge k 1001 with h | h
    · exact h
    · have h6 : (1001 : Int) * 1001 ≤ (k : Int) * k := Int.mul_le_mul (by omega) (by omega) (by omega) (by omega)
      omega
  refine ⟨k, List.mem_range.2 hk1, ?_⟩
  have a : ¬ k < 2 := by omega
  have b : ¬ n < (k : Int) * k := by omega
  simp [a, b, hm]

theorem sq_bd {k : Nat} (h : k ≤ 1001) : 0 ≤ (k : Int) * k ∧ (k : Int) * k ≤ 1002001 := by
  have h6 : (k : Int) * k ≤ (1001 : Int) * 1001 := Int.mul_le_mul (by omega) (by omega) (by omega) (by omega)
  have h7 : (0 : Int) ≤ (k : Int) * k := Int.mul_nonneg (by omega) (by omega)
  exact ⟨h7, by omega⟩

theorem sq_lt {n : Int} {k : Nat} (hn : n ≤ 1000000) (h : (k : Int) * k ≤ n) : k ≤ 1000 := by
  rcases Nat.lt_or_ge k 1001 with h' | h'
  · omega
  · have h6 : (1001 : Int) * 1001 ≤ (k : Int) * k := Int.mul_le_mul (by omega) (by omega) (by omega) (by omega)
    omega

theorem primeB_out {n : Int} (h : n < 2 ∨ 1000000 < n) : primeB n = false := by
  unfold primeB
  rcases h with h | h
  · have : ¬ 2 ≤ n := by omega
    simp [this]
  · have : ¬ n ≤ 1000000 := by omega
    simp [this]
theorem primeB_in {n : Int} (h1 : 2 ≤ n) (h2 : n ≤ 1000000) : primeB n = noDivB n := by simp [primeB, h1, h2]
theorem smallP_hi {n : Int} (h : 97 < n) : smallP n = false := by
  have : ¬ n ≤ 97 := by omega
  simp [smallP, this]
theorem smallP_lo {n : Int} (h : n ≤ 97) : smallP n = primeB n := by simp [smallP, h]
theorem smallP_bd {n : Int} (h : smallP n = true) : 2 ≤ n ∧ n ≤ 97 := by
  simp [smallP, primeB] at h
  omega
theorem smallP_prime {n : Int} (h : smallP n = true) : primeB n = true := by
  simp [smallP] at h
  exact h.2
theorem smallP_out {n : Int} (h : n < 2 ∨ 97 < n) : smallP n = false := by
  rcases h with h | h
  · by_cases h3 : n ≤ 97
    · rw [smallP_lo h3, primeB_out (.inl h)]
    · exact smallP_hi (by omega)
  · exact smallP_hi h
end Go.Proofs.Ytdhnpmjoajaeiaa

/- Contracts: primes. -/
namespace Go.Proofs.Ytdhnpmjoajaeiaa
open Go Go.RowKit

set_option maxHeartbeats 400000 in
theorem i_IsPrime (n : Int) (w : World) :
    Calls Try.prog 72 #[.int .i64 n] w fun e w' => e = .returned (.bool (primeB n)) ∧ w = w' := by
  by_cases h1 : 2 ≤ n ∧ n ≤ 1000000
  · obtain ⟨h1, h2⟩ := h1
    rw [primeB_in h1 h2]
    have hin := inB_t h1 h2
    go_enter Try.func72, Try.ntmps72
    go_wp2_with (go_at_call 56; refine (i_within _ _ _ _).mono ?_; rintro e w' ⟨rfl, rfl⟩)
    go_loop [3] (fun d => ∃ k : Nat, 2 ≤ k ∧ k ≤ 1001 ∧ d = .int .i64 k ∧ ∀ j : Nat, 2 ≤ j → j < k → n % (j : Int) ≠ 0) (fun d => 1001 - (intOf d).toNat)
    case atStart => exact ⟨2, by omega, by omega, rfl, by omega⟩
    case round =>
      obtain ⟨k, hk2, hk, rfl, hj⟩ := hrel
      have hq := sq_bd hk
      by_cases hlt : (k : Int) * k ≤ n
      · have hk3 := sq_lt h2 hlt
        by_cases hm : n % (k : Int) = 0
        · have HF := hid (noDiv_f hk2 hlt h2 hm)
          have hm' : (n % (k : Int) == 0) = true := by simp [hm]
          clear hm hj
          go_wp2
          go_ret
          exact ⟨by rw [HF.out]; rfl, rfl⟩
        · have hm' : (n % (k : Int) == 0) = false := by simp [hm]
          have Hj := hid hj
          clear hj
          have Hm := hid hm
          clear hm
          go_wp2
          go_round
          case rel => exact ⟨k + 1, by omega, by omega, by go_num, fun j a b => by rcases Nat.lt_or_ge j k with h | h; (exact Hj.out j a h); (obtain rfl : j = k := by omega); exact Hm.out⟩
          case measure => simp [intOf]; omega
      · have HF := hid (noDiv_t hj (by omega))
        clear hj
        go_wp2
        go_ret
        exact ⟨by rw [HF.out]; rfl, rfl⟩
  · rw [primeB_out (by omega)]
    have hin : inB n 2 1000000 = false := by
      rcases Int.lt_or_le n 2 with h | h
      · exact inB_l h
      · exact inB_r (by omega)
    go_enter Try.func72, Try.ntmps72
    go_wp2_with (go_at_call 56; refine (i_within _ _ _ _).mono ?_; rintro e w' ⟨rfl, rfl⟩)
    go_ret
    exact ⟨rfl, rfl⟩
end Go.Proofs.Ytdhnpmjoajaeiaa

/- Plain arithmetic: powers, remainders, valuations, moduli. -/
namespace Go.Proofs.Ytdhnpmjoajaeiaa

theorem pow_pos' {n : Int} (h : 1 ≤ n) (k : Nat) : 1 ≤ n ^ k := by
  induction k with
  | zero => simp
  | succ k ih => rw [Int.pow_succ]; have := Int.mul_le_mul ih h (by omega) (by omega); omega
theorem pow_mono {n : Int} (h : 1 ≤ n) {a b : Nat} (hab : a ≤ b) : n ^ a ≤ n ^ b := by
  induction hab with
  | refl => exact Int.le_refl _
  | step _ ih =>
    rename_i m _
    rw [Int.pow_succ]
    have h1 := pow_pos' h m
    have := Int.mul_le_mul (Int.le_refl (n ^ m)) h (by omega) (by omega)
    omega
theorem pow_step {n B : Int} {e k : Nat} (h : 1 ≤ n) (hb : n ^ e ≤ B) (hk : k < e) : 1 ≤ n ^ k ∧ n ^ k ≤ B ∧ 1 ≤ n ^ k * n ∧ n ^ k * n ≤ B := by
  have h1 := pow_pos' h k
  have h2 := pow_pos' h (k + 1)
  have h3 := pow_mono h (show k + 1 ≤ e from hk)
  have h4 := pow_mono h (show k ≤ e by omega)
  rw [Int.pow_succ] at h2 h3
  omega

theorem tmod_emod {n m : Int} : (n.tmod m) % m = n % m := by
  rw [Int.tmod_def, show n - m * n.tdiv m = n + m * (-(n.tdiv m)) by rw [Int.mul_neg]; omega, Int.add_mul_emod_self_left]
theorem tmod_bd {n m : Int} (h : 0 < m) : -m < n.tmod m ∧ n.tmod m < m := by
  refine ⟨Int.lt_tmod_of_pos _ h, Int.tmod_lt_of_pos _ h⟩
theorem mod_fix {n m : Int} (_h : 0 < m) : (n.tmod m + m) % m = n % m := by
  rw [Int.add_emod_right, tmod_emod]
theorem tmod_zero_iff {n p : Int} : n.tmod p = 0 ↔ n % p = 0 := by
  rw [← Int.dvd_iff_tmod_eq_zero, Int.dvd_iff_emod_eq_zero]

/-! ### How often p divides n -/
def vlF : Nat → Int → Int → Nat
  | 0, _, _ => 0
  | f + 1, n, p => if n % p = 0 then vlF f (n / p) p + 1 else 0
def vl (n p : Int) : Nat := vlF n.natAbs n p

theorem vlF_eq {p c : Int} (hp : 2 ≤ p) (hc : ¬ c % p = 0) : ∀ (k f : Nat), k ≤ f → vlF f (c * p ^ k) p = k := by
  intro k
  induction k with
  | zero =>
    intro f _
    cases f with
    | zero => rfl
    | succ f => simp only [Int.pow_zero, Int.mul_one, vlF]; rw [if_neg hc]
  | succ k ih =>
    intro f hf
    cases f with
    | zero => omega
    | succ f =>
      have e : c * p ^ (k + 1) = c * p ^ k * p := by rw [Int.pow_succ, Int.mul_assoc]
      simp only [vlF]
      rw [if_pos (by rw [e]; exact Int.mul_emod_left _ _), e, Int.mul_ediv_cancel _ (by omega), ih f (by omega)]
theorem pow_gt (p : Int) (hp : 2 ≤ p) (k : Nat) : (k : Int) < p ^ k := by
  induction k with
  | zero => simp
  | succ k ih =>
    rw [Int.pow_succ]
    have := Int.mul_le_mul (show (k : Int) + 1 ≤ p ^ k by omega) hp (by omega) (by omega)
    omega
theorem vl_eq {n p c : Int} {k : Nat} (hp : 2 ≤ p) (hn : n = c * p ^ k) (hc : ¬ c % p = 0) : vl n p = k := by
  unfold vl
  have h0 : c ≠ 0 := fun h => hc (by rw [h]; simp)
  have h1 := pow_gt p hp k
  have h2 : n.natAbs = c.natAbs * (p ^ k).natAbs := by rw [hn, Int.natAbs_mul]
  have h3 : 1 ≤ c.natAbs := by omega
  have h4 := Nat.mul_le_mul h3 (Nat.le_refl (p ^ k).natAbs)
  have h5 : k ≤ n.natAbs := by omega
  rw [hn] at h5 ⊢
  exact vlF_eq hp hc k _ h5
/-- n is p to the power of vl times something that p does not divide. -/
theorem vl_ex {p : Int} (hp : 2 ≤ p) : ∀ (f : Nat) (n : Int), n ≠ 0 → n.natAbs ≤ f → ∃ (c : Int) (k : Nat), n = c * p ^ k ∧ ¬ c % p = 0 := by
  intro f
  induction f with
  | zero => intro n h0 h; omega
  | succ f ih =>
    intro n h0 hf
    by_cases h : n % p = 0
    · have hd : n = n / p * p := by have := Int.ediv_mul_cancel (Int.dvd_of_emod_eq_zero h); omega
      have h1 : n / p ≠ 0 := fun h' => h0 (by rw [hd, h']; simp)
      have h2 : n.natAbs = (n / p).natAbs * p.natAbs := by rw [← Int.natAbs_mul, ← hd]
      have h3 := Nat.mul_le_mul (Nat.le_refl (n / p).natAbs) (show 2 ≤ p.natAbs by omega)
      obtain ⟨c, k, e, hc⟩ := ih (n / p) h1 (by omega)
      exact ⟨c, k + 1, by rw [Int.pow_succ, ← Int.mul_assoc, ← e]; exact hd, hc⟩
    · exact ⟨n, 0, by simp, h⟩
theorem vl_spec {n p : Int} (hp : 2 ≤ p) (hn : n ≠ 0) : ∃ c, n = c * p ^ vl n p ∧ ¬ c % p = 0 ∧ n / p ^ vl n p = c := by
  obtain ⟨c, k, e, hc⟩ := vl_ex hp n.natAbs n hn (Nat.le_refl _)
  have hk := vl_eq hp e hc
  have h1 := pow_pos' (show 1 ≤ p by omega) k
  rw [hk]
  exact ⟨c, e, hc, by rw [e]; exact Int.mul_ediv_cancel _ (by omega)⟩

/-! ### Moduli -/
def modu (p n : Int) : Int := if p ^ n.toNat ≤ 1000000000 then p ^ n.toNat else 0
/-- A valid ring. -/
def ringB (p n : Int) : Bool := smallP p && (decide (1 ≤ n) && decide (n ≤ 40) && decide (p ^ n.toNat ≤ 1000000000))
theorem ringB_iff {p n : Int} : ringB p n = true ↔ smallP p = true ∧ 1 ≤ n ∧ n ≤ 40 ∧ p ^ n.toNat ≤ 1000000000 := by
  simp [ringB, and_assoc]
theorem modu_ring {p n : Int} (h : ringB p n = true) : modu p n = p ^ n.toNat := by
  unfold modu; rw [if_pos (ringB_iff.1 h).2.2.2]
theorem pow_large {p : Int} (hp : 2 ≤ p) {k : Nat} (hk : 30 ≤ k) : 1000000000 < p ^ k := by
  have h1 : p ^ 30 ≤ p ^ k := pow_mono (by omega) hk
  have h2 : (2 : Int) ^ 30 ≤ p ^ 30 := by
    have h : ∀ j : Nat, (2 : Int) ^ j ≤ p ^ j := by
      intro j
      induction j with
      | zero => simp
      | succ j ih => rw [Int.pow_succ, Int.pow_succ]; exact Int.mul_le_mul ih hp (by omega) (by have := pow_pos' (show 1 ≤ p by omega) j; omega)
    exact h 30
  have h3 : (2 : Int) ^ 30 = 1073741824 := by decide
  omega
end Go.Proofs.Ytdhnpmjoajaeiaa

/- Contracts: remainders, powers, valuations, common divisors. -/
namespace Go.Proofs.Ytdhnpmjoajaeiaa
open Go Go.RowKit

theorem ret_i {a b : Int} (h : a = b) : Ending.returned (.int .i64 a) = .returned (.int .i64 b) := by rw [h]
theorem ret_b {a b : Bool} (h : a = b) : Ending.returned (.bool a) = .returned (.bool b) := by rw [h]

set_option maxHeartbeats 400000 in
theorem i_mod (n m : Int) (w : World) (h1 : 1 ≤ m) (h2 : m ≤ 4000000000000000000) :
    Calls Try.prog 64 #[.int .i64 n, .int .i64 m] w fun e w' => e = .returned (.int .i64 (n % m)) ∧ w = w' := by
  have hb := @tmod_bd n m (by omega)
  have HF := hid (@mod_fix n m (by omega))
  go_enter Try.func64, Try.ntmps64
  go_wp2
  go_ret
  exact ⟨ret_i HF.out, rfl⟩
set_option maxHeartbeats 400000 in
theorem s_mod (n m : Int) (w : World) (h1 : 1 ≤ m) (h2 : m ≤ 4000000000000000000) :
    Calls Try.prog 66 #[.int .i64 n, .int .i64 m] w fun e w' => e = .returned (.int .i64 (n % m)) ∧ w = w' := by
  have hb := @tmod_bd n m (by omega)
  have HF := hid (@mod_fix n m (by omega))
  go_enter Try.func66, Try.ntmps66
  go_wp2
  go_ret
  exact ⟨ret_i HF.out, rfl⟩

set_option maxHeartbeats 400000 in
theorem i_val (n p : Int) (w : World) (hp : 2 ≤ p) (hp2 : p ≤ 1000000) (hn : n ≠ 0) (hb : -4000000000000000000 ≤ n ∧ n ≤ 4000000000000000000) :
    Calls Try.prog 70 #[.int .i64 n, .int .i64 p] w fun e w' => e = .returned (.int .i64 (vl n p)) ∧ w = w' := by
  have Hn := hid hn
  clear hn
  go_enter Try.func70, Try.ntmps70
  go_wp2_with fail
  go_loop [0, 5] (fun s v => ∃ (c : Int) (k : Nat), s = .int .i64 c ∧ v = .int .i64 k ∧ n = c * p ^ k ∧ k + c.natAbs ≤ n.natAbs) (fun s _ => (intOf s).natAbs)
  case atStart => exact ⟨n, 0, rfl, rfl, by simp, by omega⟩
  case round =>
    obtain ⟨c, k, rfl, rfl, he, hk⟩ := hrel
    have h0 : c ≠ 0 := fun h => Hn.out (by rw [he, h]; simp)
    have hm1 := @tmod_bd c p (by omega)
    by_cases hm : c % p = 0
    · have hd : c / p * p = c := Int.ediv_mul_cancel (Int.dvd_of_emod_eq_zero hm)
      have ht : c.tdiv p = c / p := Int.tdiv_eq_ediv_of_dvd (Int.dvd_of_emod_eq_zero hm)
      have h1 : c / p ≠ 0 := fun h' => h0 (by rw [← hd, h']; simp)
      have h2 : c.natAbs = (c / p).natAbs * p.natAbs := by rw [← Int.natAbs_mul, hd]
      have h3 := Nat.mul_le_mul (Nat.le_refl (c / p).natAbs) (show 2 ≤ p.natAbs by omega)
      have hz : (c.tmod p == 0) = true := by rw [beq_iff_eq, tmod_zero_iff]; exact hm
      have He := hid he
      have Hd := hid hd
      have H4 : (c / p).natAbs < c.natAbs := by omega
      have hq : -4000000000000000000 ≤ c.tdiv p ∧ c.tdiv p ≤ 4000000000000000000 := by rw [ht]; omega
      have Ht := hid ht
      clear hm he hd h2 h3 ht h0 h1
      go_wp2
      go_round
      case rel => exact ⟨c / p, k + 1, by rw [Ht.out], by go_num, by rw [He.out, Int.pow_succ, ← Int.mul_assoc, Int.mul_right_comm, Hd.out], by omega⟩
      case measure => simp only [intOf]; rw [Ht.out]; omega
    · have hz : (c.tmod p == 0) = false := by rw [beq_eq_false_iff_ne]; exact fun h => hm (tmod_zero_iff.1 h)
      have HF := hid (vl_eq hp he hm)
      clear he hm h0
      go_wp2
      go_ret
      exact ⟨ret_i (by rw [HF.out]), rfl⟩
set_option maxHeartbeats 400000 in
theorem s_val (n p : Int) (w : World) (hp : 2 ≤ p) (hp2 : p ≤ 1000000) (hn : n ≠ 0) (hb : -4000000000000000000 ≤ n ∧ n ≤ 4000000000000000000) :
    Calls Try.prog 71 #[.int .i64 n, .int .i64 p] w fun e w' => e = .returned (.int .i64 (vl n p)) ∧ w = w' := by
  have Hn := hid hn
  clear hn
  go_enter Try.func71, Try.ntmps71
  go_wp2_with fail
  go_loop [0, 5] (fun s v => ∃ (c : Int) (k : Nat), s = .int .i64 c ∧ v = .int .i64 k ∧ n = c * p ^ k ∧ k + c.natAbs ≤ n.natAbs) (fun s _ => (intOf s).natAbs)
  case atStart => exact ⟨n, 0, rfl, rfl, by simp, by omega⟩
  case round =>
    obtain ⟨c, k, rfl, rfl, he, hk⟩ := hrel
    have h0 : c ≠ 0 := fun h => Hn.out (by rw [he, h]; simp)
    have hm1 := @tmod_bd c p (by omega)
    by_cases hm : c % p = 0
    · have hd : c / p * p = c := Int.ediv_mul_cancel (Int.dvd_of_emod_eq_zero hm)
      have ht : c.tdiv p = c / p := Int.tdiv_eq_ediv_of_dvd (Int.dvd_of_emod_eq_zero hm)
      have h1 : c / p ≠ 0 := fun h' => h0 (by rw [← hd, h']; simp)
      have h2 : c.natAbs = (c / p).natAbs * p.natAbs := by rw [← Int.natAbs_mul, hd]
      have h3 := Nat.mul_le_mul (Nat.le_refl (c / p).natAbs) (show 2 ≤ p.natAbs by omega)
      have hz : (c.tmod p == 0) = true := by rw [beq_iff_eq, tmod_zero_iff]; exact hm
      have He := hid he
      have Hd := hid hd
      have H4 : (c / p).natAbs < c.natAbs := by omega
      have hq : -4000000000000000000 ≤ c.tdiv p ∧ c.tdiv p ≤ 4000000000000000000 := by rw [ht]; omega
      have Ht := hid ht
      clear hm he hd h2 h3 ht h0 h1
      go_wp2
      go_round
      case rel => exact ⟨c / p, k + 1, by rw [Ht.out], by go_num, by rw [He.out, Int.pow_succ, ← Int.mul_assoc, Int.mul_right_comm, Hd.out], by omega⟩
      case measure => simp only [intOf]; rw [Ht.out]; omega
    · have hz : (c.tmod p == 0) = false := by rw [beq_eq_false_iff_ne]; exact fun h => hm (tmod_zero_iff.1 h)
      have HF := hid (vl_eq hp he hm)
      clear he hm h0
      go_wp2
      go_ret
      exact ⟨ret_i (by rw [HF.out]), rfl⟩

set_option maxHeartbeats 400000 in
theorem i_power (n e : Int) (w : World) (hn : 1 ≤ n) (he : e ≤ 4000000000000000000) (hb : n ^ e.toNat ≤ 4000000000000000000) :
    Calls Try.prog 57 #[.int .i64 n, .int .i64 e] w fun e1 w' => e1 = .returned (.int .i64 (n ^ e.toNat)) ∧ w = w' := by
  obtain ⟨P, hP⟩ : ∃ P, P = n ^ e.toNat := ⟨_, rfl⟩
  have hst := fun k (hk : k < e.toNat) => pow_step hn hb hk
  rw [← hP]
  have Hst := hid hst
  have HP := hid hP
  clear hst hP hb
  go_enter Try.func57, Try.ntmps57
  go_wp2_with fail
  go_loop [5, 7] (fun o i => ∃ k : Nat, k ≤ e.toNat ∧ i = .int .i64 k ∧ o = .int .i64 (n ^ k)) (fun _ i => e.toNat - (intOf i).toNat)
  case atStart => exact ⟨0, by omega, rfl, by simp⟩
  case round =>
    obtain ⟨k, hk, rfl, rfl⟩ := hrel
    by_cases hlt : (k : Int) < e
    · have hk2 : k < e.toNat := by omega
      have h := Hst.out k hk2
      go_wp2
      go_round
      case rel => exact ⟨k + 1, by omega, by go_num, by rw [Int.pow_succ]⟩
      case measure => simp [intOf]; omega
    · have e1 : k = e.toNat := by omega
      have He := hid e1
      clear e1
      go_wp2
      go_ret
      exact ⟨ret_i (by rw [HP.out, He.out]), rfl⟩
end Go.Proofs.Ytdhnpmjoajaeiaa

/- Readers of slices: sums, comparisons, marks. -/
namespace Go.Proofs.Ytdhnpmjoajaeiaa
open Go Go.RowKit

def lsum : List Int → Int
  | [] => 0
  | x :: r => x + lsum r
theorem lsum_snoc (xs : List Int) (x : Int) : lsum (xs ++ [x]) = lsum xs + x := by
  induction xs with
  | nil => simp [lsum]
  | cons y r ih => simp only [List.cons_append, lsum, ih]; omega
theorem take_snocI (xs : List Int) (k : Nat) (h : k < xs.length) : xs.take (k + 1) = xs.take k ++ [xs[k]] := by
  rw [List.take_succ_eq_append_getElem h]
theorem lsum_take {xs : List Int} {k : Nat} (h : k < xs.length) : lsum (xs.take (k + 1)) = lsum (xs.take k) + xs[k] := by rw [take_snocI _ _ h, lsum_snoc]
theorem lsum_bd {B : Int} (xs : List Int) (h : ∀ x ∈ xs, 0 ≤ x ∧ x ≤ B) : 0 ≤ lsum xs ∧ lsum xs ≤ B * xs.length := by
  induction xs with
  | nil => simp [lsum]
  | cons y r ih =>
    have h1 := h y (by simp)
    have h2 := ih (fun x hx => h x (by simp [hx]))
    have e : B * ((r.length + 1 : Nat) : Int) = B * (r.length : Int) + B := by rw [Int.natCast_add, Int.mul_add]; simp
    simp only [lsum, List.length_cons]
    rw [e]
    omega
theorem lsum_take_bd {xs : List Int} (h : ∀ x ∈ xs, 0 ≤ x ∧ x ≤ 1000) (hl : xs.length ≤ 1000) (k : Nat) : 0 ≤ lsum (xs.take k) ∧ lsum (xs.take k) ≤ 1000000 := by
  have h1 := lsum_bd (B := 1000) (xs.take k) (fun x hx => h x (List.mem_of_mem_take hx))
  have h2 : (xs.take k).length ≤ 1000 := by rw [List.length_take]; omega
  omega


set_option maxHeartbeats 1000000 in
theorem l_eqI (r1 r2 : Value) (xs : List Int) (w : World) (h : rdI w r1 xs) (h' : rdI w r2 xs) :
    Calls Try.prog 8 #[r1, r2] w fun e w' => e = .returned (.bool true) ∧ Below w.heap.size w w' := by
  obtain ⟨a, cap, rfl, hm, hc⟩ := h
  obtain ⟨a', cap', rfl, hm', hc'⟩ := h'
  have Hc := hid hc
  have Hc' := hid hc'
  unfold maxLen at hm
  clear hc hc' hm'
  go_enter Try.func8, Try.ntmps8
  go_wp2_with fail
  go_loopw [5] (fun i wr => ∃ (k : Nat) (uu : World), wr = aft w uu ∧ k ≤ xs.length ∧ i = .int .i64 k) (fun i _ => xs.length - (intOf i).toNat)
  case atStart => exact ⟨0, w, (aft_of (Below.refl _ _)).symm, by omega, rfl⟩
  case round =>
    obtain ⟨k, uu, rfl, hk, rfl⟩ := hrel
    by_cases hlt : k < xs.length
    · obtain ⟨b, o, rfl, hcell⟩ := Hc.out (by intro e; subst e; simp at hlt)
      obtain ⟨b', o', rfl, hcell'⟩ := Hc'.out (by intro e; subst e; simp at hlt)
      have h1 := hcell k hlt
      have h2 := hcell' k hlt
      have h3 := World.block_lt_of_cell? w _ h1
      have h4 := World.block_lt_of_cell? w _ h2
      obtain ⟨x, hx⟩ : ∃ x, x = xs[k] := ⟨_, rfl⟩
      rw [← hx] at h1 h2
      have hz : ((k : Int) : Int) < (xs.length : Int) := by omega
      have hz0 : (0 : Int) ≤ (k : Int) := by omega
      have zs := size_aft w uu
      clear hx hcell hcell'
      go_wp2_with fail
      refine wp_region_calm (by kernel_rfl) (by kernel_rfl) ?_
      repeat (go_big_quiet_step (fail))
      refine wpQuiet_nil ?_; intro uq zq; try simp at zq
      go_wp2_with fail
      go_roundw
      case rel => exact ⟨k + 1, _, (aft_of ((below_aft w uu).trans ((below_aft _ _).mono (size_aft w uu)))).symm, by omega, by go_num⟩
      case measure => simp [intOf]; omega
    · obtain rfl : k = xs.length := by omega
      go_wp2
      go_ret
      exact ⟨rfl, (by refine Ext.bel ?_; repeat (with_reducible first | exact Ext.refl _ | apply Ext.alloc | apply Ext.aft | apply Ext.drew | apply Ext.drewN | apply Ext.setCell | exact Nat.le_add_right _ _ | exact Nat.le_refl _ | (simp; done) | omega))⟩
end Go.Proofs.Ytdhnpmjoajaeiaa

/- Marks: slices of the call's own that are written and read again. -/
namespace Go.Proofs.Ytdhnpmjoajaeiaa
open Go Go.RowKit

open Classical in
noncomputable def aftB (B : Nat) (w u : World) : World := if Below B w u then u else w
theorem below_aftB (B : Nat) (w u : World) : Below B w (aftB B w u) := by
  unfold aftB; split
  · assumption
  · exact Below.refl _ _
theorem aftB_ex {B : Nat} {w w' : World} (h : Below B w w') : ∃ u, w' = aftB B w u := ⟨w', by unfold aftB; rw [if_pos h]⟩
theorem size_aftB (B : Nat) (w u : World) : w.heap.size ≤ (aftB B w u).heap.size := (below_aftB B w u).size
noncomputable def nwCB (B : Nat) (w u : World) (b o : Nat) : Option Value := (aftB B w u).cell? ⟨b, o, none⟩
noncomputable def nwFB (B : Nat) (w u : World) (b o : Nat) : Bool := (aftB B w u).frozen? ⟨b, o, none⟩
theorem aftB_cell (B : Nat) (w u : World) (b o : Nat) : (aftB B w u).cell? ⟨b, o, none⟩ = if b < B then w.cell? ⟨b, o, none⟩ else nwCB B w u b o := by
  split
  · exact (below_aftB B w u).cell (p := ⟨b, o, none⟩) ‹_›
  · rfl
theorem aftB_frozen (B : Nat) (w u : World) (b o : Nat) : (aftB B w u).frozen? ⟨b, o, none⟩ = if b < B then w.frozen? ⟨b, o, none⟩ else nwFB B w u b o := by
  split
  · exact (below_aftB B w u).frozen (p := ⟨b, o, none⟩) ‹_›
  · rfl
attribute [go_sem] aftB_cell aftB_frozen
theorem Ext.aftB {B : Nat} {w W : World} (h : Ext B w W) (B' : Nat) (u : World) (hB : B ≤ B') : Ext B w (aftB B' W u) := ⟨h.1.trans ((below_aftB B' W u).mono hB), Nat.le_trans h.2 (size_aftB _ _ _)⟩

/-- v's row lies below L. -/
def rowLt (L : Nat) (v : Value) : Prop := ∀ k, v.ownBlock = some k → k < L
theorem rowLt.mono {L L' : Nat} {v : Value} (h : rowLt L v) (hl : L ≤ L') : rowLt L' v := fun k hk => Nat.lt_of_lt_of_le (h k hk) hl
theorem ownR.rowLt {B : Nat} {w : World} {v : Value} {xs : List Int} (h : ownR B w v xs) : rowLt w.heap.size v := fun k hk => (World.ownsRow.lt h k hk).2
theorem ownR.aftB {B0 B : Nat} {w : World} {v : Value} {xs : List Int} (h : ownR B0 w v xs) (u : World) (hl : Go.Proofs.Ytdhnpmjoajaeiaa.rowLt B v) : ownR B0 (aftB B w u) v xs :=
  h.kept fun k _ hk => (below_aftB B w u).block k (hl k hk)
theorem rdI.aftB {B L : Nat} {w : World} {v : Value} {xs : List Int} (h : rdI w v xs) (u : World) (hl : rowLt L v) (hB : L ≤ B) : rdI (aftB B w u) v xs := by
  obtain ⟨a, cap, rfl, hm, hc⟩ := h
  refine ⟨a, cap, rfl, hm, fun hne => ?_⟩
  obtain ⟨b, o, rfl, hcell⟩ := hc hne
  refine ⟨b, o, rfl, fun i hi => ?_⟩
  have h1 := hcell i hi
  have h2 := hl b rfl
  rw [(below_aftB B w u).cell (p := ⟨b, o + i, none⟩) (show b < B by omega)]
  exact h1

theorem rdI.belowB {B L : Nat} {w w' : World} {v : Value} {xs : List Int} (hb : Below B w w') (h : rdI w v xs) (hl : Go.Proofs.Ytdhnpmjoajaeiaa.rowLt L v) (hB : L ≤ B) : rdI w' v xs := by
  obtain ⟨u, rfl⟩ := aftB_ex hb; exact h.aftB u hl hB
theorem le_aftB {B b : Nat} {w u : World} (h : b ≤ w.heap.size) : b ≤ (Go.Proofs.Ytdhnpmjoajaeiaa.aftB B w u).heap.size := Nat.le_trans h (size_aftB B w u)
theorem le_alloc {b : Nat} {w : World} {o : Obj} (h : b ≤ w.heap.size) : b ≤ (w.alloc o).heap.size := by simp; omega
theorem le_set {b : Nat} {w : World} {a : Addr} {v : Value} (h : b ≤ w.heap.size) : b ≤ (w.setCell a v).heap.size := by simpa using h

def marks (k : Int) (n : Nat) : List Int := (List.range n).map fun (i : Nat) => k + (i : Int)
theorem marks_len (k : Int) (n : Nat) : (marks k n).length = n := by simp [marks]
theorem marks_succ (k : Int) (n : Nat) : marks k (n + 1) = marks k n ++ [k + n] := by simp [marks, List.range_succ]

theorem mark_step {k : Int} {xs : List Int} {j : Nat} (h : j < xs.length) :
    (vI (marks k j ++ xs.drop j)).set j (.int .i64 (k + j)) = vI (marks k (j + 1) ++ xs.drop (j + 1)) := by
  have e : (marks k j ++ xs.drop j).set j (k + j) = marks k (j + 1) ++ xs.drop (j + 1) := by
    have hl := marks_len k j
    rw [List.set_append_right _ _ (by omega), hl, Nat.sub_self, List.drop_eq_getElem_cons h, List.set_cons_zero, marks_succ, List.append_assoc]
    rfl
  rw [← e]
  simp [vI, List.map_set]
theorem grownBy_refl (w : World) (row : Option Nat) : w.grownBy w row := ⟨rfl, rfl, rfl, Nat.le_refl _, fun _ _ _ => rfl⟩
theorem grownBy_trans {a b c : World} {row : Option Nat} (h : a.grownBy b row) (k : b.grownBy c row) : a.grownBy c row :=
  ⟨k.os.trans h.os, k.tape.trans h.tape, k.output.trans h.output, Nat.le_trans h.size k.size, fun i hi hn => (k.block i (Nat.lt_of_lt_of_le hi h.size) hn).trans (h.block i hi hn)⟩

set_option maxHeartbeats 1000000 in
theorem l_markI (B : Nat) (r : Value) (xs : List Int) (k : Int) (w : World) (h : ownR B w r xs) (hk : 0 ≤ k ∧ k ≤ 1000000000000000) (hl : xs.length ≤ 1000000000000000) :
    Calls Try.prog 9 #[r, .int .i64 k] w fun e w' => e = .returned (.int .i64 (k + xs.length)) ∧ ownR B w' r (marks k xs.length) ∧ Below B w w' := by
  rcases h.2 with ⟨rfl, hn⟩ | ⟨g, cap, cur, rfl, hg, hh, hr⟩
  · obtain rfl : xs = [] := List.eq_nil_of_length_eq_zero hn
    go_enter Try.func9, Try.ntmps9
    go_wp2_with fail
    refine wp_loop_rounds 1 ?_; rw [rounds_succ]
    go_wp2
    go_ret
    exact ⟨ret_i (by simp), by simpa [marks] using ownR.nil B w, Below.refl _ _⟩
  have hlt0 : g < w.heap.size := (Array.getElem?_eq_some_iff.1 hh).1
  have H0 := hid h
  have hn : xs.length ≤ cap := hr.1
  clear hh hr h
  go_enter Try.func9, Try.ntmps9
  go_wp2_with fail
  go_loopw [1, 5] (fun kk i wr => ∃ j : Nat, j ≤ xs.length ∧ i = .int .i64 j ∧ kk = .int .i64 (k + j) ∧ wr.ownsRow B 2 1 (.slice (some ⟨g, 0, none⟩) xs.length cap) xs.length (vI (marks k j ++ xs.drop j)) ∧ w.grownBy wr (some g)) (fun _ i _ => xs.length - (intOf i).toNat)
  case atStart => exact ⟨0, by omega, rfl, by go_num, by have := H0.out; unfold ownR at this; simpa [marks] using this, grownBy_refl _ _⟩
  case round =>
    obtain ⟨j, hj, rfl, rfl, hown, hgr⟩ := hrel
    by_cases hlt : j < xs.length
    · have h1 := hown.cellAt j (by omega)
      have hlen : (vI (marks k j ++ xs.drop j)).length = xs.length := by rw [vI_len, List.length_append, marks_len, List.length_drop]; omega
      obtain ⟨x, hx⟩ : ∃ x, (vI (marks k j ++ xs.drop j))[j]? = some x := ⟨_, List.getElem?_eq_getElem (by omega)⟩
      rw [hx] at h1
      have h2 := hown.frozenAt j
      have hst := hown.stored j (.int .i64 (k + j))
      rw [mark_step hlt] at hst
      have HS := hid hst
      have HG := hid hgr
      clear hst hx hlen hown hgr
      go_wp2
      go_roundw
      case rel => exact ⟨j + 1, by omega, by go_num, by go_num, HS.out.1, grownBy_trans HG.out HS.out.2⟩
      case measure => simp [intOf]; omega
    · obtain rfl : j = xs.length := by omega
      have HO := hid hown
      have HG := hid hgr
      clear hown hgr
      go_wp2
      go_ret
      refine ⟨rfl, ?_, Below.grown (Below.refl _ _) HG.out (by omega) (fun k hk => by injection hk with hk; omega)⟩
      have := HO.out
      unfold ownR
      rw [marks_len]
      simpa using this

set_option maxHeartbeats 1000000 in
theorem l_heldI (r : Value) (n : Nat) (k : Int) (w : World) (h : rdI w r (marks k n)) (hk : 0 ≤ k ∧ k ≤ 1000000000000000) (hl : n ≤ 1000000000000000) :
    Calls Try.prog 10 #[r, .int .i64 k] w fun e w' => e = .returned (.int .i64 (k + n)) ∧ w = w' := by
  obtain ⟨a, cap, rfl, hm, hc⟩ := h
  have Hc := hid hc
  rw [marks_len]
  clear hc hm
  go_enter Try.func10, Try.ntmps10
  go_wp2_with fail
  go_loop [1, 5] (fun kk i => ∃ j : Nat, j ≤ n ∧ i = .int .i64 j ∧ kk = .int .i64 (k + j)) (fun _ i => n - (intOf i).toNat)
  case atStart => exact ⟨0, by omega, rfl, by go_num⟩
  case round =>
    obtain ⟨j, hj, rfl, rfl⟩ := hrel
    by_cases hlt : j < n
    · have hne : marks k n ≠ [] := by intro e; have := marks_len k n; rw [e] at this; simp at this; omega
      obtain ⟨b, o, rfl, hcell⟩ := Hc.out hne
      have h1 := hcell j (by rw [marks_len]; exact hlt)
      have e1 : (marks k n)[j]'(by rw [marks_len]; exact hlt) = k + j := by simp [marks]
      rw [e1] at h1
      have hbq : ((k + j : Int) == (k + j : Int)) = true := by simp
      clear e1 hcell hne
      go_wp2
      go_round
      case rel => exact ⟨j + 1, by omega, by go_num, by go_num⟩
      case measure => simp [intOf]; omega
    · obtain rfl : j = n := by omega
      go_wp2
      go_ret
      exact ⟨rfl, rfl⟩
end Go.Proofs.Ytdhnpmjoajaeiaa

/- A copy of a slice: laws.toInt64S. -/
namespace Go.Proofs.Ytdhnpmjoajaeiaa
open Go Go.RowKit

/-- The first j numbers, then noughts. -/
def part (xs : List Int) (j : Nat) : List Int := xs.take j ++ List.replicate (xs.length - j) 0
theorem part_len {xs : List Int} {j : Nat} (h : j ≤ xs.length) : (part xs j).length = xs.length := by simp [part]; omega
theorem part_all (xs : List Int) : part xs xs.length = xs := by simp [part]
theorem part_zero (xs : List Int) : part xs 0 = List.replicate xs.length 0 := by simp [part]
theorem part_step {xs : List Int} {j : Nat} (h : j < xs.length) : (vI (part xs j)).set j (.int .i64 xs[j]) = vI (part xs (j + 1)) := by
  have e : (part xs j).set j xs[j] = part xs (j + 1) := by
    unfold part
    have hl : (xs.take j).length = j := by rw [List.length_take]; omega
    obtain ⟨d, hd⟩ : ∃ d, xs.length - j = d + 1 := ⟨xs.length - j - 1, by omega⟩
    rw [List.set_append_right _ _ (by omega), hl, Nat.sub_self, hd, List.replicate_succ, List.set_cons_zero, take_snocI _ _ h, List.append_assoc, show xs.length - (j + 1) = d by omega]
    rfl
  rw [← e]
  simp [vI, List.map_set]
theorem vI_zeros (n : Nat) : (madeCells #[Value.int .i64 0] n).toList = vI (List.replicate n 0) := by
  rw [toList_madeCells_one]; simp [vI]

end Go.Proofs.Ytdhnpmjoajaeiaa

/- Copies of slices, slices without noughts at their ends: both texts. -/
namespace Go.Proofs.Ytdhnpmjoajaeiaa
open Go Go.RowKit

/-- Nothing is appended. -/
theorem wpList_append_nothing {P : Program} {w : World} {ops : Array Oper} {rest : List Oper} {o : Oper} {a : Act} {Q : Exit → Act → World → Prop} (hgd : o.guard = none) (s x : Operand) (t : TypeId)
    (ho : o.op = .call { callee := .builtin .append, args := #[s, x], argTypes := #[t, t] })
    (e : TypeId) (i : TypeInfo) (ht : P.underlying t = some (.slice e)) (hi : P.info? e = some i)
    (b off n cap c : Nat) (hs : a.eval s = .slice (some ⟨b, off, none⟩) n cap) (hn : n ≤ cap) (hx : a.eval x = .slice none 0 c)
    (h : wpList P ops Q rest (a.put o.dst (.slice (some ⟨b, off, none⟩) n cap)) w) : wpList P ops Q (o :: rest) a w := by
  refine wpList_plain hgd fun K hK => ?_
  have hrun := run_append_room_src (P := P) w t t o.type e i ht hi b off n cap (.slice none 0 c) 0 [] (Src.ofNil w ht c) (by omega) (fun j hj => by simp at hj) (fun j hj => by simp at hj)
  have hw : w.setCells b (off + n * i.size) [] = w := rfl
  rw [hw] at hrun
  unfold Oper.wp
  simp [execOp, ho, resolve, invoke, builtin, hs, hx, hrun, Result.andThen]
  exact hK _ _ h

theorem rd_news {w : World} {b o cap : Nat} {xs : List Int} (h : rdI w (.slice (some ⟨b, o, none⟩) xs.length cap) xs) : ∀ j u, (vI xs)[j]? = some u → w.cell? ((⟨b, o, none⟩ : Addr).add j) = some u := by
  intro j u hj
  obtain ⟨a, cap', he, hm, hc⟩ := h
  cases he
  obtain ⟨hlt, hu⟩ := List.getElem?_eq_some_iff.1 hj
  have hlt' : j < xs.length := by rwa [vI_len] at hlt
  obtain ⟨b', o', he2, hcell⟩ := hc (by intro e; subst e; simp at hlt')
  cases he2
  rw [Addr.add_lit, hcell j hlt', ← hu]
  simp [vI]
theorem vI_one (xs : List Int) : ∀ u ∈ vI xs, u.oneCell' = true := by
  intro u hu
  simp only [vI, List.mem_map] at hu
  obtain ⟨x, _, rfl⟩ := hu
  rfl
theorem rd_none {w : World} {n cap : Nat} {xs : List Int} (h : rdI w (.slice none n cap) xs) : xs = [] ∧ n = 0 := by
  obtain ⟨a, cap', he, hm, hc⟩ := h
  cases he
  rcases xs with _ | ⟨x, r⟩
  · exact ⟨rfl, rfl⟩
  · obtain ⟨b, o, e, _⟩ := hc (by simp)
    cases e
theorem rd_some {w : World} {n cap : Nat} {a : Addr} {xs : List Int} (h : rdI w (.slice (some a) n cap) xs) : n = xs.length ∧ n ≤ maxLen := by
  obtain ⟨a', cap', he, hm, hc⟩ := h
  cases he
  exact ⟨rfl, hm⟩

theorem own_made (w : World) : ownR w.heap.size (w.alloc (.cells #[] 2)) (.slice (some ⟨w.heap.size, 0, none⟩) 0 0) [] :=
  World.ownsRow_made w #[] 0 (Nat.le_refl _) (by simp [maxLen]) (by simp)

set_option maxRecDepth 20000 in
set_option maxHeartbeats 2000000 in
theorem s_own (r : Value) (xs : List Int) (w : World) (h : rdI w r xs) (hl : xs.length ≤ 1000000) :
    Calls Try.prog 54 #[r] w fun e w' => ∃ v, e = .returned v ∧ ownR w.heap.size w' v xs ∧ Below w.heap.size w w' := by
  obtain ⟨i0, hi, hz0, hz1, hz2⟩ := info_parts infoI
  have q : ∀ (w : World) (a : Option Addr) (n c n' c' : Nat), (binOp .eql 24 (.slice a n c) (.slice none n' c')).run Try.prog w = .ok (.bool a.isNone) w := fun w a n c n' c' => Lib.run_eql_slice_nil w _ _ a n c n' c' Try.underlying24
  obtain ⟨a, cap, rfl, _, _⟩ := id h
  rcases a with _ | a
  · obtain ⟨rfl, _⟩ := rd_none h
    clear h
    simp only [List.length_nil]
    go_enter Try.func54, Try.ntmps54
    go_wp2_with (at_builtin; refine wpList_append_nothing rfl _ _ 24 rfl 2 i0 Try.underlying24 hi w.heap.size 0 0 0 cap rfl (Nat.le_refl _) rfl ?_)
    go_ret
    first
      | exact ⟨_, rfl, ownR.nil _ _, (by refine Ext.bel ?_; repeat (with_reducible first | exact Ext.refl _ | apply Ext.alloc | apply Ext.aft | apply Ext.drew | apply Ext.drewN | apply Ext.setCell | exact Nat.le_add_right _ _ | exact Nat.le_refl _ | (simp; done) | omega))⟩
      | exact ⟨_, rfl, own_made w, (by refine Ext.bel ?_; repeat (with_reducible first | exact Ext.refl _ | apply Ext.alloc | apply Ext.aft | apply Ext.drew | apply Ext.drewN | apply Ext.setCell | exact Nat.le_add_right _ _ | exact Nat.le_refl _ | (simp; done) | omega))⟩
  · obtain ⟨b, o, k⟩ := a
    have hk : xs = [] ∨ k = none := by
      obtain ⟨a', cap', he, hm, hc⟩ := id h
      cases he
      rcases xs with _ | ⟨x, r⟩
      · exact .inl rfl
      · obtain ⟨b', o', e, _⟩ := hc (by simp)
        cases e
        exact .inr rfl
    obtain ⟨a, ha⟩ : ∃ a : Addr, a = ⟨b, o, k⟩ := ⟨_, rfl⟩
    have HN : Hid (∀ j u, (vI xs)[j]? = some u → (w.alloc (.cells #[] 2)).cell? (a.add j) = some u) := hid (by
      rcases hk with rfl | rfl
      · intro j u hj; simp [vI] at hj
      · subst ha; exact rd_news (h.alloc _))
    rw [← ha]
    have H1 := hid (vI_one xs)
    clear h ha hk
    go_enter Try.func54, Try.ntmps54
    go_wp2_with (at_builtin; refine wpList_append_own _ rfl _ _ 24 rfl w.heap.size 2 i0 (.int .i64 0) 1 8 Try.underlying24 hi hz0 hz1 hz2 rfl (by decide) _ _ _ rfl (own_made w) a xs.length cap (vI xs) rfl (by rw [vI_len, Nat.mul_one]) HN.out H1.out (by simp only [List.length_nil]; unfold maxLen; omega) (by simp only [List.length_nil]; omega) (by simp) ?_)
    intro v' w1 hown hgr _
    have HO : Hid (ownR w.heap.size w1 v' xs) := hid (by unfold ownR; simpa [vI] using hown)
    have HB : Hid (Below w.heap.size w w1) := hid (((Below.refl _ w).alloc (Nat.le_refl _) _).grown hgr (by simp) (by intro k hk; simp [Value.ownBlock] at hk; omega))
    clear hown hgr
    go_wp2_with fail
    go_ret
    exact ⟨_, rfl, HO.out, HB.out⟩
end Go.Proofs.Ytdhnpmjoajaeiaa

/- slices.IndexFunc and slices.ContainsFunc over numbers, for whatever predicate. -/
namespace Go.Proofs.Ytdhnpmjoajaeiaa
open Go Go.RowKit

/-- What is asked of a predicate: in every world in which all that lay in w lies, it tells p and leaves such a world. -/
def predC (g : Nat) (lb : Array Value) (p : Int → Bool) (w : World) : Prop :=
  ∀ (W : World) (x : Int), Below w.heap.size w W → Calls Try.prog g (#[.int .i64 x] ++ lb) W fun e w' => e = .returned (.bool (p x)) ∧ Below w.heap.size w w'

/-- A call of a function with a body enters it. -/
theorem entersT {f : FuncId} {fn : Func} {c : Code} (hf : Try.prog.funcs[f]? = some fn) (hname : (fn.name == "runtime.NumGoroutine") = false) (hb : fn.body = some c) : ∀ (args : Array Value) (w : World), (callFunc f args).run Try.prog w = .ok (.enter f args) w := by
  intro args w
  have h1 : fn.name ≠ "runtime.NumGoroutine" := by simpa using hname
  simp [callFunc, hf, h1, hb, mark]
theorem any_take_f {xs : List Int} {p : Int → Bool} {k : Nat} (h : k < xs.length) (h1 : (xs.take k).any p = false) (h2 : p xs[k] = false) : (xs.take (k + 1)).any p = false := by
  rw [take_snocI _ _ h, List.any_append, h1]; simp [h2]
theorem any_hit {xs : List Int} {p : Int → Bool} {k : Nat} (h : k < xs.length) (h2 : p xs[k] = true) : xs.any p = true := List.any_eq_true.2 ⟨_, List.getElem_mem h, h2⟩

set_option maxHeartbeats 2000000 in
theorem lib_index (g : Nat) (lb : Array Value) (p : Int → Bool) (eg : ∀ args w, (callFunc g args).run Try.prog w = .ok (.enter g args) w) (r : Value) (xs : List Int) (w : World) (h : rdI w r xs) (hp : predC g lb p w) :
    Calls Try.prog 77 #[r, .func (.func g) #[] lb] w fun e w' => ∃ k : Int, e = .returned (.int .i64 k) ∧ xs.any p = decide (0 ≤ k) ∧ Below w.heap.size w w' := by
  obtain ⟨a, cap, rfl, hm, hc⟩ := h
  have Hc := hid hc
  have Hp := hid hp
  unfold maxLen at hm
  clear hc hp
  go_enter Try.func77, Try.ntmps77
  go_wp2_with fail
  go_loopw [5, 8] (fun _ i wr => ∃ k : Nat, k ≤ xs.length ∧ i = .int .i64 k ∧ Hid (Below w.heap.size w wr) ∧ Hid ((xs.take k).any p = false)) (fun _ i _ => xs.length - (intOf i).toNat)
  case atStart => exact ⟨0, by omega, rfl, hid (Below.refl _ _), hid (by simp)⟩
  case round =>
    obtain ⟨k, hk, rfl, HB, HA⟩ := hrel
    by_cases hlt : k < xs.length
    · obtain ⟨b, o, rfl, hcell⟩ := Hc.out (by intro e; subst e; simp at hlt)
      have h1 := hcell k hlt
      have h2 := HB.out.cell (p := ⟨b, o + k, none⟩) (World.block_lt_of_cell? w _ h1)
      rw [h1] at h2
      have hcall := Hp.out _ xs[k] HB.out
      obtain ⟨x, hx⟩ : ∃ x, x = xs[k] := ⟨_, rfl⟩
      rw [← hx] at h2 hcall
      have HX := hid hx
      have hltz : (k : Int) < (xs.length : Int) := by omega
      clear hx hcell h1
      cases hq : p x with
      | true =>
        rw [hq] at hcall
        have HQ := hid hq
        clear hq
        go_wp2_with fail
        refine hcall.mono ?_
        rintro e w' ⟨rfl, hb'⟩
        go_wp2_with fail
        go_ret
        exact ⟨_, rfl, by rw [any_hit hlt (by rw [← HX.out]; exact HQ.out)]; simp, hb'⟩
      | false =>
        rw [hq] at hcall
        have HQ := hid hq
        clear hq
        go_wp2_with fail
        refine hcall.mono ?_
        rintro e w' ⟨rfl, hb'⟩
        go_wp2_with fail
        go_roundw
        case rel => exact ⟨k + 1, by omega, by go_num, hid hb', hid (any_take_f hlt HA.out (by rw [← HX.out]; exact HQ.out))⟩
        case measure => simp only [intOf]; omega
    · obtain rfl : k = xs.length := by omega
      have hltz : ¬ (xs.length : Int) < (xs.length : Int) := by omega
      have HN := hid (show xs.any p = false by have := HA.out; rwa [List.take_length] at this)
      go_wp2
      go_ret
      exact ⟨_, rfl, by rw [HN.out]; simp, HB.out⟩

set_option maxHeartbeats 1000000 in
theorem lib_contains (g : Nat) (lb : Array Value) (p : Int → Bool) (eg : ∀ args w, (callFunc g args).run Try.prog w = .ok (.enter g args) w) (r : Value) (xs : List Int) (w : World) (h : rdI w r xs) (hp : predC g lb p w) :
    Calls Try.prog 61 #[r, .func (.func g) #[] lb] w fun e w' => e = .returned (.bool (xs.any p)) ∧ Below w.heap.size w w' := by
  obtain ⟨B, hB⟩ : ∃ B, B = xs.any p := ⟨_, rfl⟩
  rw [← hB]
  have HB := hid hB
  clear hB
  go_enter Try.func61, Try.ntmps61
  go_wp2_with (go_at_call 77; refine (lib_index g lb p eg r xs _ h hp).mono ?_; rintro e w' ⟨k, rfl, hk, hb⟩; have HK := hid hk; clear hk)
  go_ret
  exact ⟨ret_b (by rw [HB.out, HK.out]), hb⟩

/-- The same with its answer under a name. -/
theorem lib_containsB (g : Nat) (lb : Array Value) (p : Int → Bool) (eg : ∀ args w, (callFunc g args).run Try.prog w = .ok (.enter g args) w) (r : Value) (xs : List Int) (w : World) (h : rdI w r xs) (hp : predC g lb p w) (c : Bool) (hc : xs.any p = c) :
    Calls Try.prog 61 #[r, .func (.func g) #[] lb] w fun e w' => e = .returned (.bool c) ∧ Below w.heap.size w w' := by
  subst hc; exact lib_contains g lb p eg r xs w h hp
end Go.Proofs.Ytdhnpmjoajaeiaa

/- Contracts: common divisors. -/
namespace Go.Proofs.Ytdhnpmjoajaeiaa
open Go Go.RowKit

theorem gcd_step (x y : Int) : Int.gcd y (x.tmod y) = Int.gcd x y := by
  rw [Int.tmod_def, Int.gcd_sub_mul_left_right, Int.gcd_comm]
theorem gcd_bd {x y B : Int} (hx : -B ≤ x ∧ x ≤ B) (hy : -B ≤ y ∧ y ≤ B) : (Int.gcd x y : Int) ≤ B := by
  by_cases h : x = 0
  · rw [h, Int.zero_gcd]; omega
  · have := Int.gcd_le_natAbs_left y h; omega

set_option maxHeartbeats 400000 in
theorem i_abs (n : Int) (w : World) (h : -4000000000000000000 ≤ n ∧ n ≤ 4000000000000000000) :
    Calls Try.prog 100 #[.int .i64 n] w fun e w' => e = .returned (.int .i64 n.natAbs) ∧ w = w' := by
  rcases Int.le_total 0 n with h' | h'
  · have h1 : -n ≤ n := by omega
    go_enter Try.func100, Try.ntmps100
    go_wp2
    go_ret
    refine ⟨ret_i ?_, rfl⟩
    omega
  · by_cases h0 : n = 0
    · subst h0
      go_enter Try.func100, Try.ntmps100
      go_wp2
      go_ret
      exact ⟨rfl, rfl⟩
    have h1 : n < -n := by omega
    go_enter Try.func100, Try.ntmps100
    go_wp2
    go_ret
    refine ⟨ret_i ?_, rfl⟩
    omega

set_option maxHeartbeats 400000 in
theorem i_gcd (a b : Int) (w : World) (ha : -4000000000000000000 ≤ a ∧ a ≤ 4000000000000000000) (hb : -4000000000000000000 ≤ b ∧ b ≤ 4000000000000000000) :
    Calls Try.prog 93 #[.int .i64 a, .int .i64 b] w fun e w' => e = .returned (.int .i64 (Int.gcd a b)) ∧ Below w.heap.size w w' := by
  go_enter Try.func93, Try.ntmps93
  go_wp2_with fail
  go_loopw [0, 1] (fun s t wr => ∃ x y : Int, s = .int .i64 x ∧ t = .int .i64 y ∧ Int.gcd x y = Int.gcd a b ∧ (-4000000000000000000 ≤ x ∧ x ≤ 4000000000000000000) ∧ (-4000000000000000000 ≤ y ∧ y ≤ 4000000000000000000) ∧ Below w.heap.size w wr) (fun _ t _ => (intOf t).natAbs)
  case atStart => exact ⟨a, b, rfl, rfl, rfl, ha, hb, Below.refl _ _⟩
  case round =>
    obtain ⟨x, y, rfl, rfl, hg, hx, hy, hw⟩ := hrel
    have Hg := hid hg
    have Hw := hid hw
    clear hg hw
    by_cases h0 : y = 0
    · subst h0
      go_wp2_with (go_at_call 100; refine (i_abs _ _ hx).mono ?_; rintro e w' ⟨rfl, rfl⟩)
      go_ret
      exact ⟨ret_i (by rw [← Hg.out, Int.gcd_zero]), Hw.out⟩
    · have hn : (y == 0) = false := by simp [h0]
      have hn2 : (y != 0) = true := by simp [h0]
      have hq : -4000000000000000000 ≤ x.tmod y ∧ x.tmod y ≤ 4000000000000000000 ∧ (x.tmod y).natAbs < y.natAbs := by
        have := Int.natAbs_tmod x y
        have h3 := Nat.mod_lt x.natAbs (show 0 < y.natAbs by omega)
        omega
      have Hs := hid (gcd_step x y)
      clear h0
      go_wp2_with fail
      go_quiet (fail)
      go_wp2_with fail
      go_roundw
      case rel => exact ⟨y, x.tmod y, rfl, rfl, by rw [Hs.out, Hg.out], hy, by omega, below_drewN Hw.out _⟩
      case measure => simp only [intOf]; omega

end Go.Proofs.Ytdhnpmjoajaeiaa
