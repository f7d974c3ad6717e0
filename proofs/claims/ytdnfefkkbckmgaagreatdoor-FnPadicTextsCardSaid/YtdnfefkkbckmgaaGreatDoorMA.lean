/- Several small texts in one: B0 A1 M0 A2 M1 A3 A4 A5 A6 A7 A8. -/
import Derived.Test.YtdnfefkkbckmgaaGreatDoorRows
import Derived.WalkKit
import Derived.WalkSpells
import Derived.WalkLawsBesides
import Derived.Deep.QuietTactic
import Derived.BigQuiet
import Derived.Deep.RegionWith
import Derived.Deep.DeepFit
import Derived.Deep.DeepMust
/- Small laws on worlds: 'aft w u' is u where u is w with new blocks and draws, else w. They let a walk see through a call of which only 'Below' is known. -/
namespace Go.Proofs.YtdnfefkkbckmgaaGreatDoor
open Go Go.RowKit

theorem hid {p : Prop} (h : p) : Hid p := h

open Classical in
noncomputable def aft (w u : World) : World := if Below w.heap.size w u then u else w

theorem aft_of {w u : World} (h : Below w.heap.size w u) : aft w u = u := by unfold aft; rw [if_pos h]
theorem below_aft (w u : World) : Below w.heap.size w (aft w u) := by
  unfold aft; split
  · assumption
  · exact Below.refl _ _
theorem aft_ex {w w' : World} (h : Below w.heap.size w w') : ∃ u, w' = aft w u := ⟨w', (aft_of h).symm⟩
theorem size_aft (w u : World) : w.heap.size ≤ (aft w u).heap.size := (below_aft w u).size
theorem lt_aft {w u : World} {b : Nat} (h : b < w.heap.size) : b < (aft w u).heap.size := Nat.lt_of_lt_of_le h (size_aft w u)
theorem le_aft {w u : World} {b : Nat} (h : b ≤ w.heap.size) : b ≤ (aft w u).heap.size := Nat.le_trans h (size_aft w u)
/-- What a cell of a block that came later holds: never looked into. -/
noncomputable def nwC (w u : World) (b o : Nat) : Option Value := (aft w u).cell? ⟨b, o, none⟩
noncomputable def nwF (w u : World) (b o : Nat) : Bool := (aft w u).frozen? ⟨b, o, none⟩
theorem aft_cell (w u : World) (b o : Nat) : (aft w u).cell? ⟨b, o, none⟩ = if b < w.heap.size then w.cell? ⟨b, o, none⟩ else nwC w u b o := by
  split
  · exact (below_aft w u).cell (p := ⟨b, o, none⟩) ‹_›
  · rfl
theorem aft_frozen (w u : World) (b o : Nat) : (aft w u).frozen? ⟨b, o, none⟩ = if b < w.heap.size then w.frozen? ⟨b, o, none⟩ else nwF w u b o := by
  split
  · exact (below_aft w u).frozen (p := ⟨b, o, none⟩) ‹_›
  · rfl
theorem alloc_cell (w : World) (c : Array Value) (t : TypeId) (b o : Nat) : (w.alloc (.cells c t)).cell? ⟨b, o, none⟩ = if b = w.heap.size then c[o]? else w.cell? ⟨b, o, none⟩ := by
  split
  · rename_i h; subst h; exact World.cell?_alloc_new w c t o
  · exact World.cell?_alloc_old w _ ⟨b, o, none⟩ ‹_›
theorem alloc_frozen (w : World) (c : Array Value) (t : TypeId) (b o : Nat) : (w.alloc (.cells c t)).frozen? ⟨b, o, none⟩ = if b = w.heap.size then false else w.frozen? ⟨b, o, none⟩ := by
  split
  · rename_i h; subst h; exact World.frozen?_alloc_new w c t o
  · exact World.frozen?_alloc_old w _ ⟨b, o, none⟩ ‹_›
theorem set_cell (w : World) (b o b' o' : Nat) (v : Value) : (w.setCell ⟨b, o, none⟩ v).cell? ⟨b', o', none⟩ = if b = b' ∧ o = o' then (w.cell? ⟨b, o, none⟩).map (fun _ => v) else w.cell? ⟨b', o', none⟩ := by
  split
  · rename_i h
    obtain ⟨rfl, rfl⟩ := h
    cases hc : w.cell? ⟨b, o, none⟩ with
    | none =>
      have e : (w.setCell ⟨b, o, none⟩ v).cell? ⟨b, o, none⟩ = none := by
        unfold World.cell? at hc ⊢
        simp only [World.setCell, Array.getElem?_modify]
        cases hb : w.heap[b]? with
        | none => simp
        | some x => rw [hb] at hc; cases x <;> simp at hc ⊢ <;> omega
      rw [e]; rfl
    | some x => exact World.cell?_setCell_same w _ v hc
  · rename_i h
    refine World.cell?_setCell_other w _ _ v ?_
    intro e
    injection e with e1 e2
    exact h ⟨e1, e2⟩
attribute [go_sem] aft_cell aft_frozen alloc_cell alloc_frozen set_cell

/-- 'Below', and no block has gone: closed under each step of a walk. -/
def Ext (B : Nat) (w W : World) : Prop := Below B w W ∧ B ≤ W.heap.size
theorem Ext.refl (w : World) : Ext w.heap.size w w := ⟨Below.refl _ _, Nat.le_refl _⟩
theorem Ext.alloc {B : Nat} {w W : World} (h : Ext B w W) (o : Obj) : Ext B w (W.alloc o) := ⟨h.1.alloc h.2 o, by have := h.2; simp; omega⟩
theorem Ext.aft {B : Nat} {w W : World} (h : Ext B w W) (u : World) : Ext B w (aft W u) := ⟨h.1.trans ((below_aft W u).mono h.2), le_aft h.2⟩
theorem Ext.drew {B : Nat} {w W : World} (h : Ext B w W) : Ext B w W.drew := ⟨h.1.drew, h.2⟩
theorem Ext.drewN {B : Nat} {w W : World} (h : Ext B w W) (n : Nat) : Ext B w (W.drewN n) := ⟨below_drewN h.1 n, h.2⟩
theorem Ext.setCell {B : Nat} {w W : World} (h : Ext B w W) (b o : Nat) (k : Option Nat) (v : Value) (hb : B ≤ b) : Ext B w (W.setCell ⟨b, o, k⟩ v) := ⟨h.1.setCell (p := ⟨b, o, k⟩) hb v, by have := h.2; simp [World.setCell]; omega⟩
theorem Ext.bel {w W : World} (h : Ext w.heap.size w W) : Below w.heap.size w W := h.1
theorem Ext.below {w W W' : World} (h : Ext w.heap.size w W) (k : Below W.heap.size W W') : Ext w.heap.size w W' := ⟨h.1.trans (k.mono h.2), Nat.le_trans h.2 k.size⟩

/-- A call of which the value is known, and that the world has at most grown. -/
theorem via {P : Program} {f : FuncId} {args : Array Value} {w : World} {v : Value} {R : Ending → World → Prop}
    (h : Calls P f args w fun e w' => e = .returned v ∧ Below w.heap.size w w') (hR : ∀ u, w.heap.size ≤ (aft w u).heap.size → R (.returned v) (aft w u)) : Calls P f args w R :=
  h.mono fun e w' ⟨he, hb⟩ => by subst he; obtain ⟨u, rfl⟩ := aft_ex hb; exact hR u (size_aft w u)
/-- A call of which the value is known, and that the world is as it was. -/
theorem pur {P : Program} {f : FuncId} {args : Array Value} {w : World} {v : Value} {R : Ending → World → Prop}
    (h : Calls P f args w fun e w' => e = .returned v ∧ w = w') (hR : R (.returned v) w) : Calls P f args w R :=
  h.mono fun e w' ⟨he, hb⟩ => by subst he; subst hb; exact hR
/-- The first as the second's weaker form. -/
theorem weak {P : Program} {f : FuncId} {args : Array Value} {w : World} {v : Value}
    (h : Calls P f args w fun e w' => e = .returned v ∧ w = w') : Calls P f args w fun e w' => e = .returned v ∧ Below w.heap.size w w' :=
  h.mono fun e w' ⟨he, hb⟩ => ⟨he, by subst hb; exact Below.refl _ _⟩

/-- A region that draws its order, whose operations read what was there at its beginning, and whose calls at most make memory: ONE walk, in the order of the text. -/
theorem wp_region_calm {P : Program} {id : Nat} {Q : Exit → Act → World → Prop} {a : Act} {w : World} {l : List Oper} (hm : P.follows .mixedOrders = true) (hB : Region.lexB .any l.toArray = true)
    (h : wpQuiet P l.toArray (fun w' => ∃ u, w' = aft w u) (fun a' => ∀ u, w.heap.size ≤ (aft w u).heap.size → Q .normal a' (aft w u)) l a) : (Code.region id l.toArray true).wp P Q a w :=
  wp_region_quiet (C := fun w' => ∃ u, w' = aft w u) hm hB (aft_ex (Below.drew (Below.refl w.heap.size w))) (by
    have e : (fun a' => ∀ u, w.heap.size ≤ (aft w u).heap.size → Q .normal a' (aft w u)) = (fun a' => ∀ w', (∃ u, w' = aft w u) → Q .normal a' w') := by
      funext a'; refine propext ⟨fun k w' ⟨u, hu⟩ => ?_, fun k u _ => k _ ⟨u, rfl⟩⟩
      subst hu; exact k u (size_aft w u)
    rw [e] at h
    simpa using h)
theorem calm {P : Program} {f : FuncId} {args : Array Value} {w u : World} {v : Value}
    (h : Calls P f args (aft w u) fun e w' => e = .returned v ∧ Below (aft w u).heap.size (aft w u) w') : Calls P f args (aft w u) fun e w'' => e = .returned v ∧ ∃ u', w'' = aft w u' :=
  h.mono fun _ _ ⟨he, hb⟩ => ⟨he, aft_ex ((below_aft w u).trans (hb.mono (size_aft w u)))⟩
theorem calmb {P : Program} {f : FuncId} {args : Array Value} {w u : World} {b c : Bool}
    (h : Calls P f args (aft w u) fun e w' => e = .returned (.bool b) ∧ Below (aft w u).heap.size (aft w u) w') (hb : b = c) : Calls P f args (aft w u) fun e w'' => e = .returned (.bool c) ∧ ∃ u', w'' = aft w u' :=
  by subst hb; exact calm h
theorem calmp {P : Program} {f : FuncId} {args : Array Value} {w u : World} {v : Value}
    (h : Calls P f args (aft w u) fun e w' => e = .returned v ∧ aft w u = w') : Calls P f args (aft w u) fun e w'' => e = .returned v ∧ ∃ u', w'' = aft w u' := calm (weak h)
theorem calmpb {P : Program} {f : FuncId} {args : Array Value} {w u : World} {b c : Bool}
    (h : Calls P f args (aft w u) fun e w' => e = .returned (.bool b) ∧ aft w u = w') (hb : b = c) : Calls P f args (aft w u) fun e w'' => e = .returned (.bool c) ∧ ∃ u', w'' = aft w u' := calmb (weak h) hb
end Go.Proofs.YtdnfefkkbckmgaaGreatDoor

/- Contracts of the smallest number functions. -/
namespace Go.Proofs.YtdnfefkkbckmgaaGreatDoor
open Go Go.RowKit

def inB (n a b : Int) : Bool := decide (a ≤ n) && decide (n ≤ b)
theorem inB_t {n a b : Int} (h1 : a ≤ n) (h2 : n ≤ b) : inB n a b = true := by simp [inB, *]
theorem inB_l {n a b : Int} (h1 : n < a) : inB n a b = false := by simp [inB]; intro; omega
theorem inB_r {n a b : Int} (h1 : b < n) : inB n a b = false := by simp [inB]; intro; omega
theorem inB_iff {n a b : Int} : inB n a b = true ↔ a ≤ n ∧ n ≤ b := by simp [inB]

set_option maxHeartbeats 400000 in
theorem i_within (n a b : Int) (w : World) :
    Calls Tryz.prog 48 #[.int .i64 n, .int .i64 a, .int .i64 b] w fun e w' => e = .returned (.bool (inB n a b)) ∧ w = w' := by
  by_cases h1 : a ≤ n
  · by_cases h2 : n ≤ b
    · rw [inB_t h1 h2]; go_enter Tryz.func48, Tryz.ntmps48
      go_wp2
      go_ret
      exact ⟨rfl, rfl⟩
    · rw [inB_r (by omega)]; go_enter Tryz.func48, Tryz.ntmps48
      go_wp2
      go_ret
      exact ⟨rfl, rfl⟩
  · rw [inB_l (by omega)]; go_enter Tryz.func48, Tryz.ntmps48
    go_wp2
    go_ret
    exact ⟨rfl, rfl⟩

set_option maxHeartbeats 400000 in
theorem i_isPlace (n : Int) (w : World) :
    Calls Tryz.prog 45 #[.int .i64 n] w fun e w' => e = .returned (.bool (inB n (-60) 60)) ∧ w = w' := by
  go_enter Tryz.func45, Tryz.ntmps45
  go_wp2_with (go_at_call 48; refine (i_within _ _ _ _).mono ?_; rintro e w' ⟨rfl, rfl⟩)
  go_ret
  exact ⟨rfl, rfl⟩
end Go.Proofs.YtdnfefkkbckmgaaGreatDoor

/- Plain arithmetic: primes. -/
namespace Go.Proofs.YtdnfefkkbckmgaaGreatDoor

def noDivB (n : Int) : Bool := (List.range 1001).all fun d => decide (d < 2) || decide (n < (d : Int) * d) || decide (n % (d : Int) ≠ 0)
/-- A prime number up to 1000000. -/
def primeB (n : Int) : Bool := decide (2 ≤ n) && decide (n ≤ 1000000) && noDivB n
/-- A prime number up to 97. -/
def smallP (n : Int) : Bool := decide (n ≤ 97) && primeB n

theorem noDiv_t {n : Int} {k : Nat} (h : ∀ j : Nat, 2 ≤ j → j < k → n % (j : Int) ≠ 0) (hk : n < (k : Int) * k) : noDivB n = true := by
  unfold noDivB
  rw [List.all_eq_true]
  intro d _
  by_cases h2 : d < 2
  · simp [h2]
  by_cases h3 : n < (d : Int) * d
  · simp [h3]
  have : d < k := by
    rcases Nat.lt_or_ge d k with h4 | h4
    · exact h4
    · have h6 : (k : Int) * k ≤ (d : Int) * d := Int.mul_le_mul (by omega) (by omega) (by omega) (by omega)
      omega
  have h7 := h d (by omega) this
  simp [h7]

theorem noDiv_f {n : Int} {k : Nat} (h2 : 2 ≤ k) (hk : (k : Int) * k ≤ n) (hn : n ≤ 1000000) (hm : n % (k : Int) = 0) : noDivB n = false := by
  unfold noDivB
  rw [List.all_eq_false]
  have hk1 : k < 1001 := by
    rcases Nat.lt_or_ge k 1001 with h | h
    · exact h
    · have h6 : (1001 : Int) * 1001 ≤ (k : Int) * k := Int.mul_le_mul (by omega) (by omega) (by omega) (by omega)
      omega
  refine ⟨k, List.mem_range.2 hk1, ?_⟩
  have a : ¬ k < 2 := by omega
  have b : ¬ n < (k : Int) * k := by omega
  simp [a, b, hm]

theorem sq_bd {k : Nat} (h : k ≤ 1001) : 0 ≤ (k : Int) * k ∧ (k : Int) * k ≤ 1002001 := by
  have h6 : (k : Int) * k ≤ (1001 : Int) * 1001 := Int.mul_le_mul (by omega) (by omega) (by omega) (by omega)
  have h7 : (0 : Int) ≤ (k : Int) * k := Int.mul_nonneg (by omega) (by omega)
  exact ⟨h7, by omega⟩

theorem sq_lt {n : Int} {k : Nat} (hn : n ≤ 1000000) (h : (k : Int) * k ≤ n) : k ≤ 1000 := by
  rcases Nat.lt_or_ge k 1001 with h' | h'
  · omega
  · have h6 : (1001 : Int) * 1001 ≤ (k : Int) * k := Int.mul_le_mul (by omega) (by omega) (by omega) (by omega)
    omega

theorem primeB_out {n : Int} (h : n < 2 ∨ 1000000 < n) : primeB n = false := by
  unfold primeB
  rcases h with h | h
  · have : ¬ 2 ≤ n := by omega
    simp [this]
  · have : ¬ n ≤ 1000000 := by omega
    simp [this]
theorem primeB_in {n : Int} (h1 : 2 ≤ n) (h2 : n ≤ 1000000) : primeB n = noDivB n := by simp [primeB, h1, h2]
theorem smallP_hi {n : Int} (h : 97 < n) : smallP n = false := by
  have : ¬ n ≤ 97 := by omega
  simp [smallP, this]
theorem smallP_lo {n : Int} (h : n ≤ 97) : smallP n = primeB n := by simp [smallP, h]
theorem smallP_bd {n : Int} (h : smallP n = true) : 2 ≤ n ∧ n ≤ 97 := by
  simp [smallP, primeB] at h
  omega
theorem smallP_prime {n : Int} (h : smallP n = true) : primeB n = true := by
  simp [smallP] at h
  exact h.2
theorem smallP_out {n : Int} (h : n < 2 ∨ 97 < n) : smallP n = false := by
  rcases h with h | h
  · by_cases h3 : n ≤ 97
    · rw [smallP_lo h3, primeB_out (.inl h)]
    · exact smallP_hi (by omega)
  · exact smallP_hi h
end Go.Proofs.YtdnfefkkbckmgaaGreatDoor

/- Contracts: primes. -/
namespace Go.Proofs.YtdnfefkkbckmgaaGreatDoor
open Go Go.RowKit

set_option maxHeartbeats 400000 in
theorem i_IsPrime (n : Int) (w : World) :
    Calls Tryz.prog 72 #[.int .i64 n] w fun e w' => e = .returned (.bool (primeB n)) ∧ w = w' := by
  by_cases h1 : 2 ≤ n ∧ n ≤ 1000000
  · obtain ⟨h1, h2⟩ := h1
    rw [primeB_in h1 h2]
    have hin := inB_t h1 h2
    go_enter Tryz.func72, Tryz.ntmps72
    go_wp2_with (go_at_call 48; refine (i_within _ _ _ _).mono ?_; rintro e w' ⟨rfl, rfl⟩)
    go_loop [3] (fun d => ∃ k : Nat, 2 ≤ k ∧ k ≤ 1001 ∧ d = .int .i64 k ∧ ∀ j : Nat, 2 ≤ j → j < k → n % (j : Int) ≠ 0) (fun d => 1001 - (intOf d).toNat)
    case atStart => exact ⟨2, by omega, by omega, rfl, by omega⟩
    case round =>
      obtain ⟨k, hk2, hk, rfl, hj⟩ := hrel
      have hq := sq_bd hk
      by_cases hlt : (k : Int) * k ≤ n
      · have hk3 := sq_lt h2 hlt
        by_cases hm : n % (k : Int) = 0
        · have HF := hid (noDiv_f hk2 hlt h2 hm)
          have hm' : (n % (k : Int) == 0) = true := by simp [hm]
          clear hm hj
          go_wp2
          go_ret
          exact ⟨by rw [HF.out]; rfl, rfl⟩
        · have hm' : (n % (k : Int) == 0) = false := by simp [hm]
          have Hj := hid hj
          clear hj
          have Hm := hid hm
          clear hm
          go_wp2
          go_round
          case rel => exact ⟨k + 1, by omega, by omega, by go_num, fun j a b => by rcases Nat.lt_or_ge j k with h | h; (exact Hj.out j a h); (obtain rfl : j = k := by omega); exact Hm.out⟩
          case measure => simp [intOf]; omega
      · have HF := hid (noDiv_t hj (by omega))
        clear hj
        go_wp2
        go_ret
        exact ⟨by rw [HF.out]; rfl, rfl⟩
  · rw [primeB_out (by omega)]
    have hin : inB n 2 1000000 = false := by
      rcases Int.lt_or_le n 2 with h | h
      · exact inB_l h
      · exact inB_r (by omega)
    go_enter Tryz.func72, Tryz.ntmps72
    go_wp2_with (go_at_call 48; refine (i_within _ _ _ _).mono ?_; rintro e w' ⟨rfl, rfl⟩)
    go_ret
    exact ⟨rfl, rfl⟩
end Go.Proofs.YtdnfefkkbckmgaaGreatDoor

/- Plain arithmetic: powers, remainders, valuations, moduli. -/
namespace Go.Proofs.YtdnfefkkbckmgaaGreatDoor

theorem pow_pos' {n : Int} (h : 1 ≤ n) (k : Nat) : 1 ≤ n ^ k := by
  induction k with
  | zero => simp
  | succ k ih => rw [Int.pow_succ]; have := Int.mul_le_mul ih h (by omega) (by omega); omega
theorem pow_mono {n : Int} (h : 1 ≤ n) {a b : Nat} (hab : a ≤ b) : n ^ a ≤ n ^ b := by
  induction hab with
  | refl => exact Int.le_refl _
  | step _ ih =>
    rename_i m _
    rw [Int.pow_succ]
    have h1 := pow_pos' h m
    have := Int.mul_le_mul (Int.le_refl (n ^ m)) h (by omega) (by omega)
    omega
theorem pow_step {n B : Int} {e k : Nat} (h : 1 ≤ n) (hb : n ^ e ≤ B) (hk : k < e) : 1 ≤ n ^ k ∧ n ^ k ≤ B ∧ 1 ≤ n ^ k * n ∧ n ^ k * n ≤ B := by
  have h1 := pow_pos' h k
  have h2 := pow_pos' h (k + 1)
  have h3 := pow_mono h (show k + 1 ≤ e from hk)
  have h4 := pow_mono h (show k ≤ e by omega)
  rw [Int.pow_succ] at h2 h3
  omega

theorem tmod_emod {n m : Int} : (n.tmod m) % m = n % m := by
  rw [Int.tmod_def, show n - m * n.tdiv m = n + m * (-(n.tdiv m)) by rw [Int.mul_neg]; omega, Int.add_mul_emod_self_left]
theorem tmod_bd {n m : Int} (h : 0 < m) : -m < n.tmod m ∧ n.tmod m < m := by
  refine ⟨Int.lt_tmod_of_pos _ h, Int.tmod_lt_of_pos _ h⟩
theorem mod_fix {n m : Int} (_h : 0 < m) : (n.tmod m + m) % m = n % m := by
  rw [Int.add_emod_right, tmod_emod]
theorem tmod_zero_iff {n p : Int} : n.tmod p = 0 ↔ n % p = 0 := by
  rw [← Int.dvd_iff_tmod_eq_zero, Int.dvd_iff_emod_eq_zero]

/-! ### How often p divides n -/
def vlF : Nat → Int → Int → Nat
  | 0, _, _ => 0
  | f + 1, n, p => if n % p = 0 then vlF f (n / p) p + 1 else 0
def vl (n p : Int) : Nat := vlF n.natAbs n p

theorem vlF_eq {p c : Int} (hp : 2 ≤ p) (hc : ¬ c % p = 0) : ∀ (k f : Nat), k ≤ f → vlF f (c * p ^ k) p = k := by
  intro k
  induction k with
  | zero =>
    intro f _
    cases f with
    | zero => rfl
    | succ f => simp only [Int.pow_zero, Int.mul_one, vlF]; rw [if_neg hc]
  | succ k ih =>
    intro f hf
    cases f with
    | zero => omega
    | succ f =>
      have e : c * p ^ (k + 1) = c * p ^ k * p := by rw [Int.pow_succ, Int.mul_assoc]
      simp only [vlF]
      rw [if_pos (by rw [e]; exact Int.mul_emod_left _ _), e, Int.mul_ediv_cancel _ (by omega), ih f (by omega)]
theorem pow_gt (p : Int) (hp : 2 ≤ p) (k : Nat) : (k : Int) < p ^ k := by
  induction k with
  | zero => simp
  | succ k ih =>
    rw [Int.pow_succ]
    have := Int.mul_le_mul (show (k : Int) + 1 ≤ p ^ k by omega) hp (by omega) (by omega)
    omega
theorem vl_eq {n p c : Int} {k : Nat} (hp : 2 ≤ p) (hn : n = c * p ^ k) (hc : ¬ c % p = 0) : vl n p = k := by
  unfold vl
  have h0 : c ≠ 0 := fun h => hc (by rw [h]; simp)
  have h1 := pow_gt p hp k
  have h2 : n.natAbs = c.natAbs * (p ^ k).natAbs := by rw [hn, Int.natAbs_mul]
  have h3 : 1 ≤ c.natAbs := by omega
  have h4 := Nat.mul_le_mul h3 (Nat.le_refl (p ^ k).natAbs)
  have h5 : k ≤ n.natAbs := by omega
  rw [hn] at h5 ⊢
  exact vlF_eq hp hc k _ h5
/-- n is p to the power of vl times something that p does not divide. -/
theorem vl_ex {p : Int} (hp : 2 ≤ p) : ∀ (f : Nat) (n : Int), n ≠ 0 → n.natAbs ≤ f → ∃ (c : Int) (k : Nat), n = c * p ^ k ∧ ¬ c % p = 0 := by
  intro f
  induction f with
  | zero => intro n h0 h; omega
  | succ f ih =>
    intro n h0 hf
    by_cases h : n % p = 0
    · have hd : n = n / p * p := by have := Int.ediv_mul_cancel (Int.dvd_of_emod_eq_zero h); omega
      have h1 : n / p ≠ 0 := fun h' => h0 (by rw [hd, h']; simp)
      have h2 : n.natAbs = (n / p).natAbs * p.natAbs := by rw [← Int.natAbs_mul, ← hd]
      have h3 := Nat.mul_le_mul (Nat.le_refl (n / p).natAbs) (show 2 ≤ p.natAbs by omega)
      obtain ⟨c, k, e, hc⟩ := ih (n / p) h1 (by omega)
      exact ⟨c, k + 1, by rw [Int.pow_succ, ← Int.mul_assoc, ← e]; exact hd, hc⟩
    · exact ⟨n, 0, by simp, h⟩
theorem vl_spec {n p : Int} (hp : 2 ≤ p) (hn : n ≠ 0) : ∃ c, n = c * p ^ vl n p ∧ ¬ c % p = 0 ∧ n / p ^ vl n p = c := by
  obtain ⟨c, k, e, hc⟩ := vl_ex hp n.natAbs n hn (Nat.le_refl _)
  have hk := vl_eq hp e hc
  have h1 := pow_pos' (show 1 ≤ p by omega) k
  rw [hk]
  exact ⟨c, e, hc, by rw [e]; exact Int.mul_ediv_cancel _ (by omega)⟩

/-! ### Moduli -/
def modu (p n : Int) : Int := if p ^ n.toNat ≤ 1000000000 then p ^ n.toNat else 0
/-- A valid ring. -/
def ringB (p n : Int) : Bool := smallP p && (decide (1 ≤ n) && decide (n ≤ 40) && decide (p ^ n.toNat ≤ 1000000000))
theorem ringB_iff {p n : Int} : ringB p n = true ↔ smallP p = true ∧ 1 ≤ n ∧ n ≤ 40 ∧ p ^ n.toNat ≤ 1000000000 := by
  simp [ringB, and_assoc]
theorem modu_ring {p n : Int} (h : ringB p n = true) : modu p n = p ^ n.toNat := by
  unfold modu; rw [if_pos (ringB_iff.1 h).2.2.2]
theorem pow_large {p : Int} (hp : 2 ≤ p) {k : Nat} (hk : 30 ≤ k) : 1000000000 < p ^ k := by
  have h1 : p ^ 30 ≤ p ^ k := pow_mono (by omega) hk
  have h2 : (2 : Int) ^ 30 ≤ p ^ 30 := by
    have h : ∀ j : Nat, (2 : Int) ^ j ≤ p ^ j := by
      intro j
      induction j with
      | zero => simp
      | succ j ih => rw [Int.pow_succ, Int.pow_succ]; exact Int.mul_le_mul ih hp (by omega) (by have := pow_pos' (show 1 ≤ p by omega) j; omega)
    exact h 30
  have h3 : (2 : Int) ^ 30 = 1073741824 := by decide
  omega
end Go.Proofs.YtdnfefkkbckmgaaGreatDoor

/- Contracts: remainders, powers, valuations, common divisors. -/
namespace Go.Proofs.YtdnfefkkbckmgaaGreatDoor
open Go Go.RowKit

theorem ret_i {a b : Int} (h : a = b) : Ending.returned (.int .i64 a) = .returned (.int .i64 b) := by rw [h]
theorem ret_b {a b : Bool} (h : a = b) : Ending.returned (.bool a) = .returned (.bool b) := by rw [h]

set_option maxHeartbeats 400000 in
theorem s_mod (n m : Int) (w : World) (h1 : 1 ≤ m) (h2 : m ≤ 4000000000000000000) :
    Calls Tryz.prog 63 #[.int .i64 n, .int .i64 m] w fun e w' => e = .returned (.int .i64 (n % m)) ∧ w = w' := by
  have hb := @tmod_bd n m (by omega)
  have HF := hid (@mod_fix n m (by omega))
  go_enter Tryz.func63, Tryz.ntmps63
  go_wp2
  go_ret
  exact ⟨ret_i HF.out, rfl⟩

set_option maxHeartbeats 400000 in
theorem i_val (n p : Int) (w : World) (hp : 2 ≤ p) (hp2 : p ≤ 1000000) (hn : n ≠ 0) (hb : -4000000000000000000 ≤ n ∧ n ≤ 4000000000000000000) :
    Calls Tryz.prog 89 #[.int .i64 n, .int .i64 p] w fun e w' => e = .returned (.int .i64 (vl n p)) ∧ w = w' := by
  have Hn := hid hn
  clear hn
  go_enter Tryz.func89, Tryz.ntmps89
  go_wp2_with fail
  go_loop [0, 5] (fun s v => ∃ (c : Int) (k : Nat), s = .int .i64 c ∧ v = .int .i64 k ∧ n = c * p ^ k ∧ k + c.natAbs ≤ n.natAbs) (fun s _ => (intOf s).natAbs)
  case atStart => exact ⟨n, 0, rfl, rfl, by simp, by omega⟩
  case round =>
    obtain ⟨c, k, rfl, rfl, he, hk⟩ := hrel
    have h0 : c ≠ 0 := fun h => Hn.out (by rw [he, h]; simp)
    have hm1 := @tmod_bd c p (by omega)
    by_cases hm : c % p = 0
    · have hd : c / p * p = c := Int.ediv_mul_cancel (Int.dvd_of_emod_eq_zero hm)
      have ht : c.tdiv p = c / p := Int.tdiv_eq_ediv_of_dvd (Int.dvd_of_emod_eq_zero hm)
      have h1 : c / p ≠ 0 := fun h' => h0 (by rw [← hd, h']; simp)
      have h2 : c.natAbs = (c / p).natAbs * p.natAbs := by rw [← Int.natAbs_mul, hd]
      have h3 := Nat.mul_le_mul (Nat.le_refl (c / p).natAbs) (show 2 ≤ p.natAbs by omega)
      have hz : (c.tmod p == 0) = true := by rw [beq_iff_eq, tmod_zero_iff]; exact hm
      have He := hid he
      have Hd := hid hd
      have H4 : (c / p).natAbs < c.natAbs := by omega
      have hq : -4000000000000000000 ≤ c.tdiv p ∧ c.tdiv p ≤ 4000000000000000000 := by rw [ht]; omega
      have Ht := hid ht
      clear hm he hd h2 h3 ht h0 h1
      go_wp2
      go_round
      case rel => exact ⟨c / p, k + 1, by rw [Ht.out], by go_num, by rw [He.out, Int.pow_succ, ← Int.mul_assoc, Int.mul_right_comm, Hd.out], by omega⟩
      case measure => simp only [intOf]; rw [Ht.out]; omega
    · have hz : (c.tmod p == 0) = false := by rw [beq_eq_false_iff_ne]; exact fun h => hm (tmod_zero_iff.1 h)
      have HF := hid (vl_eq hp he hm)
      clear he hm h0
      go_wp2
      go_ret
      exact ⟨ret_i (by rw [HF.out]), rfl⟩
set_option maxHeartbeats 400000 in
theorem s_val (n p : Int) (w : World) (hp : 2 ≤ p) (hp2 : p ≤ 1000000) (hn : n ≠ 0) (hb : -4000000000000000000 ≤ n ∧ n ≤ 4000000000000000000) :
    Calls Tryz.prog 64 #[.int .i64 n, .int .i64 p] w fun e w' => e = .returned (.int .i64 (vl n p)) ∧ w = w' := by
  have Hn := hid hn
  clear hn
  go_enter Tryz.func64, Tryz.ntmps64
  go_wp2_with fail
  go_loop [0, 5] (fun s v => ∃ (c : Int) (k : Nat), s = .int .i64 c ∧ v = .int .i64 k ∧ n = c * p ^ k ∧ k + c.natAbs ≤ n.natAbs) (fun s _ => (intOf s).natAbs)
  case atStart => exact ⟨n, 0, rfl, rfl, by simp, by omega⟩
  case round =>
    obtain ⟨c, k, rfl, rfl, he, hk⟩ := hrel
    have h0 : c ≠ 0 := fun h => Hn.out (by rw [he, h]; simp)
    have hm1 := @tmod_bd c p (by omega)
    by_cases hm : c % p = 0
    · have hd : c / p * p = c := Int.ediv_mul_cancel (Int.dvd_of_emod_eq_zero hm)
      have ht : c.tdiv p = c / p := Int.tdiv_eq_ediv_of_dvd (Int.dvd_of_emod_eq_zero hm)
      have h1 : c / p ≠ 0 := fun h' => h0 (by rw [← hd, h']; simp)
      have h2 : c.natAbs = (c / p).natAbs * p.natAbs := by rw [← Int.natAbs_mul, hd]
      have h3 := Nat.mul_le_mul (Nat.le_refl (c / p).natAbs) (show 2 ≤ p.natAbs by omega)
      have hz : (c.tmod p == 0) = true := by rw [beq_iff_eq, tmod_zero_iff]; exact hm
      have He := hid he
      have Hd := hid hd
      have H4 : (c / p).natAbs < c.natAbs := by omega
      have hq : -4000000000000000000 ≤ c.tdiv p ∧ c.tdiv p ≤ 4000000000000000000 := by rw [ht]; omega
      have Ht := hid ht
      clear hm he hd h2 h3 ht h0 h1
      go_wp2
      go_round
      case rel => exact ⟨c / p, k + 1, by rw [Ht.out], by go_num, by rw [He.out, Int.pow_succ, ← Int.mul_assoc, Int.mul_right_comm, Hd.out], by omega⟩
      case measure => simp only [intOf]; rw [Ht.out]; omega
    · have hz : (c.tmod p == 0) = false := by rw [beq_eq_false_iff_ne]; exact fun h => hm (tmod_zero_iff.1 h)
      have HF := hid (vl_eq hp he hm)
      clear he hm h0
      go_wp2
      go_ret
      exact ⟨ret_i (by rw [HF.out]), rfl⟩

set_option maxHeartbeats 400000 in
theorem i_power (n e : Int) (w : World) (hn : 1 ≤ n) (he : e ≤ 4000000000000000000) (hb : n ^ e.toNat ≤ 4000000000000000000) :
    Calls Tryz.prog 90 #[.int .i64 n, .int .i64 e] w fun e1 w' => e1 = .returned (.int .i64 (n ^ e.toNat)) ∧ w = w' := by
  obtain ⟨P, hP⟩ : ∃ P, P = n ^ e.toNat := ⟨_, rfl⟩
  have hst := fun k (hk : k < e.toNat) => pow_step hn hb hk
  rw [← hP]
  have Hst := hid hst
  have HP := hid hP
  clear hst hP hb
  go_enter Tryz.func90, Tryz.ntmps90
  go_wp2_with fail
  go_loop [5, 7] (fun o i => ∃ k : Nat, k ≤ e.toNat ∧ i = .int .i64 k ∧ o = .int .i64 (n ^ k)) (fun _ i => e.toNat - (intOf i).toNat)
  case atStart => exact ⟨0, by omega, rfl, by simp⟩
  case round =>
    obtain ⟨k, hk, rfl, rfl⟩ := hrel
    by_cases hlt : (k : Int) < e
    · have hk2 : k < e.toNat := by omega
      have h := Hst.out k hk2
      go_wp2
      go_round
      case rel => exact ⟨k + 1, by omega, by go_num, by rw [Int.pow_succ]⟩
      case measure => simp [intOf]; omega
    · have e1 : k = e.toNat := by omega
      have He := hid e1
      clear e1
      go_wp2
      go_ret
      exact ⟨ret_i (by rw [HP.out, He.out]), rfl⟩
end Go.Proofs.YtdnfefkkbckmgaaGreatDoor

/- Contracts: common divisors. -/
namespace Go.Proofs.YtdnfefkkbckmgaaGreatDoor
open Go Go.RowKit

theorem gcd_step (x y : Int) : Int.gcd y (x.tmod y) = Int.gcd x y := by
  rw [Int.tmod_def, Int.gcd_sub_mul_left_right, Int.gcd_comm]
theorem gcd_bd {x y B : Int} (hx : -B ≤ x ∧ x ≤ B) (hy : -B ≤ y ∧ y ≤ B) : (Int.gcd x y : Int) ≤ B := by
  by_cases h : x = 0
  · rw [h, Int.zero_gcd]; omega
  · have := Int.gcd_le_natAbs_left y h; omega

end Go.Proofs.YtdnfefkkbckmgaaGreatDoor

/- Contracts: ranges, primes of the reference, moduli. -/
namespace Go.Proofs.YtdnfefkkbckmgaaGreatDoor
open Go Go.RowKit

set_option maxHeartbeats 400000 in
theorem s_in (n a b : Int) (w : World) :
    Calls Tryz.prog 34 #[.int .i64 n, .int .i64 a, .int .i64 b] w fun e w' => e = .returned (.bool (inB n a b)) ∧ w = w' := by
  by_cases h1 : a ≤ n
  · by_cases h2 : n ≤ b
    · rw [inB_t h1 h2]; go_enter Tryz.func34, Tryz.ntmps34
      go_wp2
      go_ret
      exact ⟨rfl, rfl⟩
    · rw [inB_r (by omega)]; go_enter Tryz.func34, Tryz.ntmps34
      go_wp2
      go_ret
      exact ⟨rfl, rfl⟩
  · rw [inB_l (by omega)]; go_enter Tryz.func34, Tryz.ntmps34
    go_wp2
    go_ret
    exact ⟨rfl, rfl⟩

theorem in_lo {n a b : Int} (h : n < a) : inB n a b = false := inB_l h

set_option maxHeartbeats 400000 in
theorem s_prime (n : Int) (w : World) (hn : n ≤ 1000000) :
    Calls Tryz.prog 62 #[.int .i64 n] w fun e w' => e = .returned (.bool (primeB n)) ∧ w = w' := by
  by_cases h1 : 2 ≤ n
  · rw [primeB_in h1 hn]
    go_enter Tryz.func62, Tryz.ntmps62
    go_wp2
    go_loop [3] (fun d => ∃ k : Nat, 2 ≤ k ∧ k ≤ 1001 ∧ d = .int .i64 k ∧ ∀ j : Nat, 2 ≤ j → j < k → n % (j : Int) ≠ 0) (fun d => 1001 - (intOf d).toNat)
    case atStart => exact ⟨2, by omega, by omega, rfl, by omega⟩
    case round =>
      obtain ⟨k, hk2, hk, rfl, hj⟩ := hrel
      have hq := sq_bd hk
      by_cases hlt : (k : Int) * k ≤ n
      · have hk3 := sq_lt hn hlt
        by_cases hm : n % (k : Int) = 0
        · have HF := hid (noDiv_f hk2 hlt hn hm)
          have hm' : (n % (k : Int) == 0) = true := by simp [hm]
          clear hm hj
          go_wp2
          go_ret
          exact ⟨by rw [HF.out]; rfl, rfl⟩
        · have hm' : (n % (k : Int) == 0) = false := by simp [hm]
          have Hj := hid hj
          clear hj
          have Hm := hid hm
          clear hm
          go_wp2
          go_round
          case rel => exact ⟨k + 1, by omega, by omega, by go_num, fun j a b => by rcases Nat.lt_or_ge j k with h | h; (exact Hj.out j a h); (obtain rfl : j = k := by omega); exact Hm.out⟩
          case measure => simp [intOf]; omega
      · have HF := hid (noDiv_t hj (by omega))
        clear hj
        go_wp2
        go_ret
        exact ⟨by rw [HF.out]; rfl, rfl⟩
  · rw [primeB_out (by omega)]
    go_enter Tryz.func62, Tryz.ntmps62
    go_wp2
    go_ret
    exact ⟨rfl, rfl⟩

set_option maxHeartbeats 400000 in
theorem i_small (n : Int) (w : World) :
    Calls Tryz.prog 44 #[.int .i64 n] w fun e w' => e = .returned (.bool (smallP n)) ∧ w = w' := by
  by_cases h : n ≤ 97
  · rw [smallP_lo h]
    go_enter Tryz.func44, Tryz.ntmps44
    go_wp2_with (go_at_call 72; refine (i_IsPrime _ _).mono ?_; rintro e w' ⟨rfl, rfl⟩)
    go_ret
    exact ⟨rfl, rfl⟩
  · rw [smallP_hi (by omega)]
    go_enter Tryz.func44, Tryz.ntmps44
    go_wp2_with (go_at_call 72; refine (i_IsPrime _ _).mono ?_; rintro e w' ⟨rfl, rfl⟩)
    go_ret
    exact ⟨rfl, rfl⟩

set_option maxHeartbeats 400000 in
theorem s_small (n : Int) (w : World) :
    Calls Tryz.prog 33 #[.int .i64 n] w fun e w' => e = .returned (.bool (smallP n)) ∧ w = w' := by
  by_cases h : 2 ≤ n ∧ n ≤ 97
  · rw [smallP_lo h.2]
    have hin := inB_t h.1 h.2
    go_enter Tryz.func33, Tryz.ntmps33
    go_wp2_with fail
    refine (s_in _ _ _ _).mono ?_; rintro e w' ⟨rfl, rfl⟩
    go_wp2_with fail
    refine (s_prime _ _ (by omega)).mono ?_; rintro e w' ⟨rfl, rfl⟩
    go_wp2_with fail
    go_ret
    exact ⟨rfl, rfl⟩
  · rw [smallP_out (by omega)]
    have hin : inB n 2 97 = false := by
      rcases Int.lt_or_le n 2 with h | h
      · exact inB_l h
      · exact inB_r (by omega)
    go_enter Tryz.func33, Tryz.ntmps33
    go_wp2_with fail
    refine (s_in _ _ _ _).mono ?_; rintro e w' ⟨rfl, rfl⟩
    go_wp2_with fail
    go_ret
    exact ⟨rfl, rfl⟩

set_option maxHeartbeats 400000 in
theorem s_modulus (p n : Int) (w : World) (hp : 2 ≤ p) (hp2 : p ≤ 1000000) (hn : -4000000000000000000 ≤ n ∧ n ≤ 4000000000000000000) :
    Calls Tryz.prog 35 #[.int .i64 p, .int .i64 n] w fun e w' => e = .returned (.int .i64 (modu p n)) ∧ w = w' := by
  go_enter Tryz.func35, Tryz.ntmps35
  go_wp2_with fail
  go_loop [1, 5] (fun i o => ∃ k : Nat, k ≤ n.toNat ∧ i = .int .i64 (n - k) ∧ o = .int .i64 (p ^ k) ∧ p ^ k ≤ 1000000000) (fun i _ => (intOf i).toNat)
  case atStart => exact ⟨0, by omega, by go_num, by simp, by simp⟩
  case round =>
    obtain ⟨k, hk, rfl, rfl, hb⟩ := hrel
    have h1 := pow_pos' (show 1 ≤ p by omega) k
    by_cases hlt : (k : Int) < n
    · have h2 : 0 ≤ p ^ k * p ∧ p ^ k * p ≤ 1000000000 * 1000000 := by
        have a := Int.mul_le_mul hb hp2 (by omega) (by omega)
        have b := Int.mul_nonneg (show 0 ≤ p ^ k by omega) (show 0 ≤ p by omega)
        exact ⟨b, a⟩
      have hlt2 : 0 < n - k := by omega
      have hk2 : k < n.toNat := by omega
      by_cases hbig : p ^ k * p ≤ 1000000000
      · go_wp2
        go_round
        case rel => exact ⟨k + 1, by omega, by go_num, by rw [Int.pow_succ], by rw [Int.pow_succ]; exact hbig⟩
        case measure => simp [intOf]; omega
      · have HF : Hid (modu p n = 0) := by
          refine hid ?_
          unfold modu
          have := pow_mono (show 1 ≤ p by omega) (show k + 1 ≤ n.toNat by omega)
          rw [Int.pow_succ] at this
          rw [if_neg (by omega)]
        go_wp2
        go_ret
        exact ⟨ret_i (by rw [HF.out]), rfl⟩
    · have HF : Hid (modu p n = p ^ k) := by
        refine hid ?_
        have : n.toNat = k := by omega
        unfold modu
        rw [this, if_pos hb]
      have hlt2 : ¬ 0 < n - k := by omega
      go_wp2
      go_ret
      exact ⟨ret_i (by rw [HF.out]), rfl⟩
end Go.Proofs.YtdnfefkkbckmgaaGreatDoor

/- Contracts: rings. -/
namespace Go.Proofs.YtdnfefkkbckmgaaGreatDoor
open Go Go.RowKit


theorem ringB_f {p n : Int} (h : smallP p = false ∨ n < 1) : ringB p n = false := by
  rcases h with h | h
  · simp [ringB, h]
  · have : ¬ 1 ≤ n := by omega
    simp [ringB, this]
theorem ringB_big {p n : Int} {k : Nat} (hp : 2 ≤ p) (hk : (k : Int) ≤ n) (hb : 1000000000 < p ^ k) : ringB p n = false := by
  have := pow_mono (show 1 ≤ p by omega) (show k ≤ n.toNat by omega)
  have h2 : ¬ p ^ n.toNat ≤ 1000000000 := by omega
  simp [ringB, h2]
theorem ringB_t {p n : Int} {k : Nat} (hs : smallP p = true) (h1 : 1 ≤ n) (hk : n = k) (h40 : n ≤ 40) (hb : p ^ k ≤ 1000000000) : ringB p n = true := by
  have : n.toNat = k := by omega
  simp [ringB, hs, h1, h40, this, hb]

set_option maxHeartbeats 1000000 in
theorem i_IsRing (p n : Int) (w : World) :
    Calls Tryz.prog 49 #[(.agg #[.int .i64 p, .int .i64 n])] w fun e w' => e = .returned (.bool (ringB p n)) ∧ Below w.heap.size w w' := by
  by_cases hs : smallP p = true
  · by_cases hn : 1 ≤ n
    · have hp := smallP_bd hs
      obtain ⟨B, hB⟩ : ∃ B, B = ringB p n := ⟨_, rfl⟩
      rw [← hB]
      have HB := hid hB
      clear hB
      rcases (show n ≤ 40 ∨ 40 < n by omega) with h40 | h40
      all_goals
        go_enter Tryz.func49, Tryz.ntmps49
        go_wp2_with (go_at_call 44; refine pur (i_small _ _) ?_)
        go_loop [3, 16] (fun o i => ∃ k : Nat, (k : Int) ≤ n ∧ k ≤ 40 ∧ i = .int .i64 k ∧ o = .int .i64 (p ^ k) ∧ p ^ k ≤ 1000000000) (fun _ i => 41 - (intOf i).toNat)
        case atStart => exact ⟨0, by omega, by omega, rfl, by simp, by simp⟩
        case round =>
          obtain ⟨k, hk, hk40, rfl, rfl, hb⟩ := hrel
          have h1 := pow_pos' (show 1 ≤ p by omega) k
          by_cases hlt : (k : Int) < n ∧ k < 40
          · obtain ⟨hlt, hlt2⟩ := hlt
            have h2 : 0 ≤ p ^ k * p ∧ p ^ k * p ≤ 1000000000 * 97 := by
              have a := Int.mul_le_mul hb hp.2 (by omega) (by omega)
              have b := Int.mul_nonneg (show 0 ≤ p ^ k by omega) (show 0 ≤ p by omega)
              exact ⟨b, a⟩
            by_cases hbig : p ^ k * p ≤ 1000000000
            · go_wp2
              go_round
              case rel => exact ⟨k + 1, by omega, by omega, by go_num, by rw [Int.pow_succ], by rw [Int.pow_succ]; exact hbig⟩
              case measure => simp [intOf]; omega
            · have HF := hid (ringB_big (p := p) (n := n) (k := k + 1) (by omega) (by omega) (by rw [Int.pow_succ]; omega))
              go_wp2
              go_ret
              exact ⟨ret_b (by rw [HB.out, HF.out]), (by refine Ext.bel ?_; repeat (with_reducible first | exact Ext.refl _ | apply Ext.alloc | apply Ext.aft | apply Ext.drew | apply Ext.drewN | apply Ext.setCell | exact Nat.le_add_right _ _ | exact Nat.le_refl _ | (simp; done) | omega))⟩
          · have HF : Hid (ringB p n = true) := by
              refine hid ?_
              by_cases h : n = k
              · exact ringB_t hs hn h (by omega) hb
              · have := pow_large (show 2 ≤ p by omega) (show 30 ≤ k by omega)
                omega
            first
              | (have hlt3 : ¬ (k : Int) < n := (by omega); go_wp2; go_ret; exact ⟨ret_b (by rw [HB.out, HF.out]), (by refine Ext.bel ?_; repeat (with_reducible first | exact Ext.refl _ | apply Ext.alloc | apply Ext.aft | apply Ext.drew | apply Ext.drewN | apply Ext.setCell | exact Nat.le_add_right _ _ | exact Nat.le_refl _ | (simp; done) | omega))⟩)
              | (have hlt3 : ¬ k < 40 := (by omega); go_wp2; go_ret; exact ⟨ret_b (by rw [HB.out, HF.out]), (by refine Ext.bel ?_; repeat (with_reducible first | exact Ext.refl _ | apply Ext.alloc | apply Ext.aft | apply Ext.drew | apply Ext.drewN | apply Ext.setCell | exact Nat.le_add_right _ _ | exact Nat.le_refl _ | (simp; done) | omega))⟩)
    · rw [ringB_f (.inr (by omega))]
      have hn' : n < 1 := by omega
      go_enter Tryz.func49, Tryz.ntmps49
      go_wp2_with (go_at_call 44; refine pur (i_small _ _) ?_)
      go_ret
      exact ⟨rfl, (by refine Ext.bel ?_; repeat (with_reducible first | exact Ext.refl _ | apply Ext.alloc | apply Ext.aft | apply Ext.drew | apply Ext.drewN | apply Ext.setCell | exact Nat.le_add_right _ _ | exact Nat.le_refl _ | (simp; done) | omega))⟩
  · have hs' : smallP p = false := by simpa using hs
    rw [ringB_f (.inl hs')]
    go_enter Tryz.func49, Tryz.ntmps49
    go_wp2_with (go_at_call 44; refine pur (i_small _ _) ?_)
    go_ret
    exact ⟨rfl, (by refine Ext.bel ?_; repeat (with_reducible first | exact Ext.refl _ | apply Ext.alloc | apply Ext.aft | apply Ext.drew | apply Ext.drewN | apply Ext.setCell | exact Nat.le_add_right _ _ | exact Nat.le_refl _ | (simp; done) | omega))⟩
end Go.Proofs.YtdnfefkkbckmgaaGreatDoor

/- Contracts: rings, by value. -/
namespace Go.Proofs.YtdnfefkkbckmgaaGreatDoor
open Go Go.RowKit


theorem modu_pos {p n : Int} (hp : 2 ≤ p) : (0 < modu p n) ↔ p ^ n.toNat ≤ 1000000000 := by
  unfold modu
  have := pow_pos' (show 1 ≤ p by omega) n.toNat
  split <;> constructor <;> intro <;> omega

set_option maxHeartbeats 1000000 in
theorem s_IsRing (p n : Int) (w : World) :
    Calls Tryz.prog 60 #[(.agg #[.int .i64 p, .int .i64 n])] w fun e w' => e = .returned (.bool (ringB p n)) ∧ Below w.heap.size w w' := by
  by_cases hs : smallP p = true
  · have hp := smallP_bd hs
    by_cases hn : 1 ≤ n ∧ n ≤ 40
    · have hin := inB_t hn.1 hn.2
      by_cases hm : 0 < modu p n
      · have e : ringB p n = true := ringB_iff.2 ⟨hs, hn.1, hn.2, (modu_pos hp.1).1 hm⟩
        rw [e]
        clear e
        go_enter Tryz.func60, Tryz.ntmps60
        go_wp2_with (first | (go_at_call 33; refine pur (s_small _ _) ?_) | (go_at_call 34; refine pur (s_in _ _ _ _) ?_) | (go_at_call 35; refine pur (s_modulus _ _ _ (by omega) (by omega) (by omega)) ?_))
        go_ret
        exact ⟨rfl, (by refine Ext.bel ?_; repeat (with_reducible first | exact Ext.refl _ | apply Ext.alloc | apply Ext.aft | apply Ext.drew | apply Ext.drewN | apply Ext.setCell | exact Nat.le_add_right _ _ | exact Nat.le_refl _ | (simp; done) | omega))⟩
      · have e : ringB p n = false := by
          cases h : ringB p n
          · rfl
          · exact absurd ((modu_pos hp.1).2 (ringB_iff.1 h).2.2.2) hm
        rw [e]
        clear e
        have hd : decide (0 < modu p n) = false := by simpa using hm
        go_enter Tryz.func60, Tryz.ntmps60
        go_wp2_with (first | (go_at_call 33; refine pur (s_small _ _) ?_) | (go_at_call 34; refine pur (s_in _ _ _ _) ?_) | (go_at_call 35; refine pur (s_modulus _ _ _ (by omega) (by omega) (by omega)) ?_))
        go_ret
        exact ⟨rfl, (by refine Ext.bel ?_; repeat (with_reducible first | exact Ext.refl _ | apply Ext.alloc | apply Ext.aft | apply Ext.drew | apply Ext.drewN | apply Ext.setCell | exact Nat.le_add_right _ _ | exact Nat.le_refl _ | (simp; done) | omega))⟩
    · have hin : inB n 1 40 = false := by
        rcases Int.lt_or_le n 1 with h | h
        · exact inB_l h
        · exact inB_r (by omega)
      have e : ringB p n = false := by
        cases h : ringB p n
        · rfl
        · have := ringB_iff.1 h; omega
      rw [e]
      clear e hn
      go_enter Tryz.func60, Tryz.ntmps60
      go_wp2_with (first | (go_at_call 33; refine pur (s_small _ _) ?_) | (go_at_call 34; refine pur (s_in _ _ _ _) ?_))
      go_ret
      exact ⟨rfl, (by refine Ext.bel ?_; repeat (with_reducible first | exact Ext.refl _ | apply Ext.alloc | apply Ext.aft | apply Ext.drew | apply Ext.drewN | apply Ext.setCell | exact Nat.le_add_right _ _ | exact Nat.le_refl _ | (simp; done) | omega))⟩
  · have hs' : smallP p = false := by simpa using hs
    rw [ringB_f (.inl hs')]
    go_enter Tryz.func60, Tryz.ntmps60
    go_wp2_with (go_at_call 33; refine pur (s_small _ _) ?_)
    go_ret
    exact ⟨rfl, (by refine Ext.bel ?_; repeat (with_reducible first | exact Ext.refl _ | apply Ext.alloc | apply Ext.aft | apply Ext.drew | apply Ext.drewN | apply Ext.setCell | exact Nat.le_add_right _ _ | exact Nat.le_refl _ | (simp; done) | omega))⟩

set_option maxHeartbeats 400000 in
theorem i_modulus (p n : Int) (w : World) (h : ringB p n = true) :
    Calls Tryz.prog 78 #[(.agg #[.int .i64 p, .int .i64 n])] w fun e w' => e = .returned (.int .i64 (p ^ n.toNat)) ∧ Below w.heap.size w w' := by
  have h' := ringB_iff.1 h
  have hp := smallP_bd h'.1
  have h2 := h'.2
  have Hb := hid (show p ^ n.toNat ≤ 4000000000000000000 by omega)
  clear h h'
  go_enter Tryz.func78, Tryz.ntmps78
  go_wp2_with (go_at_call 90; refine pur (i_power _ _ _ (by omega) (by omega) Hb.out) ?_)
  go_ret
  exact ⟨rfl, (by refine Ext.bel ?_; repeat (with_reducible first | exact Ext.refl _ | apply Ext.alloc | apply Ext.aft | apply Ext.drew | apply Ext.drewN | apply Ext.setCell | exact Nat.le_add_right _ _ | exact Nat.le_refl _ | (simp; done) | omega))⟩

set_option maxHeartbeats 400000 in
theorem i_has (p n a : Int) (w : World) (h : ringB p n = true) :
    Calls Tryz.prog 58 #[(.agg #[.int .i64 p, .int .i64 n]), .int .i64 a] w fun e w' => e = .returned (.bool (inB a 0 (p ^ n.toNat - 1))) ∧ Below w.heap.size w w' := by
  have h2 := (ringB_iff.1 h).2
  have h3 := pow_pos' (show 1 ≤ p by have := smallP_bd (ringB_iff.1 h).1; omega) n.toNat
  have H := hid h
  clear h
  go_enter Tryz.func58, Tryz.ntmps58
  go_wp2_with (first | (go_at_call 78; refine via (i_modulus _ _ _ H.out) ?_; intro u1 z1; try simp at z1) | (go_at_call 48; refine pur (i_within _ _ _ _) ?_))
  go_ret
  exact ⟨rfl, (by refine Ext.bel ?_; repeat (with_reducible first | exact Ext.refl _ | apply Ext.alloc | apply Ext.aft | apply Ext.drew | apply Ext.drewN | apply Ext.setCell | exact Nat.le_add_right _ _ | exact Nat.le_refl _ | (simp; done) | omega))⟩

set_option maxHeartbeats 400000 in
theorem i_isUnit (p n a : Int) (w : World) (h : 2 ≤ p ∧ p ≤ 1000000) (ha : 0 ≤ a) :
    Calls Tryz.prog 59 #[(.agg #[.int .i64 p, .int .i64 n]), .int .i64 a] w fun e w' => e = .returned (.bool (a % p != 0)) ∧ Below w.heap.size w w' := by
  have hq : 0 ≤ a % p ∧ a % p < p := ⟨Int.emod_nonneg _ (by omega), Int.emod_lt_of_pos _ (by omega)⟩
  go_enter Tryz.func59, Tryz.ntmps59
  go_wp2
  go_ret
  exact ⟨rfl, (by refine Ext.bel ?_; repeat (with_reducible first | exact Ext.refl _ | apply Ext.alloc | apply Ext.aft | apply Ext.drew | apply Ext.drewN | apply Ext.setCell | exact Nat.le_add_right _ _ | exact Nat.le_refl _ | (simp; done) | omega))⟩

set_option maxHeartbeats 400000 in
theorem i_ring (p v u n : Int) (w : World) :
    Calls Tryz.prog 57 #[(.agg #[.int .i64 p, .int .i64 v, .int .i64 u, .int .i64 n])] w fun e w' => e = .returned (.agg #[.int .i64 p, .int .i64 n]) ∧ Below w.heap.size w w' := by
  go_enter Tryz.func57, Tryz.ntmps57
  go_wp2
  exact bodyPost_ret (v := (.agg #[.int .i64 p, .int .i64 n])) (by first | (simp [results, go_sem]; done) | simp [results, go_sem, ↓IntWalk.iteOmega]) rfl ⟨rfl, (by refine Ext.bel ?_; repeat (with_reducible first | exact Ext.refl _ | apply Ext.alloc | apply Ext.aft | apply Ext.drew | apply Ext.drewN | apply Ext.setCell | exact Nat.le_add_right _ _ | exact Nat.le_refl _ | (simp; done) | omega))⟩
set_option maxHeartbeats 400000 in
theorem s_ring (p v u n : Int) (w : World) :
    Calls Tryz.prog 61 #[(.agg #[.int .i64 p, .int .i64 v, .int .i64 u, .int .i64 n])] w fun e w' => e = .returned (.agg #[.int .i64 p, .int .i64 n]) ∧ Below w.heap.size w w' := by
  go_enter Tryz.func61, Tryz.ntmps61
  go_wp2
  exact bodyPost_ret (v := (.agg #[.int .i64 p, .int .i64 n])) (by first | (simp [results, go_sem]; done) | simp [results, go_sem, ↓IntWalk.iteOmega]) rfl ⟨rfl, (by refine Ext.bel ?_; repeat (with_reducible first | exact Ext.refl _ | apply Ext.alloc | apply Ext.aft | apply Ext.drew | apply Ext.drewN | apply Ext.setCell | exact Nat.le_add_right _ _ | exact Nat.le_refl _ | (simp; done) | omega))⟩

set_option maxHeartbeats 400000 in
theorem i_isZero (p v u n : Int) (w : World) :
    Calls Tryz.prog 53 #[(.agg #[.int .i64 p, .int .i64 v, .int .i64 u, .int .i64 n])] w fun e w' => e = .returned (.bool (n == 0)) ∧ Below w.heap.size w w' := by
  go_enter Tryz.func53, Tryz.ntmps53
  go_wp2
  go_ret
  exact ⟨rfl, (by refine Ext.bel ?_; repeat (with_reducible first | exact Ext.refl _ | apply Ext.alloc | apply Ext.aft | apply Ext.drew | apply Ext.drewN | apply Ext.setCell | exact Nat.le_add_right _ _ | exact Nat.le_refl _ | (simp; done) | omega))⟩

set_option maxHeartbeats 400000 in
theorem i_end (p v u n : Int) (w : World) (hv : -1000 ≤ v ∧ v ≤ 1000) (hn : -1000 ≤ n ∧ n ≤ 1000) :
    Calls Tryz.prog 76 #[(.agg #[.int .i64 p, .int .i64 v, .int .i64 u, .int .i64 n])] w fun e w' => e = .returned (.int .i64 (v + n)) ∧ Below w.heap.size w w' := by
  go_enter Tryz.func76, Tryz.ntmps76
  go_wp2
  go_ret
  exact ⟨rfl, (by refine Ext.bel ?_; repeat (with_reducible first | exact Ext.refl _ | apply Ext.alloc | apply Ext.aft | apply Ext.drew | apply Ext.drewN | apply Ext.setCell | exact Nat.le_add_right _ _ | exact Nat.le_refl _ | (simp; done) | omega))⟩
end Go.Proofs.YtdnfefkkbckmgaaGreatDoor

/- Contracts: p-adic numbers that are valid. -/
namespace Go.Proofs.YtdnfefkkbckmgaaGreatDoor
open Go Go.RowKit


/-- A valid p-adic number. -/
def padicB (p v u n : Int) : Bool := smallP p && inB v (-60) 60 && (if n = 0 then u == 0 else ringB p n && inB u 0 (p ^ n.toNat - 1) && (u % p != 0))

theorem padicB_f1 {p v u n : Int} (h : smallP p = false) : padicB p v u n = false := by simp [padicB, h]
theorem padicB_f2 {p v u n : Int} (h : inB v (-60) 60 = false) : padicB p v u n = false := by simp [padicB, h]

set_option maxHeartbeats 1000000 in
theorem i_IsPadic (p v u n : Int) (w : World) :
    Calls Tryz.prog 26 #[(.agg #[.int .i64 p, .int .i64 v, .int .i64 u, .int .i64 n])] w fun e w' => e = .returned (.bool (padicB p v u n)) ∧ Below w.heap.size w w' := by
  cases h1 : smallP p
  · rw [padicB_f1 h1]
    go_enter Tryz.func26, Tryz.ntmps26
    go_wp2_with (first | (go_at_call 44; refine pur (i_small _ _) ?_) | (go_at_call 45; refine pur (i_isPlace _ _) ?_) | (go_at_call 53; refine via (i_isZero _ _ _ _ _) ?_; intro u1 z1; try simp at z1))
    go_ret
    exact ⟨rfl, (by refine Ext.bel ?_; repeat (with_reducible first | exact Ext.refl _ | apply Ext.alloc | apply Ext.aft | apply Ext.drew | apply Ext.drewN | apply Ext.setCell | exact Nat.le_add_right _ _ | exact Nat.le_refl _ | (simp; done) | omega))⟩
  cases h2 : inB v (-60) 60
  · rw [padicB_f2 h2]
    go_enter Tryz.func26, Tryz.ntmps26
    go_wp2_with (first | (go_at_call 44; refine pur (i_small _ _) ?_) | (go_at_call 45; refine pur (i_isPlace _ _) ?_) | (go_at_call 53; refine via (i_isZero _ _ _ _ _) ?_; intro u1 z1; try simp at z1))
    go_ret
    exact ⟨rfl, (by refine Ext.bel ?_; repeat (with_reducible first | exact Ext.refl _ | apply Ext.alloc | apply Ext.aft | apply Ext.drew | apply Ext.drewN | apply Ext.setCell | exact Nat.le_add_right _ _ | exact Nat.le_refl _ | (simp; done) | omega))⟩
  by_cases h3 : n = 0
  · have e : padicB p v u n = (u == 0) := by simp [padicB, h1, h2, h3]
    rw [e]
    clear e
    have h3' : (n == 0) = true := by simpa using h3
    clear h3
    go_enter Tryz.func26, Tryz.ntmps26
    go_wp2_with (first | (go_at_call 44; refine pur (i_small _ _) ?_) | (go_at_call 45; refine pur (i_isPlace _ _) ?_) | (go_at_call 53; refine via (i_isZero _ _ _ _ _) ?_; intro u1 z1; try simp at z1))
    go_ret
    exact ⟨rfl, (by refine Ext.bel ?_; repeat (with_reducible first | exact Ext.refl _ | apply Ext.alloc | apply Ext.aft | apply Ext.drew | apply Ext.drewN | apply Ext.setCell | exact Nat.le_add_right _ _ | exact Nat.le_refl _ | (simp; done) | omega))⟩
  · have e : padicB p v u n = (ringB p n && inB u 0 (p ^ n.toNat - 1) && (u % p != 0)) := by simp [padicB, h1, h2, h3]
    rw [e]
    clear e
    have h3' : (n == 0) = false := by simpa using h3
    clear h3
    have hp := smallP_bd h1
    cases h4 : ringB p n
    · go_enter Tryz.func26, Tryz.ntmps26
      go_wp2_with (first | (go_at_call 44; refine pur (i_small _ _) ?_) | (go_at_call 45; refine pur (i_isPlace _ _) ?_) | (go_at_call 53; refine via (i_isZero _ _ _ _ _) ?_; intro u1 z1; try simp at z1))
      refine wp_region_calm (by kernel_rfl) (by kernel_rfl) ?_
      repeat (go_big_quiet_step (first | (go_at_call 57; exact calm (i_ring _ _ _ _ _)) | (go_at_call 49; exact calmb (i_IsRing _ _ _) h4)))
      refine wpQuiet_nil ?_; intro uq zq; try simp at zq
      go_wp2
      go_ret
      exact ⟨rfl, (by refine Ext.bel ?_; repeat (with_reducible first | exact Ext.refl _ | apply Ext.alloc | apply Ext.aft | apply Ext.drew | apply Ext.drewN | apply Ext.setCell | exact Nat.le_add_right _ _ | exact Nat.le_refl _ | (simp; done) | omega))⟩
    cases h5 : inB u 0 (p ^ n.toNat - 1)
    · have h4' := hid h4
      have H5 := hid h5
      clear h5
      go_enter Tryz.func26, Tryz.ntmps26
      go_wp2_with (first | (go_at_call 44; refine pur (i_small _ _) ?_) | (go_at_call 45; refine pur (i_isPlace _ _) ?_) | (go_at_call 53; refine via (i_isZero _ _ _ _ _) ?_; intro u1 z1; try simp at z1))
      refine wp_region_calm (by kernel_rfl) (by kernel_rfl) ?_
      repeat (go_big_quiet_step (first | (go_at_call 57; exact calm (i_ring _ _ _ _ _)) | (go_at_call 49; exact calmb (i_IsRing _ _ _) h4) | (go_at_call 58; exact calmb (i_has _ _ _ _ h4'.out) H5.out)))
      refine wpQuiet_nil ?_; intro uq zq; try simp at zq
      go_wp2
      go_ret
      exact ⟨rfl, (by refine Ext.bel ?_; repeat (with_reducible first | exact Ext.refl _ | apply Ext.alloc | apply Ext.aft | apply Ext.drew | apply Ext.drewN | apply Ext.setCell | exact Nat.le_add_right _ _ | exact Nat.le_refl _ | (simp; done) | omega))⟩
    · have h4' := hid h4
      have H5 := hid h5
      have hu := (inB_iff.1 h5).1
      clear h5
      go_enter Tryz.func26, Tryz.ntmps26
      go_wp2_with (first | (go_at_call 44; refine pur (i_small _ _) ?_) | (go_at_call 45; refine pur (i_isPlace _ _) ?_) | (go_at_call 53; refine via (i_isZero _ _ _ _ _) ?_; intro u1 z1; try simp at z1))
      refine wp_region_calm (by kernel_rfl) (by kernel_rfl) ?_
      repeat (go_big_quiet_step (first | (go_at_call 57; exact calm (i_ring _ _ _ _ _)) | (go_at_call 49; exact calmb (i_IsRing _ _ _) h4) | (go_at_call 58; exact calmb (i_has _ _ _ _ h4'.out) H5.out) | (go_at_call 59; exact calm (i_isUnit _ _ _ _ (by omega) hu))))
      refine wpQuiet_nil ?_; intro uq zq; try simp at zq
      go_wp2
      go_ret
      exact ⟨rfl, (by refine Ext.bel ?_; repeat (with_reducible first | exact Ext.refl _ | apply Ext.alloc | apply Ext.aft | apply Ext.drew | apply Ext.drewN | apply Ext.setCell | exact Nat.le_add_right _ _ | exact Nat.le_refl _ | (simp; done) | omega))⟩
end Go.Proofs.YtdnfefkkbckmgaaGreatDoor
