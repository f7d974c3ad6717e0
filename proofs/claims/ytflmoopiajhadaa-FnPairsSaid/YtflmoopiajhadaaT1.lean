/- Draws: what a source of numbers is, and the worlds behind a draw. -/
import Derived.Test.YtflmoopiajhadaaMA
namespace Go.Proofs.Ytflmoopiajhadaa
open Go Go.RowKit

/-- A row of bytes that lies in a block before B. -/
def rdB (B : Nat) (w : World) (a : Option Addr) (len : Nat) : Prop := len = 0 ∨ ∃ ab ao, a = some ⟨ab, ao, none⟩ ∧ ab < B ∧ ∀ k, k < len → ∃ x : Int, 0 ≤ x ∧ x ≤ 255 ∧ w.cell? ⟨ab, ao + k, none⟩ = some (.int .u8 x)
/-- Block b is a source: bytes, how many are read, and a seed. -/
def srcC (B b : Nat) (w : World) (a : Option Addr) (len cap : Nat) (i sd : Int) : Prop :=
  B ≤ b ∧ b < w.heap.size ∧ (∀ o, w.cell? ⟨b, o, none⟩ = #[Value.slice a len cap, .int .i64 i, .int .i64 sd][o]?) ∧ (∀ o, w.frozen? ⟨b, o, none⟩ = false) ∧ 0 ≤ i ∧ i ≤ len ∧ 0 ≤ sd ∧ sd ≤ 2147483646 ∧ len ≤ 4096 ∧ rdB B w a len
def src (B b : Nat) (w : World) : Prop := ∃ a len cap i sd, srcC B b w a len cap i sd
theorem src.lt {B b : Nat} {w : World} (h : src B b w) : b < w.heap.size := by
  obtain ⟨_, _, _, _, _, _, h, _⟩ := h; exact h
theorem src.ge {B b : Nat} {w : World} (h : src B b w) : B ≤ b := by
  obtain ⟨_, _, _, _, _, h, _⟩ := h; exact h
theorem rdB.of {B : Nat} {w w' : World} {a : Option Addr} {len : Nat} (h : rdB B w a len) (hw : ∀ k o v, k < B → w.cell? ⟨k, o, none⟩ = some v → w'.cell? ⟨k, o, none⟩ = some v) : rdB B w' a len := by
  rcases h with h | ⟨ab, ao, ha, hne, hx⟩
  · exact .inl h
  · refine .inr ⟨ab, ao, ha, hne, fun j hj => ?_⟩
    obtain ⟨x, x0, x1, hx⟩ := hx j hj
    exact ⟨x, x0, x1, hw _ _ _ hne hx⟩
theorem srcC.below {B b len cap : Nat} {a : Option Addr} {i sd : Int} {w w' : World} (h : srcC B b w a len cap i sd) (k : Below w.heap.size w w') : srcC B b w' a len cap i sd := by
  obtain ⟨hB, hb, hc, hf, h0, h1, h2, h3, h4, h5⟩ := h
  exact ⟨hB, Nat.lt_of_lt_of_le hb k.size, fun o => (k.cell (p := ⟨b, o, none⟩) hb).trans (hc o), fun o => (k.frozen (p := ⟨b, o, none⟩) hb).trans (hf o), h0, h1, h2, h3, h4, h5.of fun j o v hj hv => (k.cell (p := ⟨j, o, none⟩) (World.block_lt_of_cell? w _ hv)).trans hv⟩
theorem src.below {B b : Nat} {w w' : World} (h : src B b w) (k : Below w.heap.size w w') : src B b w' := by
  obtain ⟨a, len, cap, i, sd, h⟩ := h
  exact ⟨a, len, cap, i, sd, h.below k⟩
theorem src.aft {B b : Nat} {w : World} (h : src B b w) (u : World) : src B b (aft w u) := h.below (below_aft w u)
theorem src.alloc {B b : Nat} {w : World} (h : src B b w) (o : Obj) : src B b (w.alloc o) := h.below ((Below.refl _ _).alloc (Nat.le_refl _) o)
theorem src.drew {B b : Nat} {w : World} (h : src B b w) : src B b w.drew := h.below (Below.drew (Below.refl _ _))
theorem src.set {B b b' o : Nat} {w : World} (h : src B b w) (hne : b' ≠ b) (hB : B ≤ b') (v : Value) : src B b (w.setCell ⟨b', o, none⟩ v) := by
  obtain ⟨a, len, cap, i, sd, hB, hb, hc, hf, h0, h1, h2, h3, h4, h5⟩ := h
  refine ⟨a, len, cap, i, sd, hB, by simpa using hb, fun o' => ?_, fun o' => ?_, h0, h1, h2, h3, h4, h5.of fun j o' x hj hv => ?_⟩
  · rw [set_cell, if_neg (by omega)]; exact hc o'
  · rw [World.frozen?_setCell]; exact hf o'
  · rw [set_cell, if_neg (by omega)]; exact hv
theorem grown_set (w : World) (b o : Nat) (v : Value) : w.grownBy (w.setCell ⟨b, o, none⟩ v) (some b) := by
  refine ⟨rfl, rfl, rfl, by simp, fun k hk hn => ?_⟩
  have hne : b ≠ k := fun e => hn (by rw [e])
  show (w.setCell ⟨b, o, none⟩ v).heap[k]? = w.heap[k]?
  simp only [World.setCell, Array.getElem?_modify]
  rw [if_neg hne]
theorem srcC.seed {B b len cap : Nat} {a : Option Addr} {i sd : Int} {w : World} (h : srcC B b w a len cap i sd) (s : Int) (s0 : 0 ≤ s ∧ s ≤ 2147483646) : srcC B b (w.setCell ⟨b, 2, none⟩ (.int .i64 s)) a len cap i s := by
  obtain ⟨hB, hb, hc, hf, h0, h1, h2, h3, h4, h5⟩ := h
  refine ⟨hB, by simpa using hb, fun o' => ?_, fun o' => ?_, h0, h1, s0.1, s0.2, h4, h5.of fun j o' x hj hv => ?_⟩
  · rw [set_cell]
    split
    · rename_i e; obtain ⟨_, rfl⟩ := e; rw [hc]; rfl
    · rename_i e
      rw [hc]
      match o' with
      | 0 => rfl
      | 1 => rfl
      | 2 => exact absurd ⟨rfl, rfl⟩ e
      | n + 3 => simp
  · rw [World.frozen?_setCell]; exact hf o'
  · rw [set_cell, if_neg (by omega)]; exact hv
theorem srcC.at {B b len cap : Nat} {a : Option Addr} {i sd : Int} {w : World} (h : srcC B b w a len cap i sd) (s : Int) (s0 : 0 ≤ s ∧ s ≤ len) : srcC B b (w.setCell ⟨b, 1, none⟩ (.int .i64 s)) a len cap s sd := by
  obtain ⟨hB, hb, hc, hf, h0, h1, h2, h3, h4, h5⟩ := h
  refine ⟨hB, by simpa using hb, fun o' => ?_, fun o' => ?_, s0.1, s0.2, h2, h3, h4, h5.of fun j o' x hj hv => ?_⟩
  · rw [set_cell]
    split
    · rename_i e; obtain ⟨_, rfl⟩ := e; rw [hc]; rfl
    · rename_i e
      rw [hc]
      match o' with
      | 0 => rfl
      | 1 => exact absurd ⟨rfl, rfl⟩ e
      | 2 => rfl
      | n + 3 => simp
  · rw [World.frozen?_setCell]; exact hf o'
  · rw [set_cell, if_neg (by omega)]; exact hv

open Classical in
/-- u, where u is w but for the source b, and what came later; else w. -/
noncomputable def aftD (b : Nat) (w u : World) : World := if w.grownBy u (some b) then u else w
theorem aftD_grown (b : Nat) (w u : World) : w.grownBy (aftD b w u) (some b) := by
  unfold aftD; split
  · assumption
  · exact grownBy_refl _ _
theorem aftD_ex {b : Nat} {w w' : World} (h : w.grownBy w' (some b)) : ∃ u, w' = aftD b w u := ⟨w', by unfold aftD; rw [if_pos h]⟩
theorem size_aftD (b : Nat) (w u : World) : w.heap.size ≤ (aftD b w u).heap.size := (aftD_grown b w u).size
theorem le_aftD {b n : Nat} {w u : World} (h : n ≤ w.heap.size) : n ≤ (aftD b w u).heap.size := Nat.le_trans h (size_aftD _ _ _)
noncomputable def nwCDr (b : Nat) (w u : World) (k o : Nat) : Option Value := (aftD b w u).cell? ⟨k, o, none⟩
noncomputable def nwFDr (b : Nat) (w u : World) (k o : Nat) : Bool := (aftD b w u).frozen? ⟨k, o, none⟩
theorem aftD_blk {b : Nat} {w u : World} {k : Nat} (h : k < w.heap.size ∧ k ≠ b) : (aftD b w u).heap[k]? = w.heap[k]? :=
  (aftD_grown b w u).block k h.1 (fun e => h.2 (by injection e))
theorem aftD_cell (b : Nat) (w u : World) (k o : Nat) : (aftD b w u).cell? ⟨k, o, none⟩ = if k < w.heap.size ∧ k ≠ b then w.cell? ⟨k, o, none⟩ else nwCDr b w u k o := by
  split
  · rename_i h; unfold World.cell?; rw [aftD_blk h]
  · rfl
theorem aftD_frozen (b : Nat) (w u : World) (k o : Nat) : (aftD b w u).frozen? ⟨k, o, none⟩ = if k < w.heap.size ∧ k ≠ b then w.frozen? ⟨k, o, none⟩ else nwFDr b w u k o := by
  split
  · rename_i h; unfold World.frozen?; rw [aftD_blk h]
  · rfl
attribute [go_sem] aftD_cell aftD_frozen
theorem Ext.aftD {B b : Nat} {w W : World} (h : Ext B w W) (u : World) (hb : B ≤ b) : Ext B w (aftD b W u) :=
  ⟨Below.grown h.1 (aftD_grown b W u) h.2 (fun k e => by injection e with e; omega), Nat.le_trans h.2 (size_aftD _ _ _)⟩

/-- A draw: a value (told by a property), and a world in which the source has moved. -/
def Draws (B b : Nat) (w : World) {α : Type} (g : α → Value) (p : α → Prop) : Ending → World → Prop := fun e w' => ∃ x, e = .returned (g x) ∧ p x ∧ w.grownBy w' (some b) ∧ src B b w'
theorem viaDr {P : Program} {f : FuncId} {args : Array Value} {B b : Nat} {w : World} {α : Type} {g : α → Value} {p : α → Prop} {R : Ending → World → Prop}
    (h : Calls P f args w (Draws B b w g p)) (hR : ∀ x u, p x → src B b (aftD b w u) → w.heap.size ≤ (aftD b w u).heap.size → R (.returned (g x)) (aftD b w u)) : Calls P f args w R :=
  h.mono fun e w' ⟨x, he, hp, hg, hs⟩ => by subst he; obtain ⟨u, rfl⟩ := aftD_ex hg; exact hR x u hp hs (size_aftD b w u)
end Go.Proofs.Ytflmoopiajhadaa
