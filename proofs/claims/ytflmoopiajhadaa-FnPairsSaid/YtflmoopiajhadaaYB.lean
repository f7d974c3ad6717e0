/- Zeros cut off what is only read; the memory of a matrix. -/
import Derived.Test.YtflmoopiajhadaaYA
import Derived.Test.YtflmoopiajhadaaK1
namespace Go.Proofs.Ytflmoopiajhadaa
open Go Go.RowKit

set_option maxRecDepth 20000 in
set_option maxHeartbeats 2000000 in
theorem s_trimR (a : Option Addr) (cap : Nat) (xs : List Int) (w : World) (h : rdI w (.slice a xs.length cap) xs) (hcap : xs.length ≤ cap) (hl : xs.length ≤ 1000000) :
    Calls Try.prog 55 #[.slice a xs.length cap] w fun e w' => ∃ v, e = .returned v ∧ ownR w.heap.size w' v (trimF xs) ∧ Below w.heap.size w w' := by
  have HRD := hid h
  obtain ⟨a', cap', hav, hm, hc⟩ := h
  obtain ⟨ha', hcc⟩ : a = a' ∧ cap = cap' := by injection hav with q1 q2 q3; exact ⟨q1, q3⟩
  subst ha' hcc
  clear hav
  have Hc := hid hc
  unfold trimF
  obtain ⟨N, hN⟩ : ∃ N, N = trimN xs xs.length := ⟨_, rfl⟩
  rw [← hN]
  have HN := hid hN
  clear hc hm hN
  go_enter Try.func55, Try.ntmps55
  go_wp2_with fail
  go_loop [3] (fun i => ∃ n : Nat, n ≤ xs.length ∧ i = .int .i64 n ∧ Hid (trimN xs n = N)) (fun i => (intOf i).toNat)
  case atStart => exact ⟨xs.length, by omega, rfl, hid HN.out.symm⟩
  case round =>
    obtain ⟨n, hn, rfl, HA⟩ := hrel
    have fin : Hid (trimN xs n = n → N = n) := hid (fun h => by rw [← HA.out, h])
    have HR := hid (rd_cut HRD.out hn)
    have hncap : n ≤ cap := by omega
    rcases Nat.eq_zero_or_pos n with rfl | hpos
    · have e : Hid (N = 0) := hid (fin.out rfl)
      go_wp2_with (go_at_call 52; refine viaI (g := id) (s_own _ _ _ HR.out (by rw [List.length_take]; omega)) ?_; intro rr ur zr hown; (try simp at zr))
      go_ret
      exact ⟨_, rfl, by rw [e.out]; exact hown, (by refine Ext.bel ?_; repeat (with_reducible first | exact Ext.refl _ | apply Ext.alloc | apply Ext.aft | apply Ext.drew | apply Ext.drewN | apply Ext.setCell | exact Nat.le_add_right _ _ | exact Nat.le_refl _ | (simp; done) | omega))⟩
    · obtain ⟨j, rfl⟩ : ∃ j, n = j + 1 := ⟨n - 1, by omega⟩
      have hj : j < xs.length := by omega
      obtain ⟨b, o, rfl, hcell⟩ := Hc.out (by intro e; subst e; simp at hj)
      have h1 := hcell j hj
      have e1 : xs.getD j 0 = xs[j] := by simp [List.getD, List.getElem?_eq_getElem hj]
      have HT : Hid (trimN xs (j + 1) = if xs[j] = 0 then trimN xs j else j + 1) := hid (by rw [← e1]; rfl)
      obtain ⟨x, hx⟩ : ∃ x, x = xs[j] := ⟨_, rfl⟩
      rw [← hx] at h1 HT
      clear hx hcell e1
      by_cases hz : x = 0
      · subst hz
        go_wp2_with fail
        go_round
        case rel => exact ⟨j, by omega, by go_num, hid (by rw [← HA.out, HT.out]; simp)⟩
        case measure => simp only [intOf]; omega
      · have hz' : (x == 0) = false := by simpa using hz
        have e : Hid (N = j + 1) := hid (fin.out (by rw [HT.out, if_neg hz]))
        clear hz
        go_wp2_with (go_at_call 52; refine viaI (g := id) (s_own _ _ _ HR.out (by rw [List.length_take]; omega)) ?_; intro rr ur zr hown; (try simp at zr))
        go_ret
        exact ⟨_, rfl, by rw [e.out]; exact hown, (by refine Ext.bel ?_; repeat (with_reducible first | exact Ext.refl _ | apply Ext.alloc | apply Ext.aft | apply Ext.drew | apply Ext.drewN | apply Ext.setCell | exact Nat.le_add_right _ _ | exact Nat.le_refl _ | (simp; done) | omega))⟩

/-- A matrix: the row of rows A, the rows, the marks U. -/
def matM (B : Nat) (W : World) (A U : Nat) (rows : Nat → Nat) (n : Nat) (M : Nat → Nat → Int) (us : Nat → Bool) : Prop :=
  (∀ i, i < n → W.cell? ⟨A, i, none⟩ = some (.slice (some ⟨rows i, 0, none⟩) (2 * n) (2 * n))) ∧
  (∀ i j, i < n → j < 2 * n → W.cell? ⟨rows i, j, none⟩ = some (.int .i64 (M i j)) ∧ W.frozen? ⟨rows i, j, none⟩ = false) ∧
  (∀ i, i < n → W.cell? ⟨U, i, none⟩ = some (.bool (us i)) ∧ W.frozen? ⟨U, i, none⟩ = false) ∧
  (∀ i j, i < n → j < n → rows i = rows j → i = j) ∧ (∀ i, i < n → B ≤ rows i) ∧ B ≤ U
theorem matM.below {B A U n : Nat} {W W' : World} {rows : Nat → Nat} {M : Nat → Nat → Int} {us : Nat → Bool} (h : matM B W A U rows n M us) (hb : Below W.heap.size W W') : matM B W' A U rows n M us := by
  obtain ⟨h1, h2, h3, h4⟩ := h
  refine ⟨fun i hi => ?_, fun i j hi hj => ?_, fun i hi => ?_, h4⟩
  · rw [hb.cell (p := ⟨A, i, none⟩) (World.block_lt_of_cell? W _ (h1 i hi))]; exact h1 i hi
  · have hlt := World.block_lt_of_cell? W _ (h2 i j hi hj).1
    rw [hb.cell (p := ⟨rows i, j, none⟩) hlt, hb.frozen (p := ⟨rows i, j, none⟩) hlt]; exact h2 i j hi hj
  · have hlt := World.block_lt_of_cell? W _ (h3 i hi).1
    rw [hb.cell (p := ⟨U, i, none⟩) hlt, hb.frozen (p := ⟨U, i, none⟩) hlt]; exact h3 i hi
theorem matM.aft {B A U n : Nat} {W : World} {rows : Nat → Nat} {M : Nat → Nat → Int} {us : Nat → Bool} (h : matM B W A U rows n M us) (u : World) : matM B (Go.Proofs.Ytflmoopiajhadaa.aft W u) A U rows n M us := h.below (below_aft W u)
def upd (M : Nat → Nat → Int) (i j : Nat) (x : Int) : Nat → Nat → Int := fun i' j' => if i' = i ∧ j' = j then x else M i' j'
theorem matM.put {B A U n : Nat} {W : World} {rows : Nat → Nat} {M : Nat → Nat → Int} {us : Nat → Bool} (h : matM B W A U rows n M us) {i j : Nat} (hi : i < n) (hj : j < 2 * n) (x : Int) :
    matM B (W.setCell ⟨rows i, j, none⟩ (.int .i64 x)) A U rows n (upd M i j x) us := by
  obtain ⟨h1, h2, h3, h4, h5, h6⟩ := h
  have hA : rows i ≠ A := fun e => by
    have e1 := h1 i hi
    have e2 := (h2 i i hi (by omega)).1
    rw [e, e1] at e2
    simp at e2
  have hU : rows i ≠ U := fun e => by
    have e1 := (h3 i hi).1
    have e2 := (h2 i i hi (by omega)).1
    rw [e, e1] at e2
    simp at e2
  refine ⟨fun i' hi' => ?_, fun i' j' hi' hj' => ⟨?_, ?_⟩, fun i' hi' => ⟨?_, ?_⟩, h4, h5, h6⟩
  · rw [set_cell, if_neg (fun e => hA e.1)]; exact h1 i' hi'
  · rw [set_cell]
    unfold upd
    by_cases e : i' = i ∧ j' = j
    · obtain ⟨rfl, rfl⟩ := e
      rw [if_pos ⟨rfl, rfl⟩, if_pos ⟨rfl, rfl⟩, (h2 i' j' hi hj).1]; rfl
    · rw [if_neg (fun e2 => e ⟨h4 i' i hi' hi e2.1.symm, e2.2.symm⟩), if_neg e]
      exact (h2 i' j' hi' hj').1
  · rw [World.frozen?_setCell]; exact (h2 i' j' hi' hj').2
  · rw [set_cell, if_neg (fun e => hU e.1)]; exact (h3 i' hi').1
  · rw [World.frozen?_setCell]; exact (h3 i' hi').2
theorem matM.use {B A U n : Nat} {W : World} {rows : Nat → Nat} {M : Nat → Nat → Int} {us : Nat → Bool} (h : matM B W A U rows n M us) {i : Nat} (hi : i < n) :
    matM B (W.setCell ⟨U, i, none⟩ (.bool true)) A U rows n M (fun i' => if i' = i then true else us i') := by
  obtain ⟨h1, h2, h3, h4, h5, h6⟩ := h
  have hA : U ≠ A := fun e => by
    have e1 := h1 i hi
    have e2 := (h3 i hi).1
    rw [e, e1] at e2
    simp at e2
  have hU : ∀ i', i' < n → U ≠ rows i' := fun i' hi' e => by
    have e1 := (h2 i' i hi' (by omega)).1
    have e2 := (h3 i hi).1
    rw [e, e1] at e2
    simp at e2
  refine ⟨fun i' hi' => ?_, fun i' j' hi' hj' => ⟨?_, ?_⟩, fun i' hi' => ⟨?_, ?_⟩, h4, h5, h6⟩
  · rw [set_cell, if_neg (fun e => hA e.1)]; exact h1 i' hi'
  · rw [set_cell, if_neg (fun e => hU i' hi' e.1)]; exact (h2 i' j' hi' hj').1
  · rw [World.frozen?_setCell]; exact (h2 i' j' hi' hj').2
  · rw [set_cell]
    by_cases e : i' = i
    · subst e; rw [if_pos ⟨rfl, rfl⟩]; dsimp only; rw [if_pos rfl, (h3 i' hi').1]; rfl
    · rw [if_neg (fun e2 => e e2.2.symm)]; dsimp only; rw [if_neg e]; exact (h3 i' hi').1
  · rw [World.frozen?_setCell]; exact (h3 i' hi').2
theorem matM.apart {B A U n : Nat} {W : World} {rows : Nat → Nat} {M : Nat → Nat → Int} {us : Nat → Bool} (h : matM B W A U rows n M us) {i : Nat} (hi : i < n) : ¬ U = rows i ∧ ¬ U = A ∧ ¬ rows i = A := by
  obtain ⟨h1, h2, h3, _⟩ := h
  refine ⟨fun e => ?_, fun e => ?_, fun e => ?_⟩
  · have e1 := (h3 i hi).1
    have e2 := (h2 i i hi (by omega)).1
    rw [← e, e1] at e2
    simp at e2
  · have e1 := h1 i hi
    have e2 := (h3 i hi).1
    rw [e, e1] at e2
    simp at e2
  · have e1 := h1 i hi
    have e2 := (h2 i i hi (by omega)).1
    rw [e, e1] at e2
    simp at e2
/-- The rows that have been made so far. -/
def bldM (B : Nat) (W : World) (v : Value) (rows : Nat → Nat) (n k : Nat) (xss : List (List Int)) : Prop :=
  xss.length = k ∧ ∃ es, ownE B W v es xss ∧ (∀ i, i < k → es[i]? = some (.slice (some ⟨rows i, 0, none⟩) (2 * n) (2 * n)) ∧ B ≤ rows i ∧ rows i < W.heap.size) ∧ (∀ xs ∈ xss, xs.length = 2 * n) ∧ ∀ i j, i < j → j < k → rows i < rows j
theorem bldM.below {B n k : Nat} {W W' : World} {v : Value} {rows : Nat → Nat} {xss : List (List Int)} (h : bldM B W v rows n k xss) (hb : Below W.heap.size W W') : bldM B W' v rows n k xss := by
  obtain ⟨h0, es, h1, h2, h3, h4⟩ := h
  exact ⟨h0, es, h1.below hb, fun i hi => ⟨(h2 i hi).1, (h2 i hi).2.1, Nat.lt_of_lt_of_le (h2 i hi).2.2 hb.size⟩, h3, h4⟩
theorem bldM.mat {B n : Nat} {W : World} {cap : Nat} {rows : Nat → Nat} {xss : List (List Int)} {U : Nat} {a : Option Addr} {m : Nat} (hn : 1 ≤ n) (h : bldM B W (.slice a m cap) rows n n xss)
    (hu : W.ownsRow B 4 1 (.slice (some ⟨U, 0, none⟩) n n) n (List.replicate n (.bool false))) :
    ∃ A, a = some ⟨A, 0, none⟩ ∧ m = n ∧ matM B W A U rows n (fun i j => (xss.getD i []).getD j 0) (fun _ => false) := by
  obtain ⟨h0, es, ⟨hl, hown, he⟩, h2, h3, h4⟩ := h
  rcases hown.2 with ⟨hv, hn0⟩ | ⟨A, c, cur, hv, hg, hh, k1, k2, k3⟩
  · exfalso; omega
  · injection hv with q1 q2 q3
    subst q1 q2 q3
    refine ⟨A, rfl, h0, fun i hi => ?_, fun i j hi hj => ?_, fun i hi => ?_, fun i j hi hj e => ?_, fun i hi => (h2 i hi).2.1, ?_⟩
    · have := World.ownsRow.cells hown (g := A) rfl i _ (h2 i hi).1
      by_cases hz : i = 0
      · subst hz; simpa [Addr.add] using this
      · simpa [Addr.add, hz] using this
    · obtain ⟨e, e1, e2⟩ := he i (by omega)
      rw [(h2 i hi).1] at e1
      have e1' := Option.some.inj e1
      subst e1'
      have hx : (xss[i]'(by omega)).length = 2 * n := h3 _ (List.getElem_mem _)
      obtain ⟨c1, c2⟩ := own_cell e2 (j := j) (by omega)
      have e3 : xss.getD i [] = xss[i]'(by omega) := by simp [List.getD_eq_getElem?_getD, List.getElem?_eq_getElem (show i < xss.length by omega)]
      simp only [e3]
      exact ⟨c1, c2⟩
    · have c1 := hu.cellAt i (by simpa using hi)
      have c2 := hu.frozenAt i
      rw [List.getElem?_replicate, if_pos hi] at c1
      exact ⟨c1, c2⟩
    · rcases Nat.lt_trichotomy i j with h | h | h
      · have := h4 i j h hj; omega
      · exact h
      · have := h4 j i h hi; omega
    · have := World.ownsRow.lt hu U rfl; exact this.1
end Go.Proofs.Ytflmoopiajhadaa
