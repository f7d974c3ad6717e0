/- Numerals and lists of numerals: the statement's text. -/
import Derived.Test.YtdnfefkkbckmgaaGreatDoorTA1
import Derived.Lib.Join
namespace Go.Proofs.YtdnfefkkbckmgaaGreatDoor
open Go Go.RowKit

def numB (n : Int) : ByteArray := ⟨(Lib.itoa n).toArray⟩
theorem dec_small {n : Nat} (h : n < 10) : Lib.decDigits n = [UInt8.ofNat (48 + n)] := by rw [Lib.decDigits, dif_pos h]
theorem dec_two {n : Nat} (h : ¬ n < 10) (h2 : n < 100) : Lib.decDigits n = [UInt8.ofNat (48 + n / 10), UInt8.ofNat (48 + n % 10)] := by
  rw [Lib.decDigits, dif_neg h, dec_small (by omega)]; rfl
theorem s_dec (n : Nat) (w : World) (h : n < 100) :
    Calls Tryz.prog 32 #[.int .i64 (n : Int)] w fun e w' => e = .returned (.string ⟨(Lib.decDigits n).toArray⟩) ∧ Below w.heap.size w w' := by
  by_cases h1 : n < 10
  · rw [dec_small h1]
    exact s_dec1 n _ w h1 (dig_toNat h1)
  · rw [dec_two h1 h]
    exact s_dec2 (n / 10) (n % 10) n _ _ w (by omega) (by omega) (by omega) (dig_toNat (by omega)) (dig_toNat (by omega))
theorem ba_app (a b : List UInt8) : (⟨a.toArray⟩ : ByteArray) ++ ⟨b.toArray⟩ = ⟨(a ++ b).toArray⟩ := by
  apply ByteArray.ext
  simp
theorem itoa_neg {v : Int} (h : v < 0) : Lib.itoa v = [45] ++ Lib.decDigits (-v).toNat := by
  unfold Lib.itoa
  rw [if_pos h, show v.natAbs = (-v).toNat by omega]; rfl
theorem itoa_pos {v : Int} (h : ¬ v < 0) : Lib.itoa v = Lib.decDigits v.toNat := by
  unfold Lib.itoa
  rw [if_neg h]
theorem dec_len {n : Nat} (h : n < 100) : (Lib.decDigits n).length ≤ 2 := by
  by_cases h1 : n < 10
  · rw [dec_small h1]; simp
  · rw [dec_two h1 h]; simp
theorem itoa_len {v : Int} (h : -100 < v ∧ v < 100) : (Lib.itoa v).length ≤ 3 := by
  by_cases h1 : v < 0
  · rw [itoa_neg h1]; have := dec_len (n := (-v).toNat) (by omega); simp; omega
  · rw [itoa_pos h1]; have := dec_len (n := v.toNat) (by omega); omega
set_option maxHeartbeats 1000000 in
theorem s_number (v : Int) (w : World) (h : -100 < v ∧ v < 100) :
    Calls Tryz.prog 40 #[.int .i64 v] w fun e w' => e = .returned (.string ⟨(Lib.itoa v).toArray⟩) ∧ Below w.heap.size w w' := by
  by_cases h1 : v < 0
  · have hcon := fun W => s_dec (-v).toNat W (by omega)
    rw [show (((-v).toNat : Nat) : Int) = -v by omega] at hcon
    have hdl := dec_len (n := (-v).toNat) (by omega)
    rw [itoa_neg h1]
    obtain ⟨D, hD⟩ : ∃ D, D = Lib.decDigits (-v).toNat := ⟨_, rfl⟩
    rw [← hD] at hcon hdl ⊢
    have HC := hid hcon
    clear hD hcon
    go_enter Tryz.func40, Tryz.ntmps40
    go_wp2_with (go_at_call 32; refine via (HC.out _) ?_; intro uu zz; try simp at zz)
    go_ret
    exact ⟨by first | (rw [← ba_app]; rfl) | (congr 2; exact ba_app [45] D) | simp [ba_app], (by refine Ext.bel ?_; repeat (with_reducible first | exact Ext.refl _ | apply Ext.alloc | apply Ext.aft | apply Ext.drew | apply Ext.drewN | apply Ext.setCell | exact Nat.le_add_right _ _ | exact Nat.le_refl _ | (simp; done) | omega))⟩
  · have hcon := fun W => s_dec v.toNat W (by omega)
    rw [show ((v.toNat : Nat) : Int) = v by omega] at hcon
    rw [itoa_pos h1]
    obtain ⟨D, hD⟩ : ∃ D, D = Lib.decDigits v.toNat := ⟨_, rfl⟩
    rw [← hD] at hcon ⊢
    have HC := hid hcon
    clear hD hcon
    go_enter Tryz.func40, Tryz.ntmps40
    go_wp2_with (go_at_call 32; refine via (HC.out _) ?_; intro uu zz; try simp at zz)
    go_ret
    exact ⟨rfl, (by refine Ext.bel ?_; repeat (with_reducible first | exact Ext.refl _ | apply Ext.alloc | apply Ext.aft | apply Ext.drew | apply Ext.drewN | apply Ext.setCell | exact Nat.le_add_right _ _ | exact Nat.le_refl _ | (simp; done) | omega))⟩
/-- Numerals, with commas between. -/
def joinL (ds : List Int) : List UInt8 := Lib.join (ds.map Lib.itoa) [44]
theorem joinL_snoc (ds : List Int) (d : Int) : joinL (ds ++ [d]) = if ds = [] then Lib.itoa d else joinL ds ++ [44] ++ Lib.itoa d := by
  unfold joinL Lib.join
  induction ds with
  | nil => simp [List.intercalate]
  | cons a t ih =>
    rw [if_neg (by simp)]
    cases t with
    | nil => simp [List.intercalate]
    | cons b t =>
      rw [if_neg (by simp)] at ih
      simp only [List.cons_append, List.map_cons, List.intercalate, List.intersperse_cons_cons, List.flatten_cons] at ih ⊢
      rw [ih]
      simp
theorem joinL_len (ds : List Int) (h : ∀ d ∈ ds, 0 ≤ d ∧ d < 100) : (joinL ds).length ≤ 4 * ds.length := by
  have key : ∀ k, k ≤ ds.length → (joinL (ds.take k)).length ≤ 4 * k := by
    intro k
    induction k with
    | zero => intro _; simp [joinL, Lib.join, List.intercalate]
    | succ k ih =>
      intro hk
      have hd := h ds[k] (List.getElem_mem (by omega))
      have h1 := itoa_len (v := ds[k]) (by omega)
      rw [List.take_succ_eq_append_getElem (by omega), joinL_snoc]
      split
      · omega
      · have := ih (by omega)
        simp only [List.length_append, List.length_cons, List.length_nil]
        omega
  have := key ds.length (Nat.le_refl _)
  rwa [List.take_length] at this
set_option maxHeartbeats 4000000 in
theorem s_join (r : Value) (ds : List Int) (w : World) (h : rdI w r ds) (hl : ds.length ≤ 40) (hd : ∀ d ∈ ds, 0 ≤ d ∧ d < 100) :
    Calls Tryz.prog 38 #[r, .string ⟨#[44]⟩] w fun e w' => e = .returned (.string ⟨(joinL ds).toArray⟩) ∧ Below w.heap.size w w' := by
  have H := hid h
  have HD := hid hd
  obtain ⟨a, cap, rfl, hm, hc⟩ := id h
  have Hc := hid hc
  clear hc h hd hm
  go_enter Tryz.func38, Tryz.ntmps38
  go_wp2_with fail
  go_loopw [5, 6] (fun s i wr => ∃ (k : Nat) (uw : World) (L : List UInt8), wr = aft w uw ∧ k ≤ ds.length ∧ i = .int .i64 k ∧ s = .string ⟨L.toArray⟩ ∧ Hid (L = joinL (ds.take k)) ∧ L.length ≤ 4 * k) (fun _ i _ => ds.length - (intOf i).toNat)
  case atStart => exact ⟨0, _, [], (aft_of (Below.refl _ _)).symm, by omega, rfl, rfl, hid (by simp [joinL, Lib.join, List.intercalate]), by simp⟩
  case round =>
    obtain ⟨k, uw, L, rfl, hk, rfl, rfl, HL, hLl⟩ := hrel
    have zs := size_aft w uw
    by_cases hlt : k < ds.length
    · have hltz : (k : Int) < (ds.length : Int) := by omega
      obtain ⟨b, o, rfl, hcell⟩ := Hc.out (by intro e; subst e; simp at hlt)
      have h1 := hcell k hlt
      have hb := World.block_lt_of_cell? w _ h1
      have hd := HD.out ds[k] (List.getElem_mem hlt)
      have HS := hid (joinL_snoc (ds.take k) ds[k])
      have HT := hid (List.take_succ_eq_append_getElem hlt)
      obtain ⟨x, hx⟩ : ∃ x, x = ds[k] := ⟨_, rfl⟩
      rw [← hx] at h1 hd HS HT
      have hxl := itoa_len (v := x) (by omega)
      have hcon := fun W => s_number x W (by omega)
      obtain ⟨D, hD⟩ : ∃ D, D = Lib.itoa x := ⟨_, rfl⟩
      rw [← hD] at hcon hxl HS
      have HC := hid hcon
      clear hcon hx hD hcell
      have hk0 : (0 : Int) ≤ (k : Int) := by omega
      rcases Nat.eq_zero_or_pos k with rfl | hpos
      · have HN : Hid (([] : List UInt8) ++ D = joinL (ds.take 1)) := hid (by rw [HT.out, HS.out]; simp)
        have hL0 : L = [] := by rw [HL.out]; simp [joinL, Lib.join, List.intercalate]
        subst hL0
        rw [Nat.add_zero] at h1
        go_wp2_with (go_at_call 40; refine via (HC.out _) ?_; intro uu zz; try simp at zz)
        go_roundw
        case rel => exact ⟨1, _, D, (aft_of ((below_aft w uw).trans ((below_aft _ _).mono (size_aft w uw)))).symm, by omega, by go_num, by first | rfl | (congr 1; exact ba_app [] D) | simp [ba_app], hid (by have := HN.out; simpa using this), by omega⟩
        case measure => simp only [intOf]; omega
      · have hkp : (0 : Int) < (k : Int) := by omega
        have hne : ds.take k ≠ [] := by intro e; have := congrArg List.length e; rw [List.length_take, List.length_nil] at this; omega
        have HN : Hid (L ++ [44] ++ D = joinL (ds.take (k + 1))) := hid (by rw [HT.out, HS.out, if_neg hne, ← HL.out])
        clear hne
        go_wp2_with (go_at_call 40; refine via (HC.out _) ?_; intro uu zz; try simp at zz)
        go_roundw
        case rel => exact ⟨k + 1, _, L ++ [44] ++ D, (aft_of ((below_aft w uw).trans ((below_aft _ _).mono (size_aft w uw)))).symm, by omega, by go_num, by first | (rw [← ba_app, ← ba_app]; done) | (rw [← ba_app, ← ba_app]; rfl) | simp [ba_app], HN, by simp; omega⟩
        case measure => simp only [intOf]; omega
    · obtain rfl : k = ds.length := by omega
      have hltz : ¬ (ds.length : Int) < (ds.length : Int) := by omega
      have HL2 : Hid (L = joinL ds) := hid (by have := HL.out; rwa [List.take_length] at this)
      go_wp2_with fail
      go_ret
      exact ⟨by rw [← HL2.out]; rfl, (by refine Ext.bel ?_; repeat (with_reducible first | exact Ext.refl _ | apply Ext.alloc | apply Ext.aft | apply Ext.drew | apply Ext.drewN | apply Ext.setCell | exact Nat.le_add_right _ _ | exact Nat.le_refl _ | (simp; done) | omega))⟩
end Go.Proofs.YtdnfefkkbckmgaaGreatDoor
