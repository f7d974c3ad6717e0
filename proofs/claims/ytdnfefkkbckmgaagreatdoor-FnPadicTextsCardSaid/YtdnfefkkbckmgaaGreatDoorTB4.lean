/- Numerals and lists of numerals: the program's text. -/
import Derived.Test.YtdnfefkkbckmgaaGreatDoorTB0
import Derived.Lib.AppendIntMem
namespace Go.Proofs.YtdnfefkkbckmgaaGreatDoor
open Go Go.RowKit

/-- The table that the library's FormatInt reads stands, whatever is done from block B on. -/
def tabB (B : Nat) (w : World) : Prop := Lib.TabBelow Tryz.prog B w "internal/strconv.uint64pow10" .u64 Lib.pow10Tab
theorem i_decimal (n : Int) (w : World) (h : -9223372036854775808 ≤ n ∧ n ≤ 9223372036854775807) (ht : Lib.TabIs Tryz.prog w "internal/strconv.uint64pow10" .u64 Lib.pow10Tab) :
    Calls Tryz.prog 43 #[.int .i64 n] w fun e w' => e = .returned (.string ⟨(Lib.itoa n).toArray⟩) ∧ Below w.heap.size w w' := by
  have hcon := strconv_FormatInt_10 n (by omega) (by omega) w ht
  obtain ⟨D, hD⟩ : ∃ D, D = Lib.itoa n := ⟨_, rfl⟩
  rw [← hD] at hcon ⊢
  have HDE := hid hD
  clear hD
  go_enter Tryz.func43, Tryz.ntmps43
  go_wp2_with fail
  refine hcon.mono ?_
  rintro e w' ⟨rfl, k, os, rfl⟩
  have hb := Lib.below_grow w.heap.size w (Nat.le_refl _) k os
  obtain ⟨u, hu⟩ := aft_ex hb
  rw [hu]
  go_wp2_with fail
  go_ret
  exact ⟨rfl, below_aft w u⟩
theorem i_decS (n : Nat) (w : World) (h : n < 100) :
    Calls Tryz.prog 43 #[.int .i64 (n : Int)] w fun e w' => e = .returned (.string ⟨(Lib.itoa (n : Int)).toArray⟩) ∧ Below w.heap.size w w' := by
  have hcon := strconv_FormatInt_10_small n h w
  rw [itoa_pos (by omega), Int.toNat_natCast]
  obtain ⟨D, hD⟩ : ∃ D, D = Lib.decDigits n := ⟨_, rfl⟩
  rw [← hD] at hcon ⊢
  have HDE := hid hD
  clear hD
  go_enter Tryz.func43, Tryz.ntmps43
  go_wp2_with fail
  refine hcon.mono ?_
  rintro e w' ⟨rfl, rfl⟩
  go_wp2_with fail
  go_ret
  exact ⟨rfl, Below.refl _ _⟩
theorem infoT : (Tryz.prog.info? 9).map (fun i => (i.zero, i.size, i.bytes)) = some (some (.string ⟨#[]⟩), 1, 16) := by kernel_rfl
/-- The words' cells. -/
def wordV (ds : List Int) : List Value := ds.map fun d => .string ⟨(Lib.itoa d).toArray⟩
theorem rawAftT {B n : Nat} {w : World} {v : Value} {xs : List Value} (h : w.ownsRow B 9 1 v n xs) (u : World) : (aft w u).ownsRow B 9 1 v n xs := by
  refine ⟨h.1, ?_⟩
  rcases h.2 with hn | ⟨g, cap, cur, rfl, hg, hh, r⟩
  · exact .inl hn
  · have hlt : g < w.heap.size := (Array.getElem?_eq_some_iff.1 hh).1
    exact .inr ⟨g, cap, cur, rfl, hg, by rw [(below_aft w u).block g hlt]; exact hh, r⟩
theorem rawAllocT {B n : Nat} {w : World} {v : Value} {xs : List Value} (h : w.ownsRow B 9 1 v n xs) (o : Obj) : (w.alloc o).ownsRow B 9 1 v n xs := by
  have := rawAftT h (w.alloc o)
  rwa [aft_of ((Below.refl _ w).alloc (Nat.le_refl _) o)] at this
set_option maxRecDepth 20000 in
set_option maxHeartbeats 4000000 in
theorem i_commas (r : Value) (ds : List Int) (w : World) (h : rdI w r ds) (hl : 1 ≤ ds.length ∧ ds.length ≤ 40) (hd : ∀ d ∈ ds, 0 ≤ d ∧ d < 100) :
    Calls Tryz.prog 54 #[r] w fun e w' => e = .returned (.string ⟨(joinL ds).toArray⟩) ∧ Below w.heap.size w w' := by
  obtain ⟨i1, hj, hy0, hy1, hy2⟩ := info_parts infoT
  have H := hid h
  have HD := hid hd
  have HJL := hid (joinL_len ds hd)
  obtain ⟨a, cap, rfl, hm, hc⟩ := id h
  have Hc := hid hc
  clear hc h hd hm
  go_enter Tryz.func54, Tryz.ntmps54
  go_wp2_with fail
  go_loopw [3, 8] (fun s i wr => ∃ (k : Nat) (uw : World), wr = aft w uw ∧ k ≤ ds.length ∧ i = .int .i64 k ∧ Hid (wr.ownsRow w.heap.size 9 1 s k (wordV (ds.take k)))) (fun _ i _ => ds.length - (intOf i).toNat)
  case atStart => exact ⟨0, _, (aft_of (Below.refl _ _)).symm, by omega, rfl, hid (World.ownsRow_nil _ _ _ _)⟩
  case round =>
    obtain ⟨k, uw, rfl, hk, rfl, HO⟩ := hrel
    have zs := size_aft w uw
    by_cases hlt : k < ds.length
    · have hltz : (k : Int) < (ds.length : Int) := by omega
      obtain ⟨b, o, rfl, hcell⟩ := Hc.out (by intro e; subst e; simp at hlt)
      have h1 := hcell k hlt
      have hb := World.block_lt_of_cell? w _ h1
      have hd := HD.out ds[k] (List.getElem_mem hlt)
      have HT := hid (List.take_succ_eq_append_getElem hlt)
      obtain ⟨x, hx⟩ : ∃ x, x = ds[k] := ⟨_, rfl⟩
      rw [← hx] at h1 hd HT
      obtain ⟨q, rfl⟩ : ∃ q : Nat, x = (q : Int) := ⟨x.toNat, by omega⟩
      have hcon := fun W => i_decS q W (by omega)
      obtain ⟨D, hD⟩ : ∃ D, D = Lib.itoa (q : Int) := ⟨_, rfl⟩
      rw [← hD] at hcon
      have HDE := hid hD
      have HC := hid hcon
      clear hcon hx hD hcell
      have hk0 : (0 : Int) ≤ (k : Int) := by omega
      go_wp2_with fail
      refine via (HC.out _) ?_
      intro u3 z3
      (try simp at z3)
      have hown := rawAftT HO.out u3
      go_wp2_with (at_builtin; refine wpList_append_own _ rfl _ _ 34 rfl w.heap.size 9 i1 (.string ⟨#[]⟩) 1 16 Tryz.underlying34 hj hy0 hy1 hy2 rfl (by decide) _ _ _ rfl (rawAllocT hown _) ⟨_, 0, none⟩ 1 1 [.string ⟨D.toArray⟩] rfl rfl ?c1 ?c2 ?c3 ?c4 ?c5 ?_)
      case c1 =>
        intro j u hj
        rcases j with _ | j
        · simp at hj
          subst hj
          simp [Addr.add]
        · simp at hj
      case c2 => first | rfl | (intro u hu; simp at hu; subst hu; rfl)
      case c3 => unfold maxLen; omega
      case c4 => omega
      case c5 => first | omega | (simp; omega)
      intro v' w1 hown' hgrow _
      obtain ⟨u', rfl⟩ := grown_aft (W := w) (by repeat (with_reducible first | exact Ext.refl _ | apply Ext.alloc | apply Ext.aft | apply Ext.drew | apply Ext.drewN | apply Ext.setCell | exact Nat.le_add_right _ _ | exact Nat.le_refl _ | (simp; done) | omega)) hgrow (fun k hk => (World.ownsRow.lt hown k hk).1)
      have HO1 : Hid ((aft w u').ownsRow w.heap.size 9 1 v' (k + 1) (wordV (ds.take (k + 1)))) := hid (by rw [HT.out, show wordV (ds.take k ++ [(q : Int)]) = wordV (ds.take k) ++ [.string ⟨(Lib.itoa (q : Int)).toArray⟩] by simp [wordV], ← HDE.out]; exact hown')
      clear hown' hgrow hown
      go_wp2_with fail
      go_roundw
      case rel => exact ⟨k + 1, u', rfl, by omega, by go_num, HO1⟩
      case measure => simp only [intOf]; omega
    · obtain rfl : k = ds.length := by omega
      have hltz : ¬ (ds.length : Int) < (ds.length : Int) := by omega
      have ho := HO.out
      rw [List.take_length] at ho
      rcases ho.2 with ⟨e, hn⟩ | ⟨g, cp, cur, e, hg, hh, h1, h2, h3, h4⟩
      · omega
      · subst e
        have hgl : g < (aft w uw).heap.size := (Array.getElem?_eq_some_iff.1 hh).1
        have hcells : ∀ (j : Nat) x, (ds.map numB)[j]? = some x → (aft w uw).cell? ⟨g, 0 + j, none⟩ = some (.string x) := by
          intro j x hx
          have hj : j < ds.length := by
            have := (List.getElem?_eq_some_iff.1 hx).1
            simpa using this
          have hcl := ho.cellAt j (by omega)
          rw [Nat.zero_add]
          refine hcl.trans ?_
          simp only [wordV, List.getElem?_map] at hx ⊢
          simp only [List.getElem?_eq_getElem hj, Option.map_some, Option.some.injEq] at hx ⊢
          rw [← hx]; rfl
        have hmap : (ds.map numB).map (·.data.toList) = ds.map Lib.itoa := by
          rw [List.map_map]
          refine List.map_congr_left fun d _ => ?_
          simp [numB]
        have hjl : (Lib.join ((ds.map numB).map (·.data.toList)) (⟨#[44]⟩ : ByteArray).data.toList).length ≤ 140737488355328 := by
          rw [hmap]
          have := HJL.out
          unfold joinL at this
          exact Nat.le_trans this (by omega)
        have hcon := strings_Join g 0 cp (ds.map numB) ⟨#[44]⟩ (aft w uw) hcells hgl (by rw [List.length_map]; omega) (by rw [List.length_map]; exact h1) hjl
        rw [hmap, List.length_map] at hcon
        have HC : Hid (Calls Tryz.prog 75 #[.slice (some ⟨g, 0, none⟩) ds.length cp, .string ⟨#[44]⟩] (aft w uw) fun e w' => e = .returned (.string ⟨(joinL ds).toArray⟩) ∧ Below (aft w uw).heap.size (aft w uw) w') := hid hcon
        clear hcon hcells hmap hjl ho HO hh h1 h2 h3 h4
        go_wp2_with fail
        refine via HC.out ?_
        intro u4 z4
        go_wp2_with fail
        go_ret
        exact ⟨rfl, (by refine Ext.bel ?_; repeat (with_reducible first | exact Ext.refl _ | apply Ext.alloc | apply Ext.aft | apply Ext.drew | apply Ext.drewN | apply Ext.setCell | exact Nat.le_add_right _ _ | exact Nat.le_refl _ | (simp; done) | omega))⟩
end Go.Proofs.YtdnfefkkbckmgaaGreatDoor
