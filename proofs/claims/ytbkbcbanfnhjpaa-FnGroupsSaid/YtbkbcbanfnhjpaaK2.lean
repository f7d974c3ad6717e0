/- The permutations of a group: both texts. -/
import Derived.Test.YtbkbcbanfnhjpaaN9
import Derived.Test.YtbkbcbanfnhjpaaMA
namespace Go.Proofs.Ytbkbcbanfnhjpaa
open Go Go.RowKit

def memF (n : Nat) (rs : List Int) : List (List Int) := rs.map (withF n)
theorem memF_len (n : Nat) (rs : List Int) : (memF n rs).length = rs.length := by simp [memF]
theorem memF_snoc {n : Nat} {rs : List Int} {k : Nat} (h : k < rs.length) : memF n (rs.take (k + 1)) = memF n (rs.take k) ++ [withF n rs[k]] := by
  rw [take_snocI _ _ h]; unfold memF; rw [List.map_append]; rfl
theorem sB {B : Nat} {W w' : World} (h : Ext B W w') : (∀ b o, b < B → w'.cell? ⟨b, o, none⟩ = W.cell? ⟨b, o, none⟩) ∧ Hid (Ext B W w') := ⟨fun b o hb => h.1.cell (p := ⟨b, o, none⟩) hb, h⟩
theorem Ext.base {B : Nat} {W : World} (h : B ≤ W.heap.size) : Ext B W W := ⟨Below.refl _ _, h⟩
theorem Ext.grown {B : Nat} {W w w' : World} {o : Value} (h : Ext B W w) (hg : w.grownBy w' o.ownBlock) (ho : ∀ k, o.ownBlock = some k → B ≤ k) : Ext B W w' :=
  ⟨h.1.grown hg h.2 ho, Nat.le_trans h.2 hg.size⟩
theorem own_made2 (w : World) : ownE w.heap.size (w.alloc (.cells #[] 24)) (.slice (some ⟨w.heap.size, 0, none⟩) 0 0) [] [] :=
  ⟨rfl, World.ownsRow_made w #[] 0 (Nat.le_refl _) (by simp [maxLen]) (by simp), fun i h => by simp at h⟩
theorem one_new {w : World} {t : Value} {T : TypeId} : ∀ (j : Nat) (u : Value), [t][j]? = some u → (w.alloc (.cells #[t] T)).cell? ((⟨w.heap.size, 0, none⟩ : Addr).add j) = some u := by
  intro j u hj
  cases j with
  | zero => simp at hj; subst hj; simp [Addr.add]
  | succ j => simp at hj

set_option maxRecDepth 20000 in
set_option maxHeartbeats 4000000 in
theorem i_members (n : Nat) (r : Value) (rs : List Int) (w : World) (h : rdI w r rs) (hn : n ≤ 6) (hr : ∀ x ∈ rs, 0 ≤ x ∧ x < (facN n : Int)) (hl : rs.length ≤ 1048576) :
    Calls Try.prog 89 #[(.agg #[.int .i64 (n : Int), r])] w fun e w' => ∃ v, e = .returned v ∧ ownRR w.heap.size w' v (memF n rs) ∧ Below w.heap.size w w' := by
  obtain ⟨i1, hj, hy0, hy1, hy2⟩ := info_parts infoS
  obtain ⟨a, cap, hr0, hm, hc⟩ := id h
  have Hc := hid hc
  have Hr := hid hr
  subst hr0
  clear hc hm hr h
  go_enter Try.func89, Try.ntmps89
  go_wp2_with fail
  go_loopw [3, 9] (fun v i wr => ∃ (k : Nat) (es : List Value), k ≤ rs.length ∧ i = .int .i64 k ∧ Hid (ownE (w.heap.size + 1) wr v es (memF n (rs.take k))) ∧ Ext (w.heap.size + 1) (w.alloc (Obj.cells #[.int .i64 (n : Int), .slice a rs.length cap] 26)) wr) (fun _ i _ => rs.length - (intOf i).toNat)
  case atStart => exact ⟨0, [], by omega, rfl, hid (ownE.nil _ _), Ext.base (by simp)⟩
  case round =>
    obtain ⟨k, es, hk, rfl, HO, hE⟩ := hrel
    have c0 := hE.1.cell (p := ⟨w.heap.size, 0, none⟩) (by simp)
    have hs := hE.2
    simp [go_sem] at c0
    by_cases hlt : k < rs.length
    · obtain ⟨b, o, rfl, hcell⟩ := Hc.out (by intro e; subst e; simp at hlt)
      have h1 := hcell k hlt
      have hb := World.block_lt_of_cell? w _ h1
      have h2 := hE.1.cell (p := ⟨b, o + k, none⟩) (by simp at hb ⊢; omega)
      have h3 : (w.alloc (Obj.cells #[.int .i64 (n : Int), .slice (some ⟨b, o, none⟩) rs.length cap] 26)).cell? ⟨b, o + k, none⟩ = some (.int .i64 rs[k]) := by
        rw [alloc_cell, if_neg (by simp at hb; omega)]; exact h1
      rw [h3] at h2
      have hrg := Hr.out _ (List.getElem_mem hlt)
      have hsn := memF_snoc (n := n) hlt
      obtain ⟨x, hx⟩ : ∃ x, x = rs[k] := ⟨_, rfl⟩
      rw [← hx] at h2 hrg hsn
      have HS := hid hsn
      have HE := hid hE
      have hpl : (memF n (rs.take k)).length = k := by rw [memF_len, List.length_take]; omega
      have hltz : (k : Int) < (rs.length : Int) := by omega
      clear hx hsn hcell h1 h3 hE
      go_wp2_with fail
      refine viaI (g := id) (i_with n x _ hn hrg.1 hrg.2) ?_
      intro t1 u1 z1 own1
      try simp at z1
      have HOw := HO.out.below (below_aft wr u1)
      obtain ⟨a1, c1, hsh, _, _⟩ := own1.rd
      subst hsh
      have hpl2 := hpl
      go_wp2_with (at_builtin; refine wpList_append_own _ rfl _ _ 37 rfl (w.heap.size + 1) 24 i1 (.slice none 0 0) 1 24 Try.underlying37 hj hy0 hy1 hy2 rfl (by decide) _ _ _ rfl (HOw.below ((Below.refl _ _).alloc (Nat.le_refl _) _)).2.1 ⟨_, 0, none⟩ 1 1 [_] rfl rfl one_new ?c2 ?c3 ?c4 ?c5 ?_)
      case c2 => first | exact own_one own1 | (intro u hu; simp at hu; subst hu; exact own_one own1)
      case c3 => first | (unfold maxLen; omega) | (rw [hpl2]; unfold maxLen; omega)
      case c4 => first | omega | (rw [hpl2]; omega)
      case c5 => first | omega | (simp; omega)
      intro v' w1 hown' hgrow _
      have HN : Hid (ownE (w.heap.size + 1) w1 v' (es ++ [.slice a1 (withF n x).length c1]) (memF n (rs.take (k + 1)))) := hid (by
        rw [HS.out]
        exact ownE.snoc (HOw.below ((Below.refl _ _).alloc (Nat.le_refl _) _)) ((own1.mono (by omega)).alloc _) (by first | exact hown' | (rw [hpl2]; exact hown')) hgrow)
      have HE1 : Hid (Ext (w.heap.size + 1) (w.alloc (Obj.cells #[.int .i64 (n : Int), .slice (some ⟨b, o, none⟩) rs.length cap] 26)) w1) := hid (Ext.grown ((HE.out.aft u1).alloc _) hgrow (ownE.row HO.out))
      clear hown' hgrow own1 HOw
      go_wp2_with fail
      go_roundw
      case rel => exact ⟨k + 1, es ++ [.slice a1 (withF n x).length c1], by omega, by go_num, HN, HE1.out⟩
      case measure => simp only [intOf]; omega
    · obtain rfl : k = rs.length := by omega
      rw [List.take_length] at HO
      have hltz : ¬ (rs.length : Int) < (rs.length : Int) := by omega
      have HE := hid hE
      clear hE
      go_wp2_with fail
      go_ret
      exact ⟨_, rfl, ⟨es, HO.out.mono (by omega)⟩, ((Below.refl _ w).alloc (Nat.le_refl _) _).trans (HE.out.1.mono (by omega))⟩
end Go.Proofs.Ytbkbcbanfnhjpaa
