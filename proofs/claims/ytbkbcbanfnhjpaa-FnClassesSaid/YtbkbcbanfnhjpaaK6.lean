/- Flags: slices of truth values. -/
import Derived.Test.YtbkbcbanfnhjpaaK5
namespace Go.Proofs.Ytbkbcbanfnhjpaa
open Go Go.RowKit

theorem infoB : (Try.prog.info? 4).map (fun i => (i.zero, i.size, i.bytes)) = some (some (.bool false), 1, 1) := by kernel_rfl
def vB (fs : List Bool) : List Value := fs.map Value.bool
theorem vB_len (fs : List Bool) : (vB fs).length = fs.length := by simp [vB]
/-- v owns a row of just these truth values. -/
def ownF (B : Nat) (w : World) (v : Value) (fs : List Bool) : Prop := w.ownsRow B 4 1 v fs.length (vB fs)
theorem ownF.kept {B : Nat} {w w' : World} {v : Value} {fs : List Bool} (h : ownF B w v fs) (hb : ∀ k, k < w.heap.size → v.ownBlock = some k → w'.heap[k]? = w.heap[k]?) : ownF B w' v fs := owns_kept h hb
theorem ownF.below {B : Nat} {w w' : World} {v : Value} {fs : List Bool} (h : ownF B w v fs) (hb : Below w.heap.size w w') : ownF B w' v fs := h.kept fun k hk _ => hb.block k hk
theorem ownF.mono {B B' : Nat} {w : World} {v : Value} {fs : List Bool} (h : ownF B w v fs) (hB : B' ≤ B) : ownF B' w v fs := by
  refine ⟨h.1, ?_⟩
  rcases h.2 with hn | ⟨g, cap, cur, rfl, hg, r⟩
  · exact .inl hn
  · exact .inr ⟨g, cap, cur, rfl, Nat.le_trans hB hg, r⟩
theorem ownF.shape {B : Nat} {w : World} {v : Value} {fs : List Bool} (h : ownF B w v fs) (hne : 0 < fs.length) : ∃ g cap, v = .slice (some ⟨g, 0, none⟩) fs.length cap ∧ B ≤ g ∧ g < w.heap.size := by
  rcases h.2 with ⟨e, h1⟩ | ⟨g, cap, cur, e, hb, hh, h1, h2, _⟩
  · omega
  · exact ⟨g, cap, e, hb, (Array.getElem?_eq_some_iff.1 hh).1⟩
theorem ownF.cell {B g cap n : Nat} {w : World} {fs : List Bool} (h : ownF B w (.slice (some ⟨g, 0, none⟩) n cap) fs) {q : Nat} (hq : q < fs.length) : w.cell? ⟨g, q, none⟩ = some (.bool (fs.getD q false)) := by
  have hn : n = fs.length := by
    rcases h.2 with ⟨e, h1⟩ | ⟨g', c, cur, e, _⟩
    · cases e
    · cases e; rfl
  subst hn
  rw [World.ownsRow.cellAt h q (by omega)]
  simp [vB, hq, List.getD]
theorem flagsOf_at {F : Nat} {xs : List Int} {q : Nat} (h : q < F) : (flagsOf F xs).getD q false = xs.contains (q : Int) := by
  rw [List.getD_eq_getElem?_getD, flagsOf_get h]; rfl
theorem vB_no (n : Nat) : (madeCells #[Value.bool false] n).toList = vB (List.replicate n false) := by
  rw [toList_madeCells_one]; simp [vB]
theorem flags_step {F : Nat} {xs : List Int} {q : Nat} (h : q < F) : (vB (flagsOf F xs)).set q (.bool true) = vB (flagsOf F (xs ++ [(q : Int)])) := by
  rw [← flagsOf_set h]; simp [vB, List.map_set]

set_option maxRecDepth 20000 in
set_option maxHeartbeats 4000000 in
theorem s_flags (n : Nat) (r : Value) (rs : List Int) (w : World) (h : rdI w r rs) (hn : n ≤ 6) (hr : ∀ x ∈ rs, 0 ≤ x ∧ x < (facN n : Int)) :
    Calls Try.prog 116 #[.int .i64 n, r] w fun e w' => ∃ v, e = .returned v ∧ ownF w.heap.size w' v (flagsOf (facN n) rs) ∧ Below w.heap.size w w' := by
  obtain ⟨i0, hi, hz0, hz1, hz2⟩ := info_parts infoB
  obtain ⟨a, cap, rfl, hm, hc⟩ := h
  unfold maxLen at hm
  have Hc := hid hc
  have Hr := hid hr
  have hf := facN_pos n
  have hf7 := facN_le hn
  obtain ⟨F, hF⟩ : ∃ F, F = facN n := ⟨_, rfl⟩
  have HF := hid hF
  rw [← hF] at hf hf7 hr ⊢
  clear hc hr hF
  go_enter Try.func116, Try.ntmps116
  go_wp2_with (first | (go_at_call 84; refine pur (s_fact n _ hn) ?_; rw [← HF.out]) | (at_make; refine wpList_make_full _ rfl _ _ 80 rfl w.heap.size 4 i0 (.bool false) 1 Try.underlying80 hi hz0 hz1 _ _ _ _ F rfl rfl rfl rfl (by rw [hz2]; omega) (by unfold maxLen; omega) (Nat.le_refl _) ?_))
  intro w1 hown hgr
  have hown : w1.ownsRow w.heap.size 4 1 (.slice (some ⟨w.heap.size, 0, none⟩) F F) F (vB (flagsOf F [])) := by rw [flagsOf_nil, ← vB_no]; exact hown
  have HB : Hid (Below w.heap.size w w1) := hid (Below.grown (Below.refl _ _) hgr (Nat.le_refl _) (fun k hk => by cases hk))
  have HO := hid hown
  clear hown hgr
  go_wp2_with fail
  go_loopw [6] (fun i wr => ∃ k : Nat, k ≤ rs.length ∧ i = .int .i64 k ∧ Hid (wr.ownsRow w.heap.size 4 1 (.slice (some ⟨w.heap.size, 0, none⟩) F F) F (vB (flagsOf F (rs.take k)))) ∧ Hid (Below w.heap.size w wr)) (fun i _ => rs.length - (intOf i).toNat)
  case atStart => exact ⟨0, by omega, rfl, HO, HB⟩
  case round =>
    obtain ⟨k, hk, rfl, HO, HB⟩ := hrel
    by_cases hlt : k < rs.length
    · obtain ⟨b, o, rfl, hcell⟩ := Hc.out (by intro e; subst e; simp at hlt)
      have h1 := hcell k hlt
      have h2 := HB.out.cell (p := ⟨b, o + k, none⟩) (World.block_lt_of_cell? w _ h1)
      rw [h1] at h2
      have hrg := Hr.out _ (List.getElem_mem hlt)
      rw [← HF.out] at hrg
      have htk := take_snocI rs k hlt
      obtain ⟨q, hq⟩ : ∃ q : Nat, (q : Int) = rs[k] := ⟨rs[k].toNat, by omega⟩
      rw [← hq] at h2 hrg htk
      have hqF : q < F := by omega
      have hcl := HO.out.cellAt q (by omega)
      have hlen : (vB (flagsOf F (rs.take k))).length = F := by rw [vB_len, flagsOf_len]
      obtain ⟨y, hy⟩ : ∃ y, (vB (flagsOf F (rs.take k)))[q]? = some y := ⟨_, List.getElem?_eq_getElem (by omega)⟩
      rw [hy] at hcl
      have hfr := HO.out.frozenAt q
      have hst := HO.out.stored q (.bool true)
      rw [flags_step hqF, ← htk] at hst
      have HS := hid hst
      have hkz : (k : Int) < (rs.length : Int) := by omega
      clear hst hy hlen hq hcell h1 htk
      go_wp2_with fail
      go_roundw
      case rel => exact ⟨k + 1, by omega, by go_num, hid HS.out.1, hid (Below.grown HB.out HS.out.2 HB.out.size (fun k hk => by injection hk with hk; omega))⟩
      case measure => simp only [intOf]; omega
    · obtain rfl : k = rs.length := by omega
      rw [List.take_length] at HO
      have hkz : ¬ (rs.length : Int) < (rs.length : Int) := by omega
      go_wp2_with fail
      go_ret
      exact ⟨_, rfl, by unfold ownF; rw [flagsOf_len]; exact HO.out, HB.out⟩
/-- A call that hands back something new. -/
theorem viaX {P : Program} {f : FuncId} {args : Array Value} {w : World} {Φ : World → Value → Prop} {g : Value → Value} {R : Ending → World → Prop}
    (h : Calls P f args w fun e w' => ∃ v, e = .returned (g v) ∧ Φ w' v ∧ Below w.heap.size w w')
    (hR : ∀ v u, w.heap.size ≤ (aft w u).heap.size → Φ (aft w u) v → R (.returned (g v)) (aft w u)) : Calls P f args w R :=
  h.mono fun e w' ⟨v, he, ho, hb⟩ => by subst he; obtain ⟨u, rfl⟩ := aft_ex hb; exact hR v u (size_aft w u) ho
end Go.Proofs.Ytbkbcbanfnhjpaa
