/- The statement's readers. -/
import Derived.Test.YtdnfefkkbckmgaaGreatDoorTB7
namespace Go.Proofs.YtdnfefkkbckmgaaGreatDoor
open Go Go.RowKit

/-- The words' cells. -/
def wsV (ws : List (List UInt8)) : List Value := ws.map fun l => .string ⟨l.toArray⟩
/-- Where the splitting stands: the words laid, the place of the next one, the place looked at. -/
def splAt (c : UInt8) (S : List UInt8) (P : List (List UInt8)) (f k : Nat) : Prop :=
  f ≤ k ∧ ((k ≤ S.length ∧ splA c [] S = P ++ splA c ((S.take k).drop f) (S.drop k)) ∨ (k = S.length + 1 ∧ splA c [] S = P)) ∧ P.length ≤ k
theorem splAt.init (c : UInt8) (S : List UInt8) : splAt c S [] 0 0 := ⟨Nat.le_refl _, .inl ⟨by omega, by simp⟩, by simp⟩
theorem splAt.last {c : UInt8} {S : List UInt8} {P : List (List UInt8)} {f : Nat} (h : splAt c S P f S.length) : splAt c S (P ++ [(S.take S.length).drop f]) (S.length + 1) (S.length + 1) := by
  obtain ⟨h1, ⟨_, h2⟩ | ⟨h2, _⟩, h3⟩ := h
  · refine ⟨Nat.le_refl _, .inr ⟨rfl, ?_⟩, by simp; omega⟩
    rw [h2, List.drop_length, splA]
  · omega
theorem splAt.hit {c : UInt8} {S : List UInt8} {P : List (List UInt8)} {f k : Nat} (h : splAt c S P f k) (hk : k < S.length) (hc : S[k] = c) : splAt c S (P ++ [(S.take k).drop f]) (k + 1) (k + 1) := by
  obtain ⟨h1, ⟨_, h2⟩ | ⟨h2, _⟩, h3⟩ := h
  · refine ⟨Nat.le_refl _, .inl ⟨by omega, ?_⟩, by simp; omega⟩
    rw [h2, List.drop_eq_getElem_cons hk, hc, splA_hit, List.append_assoc, List.singleton_append]
    simp
  · omega
theorem splAt.on {c : UInt8} {S : List UInt8} {P : List (List UInt8)} {f k : Nat} (h : splAt c S P f k) (hk : k < S.length) (hc : S[k] ≠ c) : splAt c S P f (k + 1) := by
  obtain ⟨h1, ⟨_, h2⟩ | ⟨h2, _⟩, h3⟩ := h
  · refine ⟨by omega, .inl ⟨by omega, ?_⟩, by omega⟩
    rw [h2, List.drop_eq_getElem_cons hk, splA, if_neg hc]
    congr 2
    rw [List.take_succ_eq_append_getElem hk, List.drop_append_of_le_length (by simp; omega)]
  · omega
theorem ext_take (S : List UInt8) (f k : Nat) : (⟨S.toArray⟩ : ByteArray).extract f k = ⟨((S.take k).drop f).toArray⟩ := by
  apply ByteArray.ext
  rw [ByteArray.data_extract]
  simp [List.drop_take]
set_option maxRecDepth 20000 in
set_option maxHeartbeats 2000000 in
theorem s_split (S : List UInt8) (c : UInt8) (w : World) (hl : S.length ≤ 1048576) :
    Calls Tryz.prog 13 #[.string ⟨S.toArray⟩, .int .u8 ((c.toNat : Nat) : Int)] w fun e w' => ∃ r, e = .returned r ∧ rdT w' r (splA c [] S) ∧ Below w.heap.size w w' := by
  obtain ⟨i1, hj, hy0, hy1, hy2⟩ := info_parts infoT
  go_enter Tryz.func13, Tryz.ntmps13
  go_wp2_with fail
  go_loopw [5, 6, 7] (fun s f i wr => ∃ (k j : Nat) (P : List (List UInt8)) (uw : World), wr = aft w uw ∧ i = .int .i64 k ∧ f = .int .i64 j ∧ Hid (splAt c S P j k) ∧ Hid (wr.ownsRow w.heap.size 9 1 s P.length (wsV P))) (fun _ _ i _ => S.length + 1 - (intOf i).toNat)
  case atStart => exact ⟨0, 0, [], _, (aft_of (Below.alloc (Below.refl _ _) (Nat.le_refl _) _)).symm, rfl, rfl, hid (splAt.init c S), hid (World.ownsRow_made w #[] 0 (Nat.le_refl _) (by simp [maxLen]) (by simp))⟩
  case round =>
    obtain ⟨k, j, P, uw, rfl, rfl, rfl, HA, HO⟩ := hrel
    have zs := size_aft w uw
    obtain ⟨hjk, hkl, hpl⟩ := HA.out
    have hkl2 : k ≤ S.length + 1 := by omega
    clear hkl
    by_cases hlt : k ≤ S.length
    · have hlt2 : (k : Int) ≤ (S.length : Int) := by omega
      by_cases he : k = S.length
      · subst he
        have HN := hid HA.out.last
        go_wp2_with (at_builtin; refine wpList_append_own _ rfl _ _ 34 rfl w.heap.size 9 i1 (.string ⟨#[]⟩) 1 16 Tryz.underlying34 hj hy0 hy1 hy2 rfl (by decide) _ _ _ rfl (rawAllocT HO.out _) ⟨_, 0, none⟩ 1 1 [.string ((⟨S.toArray⟩ : ByteArray).extract j S.length)] rfl rfl ?c1 ?c2 ?c3 ?c4 ?c5 ?_)
        case c1 =>
          intro j u hj
          rcases j with _ | j
          · simp at hj
            subst hj
            simp [Addr.add]
          · simp at hj
        case c2 => first | rfl | (intro u hu; simp at hu; subst hu; rfl)
        case c3 => unfold maxLen; omega
        case c4 => omega
        case c5 => first | omega | (simp; omega)
        intro v' w1 hown' hgrow _
        obtain ⟨u', rfl⟩ := grown_aft (W := w) (by repeat (with_reducible first | exact Ext.refl _ | apply Ext.alloc | apply Ext.aft | apply Ext.drew | apply Ext.drewN | apply Ext.setCell | exact Nat.le_add_right _ _ | exact Nat.le_refl _ | (simp; done) | omega)) hgrow (fun k hk => (World.ownsRow.lt HO.out k hk).1)
        have HO1 : Hid ((aft w u').ownsRow w.heap.size 9 1 v' (P ++ [(S.take S.length).drop j]).length (wsV (P ++ [(S.take S.length).drop j]))) := hid (by
          rw [ext_take] at hown'
          simpa [wsV] using hown')
        clear hown' hgrow HO
        go_wp2_with fail
        go_roundw
        case rel => exact ⟨S.length + 1, S.length + 1, _, u', rfl, by go_num, by go_num, hid HN.out, HO1⟩
        case measure => simp only [intOf]; omega
      · have hk : k < S.length := by omega
        have hke : ((k : Int) == (S.length : Int)) = false := by simp; omega
        have hkb : k < (⟨S.toArray⟩ : ByteArray).size := by simpa [ByteArray.size] using hk
        have hget : (⟨S.toArray⟩ : ByteArray)[k] = S[k] := by simp [ByteArray.getElem_eq_getElem_data]
        by_cases hc : S[k] = c
        · have hbt : ((((⟨S.toArray⟩ : ByteArray)[k]).toNat : Int) == ((c.toNat : Nat) : Int)) = true := by rw [hget, hc]; simp
          have HN := hid (HA.out.hit hk hc)
          clear hget hc
          go_wp2_with (at_builtin; refine wpList_append_own _ rfl _ _ 34 rfl w.heap.size 9 i1 (.string ⟨#[]⟩) 1 16 Tryz.underlying34 hj hy0 hy1 hy2 rfl (by decide) _ _ _ rfl (rawAllocT HO.out _) ⟨_, 0, none⟩ 1 1 [.string ((⟨S.toArray⟩ : ByteArray).extract j k)] rfl rfl ?c1 ?c2 ?c3 ?c4 ?c5 ?_)
          case c1 =>
            intro j u hj
            rcases j with _ | j
            · simp at hj
              subst hj
              simp [Addr.add]
            · simp at hj
          case c2 => first | rfl | (intro u hu; simp at hu; subst hu; rfl)
          case c3 => unfold maxLen; omega
          case c4 => omega
          case c5 => first | omega | (simp; omega)
          intro v' w1 hown' hgrow _
          obtain ⟨u', rfl⟩ := grown_aft (W := w) (by repeat (with_reducible first | exact Ext.refl _ | apply Ext.alloc | apply Ext.aft | apply Ext.drew | apply Ext.drewN | apply Ext.setCell | exact Nat.le_add_right _ _ | exact Nat.le_refl _ | (simp; done) | omega)) hgrow (fun k hk => (World.ownsRow.lt HO.out k hk).1)
          have HO1 : Hid ((aft w u').ownsRow w.heap.size 9 1 v' (P ++ [(S.take k).drop j]).length (wsV (P ++ [(S.take k).drop j]))) := hid (by
            rw [ext_take] at hown'
            simpa [wsV] using hown')
          clear hown' hgrow HO
          go_wp2_with fail
          go_roundw
          case rel => exact ⟨k + 1, k + 1, _, u', rfl, by go_num, by go_num, hid HN.out, HO1⟩
          case measure => simp only [intOf]; omega
        · have hbt : ((((⟨S.toArray⟩ : ByteArray)[k]).toNat : Int) == ((c.toNat : Nat) : Int)) = false := by
            rw [hget]
            simp only [beq_eq_false_iff_ne]
            intro e
            exact hc (UInt8.toNat_inj.1 (by omega))
          have HN := hid (HA.out.on hk hc)
          clear hget hc
          go_wp2_with fail
          go_roundw
          case rel => exact ⟨k + 1, j, P, uw, rfl, by go_num, rfl, HN, HO⟩
          case measure => simp only [intOf]; omega
    · have hlt2 : ¬ (k : Int) ≤ (S.length : Int) := by omega
      have hfin : splA c [] S = P := by
        rcases HA.out.2.1 with ⟨h, _⟩ | ⟨_, h⟩
        · omega
        · exact h
      have ho := HO.out
      obtain ⟨g1, g2, g3⟩ := splA_len c S []
      rw [hfin] at g1 g2 g3
      have HF := hid hfin
      clear hfin HO
      go_wp2_with fail
      go_ret
      refine ⟨_, rfl, ?_, (by refine Ext.bel ?_; repeat (with_reducible first | exact Ext.refl _ | apply Ext.alloc | apply Ext.aft | apply Ext.drew | apply Ext.drewN | apply Ext.setCell | exact Nat.le_add_right _ _ | exact Nat.le_refl _ | (simp; done) | omega))⟩
      rw [HF.out]
      rcases ho.2 with ⟨e, hn⟩ | ⟨g, cp, cur, e, hg, hh, _⟩
      · omega
      · subst e
        have hgl : g < (aft w uw).heap.size := (Array.getElem?_eq_some_iff.1 hh).1
        refine ⟨g, cp, rfl, by omega, fun l hl' => by have := g3 l hl'; rw [List.length_nil] at this; omega, hgl, fun i hi => ?_⟩
        have hcl := ho.cellAt i (by omega)
        refine hcl.trans ?_
        simp [wsV, List.getElem?_eq_getElem hi]
end Go.Proofs.YtdnfefkkbckmgaaGreatDoor
