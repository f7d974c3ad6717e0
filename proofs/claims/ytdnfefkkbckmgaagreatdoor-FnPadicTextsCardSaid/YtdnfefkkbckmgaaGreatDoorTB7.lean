/- readCommas. -/
import Derived.Test.YtdnfefkkbckmgaaGreatDoorTB6
namespace Go.Proofs.YtdnfefkkbckmgaaGreatDoor
open Go Go.RowKit

def numsE (S : List UInt8) (xs : List Int) : Prop := ∀ ds : List Int, ds ≠ [] → (∀ d ∈ ds, 0 ≤ d ∧ d < 100) → S = joinL ds → xs = ds
/-- What is read so far. -/
def soFar (ws : List (List UInt8)) (k : Nat) (xs : List Int) : Prop := xs.length = k ∧ ∀ ds : List Int, (∀ d ∈ ds, 0 ≤ d ∧ d < 100) → ws = ds.map Lib.itoa → xs = ds.take k
theorem soFar.nil (ws : List (List UInt8)) : soFar ws 0 [] := ⟨rfl, fun ds _ _ => by simp⟩
theorem soFar.snoc {ws : List (List UInt8)} {k : Nat} {xs : List Int} {v : Int} {ok : Bool} (h : soFar ws k xs) (hk : k < ws.length) (hn : numE ws[k] v ok) : soFar ws (k + 1) (xs ++ [v]) := by
  refine ⟨by simp [h.1], fun ds hd e => ?_⟩
  have hlen : ws.length = ds.length := by rw [e]; simp
  have hx := h.2 ds hd e
  subst e
  have hd2 := hd ds[k] (List.getElem_mem (by omega))
  have hv := (hn ds[k] (by omega) (by simp)).1
  rw [List.take_succ_eq_append_getElem (show k < ds.length by omega), hx, hv]
theorem soFar.bad {ws : List (List UInt8)} {k : Nat} {v : Int} {S : List UInt8} (hw : ws = splA 44 [] S) (hk : k < ws.length) (hn : numE ws[k] v false) : numsE S [] := by
  intro ds h0 hd e
  have e2 : ws = ds.map Lib.itoa := by rw [hw, e]; exact (spl_join ds h0 hd).1
  subst e2
  simp at hk
  have hd2 := hd ds[k] (List.getElem_mem hk)
  have := (hn ds[k] (by omega) (by simp)).2
  simp at this
theorem soFar.all {ws : List (List UInt8)} {xs : List Int} {S : List UInt8} (hw : ws = splA 44 [] S) (h : soFar ws ws.length xs) : numsE S xs := by
  intro ds h0 hd e
  have e2 : ws = ds.map Lib.itoa := by rw [hw, e]; exact (spl_join ds h0 hd).1
  have := h.2 ds hd e2
  rw [this, e2]
  simp
theorem rdI_nil (w : World) : rdI w (.slice none 0 0) [] := (ownR.nil w.heap.size w).rd

set_option maxRecDepth 20000 in
set_option maxHeartbeats 2000000 in
theorem i_readCommas (S : List UInt8) (w : World) (hl : S.length ≤ 1048576) (h : libB w.heap.size w) :
    Calls Tryz.prog 21 #[.string ⟨S.toArray⟩] w fun e w' => ∃ r xs ok, e = .returned (.tuple #[r, .bool ok]) ∧ rdI w' r xs ∧ numsE S xs ∧ Below w.heap.size w w' := by
  obtain ⟨i0, hi, hz0, hz1, hz2⟩ := info_parts infoI
  have HP := hid (k_split S 44 w hl (h w (Below.refl _ _)).2.1)
  have HL := hid h
  clear h
  go_enter Tryz.func21, Tryz.ntmps21
  go_wp2_with fail
  refine HP.out.mono ?_
  rintro e w1 ⟨r, rfl, hr, hb⟩
  obtain ⟨u, rfl⟩ := aft_ex hb
  obtain ⟨ws, hws⟩ : ∃ ws, ws = splA 44 [] S := ⟨_, rfl⟩
  rw [← hws] at hr
  have HW := hid hws
  have E0 : Hid (Ext w.heap.size w (aft w u)) := hid ((Ext.refl w).aft _)
  obtain ⟨X, hX⟩ : ∃ X, X = aft w u := ⟨_, rfl⟩
  rw [← hX] at hr E0 ⊢
  have HL2 := hid (HL.out.ext E0.out)
  have HR := hid hr
  obtain ⟨b, cap, rfl, h1, h2, h3, h4⟩ := hr
  have HB := hid h2
  clear hb hws h4 h2 hX
  go_wp2_with fail
  go_loopw [4, 12] (fun r i wr => ∃ (k : Nat) (uu : World) (xs : List Int), wr = aft X uu ∧ k ≤ ws.length ∧ i = .int .i64 k ∧ ownR X.heap.size wr r xs ∧ Hid (soFar ws k xs)) (fun _ i _ => ws.length - (intOf i).toNat)
  case atStart => exact ⟨0, X, [], (aft_of (Below.refl _ _)).symm, by omega, rfl, ownR.nil _ _, hid (soFar.nil ws)⟩
  case round =>
    obtain ⟨k, uu, xs, rfl, hk, rfl, hown, HS⟩ := hrel
    have zs := size_aft X uu
    obtain ⟨b', cap', e1, _, _, hbl, h5⟩ := HR.out.aft uu
    cases e1
    by_cases hlt : k < ws.length
    · have hltz : (k : Int) < (ws.length : Int) := by omega
      have hcell := h5 k hlt
      have hle := HB.out ws[k] (List.getElem_mem hlt)
      have HSN := fun v ok => HS.out.snoc (v := v) (ok := ok) hlt
      have HBN := fun v => soFar.bad (v := v) HW.out hlt
      have hxl := HS.out.1
      obtain ⟨x, hx⟩ : ∃ x, x = ws[k] := ⟨_, rfl⟩
      rw [← hx] at hcell hle
      simp only [← hx] at HSN HBN
      have HSN := hid HSN
      have HBN := hid HBN
      have HXL := hid hxl
      have HDC := hid (i_readDecimal x (aft X uu) hle (HL2.out.ext ((Ext.refl X).aft _)))
      clear hx h5 hxl
      go_wp2_with fail
      refine HDC.out.mono ?_
      rintro e w2 ⟨v, ok, rfl, hn, hb2⟩
      obtain ⟨u2, rfl⟩ := aft_ex hb2
      have z2 := size_aft (aft X uu) u2
      have HN := hid hn
      clear hn hb2
      cases ok
      · go_wp2_with fail
        go_ret2
        exact ⟨_, [], _, rfl, rdI_nil _, HBN.out v HN.out, Ext.bel (by repeat (with_reducible first | exact E0.out | apply Ext.aft | apply Ext.alloc | apply Ext.drew))⟩
      · have hown2 := hown.aft u2
        go_wp2_with (at_builtin; refine wpList_append_own _ rfl _ _ 38 rfl (X.heap.size) 2 i0 (.int .i64 0) 1 8 Tryz.underlying38 hi hz0 hz1 hz2 rfl (by decide) _ _ _ rfl (hown2.alloc _) ⟨_, 0, none⟩ 1 1 [.int .i64 (v)] rfl rfl ?c1 ?c2 ?c3 ?c4 ?c5 ?_)
        case c1 => exact cell_one_new _ _ _
        case c2 => intro u hu; simp at hu; subst hu; rfl
        case c3 => rw [HXL.out]; unfold maxLen; omega
        case c4 => rw [HXL.out]; omega
        case c5 => first | omega | (simp; omega)
        intro v' w1 hown' hgrow _
        obtain ⟨u', rfl⟩ := grown_aft (W := X) (by repeat (with_reducible first | exact Ext.refl _ | apply Ext.alloc | apply Ext.aft | apply Ext.drew | apply Ext.drewN | apply Ext.setCell | exact Nat.le_add_right _ _ | exact Nat.le_refl _ | (simp; done) | omega)) hgrow (own_row_ge hown)
        have HO := hid hown'
        clear hown' hgrow hown hown2
        go_wp2_with fail
        go_roundw
        case rel => exact ⟨k + 1, u', xs ++ [v], rfl, by omega, by go_num, ownR.snoc HO.out, hid (HSN.out v true HN.out)⟩
        case measure => simp only [intOf]; omega
    · have e2 : k = ws.length := by omega
      subst e2
      have HA := hid (soFar.all HW.out HS.out)
      go_wp2_with fail
      go_ret2
      exact ⟨_, xs, _, rfl, hown.rd, HA.out, Ext.bel (by repeat (with_reducible first | exact E0.out | apply Ext.aft | apply Ext.alloc | apply Ext.drew))⟩
end Go.Proofs.YtdnfefkkbckmgaaGreatDoor
