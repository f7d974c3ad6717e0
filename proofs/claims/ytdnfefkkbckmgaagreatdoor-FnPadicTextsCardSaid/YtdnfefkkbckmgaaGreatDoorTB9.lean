/- l01Value, l01Signed, l01Numbers. -/
import Derived.Test.YtdnfefkkbckmgaaGreatDoorTB8
namespace Go.Proofs.YtdnfefkkbckmgaaGreatDoor
open Go Go.RowKit

def numP2 (S : List UInt8) (v : Int) (ok : Bool) : Prop := ∀ m : Int, 0 ≤ m ∧ m < 100 → S = Lib.itoa m → v = m ∧ ok = true
def valP (S : List UInt8) (w : World) (e : Ending) (w' : World) : Prop := ∃ v ok, e = .returned (.tuple #[.int .i64 v, .bool ok]) ∧ (0 ≤ v ∧ v < 10000000000000) ∧ numP2 S v ok ∧ Below w.heap.size w w'
theorem pow_ten (k : Nat) (h : k ≤ 13) : (10 : Int) ^ k ≤ 10000000000000 := by
  have : ∀ j : Fin 14, (10 : Int) ^ (j : Nat) ≤ 10000000000000 := by decide
  exact this ⟨k, by omega⟩
set_option maxRecDepth 20000 in
set_option maxHeartbeats 2000000 in
theorem s_value (S : List UInt8) (w : World) (hl : S.length ≤ 2000000) :
    Calls Tryz.prog 14 #[.string ⟨S.toArray⟩] w (valP S w) := by
  have hz : (⟨S.toArray⟩ : ByteArray).size = S.length := by simp [ByteArray.size]
  have HZ := hid hz
  have hno : S.length < 1 ∨ 13 < S.length → ∀ v ok, numP2 S v ok := by
    rintro h v ok m hm e
    have := num_facts (m := m) (by omega)
    rw [← e] at this
    omega
  by_cases hlen : S.length < 1
  · have HN := hid (hno (.inl hlen))
    have hb : (S.length : Int) < 1 := by omega
    clear hno hz
    go_enter Tryz.func14, Tryz.ntmps14
    go_wp2_with fail
    go_ret2
    exact ⟨_, _, rfl, by omega, HN.out _ _, (by refine Ext.bel ?_; repeat (with_reducible first | exact Ext.refl _ | apply Ext.alloc | apply Ext.aft | apply Ext.drew | apply Ext.drewN | apply Ext.setCell | exact Nat.le_add_right _ _ | exact Nat.le_refl _ | (simp; done) | omega))⟩
  have hb : ¬ (S.length : Int) < 1 := by omega
  by_cases hlen2 : 13 < S.length
  · have HN := hid (hno (.inr hlen2))
    have hb2 : (13 : Int) < (S.length : Int) := by omega
    clear hno hz
    go_enter Tryz.func14, Tryz.ntmps14
    go_wp2_with fail
    go_ret2
    exact ⟨_, _, rfl, by omega, HN.out _ _, (by refine Ext.bel ?_; repeat (with_reducible first | exact Ext.refl _ | apply Ext.alloc | apply Ext.aft | apply Ext.drew | apply Ext.drewN | apply Ext.setCell | exact Nat.le_add_right _ _ | exact Nat.le_refl _ | (simp; done) | omega))⟩
  have hb2 : ¬ (13 : Int) < (S.length : Int) := by omega
  clear hno hz
  go_enter Tryz.func14, Tryz.ntmps14
  go_wp2_with fail
  go_loop [4, 5] (fun n i => ∃ (k : Nat) (a : Int), i = .int .i64 k ∧ n = .int .i64 a ∧ k ≤ S.length ∧ (0 ≤ a ∧ a < 10 ^ k) ∧ Hid (valL 0 S = valL a (S.drop k))) (fun _ i => S.length - (intOf i).toNat)
  case atStart => exact ⟨0, 0, rfl, rfl, by omega, by omega, hid (by simp)⟩
  case round =>
    obtain ⟨k, a, rfl, rfl, hk, ha, HV⟩ := hrel
    by_cases hlt : k < S.length
    · have hltz : (k : Int) < (S.length : Int) := by omega
      have hkb : k < (⟨S.toArray⟩ : ByteArray).size := by rw [HZ.out]; exact hlt
      have hget : (⟨S.toArray⟩ : ByteArray)[k] = S[k] := by simp [ByteArray.getElem_eq_getElem_data]
      have hdrop := List.drop_eq_getElem_cons hlt
      have hpw := pow_ten k (by omega)
      have hps : (10 : Int) ^ (k + 1) = 10 * 10 ^ k := by rw [Int.pow_succ]; omega
      obtain ⟨x, hx⟩ : ∃ x, x = S[k] := ⟨_, rfl⟩
      rw [← hx] at hget hdrop
      have HG := hid hget
      have hx256 := UInt8.toNat_lt x
      have hg2 : ((((⟨S.toArray⟩ : ByteArray)[k]).toNat : Nat) : Int) = (x.toNat : Int) := by rw [hget]
      have hbad : ¬ (48 ≤ x.toNat ∧ x.toNat ≤ 57) → ∀ v ok, numP2 S v ok := by
        intro h v ok m hm e
        have h1 := ((num_facts (m := m) (by omega)).2.2.2.2.2.2.1 hm.1).1
        rw [← e, HV.out, hdrop, valL, if_neg h] at h1
        simp at h1
      have hgood : 48 ≤ x.toNat ∧ x.toNat ≤ 57 → valL 0 S = valL (10 * a + ((x.toNat : Int) - 48)) (S.drop (k + 1)) := by
        intro h
        rw [HV.out, hdrop, valL, if_pos h]
      have HB := hid hbad
      have HGD := hid hgood
      clear hbad hgood hget hdrop hx HV
      by_cases h48 : (x.toNat : Int) < 48
      · go_wp2_with fail
        go_ret2
        exact ⟨_, _, rfl, by omega, HB.out (by omega) _ _, (by refine Ext.bel ?_; repeat (with_reducible first | exact Ext.refl _ | apply Ext.alloc | apply Ext.aft | apply Ext.drew | apply Ext.drewN | apply Ext.setCell | exact Nat.le_add_right _ _ | exact Nat.le_refl _ | (simp; done) | omega))⟩
      · by_cases h57 : 57 < (x.toNat : Int)
        · go_wp2_with fail
          go_ret2
          exact ⟨_, _, rfl, by omega, HB.out (by omega) _ _, (by refine Ext.bel ?_; repeat (with_reducible first | exact Ext.refl _ | apply Ext.alloc | apply Ext.aft | apply Ext.drew | apply Ext.drewN | apply Ext.setCell | exact Nat.le_add_right _ _ | exact Nat.le_refl _ | (simp; done) | omega))⟩
        · go_wp2_with fail
          go_round
          case rel => exact ⟨k + 1, 10 * a + ((x.toNat : Int) - 48), by go_num, rfl, by omega, by omega, hid (HGD.out (by omega))⟩
          case measure => simp only [intOf]; omega
    · obtain rfl : k = S.length := by omega
      have hltz : ¬ (S.length : Int) < (S.length : Int) := by omega
      have hpw := pow_ten S.length (by omega)
      obtain ⟨q, rfl⟩ : ∃ q : Nat, a = (q : Int) := ⟨a.toNat, by omega⟩
      have hv : valL 0 S = some (q : Int) := by rw [HV.out, List.drop_length, valL]
      have HVS := hid hv
      have HD := hid (s_decG q w (by omega))
      obtain ⟨D, hD⟩ : ∃ D, D = Lib.decDigits q := ⟨_, rfl⟩
      rw [← hD] at HD
      have HDE := hid hD
      clear hD hv HV
      go_wp2_with fail
      refine via HD.out ?_
      intro u2 z2
      go_wp2_with fail
      go_ret2
      refine ⟨_, _, rfl, by omega, fun m hm e => ?_, (by refine Ext.bel ?_; repeat (with_reducible first | exact Ext.refl _ | apply Ext.alloc | apply Ext.aft | apply Ext.drew | apply Ext.drewN | apply Ext.setCell | exact Nat.le_add_right _ _ | exact Nat.le_refl _ | (simp; done) | omega))⟩
      have h1 := ((num_facts (m := m) (by omega)).2.2.2.2.2.2.1 hm.1).1
      rw [← e, HVS.out] at h1
      have h2 : (q : Int) = m := by simpa using h1
      refine ⟨h2, ?_⟩
      rw [HDE.out, e, ← h2, itoa_pos (by omega), Int.toNat_natCast]
      simp
def signP (S : List UInt8) (w : World) (e : Ending) (w' : World) : Prop := ∃ v ok, e = .returned (.tuple #[.int .i64 v, .bool ok]) ∧ numE S v ok ∧ Below w.heap.size w w'
set_option maxHeartbeats 2000000 in
theorem s_signed (S : List UInt8) (w : World) (hl : S.length ≤ 2000000) :
    Calls Tryz.prog 15 #[.string ⟨S.toArray⟩] w (signP S w) := by
  have hz : (⟨S.toArray⟩ : ByteArray).size = S.length := by simp [ByteArray.size]
  have HZ := hid hz
  rcases S with _ | ⟨c, r⟩
  · have HV := hid (s_value [] w hl)
    clear hz
    go_enter Tryz.func15, Tryz.ntmps15
    go_wp2_with fail
    refine HV.out.mono ?_
    rintro e w1 ⟨v, ok, rfl, hv, hn, hb⟩
    obtain ⟨u, rfl⟩ := aft_ex hb
    have HN := hid hn
    clear hn hb
    go_wp2_with fail
    go_ret2
    refine ⟨_, _, rfl, fun m hm e => ?_, (by refine Ext.bel ?_; repeat (with_reducible first | exact Ext.refl _ | apply Ext.alloc | apply Ext.aft | apply Ext.drew | apply Ext.drewN | apply Ext.setCell | exact Nat.le_add_right _ _ | exact Nat.le_refl _ | (simp; done) | omega))⟩
    have := (num_facts hm).2.2.2.2.1
    rw [← e] at this
    exact absurd this (by decide)
  · obtain ⟨S, hS⟩ : ∃ S, S = c :: r := ⟨_, rfl⟩
    rw [← hS] at hl hz HZ ⊢
    have h0 : 0 < (⟨S.toArray⟩ : ByteArray).size := by rw [hz, hS]; simp
    have hget : (⟨S.toArray⟩ : ByteArray)[0]'h0 = c := by simp [ByteArray.getElem_eq_getElem_data, hS]
    have hg2 : ((((⟨S.toArray⟩ : ByteArray)[0]'h0).toNat : Nat) : Int) = (c.toNat : Int) := by rw [hget]
    have hposn : 0 < S.length := by rw [hS]; simp
    have hpos : (0 : Int) < (S.length : Int) := by omega
    have HS := hid hS
    have hext : (⟨S.toArray⟩ : ByteArray).extract 1 S.length = ⟨r.toArray⟩ := by rw [ext_take, hS]; simp
    have HX := hid hext
    have hrl : r.length ≤ 2000000 := by rw [hS] at hl; simp at hl; omega
    by_cases hc : c = 45
    · have HV := hid (s_value r w hrl)
      have hcb : ((c.toNat : Int) == 45) = true := by rw [hc]; rfl
      have HCE := hid hc
      have h1 : (1 : Int) ≤ (S.length : Int) := by omega
      clear hS hget hext hc hz
      go_enter Tryz.func15, Tryz.ntmps15
      go_wp2_with fail
      rw [HX.out]
      refine HV.out.mono ?_
      rintro e w1 ⟨v, ok, rfl, hv, hn, hb⟩
      obtain ⟨u, rfl⟩ := aft_ex hb
      have HN := hid hn
      clear hn hb
      have key : ∀ m : Int, -100 < m ∧ m < 100 → S = Lib.itoa m → v = -m ∧ ok = true ∧ 0 < v := by
        intro m hm e
        by_cases h0 : 0 ≤ m
        · have h2 := ((num_facts hm).2.2.2.2.2.2.1 h0).2
          rw [← e, HS.out, HCE.out] at h2
          exact absurd rfl h2
        · have h2 := itoa_neg (v := m) (by omega)
          rw [← e, HS.out] at h2
          have h3 : r = Lib.itoa (-m) := by
            rw [itoa_pos (by omega)]
            simpa using (List.cons.inj h2).2
          obtain ⟨h4, h5⟩ := HN.out (-m) (by omega) h3
          exact ⟨h4, h5, by omega⟩
      have HK := hid key
      clear key
      cases ok
      · go_wp2_with fail
        go_ret2
        exact ⟨_, _, rfl, fun m hm e => (by have := (HK.out m hm e).2.1; simp at this), (by refine Ext.bel ?_; repeat (with_reducible first | exact Ext.refl _ | apply Ext.alloc | apply Ext.aft | apply Ext.drew | apply Ext.drewN | apply Ext.setCell | exact Nat.le_add_right _ _ | exact Nat.le_refl _ | (simp; done) | omega))⟩
      · by_cases hp : 0 < v
        · go_wp2_with fail
          go_ret2
          exact ⟨_, _, rfl, fun m hm e => ⟨by have := (HK.out m hm e).1; omega, by first | rfl | simp [hp]⟩, (by refine Ext.bel ?_; repeat (with_reducible first | exact Ext.refl _ | apply Ext.alloc | apply Ext.aft | apply Ext.drew | apply Ext.drewN | apply Ext.setCell | exact Nat.le_add_right _ _ | exact Nat.le_refl _ | (simp; done) | omega))⟩
        · go_wp2_with fail
          go_ret2
          exact ⟨_, _, rfl, fun m hm e => absurd (HK.out m hm e).2.2 (by omega), (by refine Ext.bel ?_; repeat (with_reducible first | exact Ext.refl _ | apply Ext.alloc | apply Ext.aft | apply Ext.drew | apply Ext.drewN | apply Ext.setCell | exact Nat.le_add_right _ _ | exact Nat.le_refl _ | (simp; done) | omega))⟩
    · have HV := hid (s_value S w hl)
      have hcb : ((c.toNat : Int) == 45) = false := by
        simp only [beq_eq_false_iff_ne]
        intro e
        exact hc (UInt8.toNat_inj.1 (by rw [show (45 : UInt8).toNat = 45 from rfl]; omega))
      have HCE := hid hc
      clear hS hget hext hc hz
      go_enter Tryz.func15, Tryz.ntmps15
      go_wp2_with fail
      refine HV.out.mono ?_
      rintro e w1 ⟨v, ok, rfl, hv, hn, hb⟩
      obtain ⟨u, rfl⟩ := aft_ex hb
      have HN := hid hn
      clear hn hb
      go_wp2_with fail
      go_ret2
      refine ⟨_, _, rfl, fun m hm e => ?_, (by refine Ext.bel ?_; repeat (with_reducible first | exact Ext.refl _ | apply Ext.alloc | apply Ext.aft | apply Ext.drew | apply Ext.drewN | apply Ext.setCell | exact Nat.le_add_right _ _ | exact Nat.le_refl _ | (simp; done) | omega))⟩
      by_cases h0 : 0 ≤ m
      · exact HN.out m (by omega) e
      · have h2 := ((num_facts hm).2.2.2.2.2.2.2 h0).2
        rw [← e, HS.out] at h2
        exact absurd (by simpa using h2) HCE.out
def numsP (ws : List (List UInt8)) (w : World) (e : Ending) (w' : World) : Prop := ∃ r xs ok, e = .returned (.tuple #[r, .bool ok]) ∧ rdI w' r xs ∧ (∀ S, ws = splA 44 [] S → numsE S xs) ∧ Below w.heap.size w w'
set_option maxRecDepth 20000 in
set_option maxHeartbeats 2000000 in
theorem s_numbers (rv : Value) (ws : List (List UInt8)) (w : World) (hr : rdT w rv ws) :
    Calls Tryz.prog 16 #[rv] w (numsP ws w) := by
  obtain ⟨i0, hi, hz0, hz1, hz2⟩ := info_parts infoI
  have HR0 := hid hr
  obtain ⟨b, cap, rfl, h1, h2, h3, h4⟩ := hr
  have HB := hid h2
  clear h4 h2
  go_enter Tryz.func16, Tryz.ntmps16
  go_wp2_with fail
  have E0 : Hid (Ext w.heap.size w (w.alloc (Obj.cells #[] 2))) := hid ((Ext.refl w).alloc _)
  have HOWN := hid (own_empty w)
  obtain ⟨X, hX⟩ : ∃ X, X = w.alloc (Obj.cells #[] 2) := ⟨_, rfl⟩
  have HR := hid (HR0.out.alloc (Obj.cells #[] 2))
  have hsz : X.heap.size = w.heap.size + 1 := by rw [hX]; simp
  rw [← hX] at E0 HR HOWN ⊢
  clear hX
  go_loopw [4, 5] (fun r i wr => ∃ (k : Nat) (uu : World) (xs : List Int), wr = aft w uu ∧ k ≤ ws.length ∧ i = .int .i64 k ∧ ownR w.heap.size wr r xs ∧ Hid (soFar ws k xs)) (fun _ i _ => ws.length - (intOf i).toNat)
  case atStart => exact ⟨0, X, [], (aft_of E0.out.1).symm, by omega, rfl, HOWN.out, hid (soFar.nil ws)⟩
  case round =>
    obtain ⟨k, uu, xs, rfl, hk, rfl, hown, HS⟩ := hrel
    have zs := size_aft w uu
    obtain ⟨b', cap', e1, _, _, hbl, h5⟩ := HR0.out.aft uu
    cases e1
    by_cases hlt : k < ws.length
    · have hltz : (k : Int) < (ws.length : Int) := by omega
      have hcell := h5 k hlt
      have hle := HB.out ws[k] (List.getElem_mem hlt)
      have HSN := fun v ok => HS.out.snoc (v := v) (ok := ok) hlt
      have HBN := fun v (S : List UInt8) (hs : ws = splA 44 [] S) => soFar.bad (v := v) hs hlt
      have hxl := HS.out.1
      obtain ⟨x, hx⟩ : ∃ x, x = ws[k] := ⟨_, rfl⟩
      rw [← hx] at hcell hle
      simp only [← hx] at HSN HBN
      have HSN := hid HSN
      have HBN := hid HBN
      have HXL := hid hxl
      have HDC := hid (s_signed x (aft w uu) hle)
      clear hx h5 hxl
      go_wp2_with fail
      refine HDC.out.mono ?_
      rintro e w2 ⟨v, ok, rfl, hn, hb2⟩
      obtain ⟨u2, rfl⟩ := aft_ex hb2
      have z2 := size_aft (aft w uu) u2
      have HN := hid hn
      clear hn hb2
      cases ok
      · go_wp2_with fail
        go_ret2
        exact ⟨_, [], _, rfl, rdI_nil _, fun S hs => HBN.out v S hs HN.out, (by refine Ext.bel ?_; repeat (with_reducible first | exact Ext.refl _ | apply Ext.alloc | apply Ext.aft | apply Ext.drew | apply Ext.drewN | apply Ext.setCell | exact Nat.le_add_right _ _ | exact Nat.le_refl _ | (simp; done) | omega))⟩
      · have hown2 := hown.aft u2
        go_wp2_with (at_builtin; refine wpList_append_own _ rfl _ _ 38 rfl (w.heap.size) 2 i0 (.int .i64 0) 1 8 Tryz.underlying38 hi hz0 hz1 hz2 rfl (by decide) _ _ _ rfl (hown2.alloc _) ⟨_, 0, none⟩ 1 1 [.int .i64 (v)] rfl rfl ?c1 ?c2 ?c3 ?c4 ?c5 ?_)
        case c1 => exact cell_one_new _ _ _
        case c2 => intro u hu; simp at hu; subst hu; rfl
        case c3 => rw [HXL.out]; unfold maxLen; omega
        case c4 => rw [HXL.out]; omega
        case c5 => first | omega | (simp; omega)
        intro v' w1 hown' hgrow _
        obtain ⟨u', rfl⟩ := grown_aft (W := w) (by repeat (with_reducible first | exact Ext.refl _ | apply Ext.alloc | apply Ext.aft | apply Ext.drew | apply Ext.drewN | apply Ext.setCell | exact Nat.le_add_right _ _ | exact Nat.le_refl _ | (simp; done) | omega)) hgrow (own_row_ge hown)
        have HO := hid hown'
        clear hown' hgrow hown hown2
        go_wp2_with fail
        go_roundw
        case rel => exact ⟨k + 1, u', xs ++ [v], rfl, by omega, by go_num, ownR.snoc HO.out, hid (HSN.out v true HN.out)⟩
        case measure => simp only [intOf]; omega
    · have e2 : k = ws.length := by omega
      subst e2
      have HA := hid (fun S (hs : ws = splA 44 [] S) => soFar.all hs HS.out)
      go_wp2_with fail
      go_ret2
      exact ⟨_, xs, _, rfl, hown.rd, HA.out, (by refine Ext.bel ?_; repeat (with_reducible first | exact Ext.refl _ | apply Ext.alloc | apply Ext.aft | apply Ext.drew | apply Ext.drewN | apply Ext.setCell | exact Nat.le_add_right _ _ | exact Nat.le_refl _ | (simp; done) | omega))⟩
end Go.Proofs.YtdnfefkkbckmgaaGreatDoor
