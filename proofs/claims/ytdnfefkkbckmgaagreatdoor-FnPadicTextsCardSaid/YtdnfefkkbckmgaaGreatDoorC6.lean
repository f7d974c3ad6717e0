/- Digits and their sums: both texts. -/
import Derived.Test.YtdnfefkkbckmgaaGreatDoorC5
import Derived.Test.YtdnfefkkbckmgaaGreatDoorB3
import Derived.Test.YtdnfefkkbckmgaaGreatDoorC1
namespace Go.Proofs.YtdnfefkkbckmgaaGreatDoor
open Go Go.RowKit


theorem own_empty (w : World) : ownR w.heap.size (w.alloc (.cells #[] 2)) (.slice (some ⟨w.heap.size, 0, none⟩) 0 0) [] :=
  World.ownsRow_made w #[] 0 (Nat.le_refl _) (by simp [maxLen]) (by simp)

set_option maxHeartbeats 1000000 in
theorem s_digits (p v u n : Int) (w : World) (hp : 2 ≤ p ∧ p ≤ 97) (hv : -60 ≤ v ∧ v ≤ 60) (hu : 0 ≤ u ∧ u ≤ 1000000000) (hn : 0 ≤ n ∧ n ≤ 40) (hb : p ^ n.toNat ≤ 1000000000) :
    Calls Tryz.prog 39 #[(.agg #[.int .i64 p, .int .i64 v, .int .i64 u, .int .i64 n])] w fun e w' => ∃ r, e = .returned r ∧ ownR w.heap.size w' r (digs p u n.toNat) ∧ Below w.heap.size w w' := by
  obtain ⟨i0, hi, hz0, hz1, hz2⟩ := info_parts infoI
  have Hb := hid hb
  clear hb
  go_enter Tryz.func39, Tryz.ntmps39
  go_wp2_with fail
  go_loopw [3, 4] (fun r i wr => ∃ (k : Nat) (uu : World), wr = aft (w.alloc (Obj.cells #[.int .i64 p, .int .i64 v, .int .i64 u, .int .i64 n] 23)) uu ∧ (k : Int) ≤ n ∧ i = .int .i64 k ∧ ownR (w.alloc (Obj.cells #[.int .i64 p, .int .i64 v, .int .i64 u, .int .i64 n] 23)).heap.size wr r (digs p u k)) (fun _ i _ => (n - intOf i).toNat)
  case atStart => exact ⟨0, ((w.alloc (Obj.cells #[.int .i64 p, .int .i64 v, .int .i64 u, .int .i64 n] 23)).alloc (Obj.cells #[] 2)), (aft_of (Below.alloc (Below.refl _ _) (Nat.le_refl _) _)).symm, by omega, rfl, by simpa [digs] using own_empty (w.alloc (Obj.cells #[.int .i64 p, .int .i64 v, .int .i64 u, .int .i64 n] 23))⟩
  case round =>
    obtain ⟨k, uu, rfl, hk, rfl, hown⟩ := hrel
    have zs := size_aft (w.alloc (Obj.cells #[.int .i64 p, .int .i64 v, .int .i64 u, .int .i64 n] 23)) uu
    simp at zs
    by_cases hlt : (k : Int) < n
    · have hbk : Hid (p ^ (v + k - v).toNat ≤ 1000000000) := hid (by
        have := pow_mono (show 1 ≤ p by omega) (show (v + k - v).toNat ≤ n.toNat by omega)
        have := Hb.out
        omega)
      go_wp2_with (first | (go_at_call 65; refine via (s_digit _ _ _ _ _ _ hp hv (by omega) (by omega) hbk.out) ?_; intro ud zd; try simp at zd) | (at_builtin; refine wpList_append_own _ rfl _ _ 38 rfl ((w.alloc (Obj.cells #[.int .i64 p, .int .i64 v, .int .i64 u, .int .i64 n] 23)).heap.size) 2 i0 (.int .i64 0) 1 8 Tryz.underlying38 hi hz0 hz1 hz2 rfl (by decide) _ _ _ rfl ((hown.aft _).alloc _) ⟨_, 0, none⟩ 1 1 [.int .i64 (digF p u (v + k - v).toNat)] rfl rfl ?c1 ?c2 ?c3 ?c4 ?c5 ?_))
      case c1 => exact cell_one_new _ _ _
      case c2 => intro u hu; simp at hu; subst hu; rfl
      case c3 => rw [digs_len]; unfold maxLen; omega
      case c4 => rw [digs_len]; omega
      case c5 => simp; omega
      intro v' w1 hown' hgrow _
      obtain ⟨u', rfl⟩ := grown_aft (W := w.alloc (Obj.cells #[.int .i64 p, .int .i64 v, .int .i64 u, .int .i64 n] 23)) (by repeat (with_reducible first | exact Ext.refl _ | apply Ext.alloc | apply Ext.aft | apply Ext.drew | apply Ext.drewN | apply Ext.setCell | exact Nat.le_add_right _ _ | exact Nat.le_refl _ | (simp; done) | omega)) hgrow (own_row_ge hown)
      have HO := hid hown'
      clear hown' hgrow hown
      have ek := hid (show (v + (k : Int) - v).toNat = k by omega)
      go_wp2_with fail
      go_roundw
      case rel => exact ⟨k + 1, u', rfl, by omega, by go_num, by have h := ownR.snoc HO.out; rw [ek.out] at h; rw [digs_succ]; exact h.mono (by simp)⟩
      case measure => simp only [intOf]; omega
    · have e2 : n = k := by omega
      clear hlt
      subst e2
      clear hk
      go_wp2_with fail
      go_ret
      refine ⟨_, rfl, ?_, (by refine Ext.bel ?_; repeat (with_reducible first | exact Ext.refl _ | apply Ext.alloc | apply Ext.aft | apply Ext.drew | apply Ext.drewN | apply Ext.setCell | exact Nat.le_add_right _ _ | exact Nat.le_refl _ | (simp; done) | omega))⟩
      have e3 : (k : Int).toNat = k := by omega
      rw [e3]
      exact hown.mono (by simp)

/-- A number's digits, with its error. -/
def okB (p v u n : Int) : Bool := padicB p v u n
theorem digs_mem {p u : Int} {k : Nat} (hp : 2 ≤ p ∧ p ≤ 97) : ∀ x ∈ digs p u k, 0 ≤ x ∧ x ≤ 1000 := by
  intro x hx
  simp only [digs, List.mem_map] at hx
  obtain ⟨i, _, rfl⟩ := hx
  have := digF_bd (u := u) (i := i) hp.1
  omega

def dsumF (p v u n : Int) : Int × Int := if padicB p v u n = true then (lsum (digs p u n.toNat), 0) else (0, 1)

end Go.Proofs.YtdnfefkkbckmgaaGreatDoor
