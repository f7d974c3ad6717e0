/- Content, roots by a prime, substitution: the program's text. -/
import Derived.Test.YtdhnpmjoajaeiaaSD
import Derived.Test.YtdhnpmjoajaeiaaSF
namespace Go.Proofs.Ytdhnpmjoajaeiaa
open Go Go.RowKit

theorem gcdb {d c B : Int} (hd : 0 ≤ d ∧ d ≤ B) (hc : -B ≤ c ∧ c ≤ B) : 0 ≤ (Int.gcd d c : Int) ∧ (Int.gcd d c : Int) ≤ B := by
  refine ⟨by omega, ?_⟩
  rcases Nat.eq_zero_or_pos c.natAbs with h0 | h0
  · have : c = 0 := by omega
    subst this
    rw [Int.gcd_zero_right]; omega
  · have h1 : Int.gcd d c ≤ c.natAbs := Nat.gcd_le_right _ h0
    omega
theorem cnt_take {f : List Int} {k : Nat} (h : k < f.length) : cntF (f.take (k + 1)) = (Int.gcd (cntF (f.take k)) f[k] : Int) := by
  unfold cntF
  rw [List.take_add_one, List.foldl_append]
  simp [h]
theorem cnt_bd {f : List Int} {B : Int} (h0 : 0 ≤ B) (h : ∀ c ∈ f, -B ≤ c ∧ c ≤ B) : 0 ≤ cntF f ∧ cntF f ≤ B := by
  have : ∀ (l : List Int) (d : Int), 0 ≤ d ∧ d ≤ B → (∀ c ∈ l, -B ≤ c ∧ c ≤ B) → 0 ≤ l.foldl (fun d c => (Int.gcd d c : Int)) d ∧ l.foldl (fun d c => (Int.gcd d c : Int)) d ≤ B := by
    intro l
    induction l with
    | nil => intro d hd _; exact hd
    | cons c r ih => intro d hd hl; exact ih _ (gcdb hd (hl c (by simp))) (fun x hx => hl x (by simp [hx]))
  exact this f 0 ⟨Int.le_refl _, h0⟩ h
set_option maxRecDepth 20000 in
set_option maxHeartbeats 4000000 in
theorem i_content (r : Value) (f : List Int) (w : World) (h : rdI w r f) (hl : f.length ≤ 1000) (hb : ∀ c ∈ f, -1000000000 ≤ c ∧ c ≤ 1000000000) :
    Calls Try.prog 79 #[r] w fun e w' => e = .returned (.int .i64 (cntF f)) ∧ Below w.heap.size w w' := by
  obtain ⟨a, cap, rfl, hm0, hc⟩ := h
  have Hc := hid hc
  have Hb := hid hb
  clear hc hb hm0
  go_enter Try.func79, Try.ntmps79
  go_wp2_with fail
  go_loopw [3, 8] (fun d i wr => ∃ (k : Nat) (D : Int) (uu : World), wr = aft w uu ∧ k ≤ f.length ∧ i = .int .i64 k ∧ d = .int .i64 D ∧ Hid (D = cntF (f.take k)) ∧ 0 ≤ D ∧ D ≤ 1000000000) (fun _ i _ => (f.length - intOf i).toNat)
  case atStart => exact ⟨0, 0, w, (aft_of (Below.refl _ _)).symm, by omega, rfl, rfl, hid rfl, by omega, by omega⟩
  case round =>
    obtain ⟨k, D, uu, rfl, hk, rfl, rfl, HD, hD1, hD2⟩ := hrel
    have zs := size_aft w uu
    by_cases hlt : k < f.length
    · have hltz : (k : Int) < (f.length : Int) := by omega
      obtain ⟨b, o, rfl, hcell⟩ := Hc.out (by intro e; rw [e] at hlt; simp at hlt)
      have h1 := hcell k hlt
      have hb1 := World.block_lt_of_cell? w _ h1
      have hcb := Hb.out f[k] (List.getElem_mem hlt)
      obtain ⟨c, hcx⟩ : ∃ c, c = f[k] := ⟨_, rfl⟩
      rw [← hcx] at h1 hcb
      have HX := hid hcx
      clear hcx hcell
      go_wp2_with fail
      refine via (i_gcd D c _ (by omega) (by omega)) ?_
      intro u7 z7
      have hg := gcdb ⟨hD1, hD2⟩ hcb
      obtain ⟨G, hG⟩ : ∃ G : Int, G = (Int.gcd D c : Int) := ⟨_, rfl⟩
      have HG : Hid (G = cntF (f.take (k + 1))) := hid (by rw [hG, cnt_take hlt, ← HD.out, ← HX.out])
      rw [← hG] at hg ⊢
      clear hG
      go_wp2_with fail
      go_roundw
      case rel => exact ⟨k + 1, G, _, (aft_of ((((Ext.refl w).aft uu).aft u7).1)).symm, by omega, by go_num, rfl, HG, hg.1, hg.2⟩
      case measure => simp only [intOf]; omega
    · have hkf : k = f.length := by omega
      have HF : Hid (D = cntF f) := hid (by rw [HD.out, hkf, List.take_length])
      have hltz : ¬ (k : Int) < (f.length : Int) := by omega
      go_wp2_with fail
      go_ret
      exact ⟨by rw [← HF.out]; rfl, (by refine Ext.bel ?_; repeat (with_reducible first | exact Ext.refl _ | apply Ext.alloc | apply Ext.aft | apply Ext.drew | apply Ext.drewN | apply Ext.setCell | exact Nat.le_add_right _ _ | exact Nat.le_refl _ | (simp; done) | omega))⟩
/-- The roots so far. -/
def rootsK (p : Int) (g : List Int) (k : Nat) : List Int := ((List.range k).filter fun (a : Nat) => valF p (a : Int) g == 0).map fun (a : Nat) => (a : Int)
theorem rootsK_succ (p : Int) (g : List Int) (k : Nat) : rootsK p g (k + 1) = rootsK p g k ++ (if valF p (k : Int) g = 0 then [(k : Int)] else []) := by
  unfold rootsK
  rw [List.range_succ, List.filter_append, List.map_append]
  congr 1
  by_cases h : valF p (k : Int) g = 0
  · simp [h]
  · simp [h]
theorem rootsK_len (p : Int) (g : List Int) (k : Nat) : (rootsK p g k).length ≤ k := by
  unfold rootsK
  rw [List.length_map]
  have := List.length_filter_le (fun (a : Nat) => valF p (a : Int) g == 0) (List.range k)
  simpa using this
set_option maxRecDepth 20000 in
set_option maxHeartbeats 4000000 in
theorem i_rootsBy (p : Int) (r : Value) (g : List Int) (w : World) (h : rdI w r g) (hp : 2 ≤ p ∧ p ≤ 97) (hb : ∀ c ∈ g, -1000000000 ≤ c ∧ c ≤ 1000000000) :
    Calls Try.prog 80 #[.int .i64 p, r] w fun e w' => ∃ v, e = .returned v ∧ ownR w.heap.size w' v (rootsP p g) ∧ Below w.heap.size w w' := by
  obtain ⟨i0, hi, hz0, hz1, hz2⟩ := info_parts infoI
  have Hb := hid hb
  have H1 := hid h
  obtain ⟨P, hP⟩ : ∃ P, P = p.toNat := ⟨_, rfl⟩
  have hP1 : (P : Int) ≤ p := by omega
  have hP2 : p ≤ (P : Int) := by omega
  have HR : Hid (rootsP p g = rootsK p g P) := hid (by rw [hP]; rfl)
  have hpp : 1 ≤ p ∧ p ≤ 1000000000 := by omega
  clear hb h hP
  go_enter Try.func80, Try.ntmps80
  go_wp2_with fail
  go_loopw [5, 8] (fun r5 i wr => ∃ (k : Nat) (uu : World), wr = aft w uu ∧ k ≤ P ∧ i = .int .i64 k ∧ Hid (ownR w.heap.size wr r5 (rootsK p g k))) (fun _ i _ => (p - intOf i).toNat)
  case atStart => exact ⟨0, w, (aft_of (Below.refl _ _)).symm, by omega, rfl, hid (ownR.nil _ _)⟩
  case round =>
    obtain ⟨k, uu, rfl, hk, rfl, HO⟩ := hrel
    have zs := size_aft w uu
    by_cases hlt : k < P
    · have hltz : (k : Int) < p := by omega
      have hk9 : 0 ≤ (k : Int) ∧ (k : Int) ≤ 1000000000 := by omega
      obtain ⟨V, hV⟩ : ∃ V, V = valF p (k : Int) g := ⟨_, rfl⟩
      have HV := hid hV.symm
      have hlen := rootsK_len p g k
      go_wp2_with fail
      refine pur (i_valueBy p r g k _ (H1.out.aft _) hpp hk9 Hb.out) ?_
      rw [HV.out]
      by_cases hv : V = 0
      · have hS : Hid (rootsK p g (k + 1) = rootsK p g k ++ [(k : Int)]) := hid (by rw [rootsK_succ, if_pos (by rw [← hV]; exact hv)])
        subst hv
        clear hV
        have hown := HO.out
        obtain ⟨ln, hln⟩ : ∃ ln, ln = (rootsK p g k).length := ⟨_, rfl⟩
        rw [← hln] at hlen
        go_wp2_with (at_builtin; refine wpList_append_own _ rfl _ _ 24 rfl (w.heap.size) 2 i0 (.int .i64 0) 1 8 Try.underlying24 hi hz0 hz1 hz2 rfl (by decide) _ _ _ rfl (((hown).alloc _)) ⟨_, 0, none⟩ 1 1 [.int .i64 ((k : Int))] rfl rfl ?c1 ?c2 ?c3 ?c4 ?c5 ?_)
        case c1 => exact cell_one_new _ _ _
        case c2 => first | rfl | (intro u hu; simp at hu; subst hu; rfl)
        case c3 => first | (rw [← hln]; unfold maxLen; omega) | (unfold maxLen; omega)
        case c4 => first | (rw [← hln]; omega) | omega
        case c5 => first | omega | (simp; omega)
        intro v' w1 hown' hgrow _
        obtain ⟨u', rfl⟩ := grown_aft (W := w) (by repeat (with_reducible first | exact Ext.refl _ | apply Ext.alloc | apply Ext.aft | apply Ext.drew | apply Ext.drewN | apply Ext.setCell | exact Nat.le_add_right _ _ | exact Nat.le_refl _ | (simp; done) | omega)) hgrow (own_row_ge hown)
        have HO' := hid hown'
        clear hown' hgrow hown
        go_wp2_with fail
        go_roundw
        case rel => exact ⟨k + 1, u', rfl, by omega, by go_num, hid (by rw [hS.out]; exact ownR.snoc HO'.out)⟩
        case measure => simp only [intOf]; omega
      · have hS : Hid (rootsK p g (k + 1) = rootsK p g k) := hid (by rw [rootsK_succ, if_neg (by rw [← hV]; exact hv), List.append_nil])
        have hv1 : (V == 0) = false := by simpa using hv
        clear hV
        go_wp2_with fail
        go_roundw
        case rel => exact ⟨k + 1, uu, rfl, by omega, by go_num, hid (by rw [hS.out]; exact HO.out)⟩
        case measure => simp only [intOf]; omega
    · have hkP : k = P := by omega
      have hltz : ¬ (k : Int) < p := by omega
      go_wp2_with fail
      go_ret
      exact ⟨_, rfl, by rw [HR.out, ← hkP]; exact HO.out, (by refine Ext.bel ?_; repeat (with_reducible first | exact Ext.refl _ | apply Ext.alloc | apply Ext.aft | apply Ext.drew | apply Ext.drewN | apply Ext.setCell | exact Nat.le_add_right _ _ | exact Nat.le_refl _ | (simp; done) | omega))⟩
end Go.Proofs.Ytdhnpmjoajaeiaa
