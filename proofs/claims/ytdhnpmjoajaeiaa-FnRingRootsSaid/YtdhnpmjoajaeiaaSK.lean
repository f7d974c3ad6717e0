/- All balls of a ring and how many roots they have: the program's text. -/
import Derived.Test.YtdhnpmjoajaeiaaSJ
namespace Go.Proofs.Ytdhnpmjoajaeiaa
open Go Go.RowKit

theorem i_modN (p n M : Int) (w : World) (h : ringB p n = true) (hM : p ^ n.toNat = M) :
    Calls Try.prog 40 #[(.agg #[.int .i64 p, .int .i64 n])] w fun e w' => e = .returned (.int .i64 M) ∧ Below w.heap.size w w' := by
  subst hM; exact i_modulus p n w h
def modM (m : Int) (D : List Int) (k : Nat) : List Int := (D.take k).map (· % m)
theorem modM_len {m : Int} {D : List Int} {k : Nat} (h : k ≤ D.length) : (modM m D k).length = k := by simp [modM]; omega
theorem modM_succ {m : Int} {D : List Int} {k : Nat} (h : k < D.length) : modM m D (k + 1) = modM m D k ++ [D[k] % m] := by
  unfold modM; rw [take_snocI _ _ h, List.map_append]; rfl
/-- How many roots the first k balls have. -/
def cntK (p : Int) (N : Nat) (L : List (Int × Nat)) (k : Nat) : Nat := ((L.take k).flatMap (progB p N)).length
theorem progB_len (p : Int) (N : Nat) (b : Int × Nat) : (progB p N b).length = (p ^ (N - b.2)).toNat := by simp [progB]
theorem cntK_succ {p : Int} {N : Nat} {L : List (Int × Nat)} {k : Nat} (h : k < L.length) : cntK p N L (k + 1) = cntK p N L k + (p ^ (N - (L[k]).2)).toNat := by
  unfold cntK
  rw [List.take_add_one, List.flatMap_append, List.length_append, List.getElem?_eq_getElem h]
  simp [progB_len]
theorem cntK_bd {p : Int} {N : Nat} (hp : 2 ≤ p) (hM : p ^ N ≤ 1000000000) (L : List (Int × Nat)) (k : Nat) : cntK p N L k ≤ k * 1000000000 := by
  unfold cntK
  have h1 := fm_len (f := progB p N) (B := 1000000000) (L.take k) (fun b _ => by
    rw [progB_len]
    have := pow_leB (p := p) (by omega) (show N - b.2 ≤ N by omega)
    omega)
  have h2 : (L.take k).length ≤ k := by rw [List.length_take]; omega
  exact Nat.le_trans h1 (Nat.mul_le_mul_right _ h2)
theorem vB_at {L : List (Int × Nat)} : ∀ {k : Nat} (h : k < L.length), (vB L)[k * 2]? = some (.int .i64 (L[k]).1) ∧ (vB L)[k * 2 + 1]? = some (.int .i64 ((L[k]).2 : Int)) := by
  induction L with
  | nil => intro k h; simp at h
  | cons b L ih =>
    intro k h
    show (bC b ++ vB L)[_]? = _ ∧ (bC b ++ vB L)[_]? = _
    cases k with
    | zero => exact ⟨rfl, rfl⟩
    | succ k =>
      have := ih (k := k) (by simpa using h)
      rw [List.getElem?_append_right (by simp [bC]; omega), List.getElem?_append_right (by simp [bC]; omega)]
      rw [show (k + 1) * 2 - (bC b).length = k * 2 by simp [bC]; omega, show (k + 1) * 2 + 1 - (bC b).length = k * 2 + 1 by simp [bC]; omega]
      exact this
theorem ownBl_at {B n cap g : Nat} {w : World} {L : List (Int × Nat)} (h : ownBl B w (.slice (some ⟨g, 0, none⟩) n cap) L) {k : Nat} (hk : k < L.length) :
    w.cell? ⟨g, k * 2, none⟩ = some (.int .i64 (L[k]).1) ∧ w.cell? ⟨g, k * 2 + 1, none⟩ = some (.int .i64 ((L[k]).2 : Int)) := by
  have hn : n = L.length := by
    rcases h.2 with ⟨e, h1⟩ | ⟨g', c, cur, e, _⟩
    · cases e
    · cases e; rfl
  subst hn
  obtain ⟨h1, h2⟩ := vB_at hk
  have e1 := World.ownsRow.cellAt h (k * 2) (by omega)
  have e2 := World.ownsRow.cellAt h (k * 2 + 1) (by omega)
  exact ⟨by rw [e1]; exact h1, by rw [e2]; exact h2⟩
theorem ownBl_some {B : Nat} {w : World} {v : Value} {L : List (Int × Nat)} (h : ownBl B w v L) : (v = .slice none 0 0 ∧ L = []) ∨ ∃ g cap, v = .slice (some ⟨g, 0, none⟩) L.length cap ∧ g < w.heap.size ∧ B ≤ g := by
  rcases h.2 with ⟨e, h1⟩ | ⟨g, cap, cur, e, hb, hh, _⟩
  · exact .inl ⟨e, List.eq_nil_of_length_eq_zero h1⟩
  · exact .inr ⟨g, cap, e, (Array.getElem?_eq_some_iff.1 hh).1, hb⟩
def allB (p : Int) (N : Nat) (M : Int) (f : List Int) : List (Int × Nat) := ballsF p (N + 1) (f.map (· % M)) N 0 0
set_option maxRecDepth 20000 in
set_option maxHeartbeats 16000000 in
theorem i_rootBalls (p n M : Int) (N : Nat) (r : Value) (f : List Int) (w : World) (h : rdI w r f) (hfl : f.length ≤ 100) (hr : ringB p n = true) (hp : 2 ≤ p ∧ p ≤ 97) (hn : (n = (N : Int)) ∧ 1 ≤ N ∧ N ≤ 40) (hM : p ^ N = M) (hM9 : M ≤ 1000000000) :
    Calls Try.prog 41 #[(.agg #[.int .i64 p, .int .i64 n]), r] w fun e w' => ∃ v, e = .returned (.tuple #[v, .int .i64 (cntK p N (allB p N M f) (allB p N M f).length : Int)]) ∧ ownBl w.heap.size w' v (allB p N M f) ∧ Below w.heap.size w w' := by
  obtain ⟨i0, hi, hz0, hz1, hz2⟩ := info_parts infoI
  have hM1 : 1 ≤ M := by rw [← hM]; have : 0 < p ^ N := Int.pow_pos (by omega); omega
  obtain ⟨hnN, hN1, hN40⟩ := hn
  have HR := hid hr
  have HMT := hid (show p ^ n.toNat = M by rw [hnN, Int.toNat_natCast]; exact hM)
  have hM9' : p ^ N ≤ 1000000000 := by rw [hM]; exact hM9
  have hnN1 : n ≤ (N : Int) := by omega
  have hnN2 : (N : Int) ≤ n := by omega
  obtain ⟨a1, cap1, e1, _, _⟩ := id h
  subst e1
  have H1 := hid h
  obtain ⟨f', hf'⟩ : ∃ f', f' = f.map (· % M) := ⟨_, rfl⟩
  have hfl' : f'.length ≤ 100 := by rw [hf', List.length_map]; exact hfl
  have HFE : Hid (modM M f f.length = f') := hid (by rw [hf']; simp [modM])
  have hfb' : ∀ c ∈ f', 0 ≤ c ∧ c ≤ 1000000000 := fun c hc => by
    rw [hf'] at hc
    obtain ⟨x, _, rfl⟩ := List.mem_map.1 hc
    exact ⟨Int.emod_nonneg _ (by omega), by have := Int.emod_lt_of_pos x (show 0 < M by omega); omega⟩
  have HB : Hid (∀ (rr : Value) (W : World), rdI W rr f' → Calls Try.prog 65 #[.int .i64 p, rr, .int .i64 n, .agg #[.int .i64 0, .int .i64 0]] W fun en w' => ∃ v, en = .returned v ∧ ownBl W.heap.size w' v (allB p N M f) ∧ Below W.heap.size W w') := hid fun rr W hW => by
    have := i_balls p N hp hN40 hM9' (N + 1) f' N 0 0 rr W hW hfl' hfb' hN1 (.inr ⟨by omega, by omega⟩) ⟨by omega, by simp⟩
    rw [show ((N : Nat) : Int) = n by omega] at this
    unfold allB
    rw [← hf']
    exact this
  have hbl := balls_len hp.1 (N + 1) f' N 0 0 hN1
  have hall := (balls_all hp.1 hN1 f').1
  obtain ⟨L, hL⟩ : ∃ L, L = allB p N M f := ⟨_, rfl⟩
  have hLe : ballsF p (N + 1) f' N 0 0 = L := by rw [hL, hf']; rfl
  rw [hLe] at hbl hall
  rw [← hL] at HB ⊢
  have hpN : ((p.toNat ^ N : Nat) : Int) = p ^ N := by rw [Int.natCast_pow, show ((p.toNat : Nat) : Int) = p by omega]
  have hLl : L.length ≤ 1000000000 := by have := hbl.2; omega
  have HCB := hid (cntK_bd hp.1 hM9' L)
  have HALL := hid hall
  have Hpw := hid (show ∀ k : Nat, p ^ (((N : Int) - (k : Int))).toNat = p ^ (N - k) from fun k => by rw [show ((N : Int) - (k : Int)).toNat = N - k by omega])
  have Hpl := hid (show ∀ k : Nat, 0 ≤ p ^ (N - k) ∧ p ^ (N - k) ≤ 1000000000 from fun k => by have := pow_leB (p := p) (by omega) (show N - k ≤ N by omega); have h2 : 0 < p ^ (N - k) := Int.pow_pos (by omega); omega)
  clear h hr hM hM9' hnN hf' hfb' hbl hall hL hLe hpN
  go_enter Try.func41, Try.ntmps41
  go_wp2_with fail
  obtain ⟨X, hX⟩ : ∃ X, X = w.alloc (Obj.cells #[.int .i64 p, .int .i64 n] 27) := ⟨_, rfl⟩
  have c0 : ∀ o, X.cell? ⟨w.heap.size, o, none⟩ = #[Value.int .i64 p, .int .i64 n][o]? := fun o => by rw [hX, alloc_cell, if_pos rfl]
  have E0 : Hid (Ext w.heap.size w X) := hid (by rw [hX]; exact (Ext.refl w).alloc _)
  have l0 : w.heap.size < X.heap.size := by rw [hX]; simp
  rw [← hX]
  clear hX
  have HX1 := hid (H1.out.below E0.out.1)
  go_loopw [6, 8, 15] (fun r6 _ i_ wr => ∃ (q : Nat) (u7 : World), wr = aft X u7 ∧ q ≤ f.length ∧ i_ = .int .i64 q ∧ Hid (ownR X.heap.size wr r6 (modM M f q))) (fun _ _ i_ _ => (f.length - intOf i_).toNat)
  case atStart => exact ⟨0, X, (aft_of (Below.refl _ _)).symm, by omega, rfl, hid (ownR.nil _ _)⟩
  case round =>
    obtain ⟨q, u7, rfl, hq, rfl, HO⟩ := hrel
    have zs7 := size_aft X u7
    have c1 : ∀ o, (aft X u7).cell? ⟨w.heap.size, o, none⟩ = #[Value.int .i64 p, .int .i64 n][o]? := fun o => by rw [aft_cell, if_pos l0]; exact c0 o
    by_cases hlt : q < f.length
    · have hltz : (q : Int) < (f.length : Int) := by omega
      obtain ⟨b, o, e9⟩ := rd_head HX1.out (by intro e; rw [e] at hlt; simp at hlt)
      subst e9
      have h1 := rd_at HX1.out hlt
      rw [getD_lt hlt] at h1
      have hb := World.block_lt_of_cell? X _ h1
      obtain ⟨c, hcx⟩ : ∃ c, c = f[q] := ⟨_, rfl⟩
      rw [← hcx] at h1
      have HX := hid hcx
      clear hcx
      have hml : (modM M f q).length = q := modM_len hq
      go_wp2_with fail
      refine via (i_modN p n M _ HR.out HMT.out) ?_
      intro u9 z9
      (try simp at z9)
      go_wp2_with fail
      refine pur (i_mod _ _ _ (by omega) (by omega)) ?_
      have hown := HO.out.aft u9
      go_wp2_with (at_builtin; refine wpList_append_own _ rfl _ _ 24 rfl (X.heap.size) 2 i0 (.int .i64 0) 1 8 Try.underlying24 hi hz0 hz1 hz2 rfl (by decide) _ _ _ rfl (((hown).alloc _)) ⟨_, 0, none⟩ 1 1 [.int .i64 (c % M)] rfl rfl ?c1 ?c2 ?c3 ?c4 ?c5 ?_)
      case c1 => exact cell_one_new _ _ _
      case c2 => first | rfl | (intro u hu; simp at hu; subst hu; rfl)
      case c3 => first | (rw [hml]; unfold maxLen; omega) | (unfold maxLen; omega)
      case c4 => first | (rw [hml]; omega) | omega
      case c5 => first | omega | (simp; omega)
      intro v' w1 hown' hgrow _
      obtain ⟨u', rfl⟩ := grown_aft (W := X) (by repeat (with_reducible first | exact Ext.refl _ | apply Ext.alloc | apply Ext.aft | apply Ext.drew | apply Ext.drewN | apply Ext.setCell | exact Nat.le_add_right _ _ | exact Nat.le_refl _ | (simp; done) | omega)) hgrow (own_row_ge hown)
      have HO' := hid hown'
      clear hown' hgrow hown
      go_wp2_with fail
      go_roundw
      case rel => exact ⟨q + 1, u', rfl, by omega, by go_num, hid (by rw [modM_succ hlt, ← HX.out]; exact ownR.snocK hml HO'.out)⟩
      case measure => simp only [intOf]; omega
    · have hqf : q = f.length := by omega
      have HG1 : Hid (ownR X.heap.size (aft X u7) _ f') := hid (by have := HO.out; rw [hqf, HFE.out] at this; exact this)
      have hltz : ¬ (q : Int) < (f.length : Int) := by omega
      clear HO
      go_wp2_with fail
      refine viaBl (HB.out _ _ HG1.out.rd) ?_
      intro r9 u9 z9 o9
      have O9 := hid o9
      clear o9
      obtain ⟨Y, hY⟩ : ∃ Y, Y = aft (aft X u7) u9 := ⟨_, rfl⟩
      have d0 : ∀ o, Y.cell? ⟨w.heap.size, o, none⟩ = #[Value.int .i64 p, .int .i64 n][o]? := fun o => by rw [hY, aft_cell, if_pos (by omega)]; exact c1 o
      have EY : Hid (Ext w.heap.size w Y) := hid (by rw [hY]; exact (E0.out.aft _).aft _)
      have lY : w.heap.size < Y.heap.size := by rw [hY]; omega
      rw [← hY] at O9 ⊢
      have O9' := hid (O9.out.mono (show w.heap.size ≤ (aft X u7).heap.size by omega))
      clear hY z9 zs7 HX1 c0 c1 E0 HG1 O9
      have hlen : ∃ a9 c9, r9 = .slice a9 L.length c9 := by
        rcases ownBl_some O9'.out with ⟨e, h⟩ | ⟨g, cap, e, _⟩
        · subst h; exact ⟨none, 0, e⟩
        · exact ⟨_, _, e⟩
      obtain ⟨a9, c9, e9⟩ := hlen
      subst e9
      go_wp2_with fail
      go_loopw [10, 36] (fun cn i_ wr => ∃ (q : Nat) (u7 : World), wr = aft Y u7 ∧ q ≤ L.length ∧ i_ = .int .i64 q ∧ cn = .int .i64 (cntK p N L q : Int)) (fun _ i_ _ => (L.length - intOf i_).toNat)
      case atStart => exact ⟨0, Y, (aft_of (Below.refl _ _)).symm, by omega, rfl, rfl⟩
      case round =>
        obtain ⟨q, u7, rfl, hq, rfl, rfl⟩ := hrel
        have zs8 := size_aft Y u7
        by_cases hlt : q < L.length
        · have hltz : (q : Int) < (L.length : Int) := by omega
          rcases ownBl_some O9'.out with ⟨e, h⟩ | ⟨g, cap, e, hg1, hg2⟩
          · rw [h] at hlt; simp at hlt
          · cases e
            obtain ⟨h1, h2⟩ := ownBl_at O9'.out hlt
            have hbm := HALL.out L[q] (List.getElem_mem hlt)
            have hcs := cntK_succ (p := p) (N := N) hlt
            obtain ⟨b1, hb1⟩ : ∃ b1, b1 = (L[q]).1 := ⟨_, rfl⟩
            obtain ⟨b2, hb2⟩ : ∃ b2, b2 = (L[q]).2 := ⟨_, rfl⟩
            rw [← hb1] at h1
            rw [← hb2] at h2 hbm hcs
            have hb2N : b2 ≤ N := hbm.1
            have hcb := HCB.out q
            have hpb := Hpl.out b2
            obtain ⟨PW, hPW⟩ : ∃ PW, PW = p ^ (N - b2) := ⟨_, rfl⟩
            have HPW := hid (show p ^ (n - (b2 : Int)).toNat = PW by rw [hPW, ← Hpw.out b2, show n = (N : Int) by omega])
            rw [← hPW] at hpb hcs
            have HCS := hid (show ((cntK p N L (q + 1) : Nat) : Int) = (cntK p N L q : Int) + PW by rw [hcs]; omega)
            have hPb : p ^ (n - (b2 : Int)).toNat ≤ 4000000000000000000 := by rw [HPW.out]; omega
            have HPB := hid hPb
            have hc1 : ∀ o, (aft Y u7).cell? ⟨w.heap.size, o, none⟩ = #[Value.int .i64 p, .int .i64 n][o]? := fun o => by rw [aft_cell, if_pos lY]; exact d0 o
            clear hb1 hb2 hbm hcs hPW hPb
            go_wp2_with fail
            refine pur (i_power p (n - (b2 : Int)) _ (by omega) (by omega) HPB.out) ?_
            rw [HPW.out]
            obtain ⟨C, hC⟩ : ∃ C : Int, C = (cntK p N L q : Int) := ⟨_, rfl⟩
            have hCb : 0 ≤ C ∧ C ≤ 1000000000 * 1000000000 := by omega
            rw [← hC] at HCS ⊢
            clear hC hcb
            go_wp2_with fail
            go_roundw
            case rel =>
              obtain ⟨uf, huf⟩ := aft_ex (((Ext.refl Y).aft u7).alloc (Obj.cells #[.int .i64 b1, .int .i64 (b2 : Int)] 72)).1
              exact ⟨q + 1, uf, huf, by omega, by go_num, by rw [HCS.out]⟩
            case measure => simp only [intOf]; omega
        · have hqf : q = L.length := by omega
          have hltz : ¬ (q : Int) < (L.length : Int) := by omega
          have HCE := hid (show ((cntK p N L q : Nat) : Int) = (cntK p N L L.length : Int) by rw [hqf])
          go_wp2_with fail
          go_ret2
          exact ⟨_, by first | rfl | (rw [HCE.out]; rfl), O9'.out.aft _, Ext.bel (EY.out.aft _)⟩
end Go.Proofs.Ytdhnpmjoajaeiaa
