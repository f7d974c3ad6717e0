/- All roots in a ring, sorted: the program's text. -/
import Derived.Test.YtdhnpmjoajaeiaaSK
namespace Go.Proofs.Ytdhnpmjoajaeiaa
open Go Go.RowKit

def progK (p : Int) (N : Nat) (L : List (Int × Nat)) (k : Nat) : List Int := (L.take k).flatMap (progB p N)
theorem progK_len (p : Int) (N : Nat) (L : List (Int × Nat)) (k : Nat) : (progK p N L k).length = cntK p N L k := rfl
theorem cntK_mono (p : Int) (N : Nat) (L : List (Int × Nat)) : ∀ k, k ≤ L.length → cntK p N L k ≤ cntK p N L L.length := by
  intro k hk
  unfold cntK
  have h : L.take L.length = L.take k ++ L.drop k := by rw [List.take_length, List.take_append_drop]
  rw [h, List.flatMap_append, List.length_append]
  omega
theorem progK_succ {p : Int} {N : Nat} {L : List (Int × Nat)} {k : Nat} (h : k < L.length) : progK p N L (k + 1) = progK p N L k ++ progB p N (L[k]) := by
  unfold progK
  rw [List.take_add_one, List.flatMap_append, List.getElem?_eq_getElem h]
  simp
/-- The first i of a ball. -/
def progI (b1 D : Int) (i : Nat) : List Int := (List.range i).map fun (j : Nat) => b1 + (j : Int) * D
theorem progI_succ (b1 D : Int) (i : Nat) : progI b1 D (i + 1) = progI b1 D i ++ [b1 + (i : Int) * D] := by simp [progI, List.range_succ]
theorem progI_len (b1 D : Int) (i : Nat) : (progI b1 D i).length = i := by simp [progI]
theorem row_ne {B k : Nat} {w : World} {v : Value} {xs : List Int} {cur : Array Value} {T : TypeId} {z : Nat × Nat} (h : ownR B w v xs) (hk : w.heap[k]? = some (.cells cur T z)) (hT : T ≠ 2) (hv : v.ownBlock = some k) : False := by
  rcases h.2 with ⟨rfl, _⟩ | ⟨g, cap, cur', rfl, _, hh, _⟩
  · simp [Value.ownBlock] at hv
  · have : g = k := by simpa [Value.ownBlock] using hv
    subst this
    rw [hk] at hh
    cases hh
    exact hT rfl
theorem viaBlC {P : Program} {f : FuncId} {args : Array Value} {w : World} {L : List (Int × Nat)} {c : Int} {R : Ending → World → Prop}
    (h : Calls P f args w fun e w' => ∃ v, e = .returned (.tuple #[v, .int .i64 c]) ∧ ownBl w.heap.size w' v L ∧ Below w.heap.size w w')
    (hR : ∀ v u, w.heap.size ≤ (aft w u).heap.size → ownBl w.heap.size (aft w u) v L → R (.returned (.tuple #[v, .int .i64 c])) (aft w u)) : Calls P f args w R :=
  h.mono fun e w' ⟨v, he, ho, hb⟩ => by subst he; obtain ⟨u, rfl⟩ := aft_ex hb; exact hR v u (size_aft w u) ho
theorem viaS {P : Program} {f : FuncId} {args : Array Value} {w : World} {B : Nat} {v : Value} {xs : List Int} {R : Ending → World → Prop}
    (h : Calls P f args w fun e w' => e = .returned (.tuple #[]) ∧ ownR B w' v xs ∧ w.grownBy w' v.ownBlock)
    (hR : ∀ w', ownR B w' v xs → w.grownBy w' v.ownBlock → R (.returned (.tuple #[])) w') : Calls P f args w R :=
  h.mono fun e w' ⟨he, h1, h2⟩ => by subst he; exact hR w' h1 h2
set_option maxRecDepth 20000 in
set_option maxHeartbeats 16000000 in
theorem i_rootsIn (p n M : Int) (N : Nat) (r : Value) (f : List Int) (w : World) (h : rdI w r f) (hfl : f.length ≤ 100) (hr : ringB p n = true) (hp : 2 ≤ p ∧ p ≤ 97) (hn : (n = (N : Int)) ∧ 1 ≤ N ∧ N ≤ 40) (hM : p ^ N = M) (hM9 : M ≤ 1000000000) :
    Calls Try.prog 32 #[(.agg #[.int .i64 p, .int .i64 n]), r] w fun e w' => ∃ v, e = .returned (.tuple #[v, .int .i64 (rootsZ p N f).2]) ∧ ownR w.heap.size w' v (rootsZ p N f).1 ∧ Below w.heap.size w w' := by
  obtain ⟨i0, hi, hz0, hz1, hz2⟩ := info_parts infoI
  have hM1 : 1 ≤ M := by rw [← hM]; have : 0 < p ^ N := Int.pow_pos (by omega); omega
  have HRB := hid (fun (W : World) (hW : rdI W r f) => i_rootBalls p n M N r f W hW hfl hr hp hn hM hM9)
  obtain ⟨hnN, hN1, hN40⟩ := hn
  have HR := hid hr
  have HMT := hid (show p ^ n.toNat = M by rw [hnN, Int.toNat_natCast]; exact hM)
  have H1 := hid h
  obtain ⟨L, hL⟩ : ∃ L, L = allB p N M f := ⟨_, rfl⟩
  have hall := (balls_all hp.1 hN1 (f.map (· % M))).1
  have hperm := roots_perm hp.1 hN1 f
  rw [hM] at hperm
  have hLe : ballsF p (N + 1) (f.map (· % M)) N 0 0 = L := by rw [hL]; rfl
  have hRB : rootsB p N (f.map (· % M)) = progK p N L L.length := by unfold rootsB progK; rw [hLe, List.take_length]
  have hbl := (balls_len hp.1 (N + 1) (f.map (· % M)) N 0 0 hN1).2
  rw [hLe] at hbl
  have hpN : ((p.toNat ^ N : Nat) : Int) = p ^ N := by rw [Int.natCast_pow, show ((p.toNat : Nat) : Int) = p by omega]
  have hLl : L.length ≤ 1000000000 := by omega
  clear hbl hpN
  rw [hLe] at hall
  rw [hRB] at hperm
  have hlen : (rootsD p N f N 0).length = cntK p N L L.length := by rw [← hperm.length_eq]; rfl
  have HZ : Hid (∀ S : List Int, S.Perm (progK p N L L.length) → S.Pairwise (· ≤ ·) → cntK p N L L.length ≤ 60 → rootsZ p N f = (S, 0)) := hid fun S h1 h2 h3 => by
    unfold rootsZ
    rw [if_neg (by omega), ← sort_eq (h1.trans hperm) h2]
  have HZ2 : Hid (60 < cntK p N L L.length → rootsZ p N f = ([], 3)) := hid fun h3 => by
    unfold rootsZ
    rw [if_pos (by omega)]
  rw [← hL] at HRB
  have HALL := hid hall
  have hmono := hid (cntK_mono p N L)
  have HDpow := hid (show ∀ k : Nat, k ≤ N → 1 ≤ p ^ k ∧ p ^ k ≤ M ∧ p ^ k * p ^ (N - k) = M ∧ 1 ≤ p ^ (N - k) from fun k hk => by
    have h1 : 0 < p ^ k := Int.pow_pos (by omega)
    have h2 := pow_leB (p := p) (by omega) hk
    have h3 : 0 < p ^ (N - k) := Int.pow_pos (by omega)
    refine ⟨by omega, by omega, ?_, by omega⟩
    rw [← Int.pow_add, show k + (N - k) = N by omega]; exact hM)
  obtain ⟨FZ, hFZ⟩ : ∃ FZ, FZ = rootsZ p N f := ⟨_, rfl⟩
  rw [← hFZ] at HZ HZ2 ⊢
  clear h hr hM hL hLe hRB hperm hlen hall hFZ hnN
  go_enter Try.func32, Try.ntmps32
  go_wp2_with fail
  refine viaBlC (HRB.out _ (H1.out.alloc _)) ?_
  intro r6 u6 z6 o6
  have O6 := hid o6
  clear o6 HRB
  obtain ⟨X, hX⟩ : ∃ X, X = aft (w.alloc (Obj.cells #[.int .i64 p, .int .i64 n] 27)) u6 := ⟨_, rfl⟩
  have c0 : ∀ o, X.cell? ⟨w.heap.size, o, none⟩ = #[Value.int .i64 p, .int .i64 n][o]? := fun o => by rw [hX, aft_cell, if_pos (by simp), alloc_cell, if_pos rfl]
  have E0 : Hid (Ext w.heap.size w X) := hid (by rw [hX]; exact ((Ext.refl w).alloc _).aft _)
  have l0 : w.heap.size < X.heap.size := by rw [hX]; simp at z6; omega
  rw [← hX] at O6 ⊢
  clear hX z6
  by_cases h60 : 60 < cntK p N L L.length
  · have h60z : (60 : Int) < (cntK p N L L.length : Int) := by omega
    have HF := hid (HZ2.out h60)
    go_wp2_with fail
    go_ret2
    exact ⟨_, by rw [HF.out]; rfl, by rw [HF.out]; exact ownR.nil _ _, Ext.bel E0.out⟩
  · have h60z : ¬ (60 : Int) < (cntK p N L L.length : Int) := by omega
    have hlen9 : ∃ a9 c9, r6 = .slice a9 L.length c9 := by
      rcases ownBl_some O6.out with ⟨e, h⟩ | ⟨g, cap, e, _⟩
      · subst h; exact ⟨none, 0, e⟩
      · exact ⟨_, _, e⟩
    obtain ⟨a9, c9, e9⟩ := hlen9
    subst e9
    obtain ⟨T, hT⟩ : ∃ T, T = cntK p N L L.length := ⟨_, rfl⟩
    rw [← hT] at h60 h60z HZ hmono ⊢
    have HT := hid hT
    clear hT HZ2
    go_wp2_with fail
    go_loopw [8, 22] (fun o8 i_ wr => ∃ (q : Nat) (u7 : World), wr = aft X u7 ∧ q ≤ L.length ∧ i_ = .int .i64 q ∧ Hid (ownR X.heap.size wr o8 (progK p N L q))) (fun _ i_ _ => (L.length - intOf i_).toNat)
    case atStart => exact ⟨0, X, (aft_of (Below.refl _ _)).symm, by omega, rfl, hid (ownR.nil _ _)⟩
    case round =>
      obtain ⟨q, u7, rfl, hq, rfl, HO⟩ := hrel
      have zs8 := size_aft X u7
      by_cases hlt : q < L.length
      · have hltz : (q : Int) < (L.length : Int) := by omega
        rcases ownBl_some O6.out with ⟨e, h⟩ | ⟨g, cap, e, hg1, hg2⟩
        · rw [h] at hlt; simp at hlt
        · cases e
          obtain ⟨h1, h2⟩ := ownBl_at O6.out hlt
          have hbm := HALL.out L[q] (List.getElem_mem hlt)
          have HSU := hid (progK_succ (p := p) (N := N) hlt)
          have hm1 := hmono.out (q + 1) hlt
          have hm0 := hmono.out q hq
          rw [cntK_succ hlt] at hm1
          obtain ⟨b1, hb1⟩ : ∃ b1, b1 = (L[q]).1 := ⟨_, rfl⟩
          obtain ⟨b2, hb2⟩ : ∃ b2, b2 = (L[q]).2 := ⟨_, rfl⟩
          obtain ⟨D, hD⟩ : ∃ D, D = p ^ b2 := ⟨_, rfl⟩
          obtain ⟨C, hC⟩ : ∃ C, C = (p ^ (N - b2)).toNat := ⟨_, rfl⟩
          have HPB : Hid (progB p N (L[q]) = progI b1 D C) := hid (by unfold progB progI; rw [← hb1, ← hb2, ← hD, ← hC])
          rw [← hb1] at h1 hbm
          rw [← hb2] at h2 hbm hm1
          rw [← hC] at hm1
          rw [← hD] at hbm
          obtain ⟨k1, k2, k3, k4⟩ := HDpow.out b2 hbm.1
          rw [← hD] at k1 k2 k3
          have k5 : D * (C : Int) = M := by rw [hC, show (((p ^ (N - b2)).toNat : Nat) : Int) = p ^ (N - b2) by omega]; exact k3
          have HDT := hid (show p ^ (b2 : Int).toNat = D by rw [Int.toNat_natCast]; exact hD.symm)
          have HDB := hid (show p ^ (b2 : Int).toNat ≤ 4000000000000000000 by rw [Int.toNat_natCast, ← hD]; omega)
          have HK5 := hid k5
          have hb0 : 0 ≤ b1 ∧ b1 < D := hbm.2
          have hbN : b2 ≤ 40 := by omega
          have hlK : (progK p N L q).length ≤ 60 := by rw [progK_len]; omega
          have hlC : (progK p N L q).length + C ≤ 60 := by rw [progK_len]; omega
          clear hb1 hb2 hD hC k3 k4 k5 hbm hm1 hm0 HALL HDpow
          obtain ⟨PK, hPK⟩ : ∃ PK, PK = progK p N L q := ⟨_, rfl⟩
          rw [← hPK] at HO HSU hlK hlC
          clear hPK
          have hc1 : ∀ o, (aft X u7).cell? ⟨w.heap.size, o, none⟩ = #[Value.int .i64 p, .int .i64 n][o]? := fun o => by rw [aft_cell, if_pos l0]; exact c0 o
          go_wp2_with fail
          obtain ⟨V, hV⟩ : ∃ V, V = (aft X u7).alloc (Obj.cells #[.int .i64 b1, .int .i64 (b2 : Int)] 72) := ⟨_, rfl⟩
          obtain ⟨kB, hkB⟩ : ∃ kB, kB = (aft X u7).heap.size := ⟨_, rfl⟩
          have hXB : X.heap.size ≤ kB := by omega
          have EV : Hid (Ext X.heap.size X V) := hid (by rw [hV]; exact ((Ext.refl X).aft _).alloc _)
          have OV := hid (HO.out.alloc (Obj.cells #[.int .i64 b1, .int .i64 (b2 : Int)] 72))
          have BV : Hid (V.heap[kB]? = some (.cells #[Value.int .i64 b1, .int .i64 (b2 : Int)] 72 (0, 0))) := hid (by rw [hV, hkB]; exact heap_alloc_new _ _)
          rw [← hV] at OV ⊢
          rw [← hkB]
          clear hV hkB zs8 hc1 HO
          go_loopw [8, 11] (fun o8 x_ wr => ∃ (i : Nat), i ≤ C ∧ x_ = .int .i64 (b1 + (i : Int) * D) ∧ Hid (ownR X.heap.size wr o8 (PK ++ progI b1 D i)) ∧ Hid (Ext X.heap.size X wr) ∧ Hid (wr.heap[kB]? = some (.cells #[Value.int .i64 b1, .int .i64 (b2 : Int)] 72 (0, 0)))) (fun _ x_ _ => (M + D - intOf x_).toNat)
          case atStart => exact ⟨0, by omega, by simp, hid (by have := OV.out; simpa [progI] using this), EV, BV⟩
          case round =>
            obtain ⟨i, hi9, rfl, HO, EW, BW⟩ := hrel
            have hlt9 : kB < wr.heap.size := (Array.getElem?_eq_some_iff.1 BW.out).1
            have hce : ∀ o, wr.cell? ⟨w.heap.size, o, none⟩ = #[Value.int .i64 p, .int .i64 n][o]? := fun o => by have := c0 o; rw [← this]; exact EW.out.1.cell (p := ⟨w.heap.size, o, none⟩) l0
            have hcB : ∀ o, wr.cell? ⟨kB, o, none⟩ = #[Value.int .i64 b1, .int .i64 (b2 : Int)][o]? := fun o => cell_of_row wr kB o _ _ (0, 0) BW.out
            have hsz9 := EW.out.2
            have hiD : 0 ≤ (i : Int) * D := Int.mul_nonneg (by omega) (by omega)
            have hiD2 : (i : Int) * D ≤ M := by
              have h3 := Int.mul_le_mul_of_nonneg_right (show (i : Int) ≤ (C : Int) by omega) (show 0 ≤ D by omega)
              have h4 := HK5.out
              rw [Int.mul_comm] at h4
              omega
            obtain ⟨x, hx⟩ : ∃ x, x = b1 + (i : Int) * D := ⟨_, rfl⟩
            have HX := hid hx
            have hxb : 0 ≤ x ∧ x ≤ M + D := by omega
            have hiff : x < M ↔ i < C := by
              have h4 := HK5.out
              rw [Int.mul_comm] at h4
              constructor
              · intro hxM
                rcases Nat.lt_or_ge i C with h | h
                · exact h
                · have h3 := Int.mul_le_mul_of_nonneg_right (show (C : Int) ≤ (i : Int) by omega) (show 0 ≤ D by omega)
                  omega
              · intro hiC
                have h3 := Int.mul_le_mul_of_nonneg_right (show (i : Int) + 1 ≤ (C : Int) by omega) (show 0 ≤ D by omega)
                rw [Int.add_mul, Int.one_mul] at h3
                omega
            have hM10 : M ≤ 1000000000 := hM9
            rw [← hx]
            by_cases hiC : i < C
            · have hxM : x < M := hiff.2 hiC
              have HXN : Hid (x + D = b1 + ((i + 1 : Nat) : Int) * D) := hid (by rw [hx]; rw [show ((i + 1 : Nat) : Int) = (i : Int) + 1 by omega, Int.add_mul]; omega)
              have hlL : (PK ++ progI b1 D i).length ≤ 60 := by rw [List.length_append, progI_len]; omega
              obtain ⟨AL, hAL⟩ : ∃ AL, AL = PK ++ progI b1 D i := ⟨_, rfl⟩
              have HAL : Hid (PK ++ progI b1 D (i + 1) = AL ++ [x]) := hid (by rw [progI_succ, ← List.append_assoc, ← hAL, hx])
              rw [← hAL] at HO hlL
              clear hx hiff hAL hiD hiD2
              go_wp2_with fail
              refine via (i_modN p n M _ HR.out HMT.out) ?_
              intro u9 z9
              (try simp at z9)
              have hown := HO.out.aft u9
              have hcB' : ∀ o, (aft wr u9).cell? ⟨kB, o, none⟩ = #[Value.int .i64 b1, .int .i64 (b2 : Int)][o]? := fun o => by rw [aft_cell, if_pos hlt9]; exact hcB o
              have hce' : ∀ o, (aft wr u9).cell? ⟨w.heap.size, o, none⟩ = #[Value.int .i64 p, .int .i64 n][o]? := fun o => by rw [aft_cell, if_pos (by omega)]; exact hce o
              go_wp2_with (at_builtin; refine wpList_append_own _ rfl _ _ 24 rfl (X.heap.size) 2 i0 (.int .i64 0) 1 8 Try.underlying24 hi hz0 hz1 hz2 rfl (by decide) _ _ _ rfl (((hown).alloc _)) ⟨_, 0, none⟩ 1 1 [.int .i64 (x)] rfl rfl ?c1 ?c2 ?c3 ?c4 ?c5 ?_)
              case c1 => exact cell_one_new _ _ _
              case c2 => first | rfl | (intro u hu; simp at hu; subst hu; rfl)
              case c3 => unfold maxLen; omega
              case c4 => omega
              case c5 => first | omega | (simp; omega)
              intro v' w1 hown' hgrow _
              have BA : ((aft wr u9).alloc (Obj.cells #[Value.int .i64 x] 2)).heap[kB]? = some (.cells #[Value.int .i64 b1, .int .i64 (b2 : Int)] 72 (0, 0)) := by
                rw [(Below.alloc (below_aft wr u9) (size_aft wr u9) _).block kB hlt9]; exact BW.out
              have hneB : ∀ k, _ = some k → k ≠ kB := fun k hk e => by
                subst e
                exact row_ne (hown.alloc (Obj.cells #[Value.int .i64 x] 2)) BA (by decide) hk
              have BN : Hid (w1.heap[kB]? = some (.cells #[Value.int .i64 b1, .int .i64 (b2 : Int)] 72 (0, 0))) := hid (by
                rw [hgrow.block kB (Array.getElem?_eq_some_iff.1 BA).1 (fun e => hneB kB e.symm rfl)]; exact BA)
              have EN : Hid (Ext X.heap.size X w1) := hid ⟨Below.grown ((EW.out.aft u9).alloc _).1 hgrow ((EW.out.aft u9).alloc _).2 (fun k hk => own_row_ge hown k hk), Nat.le_trans ((EW.out.aft u9).alloc (Obj.cells #[Value.int .i64 x] 2)).2 hgrow.size⟩
              have HO' := hid (ownR.snoc hown')
              clear hown' hown BA hneB hcB hce
              have hcB2 : ∀ o, w1.cell? ⟨kB, o, none⟩ = #[Value.int .i64 b1, .int .i64 (b2 : Int)][o]? := fun o => cell_of_row w1 kB o _ _ (0, 0) BN.out
              have hce2 : ∀ o, w1.cell? ⟨w.heap.size, o, none⟩ = #[Value.int .i64 p, .int .i64 n][o]? := fun o => by have := c0 o; rw [← this]; exact EN.out.1.cell (p := ⟨w.heap.size, o, none⟩) l0
              clear hgrow hcB' hce'
              go_wp2_with fail
              refine pur (i_power p (b2 : Int) _ (by omega) (by omega) HDB.out) ?_
              rw [HDT.out]
              go_wp2_with fail
              go_roundw
              case rel => exact ⟨i + 1, hiC, by rw [← HXN.out], hid (by rw [HAL.out]; exact HO'.out), EN, BN⟩
              case measure => simp only [intOf]; omega
            · have hiC2 : i = C := by omega
              have hxM : ¬ x < M := fun h => hiC (hiff.1 h)
              have HOC : Hid (ownR X.heap.size wr _ (progK p N L (q + 1))) := hid (by have := HO.out; rw [hiC2] at this; rw [HSU.out, HPB.out]; exact this)
              clear hx hiff hiC2 HO
              go_wp2_with fail
              refine via (i_modN p n M _ HR.out HMT.out) ?_
              intro u9 z9
              (try simp at z9)
              obtain ⟨uf, huf⟩ := aft_ex (EW.out.aft u9).1
              have HOF := hid (HOC.out.aft u9)
              have HUF := hid huf
              have hq1 : q + 1 ≤ L.length := hlt
              clear huf
              go_wp2_with fail
              go_roundw
              case rel => exact ⟨q + 1, uf, HUF.out, hq1, by go_num, HOF⟩
              case measure => simp only [intOf]; omega
      · have hqf : q = L.length := by omega
        have hltz : ¬ (q : Int) < (L.length : Int) := by omega
        have HO2 : Hid (ownR X.heap.size (aft X u7) _ (progK p N L L.length)) := hid (by have := HO.out; rw [hqf] at this; exact this)
        have hlK : (progK p N L L.length).length ≤ 60 := by rw [progK_len, ← HT.out]; omega
        clear HO
        go_wp2_with fail
        refine viaS (lib_sort HO2.out (by omega)) ?_
        intro w' hso hgr
        have hsorted : ((progK p N L L.length).mergeSort fun x y => decide (x ≤ y)).Pairwise (· ≤ ·) := by
          have := List.pairwise_mergeSort (le := fun (x y : Int) => decide (x ≤ y)) (by intro a b c h1 h2; simp at *; omega) (by intro a b; simp; omega) (progK p N L L.length)
          exact this.imp fun h => by simpa using h
        have HF := hid (HZ.out _ (List.mergeSort_perm (progK p N L L.length) fun x y => decide (x ≤ y)) hsorted (by omega))
        obtain ⟨u', rfl⟩ := grown_aft (W := X) (by repeat (with_reducible first | exact Ext.refl _ | apply Ext.alloc | apply Ext.aft | apply Ext.drew | apply Ext.drewN | apply Ext.setCell | exact Nat.le_add_right _ _ | exact Nat.le_refl _ | (simp; done) | omega)) hgr (own_row_ge HO2.out)
        have HS := hid hso
        clear hso hgr hsorted
        go_wp2_with fail
        go_ret2
        exact ⟨_, by rw [HF.out]; rfl, by rw [HF.out]; exact HS.out.mono (by omega), Ext.bel (E0.out.aft _)⟩
end Go.Proofs.Ytdhnpmjoajaeiaa
