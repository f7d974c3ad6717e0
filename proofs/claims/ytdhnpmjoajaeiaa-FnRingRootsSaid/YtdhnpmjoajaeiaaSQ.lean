/- CountRootsInRing: both texts. -/
import Derived.Test.YtdhnpmjoajaeiaaSP
namespace Go.Proofs.Ytdhnpmjoajaeiaa
open Go Go.RowKit

/-- How many of the first k residues are roots. -/
def cntR (m : Int) (f : List Int) (k : Nat) : Nat := ((List.range k).filter fun (x : Nat) => valF m (x : Int) f == 0).length
theorem cntR_succ (m : Int) (f : List Int) (k : Nat) : cntR m f (k + 1) = cntR m f k + (if valF m (k : Int) f = 0 then 1 else 0) := by
  unfold cntR
  rw [List.range_succ, List.filter_append, List.length_append]
  congr 1
  by_cases h : valF m (k : Int) f = 0
  · simp [h, List.filter]
  · have h2 : (valF m (k : Int) f == 0) = false := by simpa using h
    simp [h, h2, List.filter]
theorem cntR_le (m : Int) (f : List Int) (k : Nat) : cntR m f k ≤ k := by
  unfold cntR
  have := List.length_filter_le (fun (x : Nat) => valF m (x : Int) f == 0) (List.range k)
  rw [List.length_range] at this
  exact this
theorem mem_rootsD {p : Int} {N : Nat} (hp : 2 ≤ p) (f : List Int) (x : Int) : x ∈ rootsD p N f N 0 ↔ (0 ≤ x ∧ x < p ^ N) ∧ p ^ N ∣ ev f x := by
  obtain ⟨h3, _⟩ := rootsD_spec hp f N 0 (Nat.le_refl _) ⟨by omega, by rw [Nat.sub_self, Int.pow_zero]; omega⟩
  rw [h3, Nat.sub_self, Int.pow_zero]
  exact ⟨fun h => h.1, fun h => ⟨h, Int.one_dvd _⟩⟩
theorem cntR_all {p : Int} {N : Nat} (hp : 2 ≤ p) (f : List Int) : cntR (p ^ N) f (p ^ N).toNat = (rootsD p N f N 0).length := by
  obtain ⟨_, h4⟩ := rootsD_spec hp f N 0 (Nat.le_refl _) ⟨by omega, by rw [Nat.sub_self, Int.pow_zero]; omega⟩
  have hq : 0 < p ^ N := Int.pow_pos (by omega)
  have hnd : (((List.range (p ^ N).toNat).filter fun (x : Nat) => valF (p ^ N) (x : Int) f == 0).map fun (x : Nat) => (x : Int)).Nodup := by
    unfold List.Nodup
    rw [List.pairwise_map]
    exact (List.nodup_range.filter _).imp fun {a b} h e => h (by omega)
  have := (List.perm_ext_iff_of_nodup hnd h4).2 fun x => by
    rw [mem_rootsD hp]
    simp only [List.mem_map, List.mem_filter, List.mem_range, beq_iff_eq]
    constructor
    · rintro ⟨k, ⟨h1, h2⟩, rfl⟩
      rw [ev_mod] at h2
      exact ⟨⟨by omega, by omega⟩, Int.dvd_of_emod_eq_zero h2⟩
    · rintro ⟨h1, h2⟩
      refine ⟨x.toNat, ⟨by omega, ?_⟩, by omega⟩
      rw [show ((x.toNat : Nat) : Int) = x by omega, ev_mod]
      exact Int.emod_eq_zero_of_dvd h2
  rw [← this.length_eq, List.length_map]
  rfl
theorem cntK_all {p : Int} {N : Nat} (hp : 2 ≤ p) (hN : 1 ≤ N) (f : List Int) : cntK p N (allB p N (p ^ N) f) (allB p N (p ^ N) f).length = (rootsD p N f N 0).length := by
  rw [← (roots_perm hp hN f).length_eq]
  unfold cntK rootsB allB
  rw [List.take_length]
def crrF (p n : Int) (f : List Int) : Int × Int := if ringB p n = true ∧ polyB f = true then (if 100000 < p ^ n.toNat then (0, 3) else (((rootsD p n.toNat f n.toNat 0).length : Int), 0)) else (0, 1)
theorem viaBlD {P : Program} {f : FuncId} {args : Array Value} {w : World} {L : List (Int × Nat)} {c : Int} {R : Ending → World → Prop}
    (h : Calls P f args w fun e w' => ∃ v, e = .returned (.tuple #[v, .int .i64 c]) ∧ ownBl w.heap.size w' v L ∧ Below w.heap.size w w')
    (hR : ∀ v u, w.heap.size ≤ (aft w u).heap.size → R (.returned (.tuple #[v, .int .i64 c])) (aft w u)) : Calls P f args w R :=
  h.mono fun e w' ⟨v, he, h1, hb⟩ => by subst he; obtain ⟨u, rfl⟩ := aft_ex hb; exact hR v u (size_aft w u)
set_option maxRecDepth 20000 in
set_option maxHeartbeats 8000000 in
theorem i_CountRootsInRing (p n : Int) (r : Value) (xs : List Int) (w : World) (h : rdI w r xs) :
    Calls Try.prog 16 #[(.agg #[.int .i64 p, .int .i64 n]), r] w fun e w' => e = .returned (.tuple #[.int .i64 (crrF p n xs).1, .int .i64 (crrF p n xs).2]) ∧ Below w.heap.size w w' := by
  have H := hid h
  cases h1 : ringB p n
  · have e : (crrF p n xs) = (0, 1) := by simp [crrF, h1]
    rw [e]; clear e
    go_enter Try.func16, Try.ntmps16
    go_wp2_with (first | (go_at_call 30; refine via (i_IsRing _ _ _) ?_; intro uu zz; try simp at zz))
    go_ret2
    exact ⟨rfl, (by refine Ext.bel ?_; repeat (with_reducible first | exact Ext.refl _ | apply Ext.alloc | apply Ext.aft | apply Ext.drew | apply Ext.drewN | apply Ext.setCell | exact Nat.le_add_right _ _ | exact Nat.le_refl _ | (simp; done) | omega))⟩
  cases h2 : polyB xs
  · have e : (crrF p n xs) = (0, 1) := by simp [crrF, h2]
    rw [e]; clear e
    go_enter Try.func16, Try.ntmps16
    go_wp2_with (first | (go_at_call 30; refine via (i_IsRing _ _ _) ?_; intro uu zz; try simp at zz) | (go_at_call 35; refine via (i_IsPolynomial _ xs _ (by repeat (with_reducible first | assumption | apply rdI.aft | apply rdI.alloc | apply rdI.drew | apply rdI.drewN))) ?_; intro uu zz; try simp at zz) | (go_at_call 35; refine pur (i_IsPolynomial _ xs _ (by repeat (with_reducible first | assumption | apply rdI.aft | apply rdI.alloc | apply rdI.drew | apply rdI.drewN))) ?_))
    go_ret2
    exact ⟨rfl, (by refine Ext.bel ?_; repeat (with_reducible first | exact Ext.refl _ | apply Ext.alloc | apply Ext.aft | apply Ext.drew | apply Ext.drewN | apply Ext.setCell | exact Nat.le_add_right _ _ | exact Nat.le_refl _ | (simp; done) | omega))⟩
  obtain ⟨hp, hn, hM1, hM9⟩ := ring_facts h1
  obtain ⟨b1, b2⟩ := poly_bd h2
  have HRT := hid (fun (r : Value) (W : World) (hW : rdI W r xs) => i_rootBalls p n (p ^ n.toNat) n.toNat r xs W hW (by omega) h1 hp ⟨by omega, by omega, by omega⟩ rfl hM9)
  rw [cntK_all hp.1 (by omega)] at HRT
  have HMT := hid (fun (W : World) => i_modN p n (p ^ n.toNat) W h1 rfl)
  have HF := hid (show (crrF p n xs) = (if 100000 < p ^ n.toNat then (0, 3) else (((rootsD p n.toNat xs n.toNat 0).length : Int), 0)) by simp [crrF, h1, h2])
  obtain ⟨LB, hLB⟩ : ∃ LB, LB = allB p n.toNat (p ^ n.toNat) xs := ⟨_, rfl⟩
  obtain ⟨C, hC⟩ : ∃ C : Int, C = ((rootsD p n.toNat xs n.toNat 0).length : Int) := ⟨_, rfl⟩
  obtain ⟨M, hM⟩ : ∃ M, M = p ^ n.toNat := ⟨_, rfl⟩
  rw [← hLB, ← hC] at HRT
  rw [← hM, ← hC] at HF
  rw [← hM] at HMT
  have HR := hid h1
  have HPO := hid h2
  clear h1 h2 hC hM hLB hM1 hM9 h b1 b2 hp hn
  go_enter Try.func16, Try.ntmps16
  go_wp2_with fail
  refine via (i_IsRing _ _ _) ?_
  rw [HR.out]; intro u1 z1
  try simp at z1
  go_wp2_with fail
  refine via (i_IsPolynomial _ xs _ ((H.out.alloc _).aft _)) ?_
  rw [HPO.out]; intro u2 z2
  try simp at z2
  go_wp2_with fail
  refine via (HMT.out _) ?_
  intro u3 z3
  try simp at z3
  by_cases hb : 100000 < M
  · go_wp2_with fail
    go_ret2
    exact ⟨by rw [HF.out, if_pos hb]; rfl, (by refine Ext.bel ?_; repeat (with_reducible first | exact Ext.refl _ | apply Ext.alloc | apply Ext.aft | apply Ext.drew | apply Ext.drewN | apply Ext.setCell | exact Nat.le_add_right _ _ | exact Nat.le_refl _ | (simp; done) | omega))⟩
  · go_wp2_with fail
    refine viaBlD (HRT.out _ _ ((((H.out.alloc _).aft _).aft _).aft _)) ?_
    intro v7 u7 z7
    try simp at z7
    go_wp2_with fail
    go_ret2
    exact ⟨by rw [HF.out, if_neg (by omega)]; rfl, (by refine Ext.bel ?_; repeat (with_reducible first | exact Ext.refl _ | apply Ext.alloc | apply Ext.aft | apply Ext.drew | apply Ext.drewN | apply Ext.setCell | exact Nat.le_add_right _ _ | exact Nat.le_refl _ | (simp; done) | omega))⟩
set_option maxRecDepth 20000 in
set_option maxHeartbeats 8000000 in
theorem s_CountRootsInRing (p n : Int) (r : Value) (xs : List Int) (w : World) (h : rdI w r xs) :
    Calls Try.prog 17 #[(.agg #[.int .i64 p, .int .i64 n]), r] w fun e w' => e = .returned (.tuple #[.int .i64 (crrF p n xs).1, .int .i64 (crrF p n xs).2]) ∧ Below w.heap.size w w' := by
  have H := hid h
  obtain ⟨i0, hi, hz0, hz1, hz2⟩ := info_parts infoI
  cases h1 : ringB p n
  · have e : (crrF p n xs) = (0, 1) := by simp [crrF, h1]
    rw [e]; clear e
    go_enter Try.func17, Try.ntmps17
    go_wp2_with (first | (go_at_call 36; refine via (s_IsRing _ _ _) ?_; intro uu zz; try simp at zz))
    go_ret2
    exact ⟨rfl, (by refine Ext.bel ?_; repeat (with_reducible first | exact Ext.refl _ | apply Ext.alloc | apply Ext.aft | apply Ext.drew | apply Ext.drewN | apply Ext.setCell | exact Nat.le_add_right _ _ | exact Nat.le_refl _ | (simp; done) | omega))⟩
  cases h2 : polyB xs
  · have e : (crrF p n xs) = (0, 1) := by simp [crrF, h2]
    rw [e]; clear e
    go_enter Try.func17, Try.ntmps17
    go_wp2_with (first | (go_at_call 36; refine via (s_IsRing _ _ _) ?_; intro uu zz; try simp at zz) | (go_at_call 37; refine via (s_IsPolynomial _ xs _ (by repeat (with_reducible first | assumption | apply rdI.aft | apply rdI.alloc | apply rdI.drew | apply rdI.drewN))) ?_; intro uu zz; try simp at zz) | (go_at_call 37; refine pur (s_IsPolynomial _ xs _ (by repeat (with_reducible first | assumption | apply rdI.aft | apply rdI.alloc | apply rdI.drew | apply rdI.drewN))) ?_))
    go_ret2
    exact ⟨rfl, (by refine Ext.bel ?_; repeat (with_reducible first | exact Ext.refl _ | apply Ext.alloc | apply Ext.aft | apply Ext.drew | apply Ext.drewN | apply Ext.setCell | exact Nat.le_add_right _ _ | exact Nat.le_refl _ | (simp; done) | omega))⟩
  obtain ⟨hp, hn, hM1, hM9⟩ := ring_facts h1
  obtain ⟨b1, b2⟩ := poly_bd h2
  have HF := hid (show (crrF p n xs) = (if 100000 < p ^ n.toNat then (0, 3) else (((rootsD p n.toNat xs n.toNat 0).length : Int), 0)) by simp [crrF, h1, h2])
  have hcr := cntR_all (N := n.toNat) hp.1 xs
  have HMT := hid (fun (W : World) => s_modulusE p n (p ^ n.toNat) W (by omega) (by omega) ⟨by omega, by omega⟩ (by unfold modu; rw [if_pos hM9]))
  obtain ⟨C, hC⟩ : ∃ C : Int, C = ((rootsD p n.toNat xs n.toNat 0).length : Int) := ⟨_, rfl⟩
  obtain ⟨M, hM⟩ : ∃ M, M = p ^ n.toNat := ⟨_, rfl⟩
  rw [← hM, ← hC] at HF
  rw [← hM] at HMT hM1 hM9 hcr
  have HCR := hid (show ((cntR M xs M.toNat : Nat) : Int) = C by rw [hcr, hC])
  have HR := hid h1
  have HPO := hid h2
  have HB2 := hid b2
  clear h1 h2 hC hM h b1 b2 hp hn hcr
  go_enter Try.func17, Try.ntmps17
  go_wp2_with fail
  refine via (s_IsRing _ _ _) ?_
  rw [HR.out]; intro u1 z1
  try simp at z1
  go_wp2_with fail
  refine pur (s_IsPolynomial _ xs _ ((H.out.alloc _).aft _)) ?_
  rw [HPO.out]
  have c0 : ∀ o, (aft (w.alloc (Obj.cells #[.int .i64 p, .int .i64 n] 27)) u1).cell? ⟨w.heap.size, o, none⟩ = #[Value.int .i64 p, .int .i64 n][o]? := fun o => by rw [aft_cell, if_pos (by simp), alloc_cell, if_pos rfl]
  have d0 := c0 0
  have d1 := c0 1
  simp at d0 d1
  go_wp2_with fail
  refine pur (HMT.out _) ?_
  by_cases hb : 100000 < M
  · go_wp2_with fail
    go_ret2
    exact ⟨by rw [HF.out, if_pos hb]; rfl, (by refine Ext.bel ?_; repeat (with_reducible first | exact Ext.refl _ | apply Ext.alloc | apply Ext.aft | apply Ext.drew | apply Ext.drewN | apply Ext.setCell | exact Nat.le_add_right _ _ | exact Nat.le_refl _ | (simp; done) | omega))⟩
  have HF2 := hid (show (crrF p n xs) = (C, 0) by rw [HF.out, if_neg hb])
  clear HF
  go_wp2_with fail
  obtain ⟨W0, hW0⟩ : ∃ W0, W0 = aft (w.alloc (Obj.cells #[.int .i64 p, .int .i64 n] 27)) u1 := ⟨_, rfl⟩
  have E0 : Hid (Ext w.heap.size w W0) := hid (by rw [hW0]; exact ((Ext.refl w).alloc _).aft _)
  have R0 : Hid (rdI W0 r xs) := hid (by rw [hW0]; exact (H.out.alloc _).aft _)
  rw [← hW0]
  clear hW0 H c0 d0 d1 z1
  obtain ⟨MN, hMN⟩ : ∃ MN : Nat, M = (MN : Int) := ⟨M.toNat, by omega⟩
  subst hMN
  rw [Int.toNat_natCast] at HCR
  go_loopw [7, 8] (fun cn i_ wr => ∃ (q : Nat) (u7 : World), wr = aft W0 u7 ∧ q ≤ MN ∧ i_ = .int .i64 q ∧ cn = .int .i64 (cntR (MN : Int) xs q : Int)) (fun _ i_ _ => (MN - intOf i_).toNat)
  case atStart => exact ⟨0, W0, (aft_of (Below.refl _ _)).symm, by omega, rfl, rfl⟩
  case round =>
    obtain ⟨q, u7, rfl, hq, rfl, rfl⟩ := hrel
    have zs8 := size_aft W0 u7
    by_cases hlt : q < MN
    · have hltz : (q : Int) < (MN : Int) := by omega
      have hcs := cntR_succ (MN : Int) xs q
      have hcb := cntR_le (MN : Int) xs q
      obtain ⟨D, hD⟩ : ∃ D : Int, D = (cntR (MN : Int) xs q : Int) := ⟨_, rfl⟩
      obtain ⟨V, hV⟩ : ∃ V : Int, V = valF (MN : Int) (q : Int) xs := ⟨_, rfl⟩
      have HV := hid (fun (W : World) (hW : rdI W r xs) => s_valueE (MN : Int) r xs (q : Int) V W hW ⟨by omega, by omega⟩ ⟨by omega, by omega⟩ HB2.out hV.symm)
      rw [← hV] at hcs
      rw [← hD]
      have hDb : 0 ≤ D ∧ D ≤ 100000 := by omega
      by_cases hv0 : V = 0
      · rw [if_pos hv0] at hcs
        have HCS := hid (show ((cntR (MN : Int) xs (q + 1) : Nat) : Int) = D + 1 by omega)
        have hvb : (V == 0) = true := by simpa using hv0
        clear hcs hcb hD hV
        subst hv0
        go_wp2_with fail
        refine pur (HV.out _ (R0.out.aft _)) ?_
        go_wp2_with fail
        go_roundw
        case rel => exact ⟨q + 1, u7, rfl, by omega, by go_num, by rw [HCS.out]⟩
        case measure => simp only [intOf]; omega
      · rw [if_neg hv0] at hcs
        have HCS := hid (show ((cntR (MN : Int) xs (q + 1) : Nat) : Int) = D by omega)
        have hvb : (V == 0) = false := by simpa using hv0
        clear hcs hcb hD hV
        go_wp2_with fail
        refine pur (HV.out _ (R0.out.aft _)) ?_
        go_wp2_with fail
        go_roundw
        case rel => exact ⟨q + 1, u7, rfl, by omega, by go_num, by rw [HCS.out]⟩
        case measure => simp only [intOf]; omega
    · obtain rfl : q = MN := by omega
      have hltz : ¬ (q : Int) < (q : Int) := by omega
      go_wp2_with fail
      go_ret2
      exact ⟨by rw [HF2.out, HCR.out]; rfl, Ext.bel (E0.out.aft _)⟩
end Go.Proofs.Ytdhnpmjoajaeiaa
