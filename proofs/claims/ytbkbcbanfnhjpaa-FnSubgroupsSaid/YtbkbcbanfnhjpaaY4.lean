/- ConjugateGroup: both texts. -/
import Derived.Test.YtbkbcbanfnhjpaaY3
namespace Go.Proofs.Ytbkbcbanfnhjpaa
open Go Go.RowKit

def cjF (n : Int) (rs A : List Int) : List Int × Int × Int := if memC n rs A = 0 then (listedU (conjR n.toNat rs A) (facN n.toNat), n, 0) else ([], 0, memC n rs A)
theorem cj_zero {n : Int} {rs A : List Int} (h : memC n rs A = 0) : groupB n rs = true ∧ permB A = true ∧ (A.length : Int) = n := by
  unfold memC at h
  split at h
  · rename_i h1
    split at h
    · exact ⟨h1.1, h1.2, ‹_›⟩
    · omega
  · omega
theorem cjF_len (n : Int) (rs A : List Int) : (cjF n rs A).1.length ≤ 1000 := by
  unfold cjF
  split
  · rename_i h
    obtain ⟨hg, _, _⟩ := cj_zero h
    obtain ⟨m, rfl, _, hm6, _⟩ := group_facts hg
    exact Nat.le_trans (listedU_len _ _) (by have := facN_le hm6; simp only [Int.toNat_natCast]; omega)
  · simp
set_option maxRecDepth 20000 in
set_option maxHeartbeats 8000000 in
theorem i_Conj (n : Int) (r va : Value) (rs A : List Int) (w : World) (Z : List Int) (P C : Int) (h : rdI w r rs) (hl : rs.length ≤ 1048576) (h2 : ownR 0 w va A) (hl2 : A.length ≤ 1048576) (hF : cjF n rs A = (Z, P, C)) :
    Calls Try.prog 48 #[(.agg #[.int .i64 n, r]), va] w fun e w' => ∃ v, e = .returned (.tuple #[.agg #[.int .i64 P, v], .int .i64 C]) ∧ ownR w.heap.size w' v Z ∧ Below w.heap.size w w' := by
  have hR := (h.alloc (Obj.cells #[.int .i64 n, r] 26)).alloc (Obj.cells #[.int .i64 0, .slice none 0 0] 26)
  have hA := (h2.alloc (Obj.cells #[.int .i64 n, r] 26)).alloc (Obj.cells #[.int .i64 0, .slice none 0 0] 26)
  have hmem := i_member n r va rs A _ hR hl hA hl2
  obtain ⟨c, hc⟩ : ∃ c, memC n rs A = c := ⟨_, rfl⟩
  rw [hc] at hmem
  have HM := hid hmem
  clear hmem
  by_cases h0 : c = 0
  · subst h0
    have e : (listedU (conjR n.toNat rs A) (facN n.toNat), n, (0 : Int)) = (Z, P, C) := by rw [← hF]; unfold cjF; rw [if_pos hc]
    injection e with e1 e2
    injection e2 with e3 e4
    subst e3
    subst e4
    obtain ⟨hg, hp, hAn⟩ := cj_zero hc
    obtain ⟨m, rfl, hm1, hm6, hne, hhd, hr, hpw, _⟩ := group_facts hg
    obtain ⟨hp1, hp6, hpr, _⟩ := perm_facts hp
    have hAl : A.length = m := by omega
    rw [hAl] at hpr
    have hl7 : rs.length ≤ 720 := Nat.le_trans (asc_len hpw hr) (facN_le hm6)
    have Hr := hid hr
    have HPR := hid hpr
    simp only [Int.toNat_natCast] at e1
    have HZ := hid e1
    clear hg hp hr hpw hne hhd hpr e1 hF hc
    go_enter Try.func48, Try.ntmps48
    go_wp2_with fail
    refine via HM.out ?_
    intro uu zz
    try simp at zz
    go_wp2_with fail
    refine viaG (i_conjGroup m r va rs A _ Z (hR.aft _) (hA.rd.aft _) (by omega) hm6 Hr.out hl7 hAl HPR.out HZ.out) ?_
    intro v2 u2 z2 own2
    try simp at z2
    obtain ⟨a2, c2, hsh, _, _⟩ := own2.rd
    subst hsh
    go_wp2_with fail
    exact bodyPost_ret (v := .tuple #[.agg #[.int .i64 (m : Int), .slice a2 Z.length c2], .int .i64 0]) (by first | (simp [results, go_sem]; done) | simp [results, go_sem, ↓IntWalk.iteOmega]) rfl ⟨_, rfl, ((own2.setCell _ _ _ _ (by omega)).setCell _ _ _ _ (by omega)).mono (by omega), (by refine Ext.bel ?_; repeat (with_reducible first | exact Ext.refl _ | apply Ext.alloc | apply Ext.aft | apply Ext.drew | apply Ext.drewN | apply Ext.setCell | exact Nat.le_add_right _ _ | exact Nat.le_refl _ | (simp; done) | omega))⟩
  · have e : (([] : List Int), (0 : Int), c) = (Z, P, C) := by rw [← hF]; unfold cjF; rw [if_neg (by rw [hc]; exact h0), hc]
    injection e with e1 e2
    injection e2 with e3 e4
    subst e1
    subst e3
    subst e4
    have hcn : (c != 0) = true := by simpa using h0
    have H0 := hid h0
    clear h0 hF hc
    go_enter Try.func48, Try.ntmps48
    go_wp2_with fail
    refine via HM.out ?_
    intro uu zz
    try simp at zz
    go_wp2_with fail
    exact bodyPost_ret (v := .tuple #[.agg #[.int .i64 0, .slice none 0 0], .int .i64 c]) (by first | (simp [results, go_sem]; done) | simp [results, go_sem, ↓IntWalk.iteOmega]) rfl ⟨_, rfl, ownR.nil _ _, (by refine Ext.bel ?_; repeat (with_reducible first | exact Ext.refl _ | apply Ext.alloc | apply Ext.aft | apply Ext.drew | apply Ext.drewN | apply Ext.setCell | exact Nat.le_add_right _ _ | exact Nat.le_refl _ | (simp; done) | omega))⟩
set_option maxRecDepth 20000 in
set_option maxHeartbeats 8000000 in
theorem s_Conj (n : Int) (r va : Value) (rs A : List Int) (w : World) (Z : List Int) (P C : Int) (h : rdI w r rs) (hl : rs.length ≤ 1048576) (h2 : ownR 0 w va A) (hl2 : A.length ≤ 1048576) (hF : cjF n rs A = (Z, P, C)) :
    Calls Try.prog 49 #[(.agg #[.int .i64 n, r]), va] w fun e w' => ∃ v, e = .returned (.tuple #[.agg #[.int .i64 P, v], .int .i64 C]) ∧ ownR w.heap.size w' v Z ∧ Below w.heap.size w w' := by
  have hR := (h.alloc (Obj.cells #[.int .i64 n, r] 26)).alloc (Obj.cells #[.int .i64 0, .slice none 0 0] 26)
  have hA := (h2.alloc (Obj.cells #[.int .i64 n, r] 26)).alloc (Obj.cells #[.int .i64 0, .slice none 0 0] 26)
  have hmem := s_code n r va rs A _ hR hl hA hl2
  obtain ⟨c, hc⟩ : ∃ c, memC n rs A = c := ⟨_, rfl⟩
  rw [hc] at hmem
  have HM := hid hmem
  clear hmem
  by_cases h0 : c = 0
  · subst h0
    have e : (listedU (conjR n.toNat rs A) (facN n.toNat), n, (0 : Int)) = (Z, P, C) := by rw [← hF]; unfold cjF; rw [if_pos hc]
    injection e with e1 e2
    injection e2 with e3 e4
    subst e3
    subst e4
    obtain ⟨hg, hp, hAn⟩ := cj_zero hc
    obtain ⟨m, rfl, hm1, hm6, hne, hhd, hr, hpw, _⟩ := group_facts hg
    obtain ⟨hp1, hp6, hpr, _⟩ := perm_facts hp
    have hAl : A.length = m := by omega
    rw [hAl] at hpr
    have hl7 : rs.length ≤ 720 := Nat.le_trans (asc_len hpw hr) (facN_le hm6)
    have Hr := hid hr
    have HPR := hid hpr
    simp only [Int.toNat_natCast] at e1
    have HZ := hid e1
    clear hg hp hr hpw hne hhd hpr e1 hF hc
    go_enter Try.func49, Try.ntmps49
    go_wp2_with fail
    refine via HM.out ?_
    intro uu zz
    try simp at zz
    go_wp2_with fail
    refine viaG (s_conjGroup m r va rs A _ Z (hR.aft _) (hA.rd.aft _) (by omega) hm6 Hr.out hl7 hAl HPR.out HZ.out) ?_
    intro v2 u2 z2 own2
    try simp at z2
    obtain ⟨a2, c2, hsh, _, _⟩ := own2.rd
    subst hsh
    go_wp2_with fail
    exact bodyPost_ret (v := .tuple #[.agg #[.int .i64 (m : Int), .slice a2 Z.length c2], .int .i64 0]) (by first | (simp [results, go_sem]; done) | simp [results, go_sem, ↓IntWalk.iteOmega]) rfl ⟨_, rfl, ((own2.setCell _ _ _ _ (by omega)).setCell _ _ _ _ (by omega)).mono (by omega), (by refine Ext.bel ?_; repeat (with_reducible first | exact Ext.refl _ | apply Ext.alloc | apply Ext.aft | apply Ext.drew | apply Ext.drewN | apply Ext.setCell | exact Nat.le_add_right _ _ | exact Nat.le_refl _ | (simp; done) | omega))⟩
  · have e : (([] : List Int), (0 : Int), c) = (Z, P, C) := by rw [← hF]; unfold cjF; rw [if_neg (by rw [hc]; exact h0), hc]
    injection e with e1 e2
    injection e2 with e3 e4
    subst e1
    subst e3
    subst e4
    have hcn : (c != 0) = true := by simpa using h0
    have H0 := hid h0
    clear h0 hF hc
    go_enter Try.func49, Try.ntmps49
    go_wp2_with fail
    refine via HM.out ?_
    intro uu zz
    try simp at zz
    go_wp2_with fail
    exact bodyPost_ret (v := .tuple #[.agg #[.int .i64 0, .slice none 0 0], .int .i64 c]) (by first | (simp [results, go_sem]; done) | simp [results, go_sem, ↓IntWalk.iteOmega]) rfl ⟨_, rfl, ownR.nil _ _, (by refine Ext.bel ?_; repeat (with_reducible first | exact Ext.refl _ | apply Ext.alloc | apply Ext.aft | apply Ext.drew | apply Ext.drewN | apply Ext.setCell | exact Nat.le_add_right _ _ | exact Nat.le_refl _ | (simp; done) | omega))⟩
end Go.Proofs.Ytbkbcbanfnhjpaa
