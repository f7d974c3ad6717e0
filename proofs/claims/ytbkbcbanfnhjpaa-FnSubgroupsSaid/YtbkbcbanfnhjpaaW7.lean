/- GenerateGroup: both texts. -/
import Derived.Test.YtbkbcbanfnhjpaaW4
import Derived.Test.YtbkbcbanfnhjpaaP4
import Derived.Test.YtbkbcbanfnhjpaaMA
namespace Go.Proofs.Ytbkbcbanfnhjpaa
open Go Go.RowKit

/-- The first error of what is to generate a group. -/
def genC (n : Int) (gs : List (List Int)) : Int :=
  if inB n 1 6 = true then (if 4 < gs.length then 2 else if (gs.any fun a => !permB a) = true then 1 else if (gs.any fun a => (a.length : Int) != n) = true then 5 else 0) else 2
def genV (n : Int) (gs : List (List Int)) : List Int × Int × Int := if genC n gs = 0 then (genR n.toNat gs, n, 0) else ([], 0, genC n gs)
theorem genV_len (n : Int) (gs : List (List Int)) : (genV n gs).1.length ≤ 1000 := by
  unfold genV
  split
  · rename_i h
    unfold genC at h
    split at h
    · rename_i hn
      have hn := inB_iff.1 hn
      have := facN_le (show n.toNat ≤ 6 by omega)
      exact Nat.le_trans genM_len (by omega)
    · exact absurd h (by decide)
  · simp
theorem any_f {xss : List (List Int)} {p : List Int → Bool} (h : xss.any p = false) : ∀ a ∈ xss, p a = false := fun a ha => by
  rw [List.any_eq_false] at h
  simpa using h a ha
theorem pred_perm {xss : List (List Int)} {w : World} (hl : ∀ xs ∈ xss, xs.length ≤ 1048576) : predR 75 #[] (fun a => !permB a) xss w := by
  intro W v xs hb hx ho
  change Calls Try.prog 75 #[v] W fun e w' => e = .returned (.bool (!permB xs)) ∧ Below w.heap.size w w'
  obtain ⟨b, hbb⟩ : ∃ b, permB xs = b := ⟨_, rfl⟩
  rw [hbb]
  have HB := hid hbb
  have HX := hid (hl xs hx)
  have HBE := hid hb
  clear hbb hb
  go_enter Try.func75, Try.ntmps75
  go_wp2_with (go_at_call 76; refine via (i_IsPermE v xs _ b ho HX.out HB.out) ?_; intro uu zz; try simp at zz)
  go_ret
  exact ⟨rfl, HBE.out.trans ((below_aft W uu).mono HBE.out.size)⟩
theorem pred_len {n : Int} {kb : Nat} {xss : List (List Int)} {w : World} (hc : w.cell? ⟨kb, 0, none⟩ = some (.int .i64 n)) : predR 77 #[.pointer (some ⟨kb, 0, none⟩)] (fun a => (a.length : Int) != n) xss w := by
  intro W v xs hb hx ho
  have hc' : W.cell? ⟨kb, 0, none⟩ = some (.int .i64 n) := by rw [hb.cell (p := ⟨kb, 0, none⟩) (World.block_lt_of_cell? w _ hc)]; exact hc
  change Calls Try.prog 77 #[v, .pointer (some ⟨kb, 0, none⟩)] W fun e w' => e = .returned (.bool ((xs.length : Int) != n)) ∧ Below w.heap.size w w'
  have hkb := World.block_lt_of_cell? W _ hc'
  simp only at hkb
  have HR := hid ho.rd
  have HBE := hid hb
  clear hb ho hc hx
  go_enter Try.func77, Try.ntmps77
  go_wp2_with fail
  refine wp_region_calm (by kernel_rfl) (by kernel_rfl) ?_
  repeat (go_big_quiet_step (first | (go_at_call 78; exact calmp (i_size _ xs _ (HR.out.aft _)))))
  refine wpQuiet_nil ?_; intro uq zq; try simp at zq
  go_wp2_with fail
  go_ret
  exact ⟨rfl, HBE.out.trans ((below_aft W uq).mono HBE.out.size)⟩
set_option maxRecDepth 20000 in
set_option maxHeartbeats 8000000 in
theorem i_GenerateGroup (n : Int) (r : Value) (gs : List (List Int)) (w : World) (h : rdRR w r gs) (hl : ∀ xs ∈ gs, xs.length ≤ 1048576) :
    Calls Try.prog 25 #[.int .i64 n, r] w fun e w' => ∃ v, e = .returned (.tuple #[.agg #[.int .i64 (genV n gs).2.1, v], .int .i64 (genV n gs).2.2]) ∧ ownR w.heap.size w' v (genV n gs).1 ∧ Below w.heap.size w w' := by
  have hR := (h.alloc (Obj.cells #[.int .i64 n] 2)).alloc (Obj.cells #[.int .i64 0, .slice none 0 0] 26)
  obtain ⟨ag, cg, hsh, _, _⟩ := id h
  cases hn : inB n 1 6
  · have e : genV n gs = ([], 0, 2) := by unfold genV genC; rw [hn]; rfl
    rw [e]; clear e
    subst hsh
    go_enter Try.func25, Try.ntmps25
    go_wp2_with (go_at_call 73; refine pur (i_within _ _ _ _) ?_)
    exact bodyPost_ret (v := .tuple #[(.agg #[.int .i64 0, .slice none 0 0]), .int .i64 2]) (by first | (simp [results, go_sem]; done) | simp [results, go_sem, ↓IntWalk.iteOmega]) rfl ⟨_, rfl, ownR.nil _ _, (by refine Ext.bel ?_; repeat (with_reducible first | exact Ext.refl _ | apply Ext.alloc | apply Ext.aft | apply Ext.drew | apply Ext.drewN | apply Ext.setCell | exact Nat.le_add_right _ _ | exact Nat.le_refl _ | (simp; done) | omega))⟩
  by_cases h4 : 4 < gs.length
  · have e : genV n gs = ([], 0, 2) := by unfold genV genC; rw [hn, if_pos rfl, if_pos h4]; rfl
    rw [e]; clear e
    subst hsh
    have h4z : (4 : Int) < (gs.length : Int) := by omega
    go_enter Try.func25, Try.ntmps25
    go_wp2_with (go_at_call 73; refine pur (i_within _ _ _ _) ?_)
    exact bodyPost_ret (v := .tuple #[(.agg #[.int .i64 0, .slice none 0 0]), .int .i64 2]) (by first | (simp [results, go_sem]; done) | simp [results, go_sem, ↓IntWalk.iteOmega]) rfl ⟨_, rfl, ownR.nil _ _, (by refine Ext.bel ?_; repeat (with_reducible first | exact Ext.refl _ | apply Ext.alloc | apply Ext.aft | apply Ext.drew | apply Ext.drewN | apply Ext.setCell | exact Nat.le_add_right _ _ | exact Nat.le_refl _ | (simp; done) | omega))⟩
  have h4z : ¬ (4 : Int) < (gs.length : Int) := by omega
  have HPP := hid (pred_perm (w := (w.alloc (Obj.cells #[.int .i64 n] 2)).alloc (Obj.cells #[.int .i64 0, .slice none 0 0] 26)) hl)
  have eg : ∀ args w, (callFunc 75 args).run Try.prog w = .ok (.enter 75 args) w := entersT Try.func75 (by kernel_rfl) rfl
  have eg2 : ∀ args w, (callFunc 77 args).run Try.prog w = .ok (.enter 77 args) w := entersT Try.func77 (by kernel_rfl) rfl
  have EG := hid eg
  have EG2 := hid eg2
  clear eg eg2
  cases hp : gs.any (fun a => !permB a)
  case true =>
    have e : genV n gs = ([], 0, 1) := by unfold genV genC; rw [hn, if_pos rfl, if_neg h4, hp]; rfl
    rw [e]; clear e
    have HA := hid hp
    subst hsh
    clear hp hl
    go_enter Try.func25, Try.ntmps25
    go_wp2_with (go_at_call 73; refine pur (i_within _ _ _ _) ?_)
    refine via (lib_containsR _ _ _ EG.out _ gs _ hR HPP.out _ HA.out) ?_
    intro uu zz
    try simp at zz
    go_wp2_with fail
    exact bodyPost_ret (v := .tuple #[(.agg #[.int .i64 0, .slice none 0 0]), .int .i64 1]) (by first | (simp [results, go_sem]; done) | simp [results, go_sem, ↓IntWalk.iteOmega]) rfl ⟨_, rfl, ownR.nil _ _, (by refine Ext.bel ?_; repeat (with_reducible first | exact Ext.refl _ | apply Ext.alloc | apply Ext.aft | apply Ext.drew | apply Ext.drewN | apply Ext.setCell | exact Nat.le_add_right _ _ | exact Nat.le_refl _ | (simp; done) | omega))⟩
  have HA := hid hp
  have hpm : ∀ a ∈ gs, permB a = true := fun a ha => by simpa using any_f hp a ha
  cases hq : gs.any (fun a => (a.length : Int) != n)
  case true =>
    have e : genV n gs = ([], 0, 5) := by unfold genV genC; rw [hn, if_pos rfl, if_neg h4, hp, hq]; rfl
    rw [e]; clear e
    have HQ := hid hq
    subst hsh
    clear hp hq hl hpm
    go_enter Try.func25, Try.ntmps25
    go_wp2_with (go_at_call 73; refine pur (i_within _ _ _ _) ?_)
    refine via (lib_containsR _ _ _ EG.out _ gs _ hR HPP.out _ HA.out) ?_
    intro uu zz
    try simp at zz
    go_wp2_with fail
    refine via (lib_containsR _ _ (fun a => (a.length : Int) != n) EG2.out _ gs _ (hR.aft _) (pred_len (by simp [go_sem])) _ HQ.out) ?_
    intro u2 z2
    try simp at z2
    go_wp2_with fail
    exact bodyPost_ret (v := .tuple #[(.agg #[.int .i64 0, .slice none 0 0]), .int .i64 5]) (by first | (simp [results, go_sem]; done) | simp [results, go_sem, ↓IntWalk.iteOmega]) rfl ⟨_, rfl, ownR.nil _ _, (by refine Ext.bel ?_; repeat (with_reducible first | exact Ext.refl _ | apply Ext.alloc | apply Ext.aft | apply Ext.drew | apply Ext.drewN | apply Ext.setCell | exact Nat.le_add_right _ _ | exact Nat.le_refl _ | (simp; done) | omega))⟩
  have HQ := hid hq
  have hnb := inB_iff.1 hn
  obtain ⟨m, rfl⟩ : ∃ m : Nat, n = (m : Int) := ⟨n.toNat, by omega⟩
  have hlen : ∀ a ∈ gs, a.length = m := fun a ha => by have := any_f hq a ha; simp at this; omega
  have HPL : Hid (∀ a ∈ gs, PermL m a) := hid fun a ha => ⟨hlen a ha, by have := (perm_facts (hpm a ha)).2.2.1; rw [hlen a ha] at this; exact this⟩
  obtain ⟨zs, hzs⟩ : ∃ zs, genR m gs = zs := ⟨_, rfl⟩
  have e : genV m gs = (zs, (m : Int), 0) := by unfold genV genC; rw [hn, if_pos rfl, if_neg h4, hp, hq]; simp only [Int.toNat_natCast]; rw [hzs]; rfl
  rw [e]; clear e
  have HZ := hid hzs
  subst hsh
  clear hp hq hl hpm hlen hzs
  go_enter Try.func25, Try.ntmps25
  go_wp2_with (go_at_call 73; refine pur (i_within _ _ _ _) ?_)
  refine via (lib_containsR _ _ _ EG.out _ gs _ hR HPP.out _ HA.out) ?_
  intro uu zz
  try simp at zz
  go_wp2_with fail
  refine via (lib_containsR _ _ (fun a => (a.length : Int) != (m : Int)) EG2.out _ gs _ (hR.aft _) (pred_len (by simp [go_sem])) _ HQ.out) ?_
  intro u2 z2
  try simp at z2
  go_wp2_with fail
  refine viaG (i_generate m _ gs _ zs ((hR.aft _).aft _) (by omega) HPL.out (by omega) HZ.out) ?_
  intro v3 u3 z3 own3
  try simp at z3
  obtain ⟨a3, c3, hsh3, _, _⟩ := own3.rd
  subst hsh3
  go_wp2_with fail
  exact bodyPost_ret (v := .tuple #[.agg #[.int .i64 (m : Int), .slice a3 zs.length c3], .int .i64 0]) (by first | (simp [results, go_sem]; done) | simp [results, go_sem, ↓IntWalk.iteOmega]) rfl ⟨_, rfl, ((own3.setCell _ _ _ _ (by omega)).setCell _ _ _ _ (by omega)).mono (by omega), (by refine Ext.bel ?_; repeat (with_reducible first | exact Ext.refl _ | apply Ext.alloc | apply Ext.aft | apply Ext.drew | apply Ext.drewN | apply Ext.setCell | exact Nat.le_add_right _ _ | exact Nat.le_refl _ | (simp; done) | omega))⟩
end Go.Proofs.Ytbkbcbanfnhjpaa
