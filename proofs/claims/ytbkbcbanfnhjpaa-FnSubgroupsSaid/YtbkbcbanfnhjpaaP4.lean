/- HasPermutation: both texts. -/
import Derived.Test.YtbkbcbanfnhjpaaP3
namespace Go.Proofs.Ytbkbcbanfnhjpaa
open Go Go.RowKit

theorem group_facts {n : Int} {rs : List Int} (h : groupB n rs = true) : ∃ m : Nat, n = m ∧ 1 ≤ m ∧ m ≤ 6 ∧ rs ≠ [] ∧ rs.head? = some 0 ∧ (∀ x ∈ rs, 0 ≤ x ∧ x < (facN m : Int)) ∧ rs.Pairwise (· < ·) ∧ closedB m rs = true := by
  unfold groupB at h
  simp only [Bool.and_eq_true, decide_eq_true_eq, beq_iff_eq] at h
  obtain ⟨⟨⟨h1, h2⟩, h3⟩, h4⟩ := h
  refine ⟨n.toNat, by omega, by omega, by omega, ?_, h2, fun x hx => by have := rises_mem rs _ h3 x hx; omega, rises_pair rs _ h3, h4⟩
  intro e; rw [e] at h2; simp at h2
def memC (n : Int) (rs a : List Int) : Int := if groupB n rs = true ∧ permB a = true then (if (a.length : Int) = n then 0 else 5) else 1
theorem i_IsPermE (r : Value) (xs : List Int) (w : World) (b : Bool) (h : ownR 0 w r xs) (hl : xs.length ≤ 1048576) (hb : permB xs = b) :
    Calls Try.prog 76 #[r] w fun e w' => e = .returned (.bool b) ∧ Below w.heap.size w w' := by subst hb; exact i_IsPerm r xs w h hl
theorem s_IsPermE (r : Value) (xs : List Int) (w : World) (b : Bool) (h : ownR 0 w r xs) (hl : xs.length ≤ 1048576) (hb : permB xs = b) :
    Calls Try.prog 70 #[r] w fun e w' => e = .returned (.bool b) ∧ Below w.heap.size w w' := by subst hb; exact s_IsPerm r xs w h hl
set_option maxRecDepth 20000 in
set_option maxHeartbeats 4000000 in
theorem i_member (n : Int) (r v : Value) (rs xs : List Int) (w : World) (h : rdI w r rs) (hl : rs.length ≤ 1048576) (h2 : ownR 0 w v xs) (hl2 : xs.length ≤ 1048576) :
    Calls Try.prog 100 #[(.agg #[.int .i64 n, r]), v] w fun e w' => e = .returned (.int .i64 (memC n rs xs)) ∧ Below w.heap.size w w' := by
  have hR := h.alloc (Obj.cells #[.int .i64 n, r] 26)
  have hO := h2.alloc (Obj.cells #[.int .i64 n, r] 26)
  cases hg : groupB n rs
  · have e : memC n rs xs = 1 := by simp [memC, hg]
    rw [e]; clear e
    go_enter Try.func100, Try.ntmps100
    go_wp2_with (first | (go_at_call 43; refine via (i_IsGroupE _ _ rs _ false hR hl hg) ?_; intro uu zz; try simp at zz))
    go_ret
    exact ⟨rfl, (by refine Ext.bel ?_; repeat (with_reducible first | exact Ext.refl _ | apply Ext.alloc | apply Ext.aft | apply Ext.drew | apply Ext.drewN | apply Ext.setCell | exact Nat.le_add_right _ _ | exact Nat.le_refl _ | (simp; done) | omega))⟩
  have HG := hid hg
  cases hp : permB xs
  · have e : memC n rs xs = 1 := by simp [memC, hp]
    rw [e]; clear e
    have HP := hid hp
    clear hg hp
    go_enter Try.func100, Try.ntmps100
    go_wp2_with (first | (go_at_call 43; refine via (i_IsGroupE _ _ rs _ true hR hl HG.out) ?_; intro uu zz; try simp at zz) | (go_at_call 76; refine via (i_IsPermE _ xs _ false (hO.aft _) hl2 HP.out) ?_; intro uu zz; try simp at zz))
    go_ret
    exact ⟨rfl, (by refine Ext.bel ?_; repeat (with_reducible first | exact Ext.refl _ | apply Ext.alloc | apply Ext.aft | apply Ext.drew | apply Ext.drewN | apply Ext.setCell | exact Nat.le_add_right _ _ | exact Nat.le_refl _ | (simp; done) | omega))⟩
  have HP := hid hp
  clear hg hp
  have hrd := hO.rd
  by_cases hn : (xs.length : Int) = n
  · have e : memC n rs xs = 0 := by unfold memC; rw [if_pos ⟨HG.out, HP.out⟩, if_pos hn]
    rw [e]; clear e
    have hnb : ((xs.length : Int) == n) = true := by simpa using hn
    have hnn : ((xs.length : Int) != n) = false := by simpa using hn
    have HN := hid hn
    clear hn
    go_enter Try.func100, Try.ntmps100
    go_wp2_with (first | (go_at_call 43; refine via (i_IsGroupE _ _ rs _ true hR hl HG.out) ?_; intro uu zz; try simp at zz) | (go_at_call 76; refine via (i_IsPermE _ xs _ true (hO.aft _) hl2 HP.out) ?_; intro uu zz; try simp at zz))
    refine wp_region_calm (by kernel_rfl) (by kernel_rfl) ?_
    repeat (go_big_quiet_step (first | (go_at_call 78; exact calmp (i_size _ xs _ (by repeat (with_reducible first | assumption | apply rdI.aft | apply rdI.alloc | apply rdI.drew | apply rdI.drewN))))))
    refine wpQuiet_nil ?_; intro uq zq; try simp at zq
    go_wp2_with fail
    go_ret
    exact ⟨rfl, (by refine Ext.bel ?_; repeat (with_reducible first | exact Ext.refl _ | apply Ext.alloc | apply Ext.aft | apply Ext.drew | apply Ext.drewN | apply Ext.setCell | exact Nat.le_add_right _ _ | exact Nat.le_refl _ | (simp; done) | omega))⟩
  · have e : memC n rs xs = 5 := by unfold memC; rw [if_pos ⟨HG.out, HP.out⟩, if_neg hn]
    rw [e]; clear e
    have hnb : ((xs.length : Int) == n) = false := by simpa using hn
    have hnn : ((xs.length : Int) != n) = true := by simpa using hn
    have HN := hid hn
    clear hn
    go_enter Try.func100, Try.ntmps100
    go_wp2_with (first | (go_at_call 43; refine via (i_IsGroupE _ _ rs _ true hR hl HG.out) ?_; intro uu zz; try simp at zz) | (go_at_call 76; refine via (i_IsPermE _ xs _ true (hO.aft _) hl2 HP.out) ?_; intro uu zz; try simp at zz))
    refine wp_region_calm (by kernel_rfl) (by kernel_rfl) ?_
    repeat (go_big_quiet_step (first | (go_at_call 78; exact calmp (i_size _ xs _ (by repeat (with_reducible first | assumption | apply rdI.aft | apply rdI.alloc | apply rdI.drew | apply rdI.drewN))))))
    refine wpQuiet_nil ?_; intro uq zq; try simp at zq
    go_wp2_with fail
    go_ret
    exact ⟨rfl, (by refine Ext.bel ?_; repeat (with_reducible first | exact Ext.refl _ | apply Ext.alloc | apply Ext.aft | apply Ext.drew | apply Ext.drewN | apply Ext.setCell | exact Nat.le_add_right _ _ | exact Nat.le_refl _ | (simp; done) | omega))⟩
set_option maxRecDepth 20000 in
set_option maxHeartbeats 4000000 in
theorem s_code (n : Int) (r v : Value) (rs xs : List Int) (w : World) (h : rdI w r rs) (hl : rs.length ≤ 1048576) (h2 : ownR 0 w v xs) (hl2 : xs.length ≤ 1048576) :
    Calls Try.prog 101 #[(.agg #[.int .i64 n, r]), v] w fun e w' => e = .returned (.int .i64 (memC n rs xs)) ∧ Below w.heap.size w w' := by
  have hR := h.alloc (Obj.cells #[.int .i64 n, r] 26)
  have hO := h2.alloc (Obj.cells #[.int .i64 n, r] 26)
  cases hg : groupB n rs
  · have e : memC n rs xs = 1 := by simp [memC, hg]
    rw [e]; clear e
    go_enter Try.func101, Try.ntmps101
    go_wp2_with (first | (go_at_call 57; refine via (s_IsGroupE _ _ rs _ false hR hl hg) ?_; intro uu zz; try simp at zz))
    go_ret
    exact ⟨rfl, (by refine Ext.bel ?_; repeat (with_reducible first | exact Ext.refl _ | apply Ext.alloc | apply Ext.aft | apply Ext.drew | apply Ext.drewN | apply Ext.setCell | exact Nat.le_add_right _ _ | exact Nat.le_refl _ | (simp; done) | omega))⟩
  have HG := hid hg
  cases hp : permB xs
  · have e : memC n rs xs = 1 := by simp [memC, hp]
    rw [e]; clear e
    have HP := hid hp
    clear hg hp
    go_enter Try.func101, Try.ntmps101
    go_wp2_with (first | (go_at_call 57; refine via (s_IsGroupE _ _ rs _ true hR hl HG.out) ?_; intro uu zz; try simp at zz) | (go_at_call 70; refine via (s_IsPermE _ xs _ false (hO.aft _) hl2 HP.out) ?_; intro uu zz; try simp at zz))
    go_ret
    exact ⟨rfl, (by refine Ext.bel ?_; repeat (with_reducible first | exact Ext.refl _ | apply Ext.alloc | apply Ext.aft | apply Ext.drew | apply Ext.drewN | apply Ext.setCell | exact Nat.le_add_right _ _ | exact Nat.le_refl _ | (simp; done) | omega))⟩
  have HP := hid hp
  clear hg hp
  obtain ⟨a, c, hsh, hm, _⟩ := h2.rd
  unfold maxLen at hm
  subst hsh
  by_cases hn : (xs.length : Int) = n
  · have e : memC n rs xs = 0 := by unfold memC; rw [if_pos ⟨HG.out, HP.out⟩, if_pos hn]
    rw [e]; clear e
    have hnb : ((xs.length : Int) == n) = true := by simpa using hn
    have hnn : ((xs.length : Int) != n) = false := by simpa using hn
    have HN := hid hn
    clear hn
    go_enter Try.func101, Try.ntmps101
    go_wp2_with (first | (go_at_call 57; refine via (s_IsGroupE _ _ rs _ true hR hl HG.out) ?_; intro uu zz; try simp at zz) | (go_at_call 70; refine via (s_IsPermE _ xs _ true (hO.aft _) hl2 HP.out) ?_; intro uu zz; try simp at zz))
    go_ret
    exact ⟨rfl, (by refine Ext.bel ?_; repeat (with_reducible first | exact Ext.refl _ | apply Ext.alloc | apply Ext.aft | apply Ext.drew | apply Ext.drewN | apply Ext.setCell | exact Nat.le_add_right _ _ | exact Nat.le_refl _ | (simp; done) | omega))⟩
  · have e : memC n rs xs = 5 := by unfold memC; rw [if_pos ⟨HG.out, HP.out⟩, if_neg hn]
    rw [e]; clear e
    have hnb : ((xs.length : Int) == n) = false := by simpa using hn
    have hnn : ((xs.length : Int) != n) = true := by simpa using hn
    have HN := hid hn
    clear hn
    go_enter Try.func101, Try.ntmps101
    go_wp2_with (first | (go_at_call 57; refine via (s_IsGroupE _ _ rs _ true hR hl HG.out) ?_; intro uu zz; try simp at zz) | (go_at_call 70; refine via (s_IsPermE _ xs _ true (hO.aft _) hl2 HP.out) ?_; intro uu zz; try simp at zz))
    go_ret
    exact ⟨rfl, (by refine Ext.bel ?_; repeat (with_reducible first | exact Ext.refl _ | apply Ext.alloc | apply Ext.aft | apply Ext.drew | apply Ext.drewN | apply Ext.setCell | exact Nat.le_add_right _ _ | exact Nat.le_refl _ | (simp; done) | omega))⟩
theorem i_memberE (n : Int) (r v : Value) (rs xs : List Int) (w : World) (c : Int) (h : rdI w r rs) (hl : rs.length ≤ 1048576) (h2 : ownR 0 w v xs) (hl2 : xs.length ≤ 1048576) (hc : memC n rs xs = c) :
    Calls Try.prog 100 #[(.agg #[.int .i64 n, r]), v] w fun e w' => e = .returned (.int .i64 c) ∧ Below w.heap.size w w' := by subst hc; exact i_member n r v rs xs w h hl h2 hl2
theorem s_codeE (n : Int) (r v : Value) (rs xs : List Int) (w : World) (c : Int) (h : rdI w r rs) (hl : rs.length ≤ 1048576) (h2 : ownR 0 w v xs) (hl2 : xs.length ≤ 1048576) (hc : memC n rs xs = c) :
    Calls Try.prog 101 #[(.agg #[.int .i64 n, r]), v] w fun e w' => e = .returned (.int .i64 c) ∧ Below w.heap.size w w' := by subst hc; exact s_code n r v rs xs w h hl h2 hl2
def hasF (n : Int) (rs a : List Int) : Bool × Int := if memC n rs a = 0 then (rs.contains (rankF a), 0) else (false, memC n rs a)
theorem mem_zero {n : Int} {rs a : List Int} (h : memC n rs a = 0) : groupB n rs = true ∧ permB a = true ∧ (a.length : Int) = n := by
  unfold memC at h
  split at h
  · rename_i h1
    split at h
    · exact ⟨h1.1, h1.2, ‹_›⟩
    · omega
  · omega
set_option maxRecDepth 20000 in
set_option maxHeartbeats 4000000 in
theorem i_Has (n : Int) (r v : Value) (rs xs : List Int) (w : World) (h : rdI w r rs) (hl : rs.length ≤ 1048576) (h2 : ownR 0 w v xs) (hl2 : xs.length ≤ 1048576) :
    Calls Try.prog 38 #[(.agg #[.int .i64 n, r]), v] w fun e w' => e = .returned (.tuple #[.bool (hasF n rs xs).1, .int .i64 (hasF n rs xs).2]) ∧ Below w.heap.size w w' := by
  have hR := h.alloc (Obj.cells #[.int .i64 n, r] 26)
  have hO := h2.alloc (Obj.cells #[.int .i64 n, r] 26)
  obtain ⟨c, hc⟩ : ∃ c, memC n rs xs = c := ⟨_, rfl⟩
  have HC := hid hc
  by_cases h0 : c = 0
  · subst h0
    have e : hasF n rs xs = (rs.contains (rankF xs), 0) := by unfold hasF; rw [if_pos hc]
    obtain ⟨hg, hp, hn⟩ := mem_zero hc
    obtain ⟨m, rfl, hm1, hm6, hne, _, _, hpw, _⟩ := group_facts hg
    have hx6 := (perm_facts hp).2.1
    rw [e]; clear e
    obtain ⟨b, hb⟩ : ∃ b, rs.contains (rankF xs) = b := ⟨_, rfl⟩
    rw [hb]
    have HB := hid hb
    have HNE := hid hne
    have HPW := hid hpw
    clear hc hg hp hn hb hne hpw
    go_enter Try.func38, Try.ntmps38
    go_wp2_with (first | (go_at_call 100; refine via (i_memberE _ _ _ rs xs _ 0 hR hl hO hl2 HC.out) ?_; intro uu zz; try simp at zz) | (go_at_call 63; refine via (i_hasE _ _ _ rs xs _ b (hR.aft _) HNE.out hl HPW.out (hO.aft _) hx6 HB.out) ?_; intro u2 z2; try simp at z2))
    exact bodyPost_ret (v := .tuple #[.bool b, .int .i64 0]) (by first | (simp [results, go_sem]; done) | simp [results, go_sem, ↓IntWalk.iteOmega]) rfl ⟨rfl, (by refine Ext.bel ?_; repeat (with_reducible first | exact Ext.refl _ | apply Ext.alloc | apply Ext.aft | apply Ext.drew | apply Ext.drewN | apply Ext.setCell | exact Nat.le_add_right _ _ | exact Nat.le_refl _ | (simp; done) | omega))⟩
  · have e : hasF n rs xs = (false, c) := by unfold hasF; rw [if_neg (by rw [hc]; exact h0), hc]
    rw [e]; clear e hc
    have hcb : (c == 0) = false := by simpa using h0
    have hcn : (c != 0) = true := by simpa using h0
    have H0 := hid h0
    clear h0
    go_enter Try.func38, Try.ntmps38
    go_wp2_with (first | (go_at_call 100; refine via (i_memberE _ _ _ rs xs _ c hR hl hO hl2 HC.out) ?_; intro uu zz; try simp at zz))
    exact bodyPost_ret (v := .tuple #[.bool false, .int .i64 c]) (by first | (simp [results, go_sem]; done) | simp [results, go_sem, ↓IntWalk.iteOmega]) rfl ⟨rfl, (by refine Ext.bel ?_; repeat (with_reducible first | exact Ext.refl _ | apply Ext.alloc | apply Ext.aft | apply Ext.drew | apply Ext.drewN | apply Ext.setCell | exact Nat.le_add_right _ _ | exact Nat.le_refl _ | (simp; done) | omega))⟩
set_option maxRecDepth 20000 in
set_option maxHeartbeats 4000000 in
theorem s_Has (n : Int) (r v : Value) (rs xs : List Int) (w : World) (h : rdI w r rs) (hl : rs.length ≤ 1048576) (h2 : ownR 0 w v xs) (hl2 : xs.length ≤ 1048576) :
    Calls Try.prog 39 #[(.agg #[.int .i64 n, r]), v] w fun e w' => e = .returned (.tuple #[.bool (hasF n rs xs).1, .int .i64 (hasF n rs xs).2]) ∧ Below w.heap.size w w' := by
  have hR := h.alloc (Obj.cells #[.int .i64 n, r] 26)
  have hO := h2.alloc (Obj.cells #[.int .i64 n, r] 26)
  obtain ⟨c, hc⟩ : ∃ c, memC n rs xs = c := ⟨_, rfl⟩
  have HC := hid hc
  by_cases h0 : c = 0
  · subst h0
    have e : hasF n rs xs = (rs.contains (rankF xs), 0) := by unfold hasF; rw [if_pos hc]
    obtain ⟨hg, hp, hn⟩ := mem_zero hc
    have hx6 := (perm_facts hp).2.1
    rw [e]; clear e
    obtain ⟨b, hb⟩ : ∃ b, rs.contains (rankF xs) = b := ⟨_, rfl⟩
    rw [hb]
    have HB := hid hb
    clear hc hg hp hn hb
    go_enter Try.func39, Try.ntmps39
    go_wp2_with (first | (go_at_call 101; refine via (s_codeE _ _ _ rs xs _ 0 hR hl hO hl2 HC.out) ?_; intro uu zz; try simp at zz))
    refine wp_region_calm (by kernel_rfl) (by kernel_rfl) ?_
    repeat (go_big_quiet_step (first | (go_at_call 85; exact calm (s_rank _ xs _ (((hO.rd).aft _).aft _) hx6)) | (go_at_call 102; exact calmp (s_hasE _ rs _ _ ((hR.aft _).aft _) HB.out))))
    refine wpQuiet_nil ?_; intro uq zq; try simp at zq
    go_wp2_with fail
    exact bodyPost_ret (v := .tuple #[.bool b, .int .i64 0]) (by first | (simp [results, go_sem]; done) | simp [results, go_sem, ↓IntWalk.iteOmega]) rfl ⟨rfl, (by refine Ext.bel ?_; repeat (with_reducible first | exact Ext.refl _ | apply Ext.alloc | apply Ext.aft | apply Ext.drew | apply Ext.drewN | apply Ext.setCell | exact Nat.le_add_right _ _ | exact Nat.le_refl _ | (simp; done) | omega))⟩
  · have e : hasF n rs xs = (false, c) := by unfold hasF; rw [if_neg (by rw [hc]; exact h0), hc]
    rw [e]; clear e hc
    have hcb : (c == 0) = false := by simpa using h0
    have hcn : (c != 0) = true := by simpa using h0
    have H0 := hid h0
    clear h0
    go_enter Try.func39, Try.ntmps39
    go_wp2_with (first | (go_at_call 101; refine via (s_codeE _ _ _ rs xs _ c hR hl hO hl2 HC.out) ?_; intro uu zz; try simp at zz))
    exact bodyPost_ret (v := .tuple #[.bool false, .int .i64 c]) (by first | (simp [results, go_sem]; done) | simp [results, go_sem, ↓IntWalk.iteOmega]) rfl ⟨rfl, (by refine Ext.bel ?_; repeat (with_reducible first | exact Ext.refl _ | apply Ext.alloc | apply Ext.aft | apply Ext.drew | apply Ext.drewN | apply Ext.setCell | exact Nat.le_add_right _ _ | exact Nat.le_refl _ | (simp; done) | omega))⟩
end Go.Proofs.Ytbkbcbanfnhjpaa
