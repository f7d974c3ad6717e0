/- HasPermutation: both texts. -/
import Derived.Test.YtbifkabjkpljjaaP3
namespace Go.Proofs.Ytbifkabjkpljjaa
open Go Go.RowKit

theorem group_facts {n : Int} {rs : List Int} (h : groupB n rs = true) : ∃ m : Nat, n = m ∧ 1 ≤ m ∧ m ≤ 6 ∧ rs ≠ [] ∧ rs.head? = some 0 ∧ (∀ x ∈ rs, 0 ≤ x ∧ x < (facN m : Int)) ∧ rs.Pairwise (· < ·) ∧ closedB m rs = true := by
  unfold groupB at h
  simp only [Bool.and_eq_true, decide_eq_true_eq, beq_iff_eq] at h
  obtain ⟨⟨⟨h1, h2⟩, h3⟩, h4⟩ := h
  refine ⟨n.toNat, by omega, by omega, by omega, ?_, h2, fun x hx => by have := rises_mem rs _ h3 x hx; omega, rises_pair rs _ h3, h4⟩
  intro e; rw [e] at h2; simp at h2
def memC (n : Int) (rs a : List Int) : Int := if groupB n rs = true ∧ permB a = true then (if (a.length : Int) = n then 0 else 5) else 1
theorem i_IsPermE (r : Value) (xs : List Int) (w : World) (b : Bool) (h : ownR 0 w r xs) (hl : xs.length ≤ 1048576) (hb : permB xs = b) :
    Calls Try.prog 64 #[r] w fun e w' => e = .returned (.bool b) ∧ Below w.heap.size w w' := by subst hb; exact i_IsPerm r xs w h hl
theorem s_IsPermE (r : Value) (xs : List Int) (w : World) (b : Bool) (h : ownR 0 w r xs) (hl : xs.length ≤ 1048576) (hb : permB xs = b) :
    Calls Try.prog 61 #[r] w fun e w' => e = .returned (.bool b) ∧ Below w.heap.size w w' := by subst hb; exact s_IsPerm r xs w h hl
set_option maxRecDepth 20000 in
set_option maxHeartbeats 4000000 in
theorem i_member (n : Int) (r v : Value) (rs xs : List Int) (w : World) (h : rdI w r rs) (hl : rs.length ≤ 1048576) (h2 : ownR 0 w v xs) (hl2 : xs.length ≤ 1048576) :
    Calls Try.prog 35 #[(.agg #[.int .i64 n, r]), v] w fun e w' => e = .returned (.int .i64 (memC n rs xs)) ∧ Below w.heap.size w w' := by
  have hR := h.alloc (Obj.cells #[.int .i64 n, r] 26)
  have hO := h2.alloc (Obj.cells #[.int .i64 n, r] 26)
  cases hg : groupB n rs
  · have e : memC n rs xs = 1 := by simp [memC, hg]
    rw [e]; clear e
    go_enter Try.func35, Try.ntmps35
    go_wp2_with (first | (go_at_call 26; refine via (i_IsGroupE _ _ rs _ false hR hl hg) ?_; intro uu zz; try simp at zz))
    go_ret
    exact ⟨rfl, (by refine Ext.bel ?_; repeat (with_reducible first | exact Ext.refl _ | apply Ext.alloc | apply Ext.aft | apply Ext.drew | apply Ext.drewN | apply Ext.setCell | exact Nat.le_add_right _ _ | exact Nat.le_refl _ | (simp; done) | omega))⟩
  have HG := hid hg
  cases hp : permB xs
  · have e : memC n rs xs = 1 := by simp [memC, hp]
    rw [e]; clear e
    have HP := hid hp
    clear hg hp
    go_enter Try.func35, Try.ntmps35
    go_wp2_with (first | (go_at_call 26; refine via (i_IsGroupE _ _ rs _ true hR hl HG.out) ?_; intro uu zz; try simp at zz) | (go_at_call 64; refine via (i_IsPermE _ xs _ false (hO.aft _) hl2 HP.out) ?_; intro uu zz; try simp at zz))
    go_ret
    exact ⟨rfl, (by refine Ext.bel ?_; repeat (with_reducible first | exact Ext.refl _ | apply Ext.alloc | apply Ext.aft | apply Ext.drew | apply Ext.drewN | apply Ext.setCell | exact Nat.le_add_right _ _ | exact Nat.le_refl _ | (simp; done) | omega))⟩
  have HP := hid hp
  clear hg hp
  have hrd := hO.rd
  by_cases hn : (xs.length : Int) = n
  · have e : memC n rs xs = 0 := by unfold memC; rw [if_pos ⟨HG.out, HP.out⟩, if_pos hn]
    rw [e]; clear e
    have hnb : ((xs.length : Int) == n) = true := by simpa using hn
    have hnn : ((xs.length : Int) != n) = false := by simpa using hn
    have HN := hid hn
    clear hn
    go_enter Try.func35, Try.ntmps35
    go_wp2_with (first | (go_at_call 26; refine via (i_IsGroupE _ _ rs _ true hR hl HG.out) ?_; intro uu zz; try simp at zz) | (go_at_call 64; refine via (i_IsPermE _ xs _ true (hO.aft _) hl2 HP.out) ?_; intro uu zz; try simp at zz))
    refine wp_region_calm (by kernel_rfl) (by kernel_rfl) ?_
    repeat (go_big_quiet_step (first | (go_at_call 65; exact calmp (i_size _ xs _ (by repeat (with_reducible first | assumption | apply rdI.aft | apply rdI.alloc | apply rdI.drew | apply rdI.drewN))))))
    refine wpQuiet_nil ?_; intro uq zq; try simp at zq
    go_wp2_with fail
    go_ret
    exact ⟨rfl, (by refine Ext.bel ?_; repeat (with_reducible first | exact Ext.refl _ | apply Ext.alloc | apply Ext.aft | apply Ext.drew | apply Ext.drewN | apply Ext.setCell | exact Nat.le_add_right _ _ | exact Nat.le_refl _ | (simp; done) | omega))⟩
  · have e : memC n rs xs = 5 := by unfold memC; rw [if_pos ⟨HG.out, HP.out⟩, if_neg hn]
    rw [e]; clear e
    have hnb : ((xs.length : Int) == n) = false := by simpa using hn
    have hnn : ((xs.length : Int) != n) = true := by simpa using hn
    have HN := hid hn
    clear hn
    go_enter Try.func35, Try.ntmps35
    go_wp2_with (first | (go_at_call 26; refine via (i_IsGroupE _ _ rs _ true hR hl HG.out) ?_; intro uu zz; try simp at zz) | (go_at_call 64; refine via (i_IsPermE _ xs _ true (hO.aft _) hl2 HP.out) ?_; intro uu zz; try simp at zz))
    refine wp_region_calm (by kernel_rfl) (by kernel_rfl) ?_
    repeat (go_big_quiet_step (first | (go_at_call 65; exact calmp (i_size _ xs _ (by repeat (with_reducible first | assumption | apply rdI.aft | apply rdI.alloc | apply rdI.drew | apply rdI.drewN))))))
    refine wpQuiet_nil ?_; intro uq zq; try simp at zq
    go_wp2_with fail
    go_ret
    exact ⟨rfl, (by refine Ext.bel ?_; repeat (with_reducible first | exact Ext.refl _ | apply Ext.alloc | apply Ext.aft | apply Ext.drew | apply Ext.drewN | apply Ext.setCell | exact Nat.le_add_right _ _ | exact Nat.le_refl _ | (simp; done) | omega))⟩
set_option maxRecDepth 20000 in
set_option maxHeartbeats 4000000 in
theorem s_code (n : Int) (r v : Value) (rs xs : List Int) (w : World) (h : rdI w r rs) (hl : rs.length ≤ 1048576) (h2 : ownR 0 w v xs) (hl2 : xs.length ≤ 1048576) :
    Calls Try.prog 33 #[(.agg #[.int .i64 n, r]), v] w fun e w' => e = .returned (.int .i64 (memC n rs xs)) ∧ Below w.heap.size w w' := by
  have hR := h.alloc (Obj.cells #[.int .i64 n, r] 26)
  have hO := h2.alloc (Obj.cells #[.int .i64 n, r] 26)
  cases hg : groupB n rs
  · have e : memC n rs xs = 1 := by simp [memC, hg]
    rw [e]; clear e
    go_enter Try.func33, Try.ntmps33
    go_wp2_with (first | (go_at_call 24; refine via (s_IsGroupE _ _ rs _ false hR hl hg) ?_; intro uu zz; try simp at zz))
    go_ret
    exact ⟨rfl, (by refine Ext.bel ?_; repeat (with_reducible first | exact Ext.refl _ | apply Ext.alloc | apply Ext.aft | apply Ext.drew | apply Ext.drewN | apply Ext.setCell | exact Nat.le_add_right _ _ | exact Nat.le_refl _ | (simp; done) | omega))⟩
  have HG := hid hg
  cases hp : permB xs
  · have e : memC n rs xs = 1 := by simp [memC, hp]
    rw [e]; clear e
    have HP := hid hp
    clear hg hp
    go_enter Try.func33, Try.ntmps33
    go_wp2_with (first | (go_at_call 24; refine via (s_IsGroupE _ _ rs _ true hR hl HG.out) ?_; intro uu zz; try simp at zz) | (go_at_call 61; refine via (s_IsPermE _ xs _ false (hO.aft _) hl2 HP.out) ?_; intro uu zz; try simp at zz))
    go_ret
    exact ⟨rfl, (by refine Ext.bel ?_; repeat (with_reducible first | exact Ext.refl _ | apply Ext.alloc | apply Ext.aft | apply Ext.drew | apply Ext.drewN | apply Ext.setCell | exact Nat.le_add_right _ _ | exact Nat.le_refl _ | (simp; done) | omega))⟩
  have HP := hid hp
  clear hg hp
  obtain ⟨a, c, hsh, hm, _⟩ := h2.rd
  unfold maxLen at hm
  subst hsh
  by_cases hn : (xs.length : Int) = n
  · have e : memC n rs xs = 0 := by unfold memC; rw [if_pos ⟨HG.out, HP.out⟩, if_pos hn]
    rw [e]; clear e
    have hnb : ((xs.length : Int) == n) = true := by simpa using hn
    have hnn : ((xs.length : Int) != n) = false := by simpa using hn
    have HN := hid hn
    clear hn
    go_enter Try.func33, Try.ntmps33
    go_wp2_with (first | (go_at_call 24; refine via (s_IsGroupE _ _ rs _ true hR hl HG.out) ?_; intro uu zz; try simp at zz) | (go_at_call 61; refine via (s_IsPermE _ xs _ true (hO.aft _) hl2 HP.out) ?_; intro uu zz; try simp at zz))
    go_ret
    exact ⟨rfl, (by refine Ext.bel ?_; repeat (with_reducible first | exact Ext.refl _ | apply Ext.alloc | apply Ext.aft | apply Ext.drew | apply Ext.drewN | apply Ext.setCell | exact Nat.le_add_right _ _ | exact Nat.le_refl _ | (simp; done) | omega))⟩
  · have e : memC n rs xs = 5 := by unfold memC; rw [if_pos ⟨HG.out, HP.out⟩, if_neg hn]
    rw [e]; clear e
    have hnb : ((xs.length : Int) == n) = false := by simpa using hn
    have hnn : ((xs.length : Int) != n) = true := by simpa using hn
    have HN := hid hn
    clear hn
    go_enter Try.func33, Try.ntmps33
    go_wp2_with (first | (go_at_call 24; refine via (s_IsGroupE _ _ rs _ true hR hl HG.out) ?_; intro uu zz; try simp at zz) | (go_at_call 61; refine via (s_IsPermE _ xs _ true (hO.aft _) hl2 HP.out) ?_; intro uu zz; try simp at zz))
    go_ret
    exact ⟨rfl, (by refine Ext.bel ?_; repeat (with_reducible first | exact Ext.refl _ | apply Ext.alloc | apply Ext.aft | apply Ext.drew | apply Ext.drewN | apply Ext.setCell | exact Nat.le_add_right _ _ | exact Nat.le_refl _ | (simp; done) | omega))⟩
theorem i_memberE (n : Int) (r v : Value) (rs xs : List Int) (w : World) (c : Int) (h : rdI w r rs) (hl : rs.length ≤ 1048576) (h2 : ownR 0 w v xs) (hl2 : xs.length ≤ 1048576) (hc : memC n rs xs = c) :
    Calls Try.prog 35 #[(.agg #[.int .i64 n, r]), v] w fun e w' => e = .returned (.int .i64 c) ∧ Below w.heap.size w w' := by subst hc; exact i_member n r v rs xs w h hl h2 hl2
theorem s_codeE (n : Int) (r v : Value) (rs xs : List Int) (w : World) (c : Int) (h : rdI w r rs) (hl : rs.length ≤ 1048576) (h2 : ownR 0 w v xs) (hl2 : xs.length ≤ 1048576) (hc : memC n rs xs = c) :
    Calls Try.prog 33 #[(.agg #[.int .i64 n, r]), v] w fun e w' => e = .returned (.int .i64 c) ∧ Below w.heap.size w w' := by subst hc; exact s_code n r v rs xs w h hl h2 hl2
def hasF (n : Int) (rs a : List Int) : Bool × Int := if memC n rs a = 0 then (rs.contains (rankF a), 0) else (false, memC n rs a)
theorem mem_zero {n : Int} {rs a : List Int} (h : memC n rs a = 0) : groupB n rs = true ∧ permB a = true ∧ (a.length : Int) = n := by
  unfold memC at h
  split at h
  · rename_i h1
    split at h
    · exact ⟨h1.1, h1.2, ‹_›⟩
    · omega
  · omega
end Go.Proofs.Ytbifkabjkpljjaa
