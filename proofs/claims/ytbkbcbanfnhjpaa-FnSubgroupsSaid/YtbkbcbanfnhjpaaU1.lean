/- The center: the program's text. -/
import Derived.Test.YtbkbcbanfnhjpaaMB
import Derived.Test.YtbkbcbanfnhjpaaP4
import Derived.Test.YtbkbcbanfnhjpaaO2
namespace Go.Proofs.Ytbkbcbanfnhjpaa
open Go Go.RowKit

theorem filt_snoc {m : Nat} {rs : List Int} {p : List Int → Bool} {k : Nat} (h : k < rs.length) : filtF m (rs.take (k + 1)) p = if p (withF m rs[k]) then filtF m (rs.take k) p ++ [rs[k]] else filtF m (rs.take k) p := by
  unfold filtF
  rw [take_snocI _ _ h, List.filter_append]
  cases hb : p (withF m rs[k]) <;> simp only [List.filter_cons, hb] <;> simp
theorem filt_le (m : Nat) (rs : List Int) (p : List Int → Bool) : (filtF m rs p).length ≤ rs.length := List.length_filter_le _ _
theorem i_filteredE (m : Nat) (r : Value) (rs : List Int) (gk : Nat) (lb : Array Value) (p : List Int → Bool) (w : World) (zs : List Int) (ek : ∀ args w, (callFunc gk args).run Try.prog w = .ok (.enter gk args) w) (hk : keepR gk #[] lb p (memF m rs) w) (h : rdI w r rs) (hm6 : m ≤ 6) (hr : ∀ x ∈ rs, 0 ≤ x ∧ x < (facN m : Int)) (hpw : rs.Pairwise (· < ·)) (hl : rs.length ≤ 720) (hz : filtF m rs p = zs) :
    Calls Try.prog 54 #[.agg #[.int .i64 (m : Int), r], .func (.func gk) #[] lb] w fun e w' => ∃ s, e = .returned (.agg #[.int .i64 (m : Int), s]) ∧ ownR w.heap.size w' s zs ∧ Below w.heap.size w w' := by
  subst hz; exact i_filtered m r rs gk lb p w ek hk h hm6 hr hpw hl
theorem mem_len {m : Nat} {rs : List Int} (hm6 : m ≤ 6) (hr : ∀ x ∈ rs, 0 ≤ x ∧ x < (facN m : Int)) : ∀ xs ∈ memF m rs, xs.length = m := fun xs hx => by
  obtain ⟨x, hx2, rfl⟩ := List.mem_map.1 hx
  exact with_len hm6 (hr x hx2)
open Go.Shelf

theorem lib_equal {w : World} {v1 v2 : Value} {xs ys : List Int} (h1 : rdI w v1 xs) (h2 : rdI w v2 ys) (hx : xs ≠ []) (hy : ys ≠ []) (B : Bool) (hB : (xs == ys) = B) :
    Calls Try.prog 120 #[v1, v2] w fun e w' => e = .returned (.bool B) ∧ Below w.heap.size w w' := by
  subst hB
  obtain ⟨hm1, ⟨e, _⟩ | ⟨_, b1, o1, c1, rfl⟩⟩ := rd_shape h1
  · exact absurd e hx
  obtain ⟨hm2, ⟨e, _⟩ | ⟨_, b2, o2, c2, rfl⟩⟩ := rd_shape h2
  · exact absurd e hy
  unfold maxLen at hm1 hm2
  have hcall := AnyG.slices_Equal_int lay134 b1 o1 xs.length c1 b2 o2 ys.length c2 xs ys w (Nat.le_refl _) (Nat.le_refl _) (by omega) (by omega) (rd_cells h1) (rd_cells h2)
  change Calls Try.prog 120 _ _ _ at hcall
  rw [List.take_length, List.take_length] at hcall
  refine hcall.mono ?_
  rintro e w' ⟨rfl, q, rfl⟩
  exact ⟨rfl, below_drewN (Below.refl _ _) _⟩

def comB (X Y : List Int) : Bool := prodF X Y == prodF Y X
def centB (m : Nat) (rs : List Int) (X : List Int) : Bool := (memF m rs).all (comB X)
theorem cent_any {m : Nat} {rs : List Int} {X : List Int} : (memF m rs).any (fun Y => !comB X Y) = !centB m rs X := by
  unfold centB
  induction memF m rs with
  | nil => rfl
  | cons y r ih => rw [List.any_cons, List.all_cons, ih, Bool.not_and]
set_option maxRecDepth 20000 in
set_option maxHeartbeats 8000000 in
theorem i_center11 (va v : Value) (A X : List Int) (ab : Nat) (W : World) (ha : W.cell? ⟨ab, 0, none⟩ = some va) (hA : rdI W va A) (hX : rdI W v X)
    (hrA : ∀ y ∈ A, 0 ≤ y ∧ y < (X.length : Int)) (hrX : ∀ y ∈ X, 0 ≤ y ∧ y < (A.length : Int)) (hl : A.length ≤ 6) (hl2 : X.length ≤ 6) (hA0 : A ≠ []) (hX0 : X ≠ []) :
    Calls Try.prog 119 #[v, .pointer (some ⟨ab, 0, none⟩)] W fun e w' => e = .returned (.bool (!comB A X)) ∧ Below W.heap.size W w' := by
  obtain ⟨Z1, hZ1⟩ : ∃ Z, prodF A X = Z := ⟨_, rfl⟩
  obtain ⟨Z2, hZ2⟩ : ∃ Z, prodF X A = Z := ⟨_, rfl⟩
  obtain ⟨B, hB⟩ : ∃ B, comB A X = B := ⟨_, rfl⟩
  rw [hB]
  have hn1 : Hid (Z1 ≠ []) := hid (by intro e; rw [e] at hZ1; have := congrArg List.length hZ1; rw [prodF_len] at this; exact hX0 (List.length_eq_zero_iff.1 this))
  have hn2 : Hid (Z2 ≠ []) := hid (by intro e; rw [e] at hZ2; have := congrArg List.length hZ2; rw [prodF_len] at this; exact hA0 (List.length_eq_zero_iff.1 this))
  have HB : Hid ((Z1 == Z2) = B) := hid (by rw [← hB, ← hZ1, ← hZ2]; rfl)
  have HZ1 := hid hZ1
  have HZ2 := hid hZ2
  have HRA := hid hrA
  have HRX := hid hrX
  have hab := World.block_lt_of_cell? W _ ha
  have hE0 : Ext W.heap.size W W := Ext.refl _
  clear hB hZ1 hZ2 hrA hrX hA0 hX0
  go_enter Try.func119, Try.ntmps119
  go_wp2_with fail
  go_region_held3 (fun w' => (∀ b o, b < W.heap.size → w'.cell? ⟨b, o, none⟩ = W.cell? ⟨b, o, none⟩) ∧ Hid (Ext W.heap.size W w')) ((refine sB ?_; repeat (with_reducible first | assumption | apply Ext.aft | apply Ext.alloc | apply Ext.drew | apply Ext.drewN))) (first | (go_at_call 104; with_reducible refine viaI (g := id) (i_prodE va v A X Z1 _ (hA.below (Ext.bel (by repeat (with_reducible first | exact Ext.refl _ | apply Ext.aft | apply Ext.alloc | apply Ext.drew | apply Ext.drewN)))) (hX.below (Ext.bel (by repeat (with_reducible first | exact Ext.refl _ | apply Ext.aft | apply Ext.alloc | apply Ext.drew | apply Ext.drewN)))) HRX.out hl2 HZ1.out) ?_; intro t1 u3 z1 own3; (try simp at z1); have rd3 := own3.rd) | (go_at_call 104; with_reducible refine viaI (g := id) (i_prodE v va X A Z2 _ (hX.below (Ext.bel (by repeat (with_reducible first | exact Ext.refl _ | apply Ext.aft | apply Ext.alloc | apply Ext.drew | apply Ext.drewN)))) (hA.below (Ext.bel (by repeat (with_reducible first | exact Ext.refl _ | apply Ext.aft | apply Ext.alloc | apply Ext.drew | apply Ext.drewN)))) HRA.out hl HZ2.out) ?_; intro t2 u4 z2 own4; (try simp at z2); have rd4 := own4.rd) | (go_at_call 120; refine via (lib_equal (xs := Z1) (ys := Z2) (w := _) (by repeat (with_reducible first | assumption | apply rdI.aft | apply rdI.alloc | apply rdI.drew | apply rdI.drewN)) (by repeat (with_reducible first | assumption | apply rdI.aft | apply rdI.alloc | apply rdI.drew | apply rdI.drewN)) hn1.out hn2.out B HB.out) ?_; intro u5 z5; (try simp at z5)))
  all_goals
    go_wp2_with fail
    go_ret
    exact ⟨rfl, (by refine Ext.bel ?_; repeat (with_reducible first | exact Ext.refl _ | apply Ext.alloc | apply Ext.aft | apply Ext.drew | apply Ext.drewN | apply Ext.setCell | exact Nat.le_add_right _ _ | exact Nat.le_refl _ | (simp; done) | omega))⟩
set_option maxRecDepth 20000 in
set_option maxHeartbeats 8000000 in
theorem i_center1 (m : Nat) (rs : List Int) (vm v : Value) (X : List Int) (mb : Nat) (W : World) (hm : W.cell? ⟨mb, 0, none⟩ = some vm) (hM : rdRR W vm (memF m rs)) (hX : ownR 0 W v X)
    (hXl : X.length = m) (hXr : ∀ y ∈ X, 0 ≤ y ∧ y < (m : Int)) (hm1 : 1 ≤ m) (hm6 : m ≤ 6) (hr : ∀ x ∈ rs, 0 ≤ x ∧ x < (facN m : Int)) :
    Calls Try.prog 118 #[v, .pointer (some ⟨mb, 0, none⟩)] W fun e w' => e = .returned (.bool (centB m rs X)) ∧ Below W.heap.size W w' := by
  obtain ⟨a1, c1, hsh, _, _⟩ := hX.rd
  obtain ⟨wo, hwo⟩ : ∃ wo, wo = W.alloc (.cells #[v] 24) := ⟨_, rfl⟩
  have hEo : Ext W.heap.size W wo := by rw [hwo]; exact (Ext.refl _).alloc _
  have cA : wo.cell? ⟨W.heap.size, 0, none⟩ = some v := by rw [hwo, alloc_cell, if_pos rfl]; rfl
  have hpr : predR 119 #[.pointer (some ⟨W.heap.size, 0, none⟩)] (fun Y => !comB X Y) (memF m rs) wo := by
    intro W' v' Y hb hY hv
    have hY2 : ∃ y ∈ rs, withF m y = Y := by simpa [memF] using hY
    obtain ⟨y, hy, rfl⟩ := hY2
    have hwy := with_ok hm6 (hr _ hy).1 (hr _ hy).2
    have hbW : Below W.heap.size W W' := hEo.1.trans (hb.mono hEo.2)
    refine (i_center11 v v' X (withF m y) W.heap.size W' ?_ (hX.rd.below hbW) hv.rd ?_ ?_ (by omega) (by rw [hwy.len]; exact hm6) ?_ ?_).mono ?_
    · rw [hb.cell (p := ⟨W.heap.size, 0, none⟩) (World.block_lt_of_cell? wo _ cA)]; exact cA
    · rw [hwy.len]; exact hXr
    · rw [hXl]; exact hwy.rng
    · intro e; rw [e] at hXl; simp at hXl; omega
    · intro e; have := hwy.len; rw [e] at this; simp at this; omega
    · rintro e w' ⟨rfl, h2⟩
      exact ⟨rfl, hb.trans (h2.mono hb.size)⟩
  have HPR := hid hpr
  have hMo := hid (hM.below hEo.1)
  have HEo := hid hEo
  have HWO := hid hwo
  obtain ⟨C, hC⟩ : ∃ C, C = centB m rs X := ⟨_, rfl⟩
  have hany : Hid ((memF m rs).any (fun Y => !comB X Y) = !C) := hid (by rw [hC]; exact cent_any)
  rw [← hC]
  have eg : ∀ args w, (callFunc 119 args).run Try.prog w = .ok (.enter 119 args) w := entersT Try.func119 (by kernel_rfl) rfl
  have Eg := hid eg
  have hmb := World.block_lt_of_cell? W _ hm
  subst hsh
  clear hpr hEo cA hwo hC eg hM hXr hr hX hXl
  go_enter Try.func118, Try.ntmps118
  go_wp2_with fail
  rw [← HWO.out]
  refine via (lib_containsR _ _ _ Eg.out _ _ _ hMo.out HPR.out (!C) hany.out) ?_
  intro u5 z5
  have HE5 : Hid (Ext W.heap.size W (aft wo u5)) := hid (HEo.out.aft u5)
  go_wp2_with fail
  go_ret
  exact ⟨ret_b (by simp), HE5.out.bel⟩
end Go.Proofs.Ytbkbcbanfnhjpaa
