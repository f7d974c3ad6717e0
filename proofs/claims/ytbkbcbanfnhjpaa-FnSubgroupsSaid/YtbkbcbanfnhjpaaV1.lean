/- The group of the permutations for which a method's value holds: the program's text. -/
import Derived.Test.YtbkbcbanfnhjpaaMB
import Derived.Test.YtbkbcbanfnhjpaaP7
import Derived.Test.YtbkbcbanfnhjpaaP4
import Derived.Test.YtbkbcbanfnhjpaaO2
namespace Go.Proofs.Ytbkbcbanfnhjpaa
open Go Go.RowKit

/-- The closure 'not kept'. -/
theorem pred_filtV {hg : Value} {gk : Nat} {p : List Int → Bool} {xss : List (List Int)} {w0 w : World} {kb : Nat} {row : Option Nat} (ek : ∀ args w, (callFunc gk args).run Try.prog w = .ok (.enter gk args) w) (hk : keepR gk #[hg] #[] p xss w0)
    (hc : w.cell? ⟨kb, 0, none⟩ = some (.func (.func gk) #[hg] #[])) (hb : Below w0.heap.size w0 w) (hrow : ∀ k, row = some k → w0.heap.size ≤ k ∧ kb < k) : predG 112 #[.pointer (some ⟨kb, 0, none⟩)] (fun xs => !p xs) xss row w := by
  intro W v xs hgw hx hv
  have hc' : W.cell? ⟨kb, 0, none⟩ = some (.func (.func gk) #[hg] #[]) := hgw.cell hc fun e => by have := (hrow kb e.symm).2; omega
  have hbW : Below w0.heap.size w0 W := hb.grown hgw hb.size fun k hk => (hrow k hk).1
  have hcall := hk W v xs hbW hx hv
  obtain ⟨b, hbb⟩ : ∃ b, p xs = b := ⟨_, rfl⟩
  rw [hbb] at hcall
  rw [show (#[hg] : Array Value) ++ #[v] ++ #[] = #[hg, v] by rfl] at hcall
  change Calls Try.prog 112 #[v, .pointer (some ⟨kb, 0, none⟩)] W fun e w' => e = .returned (.bool (!p xs)) ∧ Below W.heap.size W w'
  rw [hbb]
  have HCALL := hid hcall
  clear hbb hcall hgw
  go_enter Try.func112, Try.ntmps112
  go_wp2_with fail
  refine HCALL.out.mono ?_
  rintro e w' ⟨rfl, h2⟩
  have H2 := hid h2
  clear h2
  go_wp2_with fail
  go_ret
  exact ⟨rfl, H2.out⟩
set_option maxRecDepth 20000 in
set_option maxHeartbeats 8000000 in
theorem i_filteredV (hg : Value) (m : Nat) (r : Value) (rs : List Int) (gk : Nat) (p : List Int → Bool) (w : World) (ek : ∀ args w, (callFunc gk args).run Try.prog w = .ok (.enter gk args) w) (hk : keepR gk #[hg] #[] p (memF m rs) w) (h : rdI w r rs) (hm6 : m ≤ 6) (hr : ∀ x ∈ rs, 0 ≤ x ∧ x < (facN m : Int)) (hpw : rs.Pairwise (· < ·)) (hl : rs.length ≤ 720) :
    Calls Try.prog 54 #[.agg #[.int .i64 (m : Int), r], .func (.func gk) #[hg] #[]] w fun e w' => ∃ s, e = .returned (.agg #[.int .i64 (m : Int), s]) ∧ ownR w.heap.size w' s (filtF m rs p) ∧ Below w.heap.size w w' := by
  have Hk := hid hk
  have Hr := hid hr
  have Hpw := hid hpw
  have H0 := hid h
  have Ek := hid ek
  clear hk hr hpw h ek
  go_enter Try.func54, Try.ntmps54
  go_wp2_with fail
  obtain ⟨W, hW⟩ : ∃ W, W = (((w.alloc (Obj.cells #[.int .i64 (m : Int), r] 26)).alloc (Obj.cells #[.func (.func gk) #[hg] #[]] 68)).alloc (Obj.cells #[.int .i64 0, .slice none 0 0] 26)) := ⟨_, rfl⟩
  have hWs : W.heap.size = w.heap.size + 3 := by rw [hW]; simp
  have hBw : Below w.heap.size w W := by rw [hW]; exact (((Below.refl _ w).alloc (Nat.le_refl _) _).alloc (by simp) _).alloc (by simp; omega) _
  have c0 : W.cell? ⟨w.heap.size, 0, none⟩ = some (.int .i64 (m : Int)) := by rw [hW]; simp [go_sem]
  have c1 : W.cell? ⟨w.heap.size, 1, none⟩ = some r := by rw [hW]; simp [go_sem]
  have ck : W.cell? ⟨w.heap.size + 1, 0, none⟩ = some (.func (.func gk) #[hg] #[]) := by rw [hW]; simp [go_sem]
  have hres : resOK (w.heap.size + 1 + 1) W := by
    rw [hW]; intro k hk
    obtain rfl | rfl : k = 0 ∨ k = 1 := by omega
    all_goals simp [go_sem]
  have hrW : rdI W r rs := by rw [hW]; exact ((H0.out.alloc _).alloc _).alloc _
  have CK := hid ck
  have HRES := hid hres
  have HRW := hid hrW
  have HBw := hid hBw
  have hEB : Ext (w.heap.size + 2) W W := Ext.base (by omega)
  have hn0 : w.heap.size < w.heap.size + 2 := by omega
  rw [← hW]
  clear hW hres hrW hBw ck
  have hxl : Hid (∀ xs ∈ (memF m rs).filter fun x => !!p x, xs.length = m) := hid (fun xs hx => by
    obtain ⟨x, hx2, rfl⟩ := List.mem_map.1 (List.mem_filter.1 hx).1
    exact with_len hm6 (Hr.out x hx2))
  have hfl : ((memF m rs).filter fun x => !!p x).length ≤ 1000 := Nat.le_trans (List.length_filter_le _ _) (by rw [memF_len]; omega)
  have hlist : Hid (listedU (((memF m rs).filter fun x => !!p x).map rankF) (facN m) = filtF m rs p) := hid (by rw [filt_ranks hm6 Hr.out, filt_listed Hr.out Hpw.out])
  obtain ⟨ZS, hZS⟩ : ∃ ZS, ZS = (memF m rs).filter fun x => !!p x := ⟨_, rfl⟩
  rw [← hZS] at hxl hfl hlist
  have HZS := hid hZS
  have eg : ∀ args w, (callFunc 112 args).run Try.prog w = .ok (.enter 112 args) w := entersT Try.func112 (by kernel_rfl) rfl
  have Eg := hid eg
  clear hZS eg
  go_region_held3 (fun w' => (∀ b o, b < w.heap.size + 2 → w'.cell? ⟨b, o, none⟩ = W.cell? ⟨b, o, none⟩) ∧ Hid (Ext (w.heap.size + 2) W w')) ((refine sB ?_; repeat (with_reducible first | assumption | exact Nat.le_refl _ | apply Ext.aft | apply Ext.alloc | apply Ext.drew | apply Ext.drewN | apply Ext.setCell))) (first | (go_at_call 89; refine viaX (g := id) (i_members m _ rs _ (HRW.out.below (by refine Ext.bel ?_; repeat (with_reducible first | exact Ext.refl _ | apply Ext.alloc | apply Ext.aft | apply Ext.drew | apply Ext.drewN))) hm6 Hr.out (by omega)) ?_; intro v1 u1 z1 own1; (try simp at z1)) | (go_at_call 111; refine (lib_deleteX W.heap.size _ _ (fun xs => !p xs) Eg.out _ (memF m rs) _ (own1.mono (by first | exact Nat.le_refl _ | (simp; omega) | simp)) (pred_filtV Ek.out Hk.out ((below_aft _ _).cell (p := ⟨w.heap.size + 1, 0, none⟩) (by simp; omega) |>.trans CK.out) (HBw.out.trans (Below.mono (by refine Ext.bel ?_; repeat (with_reducible first | exact Ext.refl _ | apply Ext.alloc | apply Ext.aft | apply Ext.drew | apply Ext.drewN)) HBw.out.size)) (fun k hk => by have := World.ownsRow.lt own1.choose_spec.2.1 k hk; simp at this; omega))).mono ?_; rintro e w9 ⟨v9, rfl, own9, hgr9⟩; have hE9 : Ext (w.heap.size + 2) W w9 := Ext.grown (by repeat (with_reducible first | exact hEB | apply Ext.aft | apply Ext.alloc | apply Ext.drew | apply Ext.drewN)) hgr9 (fun k hk => by have := World.ownsRow.lt own1.choose_spec.2.1 k hk; simp at this; omega); have hR9 := resOK.grown (by exact HRES.out.below (by refine Ext.bel ?_; repeat (with_reducible first | exact Ext.refl _ | apply Ext.alloc | apply Ext.aft | apply Ext.drew | apply Ext.drewN)) (by omega)) hgr9 (fun k hk => by have := World.ownsRow.lt own1.choose_spec.2.1 k hk; simp at this; omega) (by first | omega | (simp; omega))) | (go_at_call 110; refine viaG (i_groupOfE m _ ZS _ _ (by rw [HZS.out]; exact own9.rd) hm6 hxl.out hfl hlist.out) ?_; intro s9 u9 z9 owns; (try simp at z9); have hR10 := hR9.below (below_aft _ u9) (by have h1 := hgr9.size; omega); obtain ⟨y0, hy0⟩ := Option.isSome_iff_exists.1 (hR10 0 (by omega)).2; obtain ⟨y1, hy1⟩ := Option.isSome_iff_exists.1 (hR10 1 (by omega)).2; have hf0 := (hR10 0 (by omega)).1; have hf1 := (hR10 1 (by omega)).1; obtain ⟨a9, c9, hsh9, _, _⟩ := owns.rd; subst hsh9))
  all_goals
    have hsz9 : w.heap.size + 1 + 1 < w9.heap.size := by have h1 := hgr9.size; omega
    have HF : Hid (ownR w.heap.size (((aft w9 u9).setCell ⟨w.heap.size + 1 + 1, 0, none⟩ (.int .i64 (m : Int))).setCell ⟨w.heap.size + 1 + 1, 1, none⟩ (.slice a9 (filtF m rs p).length c9)) (.slice a9 (filtF m rs p).length c9) (filtF m rs p)) := hid (ownR.mono ((owns.setCell _ _ _ _ hsz9).setCell _ _ _ _ hsz9) (by omega))
    have HB9 : Hid (Ext w.heap.size w w9) := hid ⟨HBw.out.trans (hE9.1.mono (by omega)), by omega⟩
    go_wp2_with fail
    exact bodyPost_ret (v := .agg #[.int .i64 (m : Int), .slice a9 (filtF m rs p).length c9]) (by simp [results, go_sem, hy0, hy1]) rfl ⟨_, rfl, HF.out, Ext.bel (((HB9.out.aft u9).setCell _ _ _ _ (by omega)).setCell _ _ _ _ (by omega))⟩
end Go.Proofs.Ytbkbcbanfnhjpaa
