/- WholePart: the program's text, the law. -/
import Derived.Test.YtehdkbopkkgabaaM5
import Derived.Test.YtehdkbopkkgabaaC7
import Derived.Test.YtehdkbopkkgabaaB6
namespace Go.Proofs.Ytehdkbopkkgabaa
open Go Go.RowKit

theorem sizeI (w : World) : (Go.sizeOf 2).run Try.prog w = .ok 1 w := by
  simp [Go.sizeOf, go_sem]
  rfl
theorem cut_rule {B : Nat} {w : World} {v : Value} {xs : List Int} {l : Int} (h : ownR B w v xs) (h0 : 0 ≤ l) (h1 : l ≤ xs.length) :
    ∃ r2, (∀ wx, (Instr.slice 40 v (some (.int .i64 l)) none none).run Try.prog wx = .ok r2 wx) ∧ rdI w r2 (xs.drop l.toNat) := by
  have ht : Try.prog.underlying 40 = some (.slice 2) := by kernel_rfl
  have ht' : Try.prog.underlying 40 = some (.slice (Try.prog.elem 40)) := by kernel_rfl
  have he : Try.prog.elem 40 = 2 := by kernel_rfl
  obtain ⟨a, cap, rfl, hm, hc⟩ := h.rd
  refine ⟨sliced a l.toNat xs.length cap 1, fun wx => ?_, ?_⟩
  · rw [run_slice_l wx _ _ _ _ ht' .i64 _ h0 h1, he, sizeI]; rfl
  · refine ⟨if cap = l.toNat then a else a.map (·.add (l.toNat * 1)), cap - l.toNat, by simp [sliced], by simp; omega, ?_⟩
    intro hne
    have hlt : l.toNat < xs.length := by
      rcases Nat.lt_or_ge l.toNat xs.length with h | h
      · exact h
      · exact absurd (List.drop_eq_nil_of_le h) hne
    obtain ⟨b, o, rfl, hcell⟩ := hc (by intro e; rw [e] at hlt; simp at hlt)
    have hcap : xs.length ≤ cap := by
      rcases h.2 with ⟨e, h1⟩ | ⟨g, c, cur, e, _, _, h2, _⟩
      · cases e
      · cases e; exact h2
    rw [if_neg (by omega)]
    refine ⟨b, o + l.toNat, by simp [Addr.add], fun i hi => ?_⟩
    rw [Nat.add_assoc, hcell (l.toNat + i) (by simp at hi; omega)]
    simp
set_option maxRecDepth 20000 in
set_option maxHeartbeats 4000000 in
theorem i_whole (p v u n : Int) (w : World) (h : padicB p v u n = true) (he : 0 ≤ v + n) :
    Calls Try.prog 100 #[(.agg #[.int .i64 p, .int .i64 v, .int .i64 u, .int .i64 n])] w fun e w' => e = .returned (.agg #[.int .i64 (wholeF p v u n).p, .int .i64 (wholeF p v u n).v, .int .i64 (wholeF p v u n).u, .int .i64 (wholeF p v u n).n]) ∧ Below w.heap.size w w' := by
  obtain ⟨hp, hv, hu, hn, hb⟩ := padic_facts h
  by_cases h0 : 0 ≤ v
  · have e : (wholeF p v u n) = ⟨p, v, u, n⟩ := by unfold wholeF; rw [if_pos h0]
    rw [e]; clear e hb h
    go_enter Try.func100, Try.ntmps100
    go_wp2
    exact bodyPost_ret (v := (.agg #[.int .i64 p, .int .i64 v, .int .i64 u, .int .i64 n])) (by first | (simp [results, go_sem]; done) | simp [results, go_sem, ↓IntWalk.iteOmega]) rfl ⟨rfl, (by refine Ext.bel ?_; repeat (with_reducible first | exact Ext.refl _ | apply Ext.alloc | apply Ext.aft | apply Ext.drew | apply Ext.drewN | apply Ext.setCell | exact Nat.le_add_right _ _ | exact Nat.le_refl _ | (simp; done) | omega))⟩
  rw [whole_known hp.1 (by omega) he]
  have Hb := hid hb
  have hl := digs_len p u n.toNat
  clear h hb
  go_enter Try.func100, Try.ntmps100
  go_wp2_with fail
  obtain ⟨W, hW⟩ : ∃ W, W = w.alloc (Obj.cells #[.int .i64 p, .int .i64 v, .int .i64 u, .int .i64 n] 38) := ⟨_, rfl⟩
  have hs : W.heap.size = w.heap.size + 1 := by rw [hW]; simp
  have c0 : ∀ o, W.cell? ⟨w.heap.size, o, none⟩ = #[Value.int .i64 p, .int .i64 v, .int .i64 u, .int .i64 n][o]? := fun o => by rw [hW]; simp [go_sem]
  have hE : Ext w.heap.size w W := by rw [hW]; exact ((Ext.refl _).alloc _)
  rw [← hW]
  have HW := hid hW
  have HE := hid hE
  have l0 : w.heap.size < W.heap.size := by omega
  have hl2 : (0 : Int) ≤ -v ∧ -v ≤ ((digs p u n.toNat).length : Int) := by omega
  have hL : ((digs p u n.toNat).drop (-v).toNat).length = (v + n).toNat := by rw [List.length_drop, hl]; omega
  have Hf : Hid ((∀ x ∈ (digs p u n.toNat).drop (-v).toNat, 0 ≤ x ∧ x ≤ p - 1) ∧ ((digs p u n.toNat).drop (-v).toNat).length ≤ 1000 ∧ p ^ ((digs p u n.toNat).drop (-v).toNat).length ≤ 1000000000) := hid ⟨fun x hx => by
    have hx2 := List.mem_of_mem_drop hx
    simp only [digs, List.mem_map] at hx2
    obtain ⟨i, _, rfl⟩ := hx2
    have := digF_bd (u := u) (i := i) hp.1
    omega, by omega, by
    rw [hL]
    have := pow_mono (show 1 ≤ p by omega) (show (v + n).toNat ≤ n.toNat by omega)
    have := Hb.out
    omega⟩
  have HL := hid (show (((digs p u n.toNat).drop (-v).toNat).length : Int) = v + n by omega)
  have Hp := hid hp
  have Hv := hid hv
  have Hu := hid hu
  have Hn := hid hn
  have Hl2 := hid hl2
  have hw : IntKind.i64.wrap (-v) = -v := by rw [IntKind.wrap_i64]; omega
  have hv60 : -60 ≤ v ∧ v ≤ 60 := hv
  clear hW hE hp hv hu hn hl he h0 hl2 hL
  go_region_held3 (fun w' => (∀ b o, b < W.heap.size → w'.cell? ⟨b, o, none⟩ = W.cell? ⟨b, o, none⟩) ∧ W.heap.size ≤ w'.heap.size) ((repeat (with_reducible first | exact held_refl | apply held_drew | apply held_aft | apply held_alloc | apply held_set | exact Nat.le_of_eq hs | exact Nat.le_refl _ | apply le_aft | apply le_alloc | apply le_set | apply le_drew))) (first | (go_at_call 84; refine viaI (g := id) (i_digits _ _ _ _ _ Hp.out Hv.out Hu.out Hn.out Hb.out) ?_; intro r ur zr hown; (try simp at zr); obtain ⟨r2, hsl, hrd⟩ := cut_rule hown Hl2.out.1 Hl2.out.2; (have HD := hid hrd); clear hrd hown) | (go_at_call 93; refine via (i_fromDigits _ _ _ _ _ (by first | exact HD.out | exact HD.out.drew) Hp.out (by omega) Hf.out.1 Hf.out.2.1 Hf.out.2.2) ?_; rw [HL.out]; intro ud zd; try simp at zd))
  all_goals
    go_wp2
    exact bodyPost_ret (v := (.agg #[.int .i64 (knownF p 0 (dval p ((digs p u n.toNat).drop (-v).toNat)) (v + n)).p, .int .i64 (knownF p 0 (dval p ((digs p u n.toNat).drop (-v).toNat)) (v + n)).v, .int .i64 (knownF p 0 (dval p ((digs p u n.toNat).drop (-v).toNat)) (v + n)).u, .int .i64 (knownF p 0 (dval p ((digs p u n.toNat).drop (-v).toNat)) (v + n)).n])) (by first | (simp [results, go_sem]; done) | simp [results, go_sem, ↓IntWalk.iteOmega]) rfl ⟨rfl, Ext.bel (Ext.of HE.out (by repeat (with_reducible first | exact Ext.refl _ | apply Ext.alloc | apply Ext.aft | apply Ext.drew | apply Ext.drewN | apply Ext.setCell | exact Nat.le_add_right _ _ | exact Nat.le_refl _ | (simp; done) | omega)))⟩
end Go.Proofs.Ytehdkbopkkgabaa
