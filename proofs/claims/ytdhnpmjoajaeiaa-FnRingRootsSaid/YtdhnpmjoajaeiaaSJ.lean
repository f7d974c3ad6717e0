/- Rows of balls; the balls of all roots: the program's text. -/
import Derived.Test.YtdhnpmjoajaeiaaSI
import Derived.Laws.OwnMore
namespace Go.Proofs.Ytdhnpmjoajaeiaa
open Go Go.RowKit

theorem infoB : (Try.prog.info? 72).map (fun i => (i.zero, i.size, i.bytes)) = some (some (.agg #[.int .i64 0, .int .i64 0]), 2, 16) := by kernel_rfl
theorem ownsRow_below {B n size : Nat} {e : TypeId} {w w' : World} {v : Value} {xs : List Value} (h : w.ownsRow B e size v n xs) (hb : Below w.heap.size w w') : w'.ownsRow B e size v n xs := by
  refine ⟨h.1, ?_⟩
  rcases h.2 with hn | ⟨g, cap, cur, rfl, hg, hh, r⟩
  · exact .inl hn
  · have hlt : g < w.heap.size := (Array.getElem?_eq_some_iff.1 hh).1
    exact .inr ⟨g, cap, cur, rfl, hg, by rw [hb.block g hlt]; exact hh, r⟩
def bC (b : Int × Nat) : List Value := [.int .i64 b.1, .int .i64 (b.2 : Int)]
def vB (L : List (Int × Nat)) : List Value := L.flatMap bC
theorem vB_len : ∀ L : List (Int × Nat), (vB L).length = L.length * 2 := by
  intro L
  induction L with
  | nil => rfl
  | cons b L ih =>
    show (bC b ++ vB L).length = _
    rw [List.length_append, ih, List.length_cons]
    show 2 + _ = _
    omega
theorem vB_one (L : List (Int × Nat)) : ∀ u ∈ vB L, u.oneCell' = true := by
  intro u hu
  obtain ⟨b, _, hb⟩ := List.mem_flatMap.1 hu
  simp only [bC, List.mem_cons, List.mem_nil_iff, or_false] at hb
  rcases hb with rfl | rfl <;> rfl
theorem vB_app (L M : List (Int × Nat)) : vB (L ++ M) = vB L ++ vB M := by simp [vB]
/-- A row of balls of the call's own. -/
def ownBl (B : Nat) (w : World) (v : Value) (L : List (Int × Nat)) : Prop := w.ownsRow B 72 2 v L.length (vB L)
theorem ownBl.nil (B : Nat) (w : World) : ownBl B w (.slice none 0 0) [] := ⟨rfl, .inl ⟨rfl, rfl⟩⟩
theorem ownBl.below {B : Nat} {w w' : World} {v : Value} {L : List (Int × Nat)} (h : ownBl B w v L) (hb : Below w.heap.size w w') : ownBl B w' v L := ownsRow_below h hb
theorem ownBl.aft {B : Nat} {w : World} {v : Value} {L : List (Int × Nat)} (h : ownBl B w v L) (u : World) : ownBl B (aft w u) v L := h.below (below_aft w u)
theorem ownBl.mono {B B' : Nat} {w : World} {v : Value} {L : List (Int × Nat)} (h : ownBl B w v L) (hB : B' ≤ B) : ownBl B' w v L := by
  refine ⟨h.1, ?_⟩
  rcases h.2 with hn | ⟨g, cap, cur, rfl, hg, r⟩
  · exact .inl hn
  · exact .inr ⟨g, cap, cur, rfl, Nat.le_trans hB hg, r⟩
theorem ownBl_one {w : World} {r : Int} {e k : Nat} (hk : k = w.heap.size) : ownBl w.heap.size (w.alloc (.cells #[.int .i64 r, .int .i64 (e : Int)] 72)) (.slice (some ⟨k, 0, none⟩) 1 1) [(r, e)] := by
  subst hk
  exact ⟨rfl, .inr ⟨w.heap.size, 1, #[.int .i64 r, .int .i64 (e : Int)], rfl, Nat.le_refl _, heap_alloc_new w _, Nat.le_refl _, by unfold maxLen; omega, rfl, rfl⟩⟩
theorem viaBl {P : Program} {f : FuncId} {args : Array Value} {w : World} {L : List (Int × Nat)} {R : Ending → World → Prop}
    (h : Calls P f args w fun e w' => ∃ v, e = .returned v ∧ ownBl w.heap.size w' v L ∧ Below w.heap.size w w')
    (hR : ∀ v u, w.heap.size ≤ (aft w u).heap.size → ownBl w.heap.size (aft w u) v L → R (.returned v) (aft w u)) : Calls P f args w R :=
  h.mono fun e w' ⟨v, he, ho, hb⟩ => by subst he; obtain ⟨u, rfl⟩ := aft_ex hb; exact hR v u (size_aft w u) ho
theorem step_append_rows {P : Program} {w : World} {ops : Array Oper} {o : Oper} {a : Act} {K : Act → World → Prop} {Q : Exit → Act → World → Prop} {E : Prop} (hgd : o.guard = none) (s x : Operand) (t : TypeId)
    (ho : o.op = .call { callee := .builtin .append, args := #[s, x], argTypes := #[t, t] })
    (base : Nat) (e : TypeId) (i : TypeInfo) (z : Value) (size bytes : Nat) (ht : P.underlying t = some (.slice e)) (hi : P.info? e = some i) (hz : i.zero = some z)
    (hsize : i.size = size) (hby : i.bytes = bytes) (hzs : z.cells.size = size) (hsz : 0 < size)
    (v : Value) (n : Nat) (xs : List Value) (hs : a.eval s = v) (hown : w.ownsRow base e size v n xs)
    (B2 : Nat) (v2 : Value) (m : Nat) (news : List Value) (hx : a.eval x = v2) (h2 : w.ownsRow B2 e size v2 m news) (h1 : ∀ u ∈ news, u.oneCell' = true)
    (h63 : n + m ≤ maxLen) (hbytes : (n + m) * bytes ≤ 140737488355328) (hbase : base ≤ w.heap.size)
    (h : ∀ v' w', w'.ownsRow base e size v' (n + m) (xs ++ news) → w.grownBy w' v.ownBlock → K (a.put o.dst v') w') :
    if Region.wanted o (yielded ops a.tmps) = true then Oper.wp P o a w K Q else E := by
  have hw : Region.wanted o (yielded ops a.tmps) = true := by simp [Region.wanted, hgd]
  rw [if_pos hw]
  have hl := h2.1
  rcases h2.2 with ⟨rfl, rfl⟩ | ⟨g, cap, cur, rfl, hg, hh, h3, h4, h5, h6⟩
  · rw [Nat.zero_mul] at hl
    obtain rfl := List.eq_nil_of_length_eq_zero hl
    have hrun := run_append_owned_none (P := P) (w := w) base t o.type e i size ht hi v n xs hown
    unfold Oper.wp
    simp [execOp, ho, resolve, invoke, builtin, hs, hx, hrun, Result.andThen]
    exact h v w (by rw [Nat.add_zero, List.append_nil]; exact hown) ⟨rfl, rfl, rfl, Nat.le_refl _, fun _ _ _ => rfl⟩
  · refine wp_append_own w s x t ho base e i z size bytes ht hi hz hsize hby hzs hsz v n xs hs hown ⟨g, 0, none⟩ m cap news hx hl ?_ h1 h63 hbytes hbase (fun v' w' k1 k2 _ => h v' w' k1 k2)
    intro j u hj
    have hjl : j < news.length := (List.getElem?_eq_some_iff.1 hj).1
    have := h2.cellAt j (by omega)
    rw [hj] at this
    rw [Addr.add_lit, Nat.zero_add]
    exact this
def heldU (V w' : World) : Prop := (∀ k o, k < V.heap.size → w'.cell? ⟨k, o, none⟩ = V.cell? ⟨k, o, none⟩) ∧ V.heap.size ≤ w'.heap.size
theorem heldU.refl (V : World) : heldU V V := ⟨fun _ _ _ => rfl, Nat.le_refl _⟩
theorem heldU.drew {V w' : World} (h : heldU V w') : heldU V w'.drew := h
theorem heldU.aft {V w' : World} (h : heldU V w') (u : World) : heldU V (Go.Proofs.Ytdhnpmjoajaeiaa.aft w' u) :=
  ⟨fun k o hk => by have := h.2; rw [aft_cell, if_pos (by omega)]; exact h.1 k o hk, le_aft h.2⟩
theorem heldU.alloc {V w' : World} (h : heldU V w') (c : Array Value) (T : TypeId) : heldU V (w'.alloc (.cells c T)) :=
  ⟨fun k o hk => by have := h.2; rw [alloc_cell, if_neg (by omega)]; exact h.1 k o hk, by have := h.2; simp; omega⟩
theorem heldU.at {G : Nat} {V w' : World} {cs : Array Value} (h1 : G < V.heap.size) (hc : ∀ o, V.cell? ⟨G, o, none⟩ = cs[o]?) (h : heldU V w') : (∀ o, w'.cell? ⟨G, o, none⟩ = cs[o]?) ∧ V.heap.size ≤ w'.heap.size :=
  ⟨fun o => (h.1 G o h1).trans (hc o), h.2⟩
theorem grown_keep {G : Nat} {Z w1 : World} {cs : Array Value} {own : Option Nat} {u1 u2 : World} (cZ : ∀ o, Z.cell? ⟨G, o, none⟩ = cs[o]?) (lZ : G < Z.heap.size) (hg : (aft (aft Z.drew u1) u2).grownBy w1 own) (hne : ∀ k, own = some k → k ≠ G) : (∀ o, w1.cell? ⟨G, o, none⟩ = cs[o]?) ∧ Z.heap.size ≤ w1.heap.size := by
  have h1 := (((Ext.refl Z).drew.aft u1).aft u2)
  have h2 := h1.2
  refine ⟨fun o => ?_, Nat.le_trans h2 hg.size⟩
  have hb := hg.block G (by omega) (fun e => hne G e.symm rfl)
  have h3 := h1.1.cell (p := ⟨G, o, none⟩) lZ
  rw [← cZ o, ← h3]
  unfold World.cell?
  simp only [hb]
def quoB (q : Int) (D : List Int) (k : Nat) : List Int := (D.take k).map (· / q)
theorem quoB_len {q : Int} {D : List Int} {k : Nat} (h : k ≤ D.length) : (quoB q D k).length = k := by simp [quoB]; omega
theorem quoB_succ {q : Int} {D : List Int} {k : Nat} (h : k < D.length) : quoB q D (k + 1) = quoB q D k ++ [D[k] / q] := by
  unfold quoB; rw [take_snocI _ _ h, List.map_append]; rfl
/-- The balls behind the first k roots. -/
def ballsK (p : Int) (t : Nat) (g : List Int) (m : Int) (k' : Nat) (r : Int) (e : Nat) (rs : List Int) (k : Nat) : List (Int × Nat) := (rs.take k).flatMap fun a => ballsF p t (subF m a p g) k' (r + a * p ^ e) (e + 1)
theorem ballsK_succ {p : Int} {t : Nat} {g : List Int} {m : Int} {k' : Nat} {r : Int} {e : Nat} {rs : List Int} {k : Nat} (h : k < rs.length) :
    ballsK p t g m k' r e rs (k + 1) = ballsK p t g m k' r e rs k ++ ballsF p t (subF m (rs[k]) p g) k' (r + rs[k] * p ^ e) (e + 1) := by
  unfold ballsK; rw [take_snocI _ _ h, List.flatMap_append]; simp
theorem rootsP_len (p : Int) (g : List Int) : (rootsP p g).length ≤ p.toNat := rootsK_len p g p.toNat
theorem pow_leB {p : Int} (hp : 1 ≤ p) {i n : Nat} (h : n ≤ i) : p ^ n ≤ p ^ i := by
  induction i with
  | zero => obtain rfl : n = 0 := by omega
            exact Int.le_refl _
  | succ i ih =>
    by_cases e : n = i + 1
    · subst e; exact Int.le_refl _
    · have h1 := ih (by omega)
      have h2 : 0 < p ^ i := Int.pow_pos (by omega)
      rw [Int.pow_succ]
      have := Int.mul_le_mul_of_nonneg_left hp (show 0 ≤ p ^ i by omega)
      omega
theorem sub_all {p a : Int} {k : Nat} {g : List Int} (hk : 1 ≤ k) (ha : p ∣ ev g a) : ∀ c ∈ subF (p ^ k) a p g, p ∣ c := fun c hc => by
  have hpk : p ∣ p ^ k := by
    obtain ⟨s, hs⟩ : ∃ s, k = s + 1 := ⟨k - 1, by omega⟩
    rw [hs, Int.pow_succ]; exact Int.dvd_mul_left _ _
  obtain ⟨i, hi, rfl⟩ := List.getElem_of_mem hc
  have h1 := sub_dvd (a := a) hpk g i
  rw [List.getD_eq_getElem?_getD, List.getElem?_eq_getElem hi] at h1
  rcases Nat.eq_zero_or_pos i with h0 | h0
  · subst h0
    have h2 := h1.2
    rw [List.getD_eq_getElem?_getD, List.getElem?_eq_getElem hi] at h2
    have := Int.dvd_add h2 ha
    simpa using this
  · exact h1.1 h0
theorem vl_one {p : Int} {f : List Int} (hp : 2 ≤ p) (hd : cntF f ≠ 0) (h : ∀ c ∈ f, p ∣ c) : 1 ≤ vl (cntF f) p := by
  rcases Nat.eq_zero_or_pos (vl (cntF f) p) with h0 | h0
  · exfalso
    obtain ⟨c, h1, h2, _⟩ := vl_spec hp hd
    rw [h0, Int.pow_zero, Int.mul_one] at h1
    have := cnt_of h
    rw [h1] at this
    exact h2 (Int.emod_eq_zero_of_dvd this)
  · exact h0
theorem fm_len {α β : Type} {f : α → List β} {B : Nat} : ∀ (l : List α), (∀ a ∈ l, (f a).length ≤ B) → (l.flatMap f).length ≤ l.length * B := by
  intro l
  induction l with
  | nil => intro _; simp
  | cons a l ih =>
    intro h
    have h1 := h a (by simp)
    have h2 := ih (fun x hx => h x (by simp [hx]))
    rw [List.flatMap_cons, List.length_append, List.length_cons, Nat.succ_mul]
    omega
/-- How many balls there are at most. -/
theorem balls_len {p : Int} (hp : 2 ≤ p) : ∀ (t : Nat) (f : List Int) (k : Nat) (r : Int) (e : Nat), 1 ≤ k → ((∀ c ∈ f, p ∣ c) → (ballsF p t f k r e).length ≤ p.toNat ^ (k - 1)) ∧ (ballsF p t f k r e).length ≤ p.toNat ^ k := by
  intro t
  have hpos : ∀ n : Nat, 1 ≤ p.toNat ^ n := fun n => Nat.pow_pos (by omega)
  induction t with
  | zero => intro f k r e _; exact ⟨fun _ => by simpa [ballsF] using hpos (k - 1), by simpa [ballsF] using hpos k⟩
  | succ t ih =>
    intro f k r e hk
    rw [ballsF]
    split
    · exact ⟨fun _ => by simpa using hpos (k - 1), by simpa using hpos k⟩
    · rename_i hgo
      have hd0 : cntF f ≠ 0 := fun h => hgo (.inl h)
      have hv : vl (cntF f) p < k := by
        rcases Nat.lt_or_ge (vl (cntF f) p) k with h | h
        · exact h
        · exact absurd (.inr h) hgo
      obtain ⟨g, hg⟩ : ∃ g, g = f.map (· / p ^ vl (cntF f) p) := ⟨_, rfl⟩
      rw [← hg]
      obtain ⟨k', hk'⟩ : ∃ k', k' = k - vl (cntF f) p := ⟨_, rfl⟩
      rw [← hk']
      have h1 := fm_len (f := fun a => ballsF p t (subF (p ^ k') a p g) k' (r + a * p ^ e) (e + 1)) (B := p.toNat ^ (k' - 1)) (rootsP p g) (fun a ha => (ih _ k' _ _ (by omega)).1 (sub_all (by omega) (mem_rootsP.1 ha).2.2))
      have h2 := Nat.mul_le_mul_right (p.toNat ^ (k' - 1)) (rootsP_len p g)
      have h3 : p.toNat * p.toNat ^ (k' - 1) = p.toNat ^ k' := by
        obtain ⟨s, hs⟩ : ∃ s, k' = s + 1 := ⟨k' - 1, by omega⟩
        rw [hs, Nat.add_sub_cancel, Nat.pow_succ, Nat.mul_comm]
      rw [h3] at h2
      refine ⟨fun h => ?_, ?_⟩
      · have h4 := vl_one hp hd0 h
        exact Nat.le_trans (Nat.le_trans h1 h2) (Nat.pow_le_pow_right (by omega) (by omega))
      · exact Nat.le_trans (Nat.le_trans h1 h2) (Nat.pow_le_pow_right (by omega) (by omega))
set_option maxRecDepth 20000 in
set_option maxHeartbeats 16000000 in
theorem i_balls (p : Int) (N : Nat) (hp : 2 ≤ p ∧ p ≤ 97) (hN : N ≤ 40) (hM : p ^ N ≤ 1000000000) : ∀ (t : Nat) (f : List Int) (k : Nat) (r : Int) (e : Nat) (rr : Value) (w : World), rdI w rr f → f.length ≤ 100 → (∀ c ∈ f, 0 ≤ c ∧ c ≤ 1000000000) → 1 ≤ k → (((∀ c ∈ f, p ∣ c) ∧ k ≤ t ∧ e + k ≤ N + 1) ∨ (k + 1 ≤ t ∧ e + k ≤ N)) → (0 ≤ r ∧ r < p ^ e) →
    Calls Try.prog 65 #[.int .i64 p, rr, .int .i64 (k : Int), (.agg #[.int .i64 r, .int .i64 (e : Int)])] w fun en w' => ∃ v, en = .returned v ∧ ownBl w.heap.size w' v (ballsF p t f k r e) ∧ Below w.heap.size w w' := by
  obtain ⟨i0, hi, hz0, hz1, hz2⟩ := info_parts infoI
  obtain ⟨i1, hj, hy0, hy1, hy2⟩ := info_parts infoB
  intro t
  induction t with
  | zero => intro f k r e rr w _ _ _ hk hf _; exfalso; omega
  | succ t ih =>
    intro f k r e rr w hrd hfl hfb hk hf hr
    have he40 : e ≤ 40 ∧ k ≤ 41 := by omega
    have heN : e ≤ N := by omega
    have hpe : p ^ e ≤ 1000000000 := by have := pow_leB (p := p) (by omega) heN; omega
    have hd := cnt_bd (B := 1000000000) (by omega) (fun c hc => by have := hfb c hc; omega)
    obtain ⟨a1, cap1, e1, _, _⟩ := id hrd
    subst e1
    have H1 := hid hrd
    have Hfb := hid hfb
    have Hhi := hid (show ∀ c ∈ f, -1000000000 ≤ c ∧ c ≤ 1000000000 from fun c hc => by have := hfb c hc; omega)
    rw [ballsF]
    obtain ⟨d, hde⟩ : ∃ d, d = cntF f := ⟨_, rfl⟩
    rw [← hde] at hd ⊢
    have HD := hid hde
    by_cases hst : d = 0 ∨ k ≤ vl d p
    · rw [if_pos hst]
      have HST := hid hst
      clear hrd hfb hde hst ih
      by_cases hd0 : d = 0
      · have hd0b : (d == 0) = true := by simpa using hd0
        go_enter Try.func65, Try.ntmps65
        go_wp2_with fail
        refine via (i_content _ f _ (H1.out.alloc _) (by omega) Hhi.out) ?_
        intro u1 z1
        (try simp at z1)
        rw [← HD.out]
        go_wp2_with fail
        go_ret
        exact ⟨_, rfl, ownBl.mono (ownBl_one (w := aft (w.alloc (Obj.cells #[.int .i64 r, .int .i64 (e : Int)] 72)) u1) rfl) (by omega), (by refine Ext.bel ?_; repeat (with_reducible first | exact Ext.refl _ | apply Ext.alloc | apply Ext.aft | apply Ext.drew | apply Ext.drewN | apply Ext.setCell | exact Nat.le_add_right _ _ | exact Nat.le_refl _ | (simp; done) | omega))⟩
      · have hd0b : (d == 0) = false := by simpa using hd0
        have HD0 := hid hd0
        have hkv : (k : Int) ≤ (vl d p : Int) := by have := HST.out; omega
        clear HST
        go_enter Try.func65, Try.ntmps65
        go_wp2_with fail
        refine via (i_content _ f _ (H1.out.alloc _) (by omega) Hhi.out) ?_
        intro u1 z1
        (try simp at z1)
        rw [← HD.out]
        go_wp2_with fail
        refine pur (i_val d p _ (by omega) (by omega) HD0.out (by omega)) ?_
        go_wp2_with fail
        go_ret
        exact ⟨_, rfl, ownBl.mono (ownBl_one (w := aft (w.alloc (Obj.cells #[.int .i64 r, .int .i64 (e : Int)] 72)) u1) rfl) (by omega), (by refine Ext.bel ?_; repeat (with_reducible first | exact Ext.refl _ | apply Ext.alloc | apply Ext.aft | apply Ext.drew | apply Ext.drewN | apply Ext.setCell | exact Nat.le_add_right _ _ | exact Nat.le_refl _ | (simp; done) | omega))⟩
    · rw [if_neg hst]
      have hd0 : d ≠ 0 := fun h => hst (.inl h)
      have hvk : vl d p < k := by
        rcases Nat.lt_or_ge (vl d p) k with h | h
        · exact h
        · exact absurd (.inr h) hst
      obtain ⟨v, hve⟩ : ∃ v, v = vl d p := ⟨_, rfl⟩
      have hd0b : (d == 0) = false := by simpa using hd0
      have HD0 := hid hd0
      have HVE := hid hve.symm
      rw [← hve] at hvk ⊢
      have hkv : ¬ (k : Int) ≤ (v : Int) := by omega
      obtain ⟨k', hk'⟩ : ∃ k', k' = k - v := ⟨_, rfl⟩
      rw [← hk']
      have hkk : (k : Int) - (v : Int) = (k' : Int) := by omega
      have hk1 : 1 ≤ k' := by omega
      have hkN : k' ≤ N := by
        rcases hf with ⟨h1, h2, h3⟩ | ⟨_, h⟩
        · have h4 := vl_one hp.1 (by rw [← hde]; exact hd0) h1
          rw [← hde, ← hve] at h4
          omega
        · omega
      have hvN : v ≤ N := by omega
      have hpv := pow_leB (p := p) (by omega) hvN
      have hpk := pow_leB (p := p) (by omega) hkN
      have hQ1 : 1 ≤ p ^ v := by have : 0 < p ^ v := Int.pow_pos (by omega); omega
      have hM1 : 1 ≤ p ^ k' := by have : 0 < p ^ k' := Int.pow_pos (by omega); omega
      have hpe1 : 1 ≤ p ^ e := by have : 0 < p ^ e := Int.pow_pos (by omega); omega
      -- the recursion's law for each root
      have hdv : ∀ c ∈ f, p ^ v ∣ c := fun c hc => by
        obtain ⟨c0, h1, _, _⟩ := vl_spec hp.1 hd0
        rw [← hve] at h1
        have hpd : p ^ v ∣ d := ⟨c0, by rw [Int.mul_comm]; exact h1⟩
        exact Int.dvd_trans hpd (by rw [hde]; exact cnt_mem hc)
      obtain ⟨G, hG⟩ : ∃ G, G = f.map (· / p ^ v) := ⟨_, rfl⟩
      have hGl : G.length ≤ 100 := by rw [hG, List.length_map]; exact hfl
      have hGb : ∀ c ∈ G, 0 ≤ c ∧ c ≤ 1000000000 := fun c hc => by
        rw [hG] at hc
        obtain ⟨x, hx, rfl⟩ := List.mem_map.1 hc
        have := hfb x hx
        exact ⟨Int.ediv_nonneg this.1 (by omega), by have := Int.ediv_le_self (p ^ v) this.1; omega⟩
      have hIH : ∀ a ∈ rootsP p G, ∀ (sl : Value) (W : World), rdI W sl (subF (p ^ k') a p G) → Calls Try.prog 65 #[.int .i64 p, sl, .int .i64 (k' : Int), .agg #[.int .i64 (r + a * p ^ e), .int .i64 ((e : Int) + 1)]] W fun en w' => ∃ v, en = .returned v ∧ ownBl W.heap.size w' v (ballsF p t (subF (p ^ k') a p G) k' (r + a * p ^ e) (e + 1)) ∧ Below W.heap.size W w' := fun a ha sl W hsl => by
        obtain ⟨a0, a1, a2⟩ := mem_rootsP.1 ha
        have h := ih (subF (p ^ k') a p G) k' (r + a * p ^ e) (e + 1) sl W hsl (by rw [subF_len]; exact hGl) (fun c hc => by have := sub_mem hM1 G c hc; omega) hk1 (.inl ⟨sub_all hk1 a2, by
          rcases hf with ⟨h1, h2, h3⟩ | ⟨h1, h2⟩
          · have h4 := vl_one hp.1 (by rw [← hde]; exact hd0) h1
            rw [← hde, ← hve] at h4
            omega
          · omega, by
          rcases hf with ⟨h1, h2, h3⟩ | ⟨h1, h2⟩
          · have h4 := vl_one hp.1 (by rw [← hde]; exact hd0) h1
            rw [← hde, ← hve] at h4
            omega
          · omega⟩) ⟨by have := Int.mul_nonneg a0 (show 0 ≤ p ^ e by omega); omega, by
            rw [Int.pow_succ]
            have := Int.mul_le_mul_of_nonneg_right (show a ≤ p - 1 by omega) (show 0 ≤ p ^ e by omega)
            have e2 : (p - 1) * p ^ e = p ^ e * p - p ^ e := by grind
            omega⟩
        rwa [show ((e + 1 : Nat) : Int) = (e : Int) + 1 by omega] at h
      have HIH := hid hIH
      have HGE : Hid (quoB (p ^ v) f f.length = G) := hid (by rw [hG]; simp [quoB])
      have HGb := hid hGb
      have HGh := hid (show ∀ c ∈ G, -1000000000 ≤ c ∧ c ≤ 1000000000 from fun c hc => by have := hGb c hc; omega)
      have hRl := rootsP_len p G
      have hRm := hid (show ∀ a ∈ rootsP p G, 0 ≤ a ∧ a ≤ 97 from fun a ha => by have := mem_rootsP.1 ha; omega)
      have hBl := hid (show ∀ i, i ≤ (rootsP p G).length → (ballsK p t G (p ^ k') k' r e (rootsP p G) i).length ≤ 100 * p.toNat ^ (k' - 1) from fun i hi => by
        have h1 := fm_len (f := fun a => ballsF p t (subF (p ^ k') a p G) k' (r + a * p ^ e) (e + 1)) (B := p.toNat ^ (k' - 1)) ((rootsP p G).take i) (fun a ha => (balls_len hp.1 t _ k' _ _ hk1).1 (sub_all hk1 (mem_rootsP.1 (List.mem_of_mem_take ha)).2.2))
        have h2 : ((rootsP p G).take i).length ≤ 100 := by rw [List.length_take]; omega
        exact Nat.le_trans h1 (Nat.mul_le_mul_right _ h2))
      have hBb : p.toNat ^ (k' - 1) ≤ 1000000000 := by
        have h1 := pow_leB (p := p) (by omega) (show k' - 1 ≤ k' by omega)
        have h2 : ((p.toNat ^ (k' - 1) : Nat) : Int) = p ^ (k' - 1) := by rw [Int.natCast_pow, show ((p.toNat : Nat) : Int) = p by omega]
        omega
      have hB1 := hid (show ∀ a ∈ rootsP p G, (ballsF p t (subF (p ^ k') a p G) k' (r + a * p ^ e) (e + 1)).length ≤ p.toNat ^ (k' - 1) from fun a ha => (balls_len hp.1 t _ k' _ _ hk1).1 (sub_all hk1 (mem_rootsP.1 ha).2.2))
      have HFIN : Hid ((rootsP p (f.map (· / p ^ v))).flatMap (fun a => ballsF p t (subF (p ^ k') a p (f.map (· / p ^ v))) k' (r + a * p ^ e) (e + 1)) = ballsK p t G (p ^ k') k' r e (rootsP p G) (rootsP p G).length) := hid (by unfold ballsK; rw [List.take_length, hG])
      obtain ⟨BB, hBB⟩ : ∃ BB, BB = p.toNat ^ (k' - 1) := ⟨_, rfl⟩
      rw [← hBB] at hBl hBb hB1
      obtain ⟨FIN, hFIN⟩ : ∃ FIN, FIN = (rootsP p (f.map (· / p ^ v))).flatMap (fun a => ballsF p t (subF (p ^ k') a p (f.map (· / p ^ v))) k' (r + a * p ^ e) (e + 1)) := ⟨_, rfl⟩
      rw [← hFIN] at HFIN ⊢
      obtain ⟨RS, hRS⟩ : ∃ RS, RS = rootsP p G := ⟨_, rfl⟩
      have HRS := hid hRS.symm
      rw [← hRS] at HIH hRl hRm hBl hB1 HFIN
      have hQt : p ^ (v : Int).toNat = p ^ v := by rw [Int.toNat_natCast]
      have hMt : p ^ (k' : Int).toNat = p ^ k' := by rw [Int.toNat_natCast]
      have HQT := hid hQt
      have HMT := hid hMt
      obtain ⟨Q, hQ⟩ : ∃ Q, Q = p ^ v := ⟨_, rfl⟩
      obtain ⟨M, hMM⟩ : ∃ M, M = p ^ k' := ⟨_, rfl⟩
      obtain ⟨E, hE⟩ : ∃ E, E = p ^ e := ⟨_, rfl⟩
      have HET := hid (show p ^ (e : Int).toNat = E by rw [Int.toNat_natCast, hE])
      have hpQ : p ^ (v : Int).toNat ≤ 4000000000000000000 := by rw [hQt]; omega
      have hpM : p ^ (k' : Int).toNat ≤ 4000000000000000000 := by rw [hMt]; omega
      have hpE : p ^ (e : Int).toNat ≤ 4000000000000000000 := by rw [Int.toNat_natCast]; omega
      have HpQ := hid hpQ
      have HpM := hid hpM
      have HpE := hid hpE
      rw [← hQ] at HQT HGE hpv hQ1
      rw [← hMM] at HMT HIH hBl hB1 HFIN hpk hM1
      rw [← hE] at HIH hB1 hpe hpe1
      have hrE : r < E := by rw [hE]; exact hr.2
      have hr0 : 0 ≤ r := hr.1
      have HEE := hid hE.symm
      clear hIH hGb hdv hfb hrd hst hd0 ih hf hr hG hRS hQt hMt hQ hMM hE hpQ hpM hpE hve hde hFIN hBB hk'
      have hP40 : RS.length ≤ 97 := by omega
      go_enter Try.func65, Try.ntmps65
      go_wp2_with fail
      refine via (i_content _ f _ (H1.out.alloc _) (by omega) Hhi.out) ?_
      intro u1 z1
      (try simp at z1)
      rw [← HD.out]
      go_wp2_with fail
      refine pur (i_val d p _ (by omega) (by omega) HD0.out (by omega)) ?_
      rw [HVE.out]
      go_wp2_with fail
      refine pur (i_val d p _ (by omega) (by omega) HD0.out (by omega)) ?_
      rw [HVE.out]
      obtain ⟨X, hX⟩ : ∃ X, X = aft (w.alloc (Obj.cells #[.int .i64 r, .int .i64 (e : Int)] 72)) u1 := ⟨_, rfl⟩
      have c0 : ∀ o, X.cell? ⟨w.heap.size, o, none⟩ = #[Value.int .i64 r, .int .i64 (e : Int)][o]? := fun o => by rw [hX]; rw [aft_cell, if_pos (by simp), alloc_cell, if_pos rfl]
      have E0 : Hid (Ext w.heap.size w X) := hid (by rw [hX]; exact ((Ext.refl w).alloc _).aft _)
      have l0 : w.heap.size < X.heap.size := by rw [hX]; omega
      rw [← hX]
      clear hX z1
      have HX1 := hid (H1.out.below E0.out.1)
      obtain ⟨a8, c8, e8, hm8, hc8⟩ := HX1.out
      have Hc8 := hid hc8
      clear hc8 hm8 e8
      go_wp2_with fail
      go_loopw [11, 13, 37] (fun r11 _ i_ wr => ∃ (q : Nat) (u7 : World), wr = aft X u7 ∧ q ≤ f.length ∧ i_ = .int .i64 q ∧ Hid (ownR X.heap.size wr r11 (quoB Q f q))) (fun _ _ i_ _ => (f.length - intOf i_).toNat)
      case atStart => exact ⟨0, X, (aft_of (Below.refl _ _)).symm, by omega, rfl, hid (ownR.nil _ _)⟩
      case round =>
        obtain ⟨q, u7, rfl, hq, rfl, HO⟩ := hrel
        have zs7 := size_aft X u7
        by_cases hlt : q < f.length
        · have hltz : (q : Int) < (f.length : Int) := by omega
          obtain ⟨b, o, e9⟩ := rd_head HX1.out (by intro e; rw [e] at hlt; simp at hlt)
          subst e9
          have h1 := rd_at HX1.out hlt
          rw [getD_lt hlt] at h1
          have hb := World.block_lt_of_cell? X _ h1
          have hcb := Hfb.out f[q] (List.getElem_mem hlt)
          obtain ⟨c, hcx⟩ : ∃ c, c = f[q] := ⟨_, rfl⟩
          rw [← hcx] at h1 hcb
          have HX := hid hcx
          clear hcx
          have hown := HO.out
          have hml : (quoB Q f q).length = q := quoB_len hq
          have hq0 : (Q == 0) = false := by simp; omega
          have hqn : Q ≠ 0 := by omega
          have htd : c.tdiv Q = c / Q := Int.tdiv_eq_ediv_of_nonneg hcb.1
          have hcq : 0 ≤ c / Q ∧ c / Q ≤ 1000000000 := ⟨Int.ediv_nonneg hcb.1 (by omega), by have := Int.ediv_le_self Q hcb.1; omega⟩
          go_wp2_with fail
          refine pur (i_power p (v : Int) _ (by omega) (by omega) HpQ.out) ?_
          rw [HQT.out]
          go_wp2_with (at_builtin; refine wpList_append_own _ rfl _ _ 24 rfl (X.heap.size) 2 i0 (.int .i64 0) 1 8 Try.underlying24 hi hz0 hz1 hz2 rfl (by decide) _ _ _ rfl (((hown).alloc _)) ⟨_, 0, none⟩ 1 1 [.int .i64 (c / Q)] rfl rfl ?c1 ?c2 ?c3 ?c4 ?c5 ?_)
          case c1 => exact cell_one_new _ _ _
          case c2 => first | rfl | (intro u hu; simp at hu; subst hu; rfl)
          case c3 => first | (rw [hml]; unfold maxLen; omega) | (unfold maxLen; omega)
          case c4 => first | (rw [hml]; omega) | omega
          case c5 => first | omega | (simp; omega)
          intro v' w1 hown' hgrow _
          obtain ⟨u', rfl⟩ := grown_aft (W := X) (by repeat (with_reducible first | exact Ext.refl _ | apply Ext.alloc | apply Ext.aft | apply Ext.drew | apply Ext.drewN | apply Ext.setCell | exact Nat.le_add_right _ _ | exact Nat.le_refl _ | (simp; done) | omega)) hgrow (own_row_ge hown)
          have HO' := hid hown'
          clear hown' hgrow hown
          go_wp2_with fail
          go_roundw
          case rel => exact ⟨q + 1, u', rfl, by omega, by go_num, hid (by rw [quoB_succ hlt, ← HX.out]; exact ownR.snocK hml HO'.out)⟩
          case measure => simp only [intOf]; omega
        · have hqf : q = f.length := by omega
          have HG1 : Hid (ownR X.heap.size (aft X u7) _ G) := hid (by have := HO.out; rw [hqf, HGE.out] at this; exact this)
          have hltz : ¬ (q : Int) < (f.length : Int) := by omega
          clear HO
          go_wp2_with fail
          refine pur (i_power p (k' : Int) _ (by omega) (by omega) HpM.out) ?_
          rw [HMT.out]
          go_wp2_with fail
          refine viaI (g := id) (i_rootsBy p _ G _ HG1.out.rd hp HGh.out) ?_
          intro r57 u57 z57 o57
          rw [HRS.out] at o57
          have HR := hid o57.rd
          clear o57
          obtain ⟨Y, hY⟩ : ∃ Y, Y = aft (aft X u7) u57 := ⟨_, rfl⟩
          have d0 : ∀ o, Y.cell? ⟨w.heap.size, o, none⟩ = #[Value.int .i64 r, .int .i64 (e : Int)][o]? := fun o => by rw [hY]; rw [aft_cell, if_pos (by omega), aft_cell, if_pos (by omega)]; exact c0 o
          have EY : Hid (Ext w.heap.size w Y) := hid (by rw [hY]; exact (E0.out.aft _).aft _)
          have YG := hid ((HG1.out.aft u57).rd)
          have lY : w.heap.size < Y.heap.size := by rw [hY]; omega
          rw [← hY] at HR YG ⊢
          clear hY HG1 z57 zs7 HX1 Hc8 c0 E0
          obtain ⟨a57, c57, e57, _, _⟩ := HR.out
          subst e57
          go_wp2_with fail
          go_loopw [15, 59] (fun o15 i_ wr => ∃ (q : Nat) (u7 : World), wr = aft Y u7 ∧ q ≤ RS.length ∧ i_ = .int .i64 q ∧ Hid (ownBl Y.heap.size wr o15 (ballsK p t G M k' r e RS q))) (fun _ i_ _ => (RS.length - intOf i_).toNat)
          case atStart => exact ⟨0, Y, (aft_of (Below.refl _ _)).symm, by omega, rfl, hid (ownBl.nil _ _)⟩
          case round =>
            obtain ⟨q, u7, rfl, hq, rfl, HO⟩ := hrel
            have zs8 := size_aft Y u7
            by_cases hlt : q < RS.length
            · have hltz : (q : Int) < (RS.length : Int) := by omega
              obtain ⟨b, o, e9⟩ := rd_head HR.out (by intro e; rw [e] at hlt; simp at hlt)
              subst e9
              have h1 := rd_at HR.out hlt
              rw [getD_lt hlt] at h1
              have hb := World.block_lt_of_cell? Y _ h1
              have ham := hRm.out RS[q] (List.getElem_mem hlt)
              obtain ⟨a, hax⟩ : ∃ a, a = RS[q] := ⟨_, rfl⟩
              rw [← hax] at h1 ham
              have HA : Hid (a ∈ RS) := hid (by rw [hax]; exact List.getElem_mem hlt)
              have HSUC : Hid (ballsK p t G M k' r e RS (q + 1) = ballsK p t G M k' r e RS q ++ ballsF p t (subF M a p G) k' (r + a * E) (e + 1)) := hid (by rw [ballsK_succ hlt, ← hax, HEE.out])
              clear hax
              have haE : 0 ≤ a * E ∧ a * E ≤ 97 * 1000000000 := ⟨Int.mul_nonneg (by omega) (by omega), Int.mul_le_mul (by omega) (by omega) (by omega) (by omega)⟩
              have hw1 : IntKind.i64.wrap (a * E) = a * E := IntWalk.i64_in _ (by omega)
              have hw2 : IntKind.i64.wrap (r + a * E) = r + a * E := IntWalk.i64_in _ (by omega)
              have hw4 : IntKind.i64.wrap (k' : Int) = (k' : Int) := IntWalk.i64_in _ (by omega)
              have hw3 : IntKind.i64.wrap ((e : Int) + 1) = (e : Int) + 1 := IntWalk.i64_in _ (by omega)
              go_wp2_with fail
              obtain ⟨V, hV⟩ : ∃ V, V = aft Y u7 := ⟨_, rfl⟩
              have cV : ∀ o, V.cell? ⟨w.heap.size, o, none⟩ = #[Value.int .i64 r, .int .i64 (e : Int)][o]? := fun o => by rw [hV, aft_cell, if_pos lY]; exact d0 o
              have EV : Hid (Ext Y.heap.size Y V) := hid (by rw [hV]; exact (Ext.refl Y).aft _)
              have lV : w.heap.size < V.heap.size := by rw [hV]; omega
              have YV : Y.heap.size ≤ V.heap.size := by rw [hV]; omega
              have VG : Hid (rdI V u11 G) := hid (by rw [hV]; exact YG.out.aft _)
              rw [← hV] at HO ⊢
              clear hV zs8
              (refine wp_region_held_drew (S := (fun w' => (∀ o, w'.cell? ⟨w.heap.size, o, none⟩ = #[Value.int .i64 r, .int .i64 (e : Int)][o]?) ∧ V.heap.size ≤ w'.heap.size)) (by kernel_rfl) ?_ (fun hHeld => ?_); focus ((try dsimp only); (refine heldU.at lV cV ?_; (repeat (with_reducible first | exact heldU.refl _ | apply heldU.drew | apply heldU.aft | apply heldU.alloc)))))
              (refine wpAnyH_take (i := 0) (oi := ?ho1) (v := ?hv1) ?hi1 (by kernel_rfl) (by kernel_rfl) (by kernel_rfl) ?hq1 ?hy1 (by assumption) ?hr1; (case hi1 => (simp only [List.getElem?_toArray, List.getElem?_cons_zero]; first | done | rfl)); (case hq1 => exact fun _ _ _ h => h); (case hy1 => (refine Or.inl ⟨by rfl, ?_⟩; intro w hSw; (try dsimp only at hSw); go_simp; first | done | with_reducible rfl)); (try simp only [Act.put, List.setIfInBounds_toArray, List.set_cons_zero, List.set_cons_succ]))
              (refine wpAnyH_take (i := 1) (oi := ?ho2) (v := ?hv2) ?hi2 (by kernel_rfl) (by kernel_rfl) (by kernel_rfl) ?hq2 ?hy2 (by assumption) ?hr2; (case hi2 => (simp only [List.getElem?_toArray, List.getElem?_cons_succ, List.getElem?_cons_zero]; first | done | rfl)); (case hq2 => exact fun _ _ _ h => h); (case hy2 => (refine Or.inl ⟨by rfl, ?_⟩; intro w hSw; (try dsimp only at hSw); go_simp; first | done | with_reducible rfl)); (try simp only [Act.put, List.setIfInBounds_toArray, List.set_cons_zero, List.set_cons_succ]))
              (refine wpAnyH_take (i := 2) (oi := ?ho3) (v := ?hv3) ?hi3 (by kernel_rfl) (by kernel_rfl) (by kernel_rfl) ?hq3 ?hy3 (by assumption) ?hr3; (case hi3 => (simp only [List.getElem?_toArray, List.getElem?_cons_succ, List.getElem?_cons_zero]; first | done | rfl)); (case hq3 => exact fun _ _ _ h => h); (case hy3 => (refine Or.inl ⟨by rfl, ?_⟩; intro w hSw; (try dsimp only at hSw); go_simp; first | done | with_reducible rfl)); (try simp only [Act.put, List.setIfInBounds_toArray, List.set_cons_zero, List.set_cons_succ]))
              (refine wpAnyH_take (i := 3) (oi := ?ho4) (v := ?hv4) ?hi4 (by kernel_rfl) (by kernel_rfl) (by kernel_rfl) ?hq4 ?hy4 (by assumption) ?hr4; (case hi4 => (simp only [List.getElem?_toArray, List.getElem?_cons_succ, List.getElem?_cons_zero]; first | done | rfl)); (case hq4 => exact fun _ _ _ h => h); (case hy4 => (refine Or.inl ⟨by rfl, ?_⟩; intro w hSw; (try dsimp only at hSw); go_simp; first | done | with_reducible rfl)); (try simp only [Act.put, List.setIfInBounds_toArray, List.set_cons_zero, List.set_cons_succ]))
              (refine wpAnyH_take (i := 4) (oi := ?ho5) (v := ?hv5) ?hi5 (by kernel_rfl) (by kernel_rfl) (by kernel_rfl) ?hq5 ?hy5 (by assumption) ?hr5; (case hi5 => (simp only [List.getElem?_toArray, List.getElem?_cons_succ, List.getElem?_cons_zero]; first | done | rfl)); (case hq5 => exact fun _ _ _ h => h); (case hy5 => (refine Or.inl ⟨by rfl, ?_⟩; intro w hSw; (try dsimp only at hSw); go_simp; first | done | with_reducible rfl)); (try simp only [Act.put, List.setIfInBounds_toArray, List.set_cons_zero, List.set_cons_succ]))
              (refine wpAnyH_take (i := 5) (oi := ?ho6) (v := ?hv6) ?hi6 (by kernel_rfl) (by kernel_rfl) (by kernel_rfl) ?hq6 ?hy6 (by assumption) ?hr6; (case hi6 => (simp only [List.getElem?_toArray, List.getElem?_cons_succ, List.getElem?_cons_zero]; first | done | rfl)); (case hq6 => exact fun _ _ _ h => h); (case hy6 => (refine Or.inl ⟨by rfl, ?_⟩; intro w hSw; (try dsimp only at hSw); go_simp; first | done | with_reducible rfl)); (try simp only [Act.put, List.setIfInBounds_toArray, List.set_cons_zero, List.set_cons_succ]))
              (refine wpAnyH_take (i := 9) (oi := ?ho7) (v := ?hv7) ?hi7 (by kernel_rfl) (by kernel_rfl) (by kernel_rfl) ?hq7 ?hy7 (by assumption) ?hr7; (case hi7 => (simp only [List.getElem?_toArray, List.getElem?_cons_succ, List.getElem?_cons_zero]; first | done | rfl)); (case hq7 => exact fun _ _ _ h => h); (case hy7 => (refine Or.inl ⟨by rfl, ?_⟩; intro w hSw; (try dsimp only at hSw); go_simp; first | done | with_reducible rfl)); (try simp only [Act.put, List.setIfInBounds_toArray, List.set_cons_zero, List.set_cons_succ]))
              (refine wpAnyH_take (i := 10) (oi := ?ho8) (v := ?hv8) ?hi8 (by kernel_rfl) (by kernel_rfl) (by kernel_rfl) ?hq8 ?hy8 (by assumption) ?hr8; (case hi8 => (simp only [List.getElem?_toArray, List.getElem?_cons_succ, List.getElem?_cons_zero]; first | done | rfl)); (case hq8 => exact fun _ _ _ h => h); (case hy8 => (refine Or.inl ⟨by rfl, ?_⟩; intro w hSw; (try dsimp only at hSw); go_simp; first | done | with_reducible rfl)); (try simp only [Act.put, List.setIfInBounds_toArray, List.set_cons_zero, List.set_cons_succ]))
              (refine wpAnyH_take (i := 11) (oi := ?ho9) (v := ?hv9) ?hi9 (by kernel_rfl) (by kernel_rfl) (by kernel_rfl) ?hq9 ?hy9 (by assumption) ?hr9; (case hi9 => (simp only [List.getElem?_toArray, List.getElem?_cons_succ, List.getElem?_cons_zero]; first | done | rfl)); (case hq9 => exact fun _ _ _ h => h); (case hy9 => (refine Or.inl ⟨by rfl, ?_⟩; intro w hSw; (try dsimp only at hSw); go_simp; first | done | with_reducible rfl)); (try simp only [Act.put, List.setIfInBounds_toArray, List.set_cons_zero, List.set_cons_succ]))
              (refine wpAnyH_ready (rs := [6, 13]) (by decide +kernel) (by simp) ?_; refine AllReadyH.cons (o := ?oa) ?ha (fun K hK => ?ra) (AllReadyH.cons (o := ?ob) ?hb (fun K hK => ?rb) AllReadyH.nil); (case ha => (simp only [List.getElem?_toArray, List.getElem?_cons_succ, List.getElem?_cons_zero]; first | done | rfl)); (case hb => (simp only [List.getElem?_toArray, List.getElem?_cons_succ, List.getElem?_cons_zero]; first | done | rfl)))
              case ra =>
                (go_simp; go_at_call 57; refine pur (i_power p (e : Int) _ (by omega) (by omega) HpE.out) ?_; rw [HET.out]; go_wp2_with fail)
                (refine hK.out _ _ ?_ (fun hHeld => ?_); focus ((try dsimp only); (refine heldU.at lV cV ?_; (repeat (with_reducible first | exact heldU.refl _ | apply heldU.drew | apply heldU.aft | apply heldU.alloc)))))
                (clear hK K; (try simp only [Act.put, List.setIfInBounds_toArray, List.set_cons_zero, List.set_cons_succ]))
                (refine wpAnyH_take (i := 7) (oi := ?ho10) (v := ?hv10) ?hi10 (by kernel_rfl) (by kernel_rfl) (by kernel_rfl) ?hq10 ?hy10 (by assumption) ?hr10; (case hi10 => (simp only [List.getElem?_toArray, List.getElem?_cons_succ, List.getElem?_cons_zero]; first | done | rfl)); (case hq10 => exact fun _ _ _ h => h); (case hy10 => (refine Or.inl ⟨by rfl, ?_⟩; intro w hSw; (try dsimp only at hSw); go_simp; first | done | with_reducible rfl)); (try simp only [Act.put, List.setIfInBounds_toArray, List.set_cons_zero, List.set_cons_succ]))
                (refine wpAnyH_take (i := 8) (oi := ?ho11) (v := ?hv11) ?hi11 (by kernel_rfl) (by kernel_rfl) (by kernel_rfl) ?hq11 ?hy11 (by assumption) ?hr11; (case hi11 => (simp only [List.getElem?_toArray, List.getElem?_cons_succ, List.getElem?_cons_zero]; first | done | rfl)); (case hq11 => exact fun _ _ _ h => h); (case hy11 => (refine Or.inl ⟨by rfl, ?_⟩; intro w hSw; (try dsimp only at hSw); go_simp; first | done | with_reducible rfl)); (try simp only [Act.put, List.setIfInBounds_toArray, List.set_cons_zero, List.set_cons_succ]))
                (refine wpAnyH_take (i := 12) (oi := ?ho12) (v := ?hv12) ?hi12 (by kernel_rfl) (by kernel_rfl) (by kernel_rfl) ?hq12 ?hy12 (by assumption) ?hr12; (case hi12 => (simp only [List.getElem?_toArray, List.getElem?_cons_succ, List.getElem?_cons_zero]; first | done | rfl)); (case hq12 => exact fun _ _ _ h => h); (case hy12 => (refine Or.inl ⟨by rfl, ?_⟩; intro w hSw; (try dsimp only at hSw); go_simp; first | done | with_reducible rfl)); (try simp only [Act.put, List.setIfInBounds_toArray, List.set_cons_zero, List.set_cons_succ]))
                (refine wpAnyH_ready (rs := [13]) (by decide +kernel) (by simp) ?_; refine AllReadyH.cons (o := ?ho44) ?hi44 (fun K hK => ?hr44) AllReadyH.nil; (case hi44 => (simp only [List.getElem?_toArray, List.getElem?_cons_succ, List.getElem?_cons_zero]; first | done | rfl)))
                (go_wp2_with fail)
                (refine hK.out _ _ ?_ (fun hHeld => ?_); focus ((try dsimp only); (refine heldU.at lV cV ?_; (repeat (with_reducible first | exact heldU.refl _ | apply heldU.drew | apply heldU.aft | apply heldU.alloc)))))
                (clear hK K; (try simp only [Act.put, List.setIfInBounds_toArray, List.set_cons_zero, List.set_cons_succ]))
                (refine wpAnyH_ready (rs := [14]) (by decide +kernel) (by simp) ?_; refine AllReadyH.cons (o := ?ho45) ?hi45 (fun K hK => ?hr45) AllReadyH.nil; (case hi45 => (simp only [List.getElem?_toArray, List.getElem?_cons_succ, List.getElem?_cons_zero]; first | done | rfl)))
                (rw [if_pos (by rfl)]; go_wp2_with fail)
                (refine hK.out _ _ ?_ (fun hHeld => ?_); focus ((try dsimp only); (refine heldU.at lV cV ?_; (repeat (with_reducible first | exact heldU.refl _ | apply heldU.drew | apply heldU.aft | apply heldU.alloc)))))
                (clear hK K; (try simp only [Act.put, List.setIfInBounds_toArray, List.set_cons_zero, List.set_cons_succ]))
                (refine wpAnyH_done (by kernel_rfl) ?_ _)
                go_wp2_with fail
                obtain ⟨Z, hZ⟩ : ∃ Z, Z = (V.alloc (Obj.cells #[.int .i64 (r + a * E), .int .i64 ((e : Int) + 1)] 72)).drew := ⟨_, rfl⟩
                have cZ : ∀ o, Z.cell? ⟨V.heap.size, o, none⟩ = #[Value.int .i64 (r + a * E), .int .i64 ((e : Int) + 1)][o]? := fun o => by rw [hZ]; show (V.alloc _).cell? _ = _; rw [alloc_cell, if_pos rfl]
                have EZ : Hid (Ext Y.heap.size Y Z) := hid (by rw [hZ]; exact (EV.out.alloc _).drew)
                have lZ : V.heap.size < Z.heap.size := by rw [hZ]; show _ < (V.alloc _).heap.size; simp
                have OZ := hid (HO.out.below (show Below V.heap.size V Z by rw [hZ]; exact (((Below.refl _ _).alloc (Nat.le_refl _) _).drew)))
                have ZG := hid (VG.out.below (show Below V.heap.size V Z by rw [hZ]; exact (((Below.refl _ _).alloc (Nat.le_refl _) _).drew)))
                rw [← hZ]
                clear hZ
                have hlK := hBl.out q (by omega)
                have hlt15 := World.ownsRow.lt HO.out
                have h15 : ∀ k, _ = some k → k ≠ V.heap.size := fun k hk => by have := (hlt15 k hk).2; omega
                have hlB := hB1.out a HA.out
                (refine wp_region_held_drew (S := (fun w' => (∀ o, w'.cell? ⟨V.heap.size, o, none⟩ = #[Value.int .i64 (r + a * E), .int .i64 ((e : Int) + 1)][o]?) ∧ Z.heap.size ≤ w'.heap.size)) (by kernel_rfl) ?_ (fun hHeld => ?_); focus ((try dsimp only); (first | (refine heldU.at lZ cZ ?_; (repeat (with_reducible first | exact heldU.refl _ | apply heldU.drew | apply heldU.aft | apply heldU.alloc)); done) | exact hk2)))
                (refine wpAnyH_take (i := 0) (oi := ?ho13) (v := ?hv13) ?hi13 (by kernel_rfl) (by kernel_rfl) (by kernel_rfl) ?hq13 ?hy13 (by assumption) ?hr13; (case hi13 => (simp only [List.getElem?_toArray, List.getElem?_cons_zero]; first | done | rfl)); (case hq13 => exact fun _ _ _ h => h); (case hy13 => (refine Or.inl ⟨by rfl, ?_⟩; intro w hSw; (try dsimp only at hSw); go_simp; first | done | with_reducible rfl)); (try simp only [Act.put, List.setIfInBounds_toArray, List.set_cons_zero, List.set_cons_succ]))
                (refine wpAnyH_take (i := 1) (oi := ?ho14) (v := ?hv14) ?hi14 (by kernel_rfl) (by kernel_rfl) (by kernel_rfl) ?hq14 ?hy14 (by assumption) ?hr14; (case hi14 => (simp only [List.getElem?_toArray, List.getElem?_cons_succ, List.getElem?_cons_zero]; first | done | rfl)); (case hq14 => exact fun _ _ _ h => h); (case hy14 => (refine Or.inl ⟨by rfl, ?_⟩; intro w hSw; (try dsimp only at hSw); go_simp; first | done | with_reducible rfl)); (try simp only [Act.put, List.setIfInBounds_toArray, List.set_cons_zero, List.set_cons_succ]))
                (refine wpAnyH_take (i := 2) (oi := ?ho15) (v := ?hv15) ?hi15 (by kernel_rfl) (by kernel_rfl) (by kernel_rfl) ?hq15 ?hy15 (by assumption) ?hr15; (case hi15 => (simp only [List.getElem?_toArray, List.getElem?_cons_succ, List.getElem?_cons_zero]; first | done | rfl)); (case hq15 => exact fun _ _ _ h => h); (case hy15 => (refine Or.inl ⟨by rfl, ?_⟩; intro w hSw; (try dsimp only at hSw); go_simp; first | done | with_reducible rfl)); (try simp only [Act.put, List.setIfInBounds_toArray, List.set_cons_zero, List.set_cons_succ]))
                (refine wpAnyH_take (i := 3) (oi := ?ho16) (v := ?hv16) ?hi16 (by kernel_rfl) (by kernel_rfl) (by kernel_rfl) ?hq16 ?hy16 (by assumption) ?hr16; (case hi16 => (simp only [List.getElem?_toArray, List.getElem?_cons_succ, List.getElem?_cons_zero]; first | done | rfl)); (case hq16 => exact fun _ _ _ h => h); (case hy16 => (refine Or.inl ⟨by rfl, ?_⟩; intro w hSw; (try dsimp only at hSw); go_simp; first | done | with_reducible rfl)); (try simp only [Act.put, List.setIfInBounds_toArray, List.set_cons_zero, List.set_cons_succ]))
                (refine wpAnyH_take (i := 4) (oi := ?ho17) (v := ?hv17) ?hi17 (by kernel_rfl) (by kernel_rfl) (by kernel_rfl) ?hq17 ?hy17 (by assumption) ?hr17; (case hi17 => (simp only [List.getElem?_toArray, List.getElem?_cons_succ, List.getElem?_cons_zero]; first | done | rfl)); (case hq17 => exact fun _ _ _ h => h); (case hy17 => (refine Or.inl ⟨by rfl, ?_⟩; intro w hSw; (try dsimp only at hSw); go_simp; first | done | with_reducible rfl)); (try simp only [Act.put, List.setIfInBounds_toArray, List.set_cons_zero, List.set_cons_succ]))
                (refine wpAnyH_take (i := 5) (oi := ?ho18) (v := ?hv18) ?hi18 (by kernel_rfl) (by kernel_rfl) (by kernel_rfl) ?hq18 ?hy18 (by assumption) ?hr18; (case hi18 => (simp only [List.getElem?_toArray, List.getElem?_cons_succ, List.getElem?_cons_zero]; first | done | rfl)); (case hq18 => exact fun _ _ _ h => h); (case hy18 => (refine Or.inl ⟨by rfl, ?_⟩; intro w hSw; (try dsimp only at hSw); go_simp; first | done | with_reducible rfl)); (try simp only [Act.put, List.setIfInBounds_toArray, List.set_cons_zero, List.set_cons_succ]))
                (refine wpAnyH_take (i := 7) (oi := ?ho19) (v := ?hv19) ?hi19 (by kernel_rfl) (by kernel_rfl) (by kernel_rfl) ?hq19 ?hy19 (by assumption) ?hr19; (case hi19 => (simp only [List.getElem?_toArray, List.getElem?_cons_succ, List.getElem?_cons_zero]; first | done | rfl)); (case hq19 => exact fun _ _ _ h => h); (case hy19 => (refine Or.inl ⟨by rfl, ?_⟩; intro w hSw; (try dsimp only at hSw); go_simp; first | done | with_reducible rfl)); (try simp only [Act.put, List.setIfInBounds_toArray, List.set_cons_zero, List.set_cons_succ]))
                (refine wpAnyH_take (i := 8) (oi := ?ho20) (v := ?hv20) ?hi20 (by kernel_rfl) (by kernel_rfl) (by kernel_rfl) ?hq20 ?hy20 (by assumption) ?hr20; (case hi20 => (simp only [List.getElem?_toArray, List.getElem?_cons_succ, List.getElem?_cons_zero]; first | done | rfl)); (case hq20 => exact fun _ _ _ h => h); (case hy20 => (refine Or.inl ⟨by rfl, ?_⟩; intro w hSw; (try dsimp only at hSw); go_simp; first | done | with_reducible rfl)); (try simp only [Act.put, List.setIfInBounds_toArray, List.set_cons_zero, List.set_cons_succ]))
                (refine wpAnyH_take (i := 9) (oi := ?ho21) (v := ?hv21) ?hi21 (by kernel_rfl) (by kernel_rfl) (by kernel_rfl) ?hq21 ?hy21 (by assumption) ?hr21; (case hi21 => (simp only [List.getElem?_toArray, List.getElem?_cons_succ, List.getElem?_cons_zero]; first | done | rfl)); (case hq21 => exact fun _ _ _ h => h); (case hy21 => (refine Or.inl ⟨by rfl, ?_⟩; intro w hSw; (try dsimp only at hSw); go_simp; first | done | with_reducible rfl)); (try simp only [Act.put, List.setIfInBounds_toArray, List.set_cons_zero, List.set_cons_succ]))
                (refine wpAnyH_take (i := 10) (oi := ?ho22) (v := ?hv22) ?hi22 (by kernel_rfl) (by kernel_rfl) (by kernel_rfl) ?hq22 ?hy22 (by assumption) ?hr22; (case hi22 => (simp only [List.getElem?_toArray, List.getElem?_cons_succ, List.getElem?_cons_zero]; first | done | rfl)); (case hq22 => exact fun _ _ _ h => h); (case hy22 => (refine Or.inl ⟨by rfl, ?_⟩; intro w hSw; (try dsimp only at hSw); go_simp; first | done | with_reducible rfl)); (try simp only [Act.put, List.setIfInBounds_toArray, List.set_cons_zero, List.set_cons_succ]))
                (refine wpAnyH_ready (rs := [6]) (by decide +kernel) (by simp) ?_; refine AllReadyH.cons (o := ?ho38) ?hi38 (fun K hK => ?hr38) AllReadyH.nil; (case hi38 => (simp only [List.getElem?_toArray, List.getElem?_cons_succ, List.getElem?_cons_zero]; first | done | rfl)))
                (go_simp; go_at_call 81; refine viaI (g := id) (i_substituted _ G a p M _ ZG.out.drew (by omega) (by omega) (by omega) (by omega)) ?_; intro r82 u82 z82 o82; (try simp at z82); have HS82 := hid o82; clear o82; go_wp2_with fail)
                (refine hK.out _ _ ?_ (fun hHeld => ?_); focus ((try dsimp only); (first | (refine heldU.at lZ cZ ?_; (repeat (with_reducible first | exact heldU.refl _ | apply heldU.drew | apply heldU.aft | apply heldU.alloc)); done) | exact hk2)))
                (clear hK K; (try simp only [Act.put, List.setIfInBounds_toArray, List.set_cons_zero, List.set_cons_succ]))
                (refine wpAnyH_ready (rs := [11]) (by decide +kernel) (by simp) ?_; refine AllReadyH.cons (o := ?ho39) ?hi39 (fun K hK => ?hr39) AllReadyH.nil; (case hi39 => (simp only [List.getElem?_toArray, List.getElem?_cons_succ, List.getElem?_cons_zero]; first | done | rfl)))
                (go_simp; go_at_call 65; refine viaBl (HIH.out a HA.out _ _ HS82.out.rd) ?_; intro r87 u87 z87 o87; (try simp at z87); have HB87 := hid o87; clear o87; go_wp2_with fail)
                (refine hK.out _ _ ?_ (fun hHeld => ?_); focus ((try dsimp only); (first | (refine heldU.at lZ cZ ?_; (repeat (with_reducible first | exact heldU.refl _ | apply heldU.drew | apply heldU.aft | apply heldU.alloc)); done) | exact hk2)))
                (clear hK K; (try simp only [Act.put, List.setIfInBounds_toArray, List.set_cons_zero, List.set_cons_succ]))
                (refine wpAnyH_ready (rs := [12]) (by decide +kernel) (by simp) ?_; refine AllReadyH.cons (o := ?ho40) ?hi40 (fun K hK => ?hr40) AllReadyH.nil; (case hi40 => (simp only [List.getElem?_toArray, List.getElem?_cons_succ, List.getElem?_cons_zero]; first | done | rfl)))
                (refine step_append_rows (by rfl) _ _ 60 (by rfl) Y.heap.size 72 i1 (.agg #[.int .i64 0, .int .i64 0]) 2 16 Try.underlying60 hj hy0 hy1 hy2 rfl (by decide) _ _ _ (by rfl) (OZ.out.below ((((Ext.refl Z).drew.aft u82).aft u87).1)) _ _ _ _ (by rfl) HB87.out (vB_one _) (by unfold maxLen; omega) (by omega) (by omega) ?_; intro v' w1 hown' hgrow; have HOW := hid hown'; have HGR := hid hgrow; have hk2 := grown_keep cZ lZ hgrow h15; clear hown' hgrow)
                (refine hK.out _ _ ?_ (fun hHeld => ?_); focus ((try dsimp only); (first | (refine heldU.at lZ cZ ?_; (repeat (with_reducible first | exact heldU.refl _ | apply heldU.drew | apply heldU.aft | apply heldU.alloc)); done) | exact hk2)))
                (clear hK K; (try simp only [Act.put, List.setIfInBounds_toArray, List.set_cons_zero, List.set_cons_succ]))
                (refine wpAnyH_take (i := 13) (oi := ?ho23) (v := ?hv23) ?hi23 (by kernel_rfl) (by kernel_rfl) (by kernel_rfl) ?hq23 ?hy23 (by assumption) ?hr23; (case hi23 => (simp only [List.getElem?_toArray, List.getElem?_cons_succ, List.getElem?_cons_zero]; first | done | rfl)); (case hq23 => exact fun _ _ _ h => h); (case hy23 => (refine Or.inl ⟨by rfl, ?_⟩; intro w hSw; (try dsimp only at hSw); go_simp; first | done | with_reducible rfl)); (try simp only [Act.put, List.setIfInBounds_toArray, List.set_cons_zero, List.set_cons_succ]))
                (refine wpAnyH_done (by kernel_rfl) ?_ _)
                go_wp2_with fail
                have EW : Ext Y.heap.size Y w1 := ⟨Below.grown ((((EZ.out.drew).aft u82).aft u87).1) HGR.out ((((EZ.out.drew).aft u82).aft u87).2) (fun k hk => (hlt15 k hk).1), Nat.le_trans ((((EZ.out.drew).aft u82).aft u87).2) HGR.out.size⟩
                obtain ⟨uf, huf⟩ := aft_ex EW.1
                have HOF : Hid (ownBl Y.heap.size w1 v' (ballsK p t G M k' r e RS (q + 1))) := hid (by
                  have h4 := HOW.out
                  rw [HSUC.out]
                  unfold ownBl
                  rw [vB_app, List.length_append]
                  exact h4)
                rw [huf] at HOF ⊢
                go_roundw
                case rel => exact ⟨q + 1, uf, rfl, by omega, by go_num, HOF⟩
                case measure => simp only [intOf]; omega
              case rb =>
                (go_wp2_with fail)
                (refine hK.out _ _ ?_ (fun hHeld => ?_); focus ((try dsimp only); (refine heldU.at lV cV ?_; (repeat (with_reducible first | exact heldU.refl _ | apply heldU.drew | apply heldU.aft | apply heldU.alloc)))))
                (clear hK K; (try simp only [Act.put, List.setIfInBounds_toArray, List.set_cons_zero, List.set_cons_succ]))
                (refine wpAnyH_ready (rs := [6]) (by decide +kernel) (by simp) ?_; refine AllReadyH.cons (o := ?ho46) ?hi46 (fun K hK => ?hr46) AllReadyH.nil; (case hi46 => (simp only [List.getElem?_toArray, List.getElem?_cons_succ, List.getElem?_cons_zero]; first | done | rfl)))
                (go_simp; go_at_call 57; refine pur (i_power p (e : Int) _ (by omega) (by omega) HpE.out) ?_; rw [HET.out]; go_wp2_with fail)
                (refine hK.out _ _ ?_ (fun hHeld => ?_); focus ((try dsimp only); (refine heldU.at lV cV ?_; (repeat (with_reducible first | exact heldU.refl _ | apply heldU.drew | apply heldU.aft | apply heldU.alloc)))))
                (clear hK K; (try simp only [Act.put, List.setIfInBounds_toArray, List.set_cons_zero, List.set_cons_succ]))
                (refine wpAnyH_take (i := 7) (oi := ?ho24) (v := ?hv24) ?hi24 (by kernel_rfl) (by kernel_rfl) (by kernel_rfl) ?hq24 ?hy24 (by assumption) ?hr24; (case hi24 => (simp only [List.getElem?_toArray, List.getElem?_cons_succ, List.getElem?_cons_zero]; first | done | rfl)); (case hq24 => exact fun _ _ _ h => h); (case hy24 => (refine Or.inl ⟨by rfl, ?_⟩; intro w hSw; (try dsimp only at hSw); go_simp; first | done | with_reducible rfl)); (try simp only [Act.put, List.setIfInBounds_toArray, List.set_cons_zero, List.set_cons_succ]))
                (refine wpAnyH_take (i := 8) (oi := ?ho25) (v := ?hv25) ?hi25 (by kernel_rfl) (by kernel_rfl) (by kernel_rfl) ?hq25 ?hy25 (by assumption) ?hr25; (case hi25 => (simp only [List.getElem?_toArray, List.getElem?_cons_succ, List.getElem?_cons_zero]; first | done | rfl)); (case hq25 => exact fun _ _ _ h => h); (case hy25 => (refine Or.inl ⟨by rfl, ?_⟩; intro w hSw; (try dsimp only at hSw); go_simp; first | done | with_reducible rfl)); (try simp only [Act.put, List.setIfInBounds_toArray, List.set_cons_zero, List.set_cons_succ]))
                (refine wpAnyH_take (i := 12) (oi := ?ho26) (v := ?hv26) ?hi26 (by kernel_rfl) (by kernel_rfl) (by kernel_rfl) ?hq26 ?hy26 (by assumption) ?hr26; (case hi26 => (simp only [List.getElem?_toArray, List.getElem?_cons_succ, List.getElem?_cons_zero]; first | done | rfl)); (case hq26 => exact fun _ _ _ h => h); (case hy26 => (refine Or.inl ⟨by rfl, ?_⟩; intro w hSw; (try dsimp only at hSw); go_simp; first | done | with_reducible rfl)); (try simp only [Act.put, List.setIfInBounds_toArray, List.set_cons_zero, List.set_cons_succ]))
                (refine wpAnyH_ready (rs := [14]) (by decide +kernel) (by simp) ?_; refine AllReadyH.cons (o := ?ho47) ?hi47 (fun K hK => ?hr47) AllReadyH.nil; (case hi47 => (simp only [List.getElem?_toArray, List.getElem?_cons_succ, List.getElem?_cons_zero]; first | done | rfl)))
                (rw [if_pos (by rfl)]; go_wp2_with fail)
                (refine hK.out _ _ ?_ (fun hHeld => ?_); focus ((try dsimp only); (refine heldU.at lV cV ?_; (repeat (with_reducible first | exact heldU.refl _ | apply heldU.drew | apply heldU.aft | apply heldU.alloc)))))
                (clear hK K; (try simp only [Act.put, List.setIfInBounds_toArray, List.set_cons_zero, List.set_cons_succ]))
                (refine wpAnyH_done (by kernel_rfl) ?_ _)
                go_wp2_with fail
                obtain ⟨Z, hZ⟩ : ∃ Z, Z = (V.alloc (Obj.cells #[.int .i64 (r + a * E), .int .i64 ((e : Int) + 1)] 72)).drew := ⟨_, rfl⟩
                have cZ : ∀ o, Z.cell? ⟨V.heap.size, o, none⟩ = #[Value.int .i64 (r + a * E), .int .i64 ((e : Int) + 1)][o]? := fun o => by rw [hZ]; show (V.alloc _).cell? _ = _; rw [alloc_cell, if_pos rfl]
                have EZ : Hid (Ext Y.heap.size Y Z) := hid (by rw [hZ]; exact (EV.out.alloc _).drew)
                have lZ : V.heap.size < Z.heap.size := by rw [hZ]; show _ < (V.alloc _).heap.size; simp
                have OZ := hid (HO.out.below (show Below V.heap.size V Z by rw [hZ]; exact (((Below.refl _ _).alloc (Nat.le_refl _) _).drew)))
                have ZG := hid (VG.out.below (show Below V.heap.size V Z by rw [hZ]; exact (((Below.refl _ _).alloc (Nat.le_refl _) _).drew)))
                rw [← hZ]
                clear hZ
                have hlK := hBl.out q (by omega)
                have hlt15 := World.ownsRow.lt HO.out
                have h15 : ∀ k, _ = some k → k ≠ V.heap.size := fun k hk => by have := (hlt15 k hk).2; omega
                have hlB := hB1.out a HA.out
                (refine wp_region_held_drew (S := (fun w' => (∀ o, w'.cell? ⟨V.heap.size, o, none⟩ = #[Value.int .i64 (r + a * E), .int .i64 ((e : Int) + 1)][o]?) ∧ Z.heap.size ≤ w'.heap.size)) (by kernel_rfl) ?_ (fun hHeld => ?_); focus ((try dsimp only); (first | (refine heldU.at lZ cZ ?_; (repeat (with_reducible first | exact heldU.refl _ | apply heldU.drew | apply heldU.aft | apply heldU.alloc)); done) | exact hk2)))
                (refine wpAnyH_take (i := 0) (oi := ?ho27) (v := ?hv27) ?hi27 (by kernel_rfl) (by kernel_rfl) (by kernel_rfl) ?hq27 ?hy27 (by assumption) ?hr27; (case hi27 => (simp only [List.getElem?_toArray, List.getElem?_cons_zero]; first | done | rfl)); (case hq27 => exact fun _ _ _ h => h); (case hy27 => (refine Or.inl ⟨by rfl, ?_⟩; intro w hSw; (try dsimp only at hSw); go_simp; first | done | with_reducible rfl)); (try simp only [Act.put, List.setIfInBounds_toArray, List.set_cons_zero, List.set_cons_succ]))
                (refine wpAnyH_take (i := 1) (oi := ?ho28) (v := ?hv28) ?hi28 (by kernel_rfl) (by kernel_rfl) (by kernel_rfl) ?hq28 ?hy28 (by assumption) ?hr28; (case hi28 => (simp only [List.getElem?_toArray, List.getElem?_cons_succ, List.getElem?_cons_zero]; first | done | rfl)); (case hq28 => exact fun _ _ _ h => h); (case hy28 => (refine Or.inl ⟨by rfl, ?_⟩; intro w hSw; (try dsimp only at hSw); go_simp; first | done | with_reducible rfl)); (try simp only [Act.put, List.setIfInBounds_toArray, List.set_cons_zero, List.set_cons_succ]))
                (refine wpAnyH_take (i := 2) (oi := ?ho29) (v := ?hv29) ?hi29 (by kernel_rfl) (by kernel_rfl) (by kernel_rfl) ?hq29 ?hy29 (by assumption) ?hr29; (case hi29 => (simp only [List.getElem?_toArray, List.getElem?_cons_succ, List.getElem?_cons_zero]; first | done | rfl)); (case hq29 => exact fun _ _ _ h => h); (case hy29 => (refine Or.inl ⟨by rfl, ?_⟩; intro w hSw; (try dsimp only at hSw); go_simp; first | done | with_reducible rfl)); (try simp only [Act.put, List.setIfInBounds_toArray, List.set_cons_zero, List.set_cons_succ]))
                (refine wpAnyH_take (i := 3) (oi := ?ho30) (v := ?hv30) ?hi30 (by kernel_rfl) (by kernel_rfl) (by kernel_rfl) ?hq30 ?hy30 (by assumption) ?hr30; (case hi30 => (simp only [List.getElem?_toArray, List.getElem?_cons_succ, List.getElem?_cons_zero]; first | done | rfl)); (case hq30 => exact fun _ _ _ h => h); (case hy30 => (refine Or.inl ⟨by rfl, ?_⟩; intro w hSw; (try dsimp only at hSw); go_simp; first | done | with_reducible rfl)); (try simp only [Act.put, List.setIfInBounds_toArray, List.set_cons_zero, List.set_cons_succ]))
                (refine wpAnyH_take (i := 4) (oi := ?ho31) (v := ?hv31) ?hi31 (by kernel_rfl) (by kernel_rfl) (by kernel_rfl) ?hq31 ?hy31 (by assumption) ?hr31; (case hi31 => (simp only [List.getElem?_toArray, List.getElem?_cons_succ, List.getElem?_cons_zero]; first | done | rfl)); (case hq31 => exact fun _ _ _ h => h); (case hy31 => (refine Or.inl ⟨by rfl, ?_⟩; intro w hSw; (try dsimp only at hSw); go_simp; first | done | with_reducible rfl)); (try simp only [Act.put, List.setIfInBounds_toArray, List.set_cons_zero, List.set_cons_succ]))
                (refine wpAnyH_take (i := 5) (oi := ?ho32) (v := ?hv32) ?hi32 (by kernel_rfl) (by kernel_rfl) (by kernel_rfl) ?hq32 ?hy32 (by assumption) ?hr32; (case hi32 => (simp only [List.getElem?_toArray, List.getElem?_cons_succ, List.getElem?_cons_zero]; first | done | rfl)); (case hq32 => exact fun _ _ _ h => h); (case hy32 => (refine Or.inl ⟨by rfl, ?_⟩; intro w hSw; (try dsimp only at hSw); go_simp; first | done | with_reducible rfl)); (try simp only [Act.put, List.setIfInBounds_toArray, List.set_cons_zero, List.set_cons_succ]))
                (refine wpAnyH_take (i := 7) (oi := ?ho33) (v := ?hv33) ?hi33 (by kernel_rfl) (by kernel_rfl) (by kernel_rfl) ?hq33 ?hy33 (by assumption) ?hr33; (case hi33 => (simp only [List.getElem?_toArray, List.getElem?_cons_succ, List.getElem?_cons_zero]; first | done | rfl)); (case hq33 => exact fun _ _ _ h => h); (case hy33 => (refine Or.inl ⟨by rfl, ?_⟩; intro w hSw; (try dsimp only at hSw); go_simp; first | done | with_reducible rfl)); (try simp only [Act.put, List.setIfInBounds_toArray, List.set_cons_zero, List.set_cons_succ]))
                (refine wpAnyH_take (i := 8) (oi := ?ho34) (v := ?hv34) ?hi34 (by kernel_rfl) (by kernel_rfl) (by kernel_rfl) ?hq34 ?hy34 (by assumption) ?hr34; (case hi34 => (simp only [List.getElem?_toArray, List.getElem?_cons_succ, List.getElem?_cons_zero]; first | done | rfl)); (case hq34 => exact fun _ _ _ h => h); (case hy34 => (refine Or.inl ⟨by rfl, ?_⟩; intro w hSw; (try dsimp only at hSw); go_simp; first | done | with_reducible rfl)); (try simp only [Act.put, List.setIfInBounds_toArray, List.set_cons_zero, List.set_cons_succ]))
                (refine wpAnyH_take (i := 9) (oi := ?ho35) (v := ?hv35) ?hi35 (by kernel_rfl) (by kernel_rfl) (by kernel_rfl) ?hq35 ?hy35 (by assumption) ?hr35; (case hi35 => (simp only [List.getElem?_toArray, List.getElem?_cons_succ, List.getElem?_cons_zero]; first | done | rfl)); (case hq35 => exact fun _ _ _ h => h); (case hy35 => (refine Or.inl ⟨by rfl, ?_⟩; intro w hSw; (try dsimp only at hSw); go_simp; first | done | with_reducible rfl)); (try simp only [Act.put, List.setIfInBounds_toArray, List.set_cons_zero, List.set_cons_succ]))
                (refine wpAnyH_take (i := 10) (oi := ?ho36) (v := ?hv36) ?hi36 (by kernel_rfl) (by kernel_rfl) (by kernel_rfl) ?hq36 ?hy36 (by assumption) ?hr36; (case hi36 => (simp only [List.getElem?_toArray, List.getElem?_cons_succ, List.getElem?_cons_zero]; first | done | rfl)); (case hq36 => exact fun _ _ _ h => h); (case hy36 => (refine Or.inl ⟨by rfl, ?_⟩; intro w hSw; (try dsimp only at hSw); go_simp; first | done | with_reducible rfl)); (try simp only [Act.put, List.setIfInBounds_toArray, List.set_cons_zero, List.set_cons_succ]))
                (refine wpAnyH_ready (rs := [6]) (by decide +kernel) (by simp) ?_; refine AllReadyH.cons (o := ?ho41) ?hi41 (fun K hK => ?hr41) AllReadyH.nil; (case hi41 => (simp only [List.getElem?_toArray, List.getElem?_cons_succ, List.getElem?_cons_zero]; first | done | rfl)))
                (go_simp; go_at_call 81; refine viaI (g := id) (i_substituted _ G a p M _ ZG.out.drew (by omega) (by omega) (by omega) (by omega)) ?_; intro r82 u82 z82 o82; (try simp at z82); have HS82 := hid o82; clear o82; go_wp2_with fail)
                (refine hK.out _ _ ?_ (fun hHeld => ?_); focus ((try dsimp only); (first | (refine heldU.at lZ cZ ?_; (repeat (with_reducible first | exact heldU.refl _ | apply heldU.drew | apply heldU.aft | apply heldU.alloc)); done) | exact hk2)))
                (clear hK K; (try simp only [Act.put, List.setIfInBounds_toArray, List.set_cons_zero, List.set_cons_succ]))
                (refine wpAnyH_ready (rs := [11]) (by decide +kernel) (by simp) ?_; refine AllReadyH.cons (o := ?ho42) ?hi42 (fun K hK => ?hr42) AllReadyH.nil; (case hi42 => (simp only [List.getElem?_toArray, List.getElem?_cons_succ, List.getElem?_cons_zero]; first | done | rfl)))
                (go_simp; go_at_call 65; refine viaBl (HIH.out a HA.out _ _ HS82.out.rd) ?_; intro r87 u87 z87 o87; (try simp at z87); have HB87 := hid o87; clear o87; go_wp2_with fail)
                (refine hK.out _ _ ?_ (fun hHeld => ?_); focus ((try dsimp only); (first | (refine heldU.at lZ cZ ?_; (repeat (with_reducible first | exact heldU.refl _ | apply heldU.drew | apply heldU.aft | apply heldU.alloc)); done) | exact hk2)))
                (clear hK K; (try simp only [Act.put, List.setIfInBounds_toArray, List.set_cons_zero, List.set_cons_succ]))
                (refine wpAnyH_ready (rs := [12]) (by decide +kernel) (by simp) ?_; refine AllReadyH.cons (o := ?ho43) ?hi43 (fun K hK => ?hr43) AllReadyH.nil; (case hi43 => (simp only [List.getElem?_toArray, List.getElem?_cons_succ, List.getElem?_cons_zero]; first | done | rfl)))
                (refine step_append_rows (by rfl) _ _ 60 (by rfl) Y.heap.size 72 i1 (.agg #[.int .i64 0, .int .i64 0]) 2 16 Try.underlying60 hj hy0 hy1 hy2 rfl (by decide) _ _ _ (by rfl) (OZ.out.below ((((Ext.refl Z).drew.aft u82).aft u87).1)) _ _ _ _ (by rfl) HB87.out (vB_one _) (by unfold maxLen; omega) (by omega) (by omega) ?_; intro v' w1 hown' hgrow; have HOW := hid hown'; have HGR := hid hgrow; have hk2 := grown_keep cZ lZ hgrow h15; clear hown' hgrow)
                (refine hK.out _ _ ?_ (fun hHeld => ?_); focus ((try dsimp only); (first | (refine heldU.at lZ cZ ?_; (repeat (with_reducible first | exact heldU.refl _ | apply heldU.drew | apply heldU.aft | apply heldU.alloc)); done) | exact hk2)))
                (clear hK K; (try simp only [Act.put, List.setIfInBounds_toArray, List.set_cons_zero, List.set_cons_succ]))
                (refine wpAnyH_take (i := 13) (oi := ?ho37) (v := ?hv37) ?hi37 (by kernel_rfl) (by kernel_rfl) (by kernel_rfl) ?hq37 ?hy37 (by assumption) ?hr37; (case hi37 => (simp only [List.getElem?_toArray, List.getElem?_cons_succ, List.getElem?_cons_zero]; first | done | rfl)); (case hq37 => exact fun _ _ _ h => h); (case hy37 => (refine Or.inl ⟨by rfl, ?_⟩; intro w hSw; (try dsimp only at hSw); go_simp; first | done | with_reducible rfl)); (try simp only [Act.put, List.setIfInBounds_toArray, List.set_cons_zero, List.set_cons_succ]))
                (refine wpAnyH_done (by kernel_rfl) ?_ _)
                go_wp2_with fail
                have EW : Ext Y.heap.size Y w1 := ⟨Below.grown ((((EZ.out.drew).aft u82).aft u87).1) HGR.out ((((EZ.out.drew).aft u82).aft u87).2) (fun k hk => (hlt15 k hk).1), Nat.le_trans ((((EZ.out.drew).aft u82).aft u87).2) HGR.out.size⟩
                obtain ⟨uf, huf⟩ := aft_ex EW.1
                have HOF : Hid (ownBl Y.heap.size w1 v' (ballsK p t G M k' r e RS (q + 1))) := hid (by
                  have h4 := HOW.out
                  rw [HSUC.out]
                  unfold ownBl
                  rw [vB_app, List.length_append]
                  exact h4)
                rw [huf] at HOF ⊢
                go_roundw
                case rel => exact ⟨q + 1, uf, rfl, by omega, by go_num, HOF⟩
                case measure => simp only [intOf]; omega
            · have hqf : q = RS.length := by omega
              have HF1 : Hid (ownBl Y.heap.size (aft Y u7) _ FIN) := hid (by have := HO.out; rw [hqf, ← HFIN.out] at this; exact this)
              have hltz : ¬ (q : Int) < (RS.length : Int) := by omega
              clear HO
              go_wp2_with fail
              go_ret
              exact ⟨_, rfl, HF1.out.mono (by omega), Ext.bel (EY.out.aft _)⟩
end Go.Proofs.Ytdhnpmjoajaeiaa
