/- The draw of two groups. -/
import Derived.Test.YtbkbcbanfnhjpaaV7
import Derived.Test.YtbkbcbanfnhjpaaX5
namespace Go.Proofs.Ytbkbcbanfnhjpaa
open Go Go.RowKit

/-- What holds ahead of each round: two groups in cells, the two results' cells, the source. -/
structure twoG (w wr : World) (B b G1 G2 L : Nat) (n1 : Int) (s1 : Value) (rs1 : List Int) (n2 : Int) (s2 : Value) (rs2 : List Int) : Prop where
  ext : Ext w.heap.size w wr
  res1 : resOK w.heap.size wr
  res2 : resOK (w.heap.size + 1) wr
  srcw : src B b wr
  g1 : ∀ o, wr.cell? ⟨G1, o, none⟩ = #[Value.int .i64 n1, s1][o]?
  g2 : ∀ o, wr.cell? ⟨G2, o, none⟩ = #[Value.int .i64 n2, s2][o]?
  r1 : rdI wr s1 rs1
  r2 : rdI wr s2 rs2
  k1 : ∀ k, s1.ownBlock = some k → L ≤ k
  k2 : ∀ k, s2.ownBlock = some k → L ≤ k
  d1 : rs1 ≠ [] → ∀ k, s1.ownBlock = some k → k ≠ G2
  d2 : rs2 ≠ [] → ∀ k, s2.ownBlock = some k → k ≠ G2
  f2 : ∀ o, wr.frozen? ⟨G2, o, none⟩ = false
  l1 : G1 < wr.heap.size
  l2 : G2 < wr.heap.size
theorem rdI.gr {b L : Nat} {w w' : World} {v : Value} {xs : List Int} (h : rdI w v xs) (hg : Gr b w w') (hv : ∀ k, v.ownBlock = some k → L ≤ k) (hb : b < L) : rdI w' v xs := by
  obtain ⟨a, cap, rfl, hm, hc⟩ := h
  refine ⟨a, cap, rfl, hm, fun hne => ?_⟩
  obtain ⟨b', o, rfl, hcell⟩ := hc hne
  refine ⟨b', o, rfl, fun i hi => ?_⟩
  have h1 := hcell i hi
  have hlt := World.block_lt_of_cell? w _ h1
  simp only at hlt
  have := hv b' rfl
  exact (World.cell?_of_block (a := ⟨b', o + i, none⟩) (hg.block b' hlt (fun e => by injection e with e; omega))).trans h1
/-- What grows but for the source keeps all of it. -/
theorem twoG.gr {w wr wr' : World} {B b G1 G2 L : Nat} {n1 n2 : Int} {s1 s2 : Value} {rs1 rs2 : List Int} (h : twoG w wr B b G1 G2 L n1 s1 rs1 n2 s2 rs2) (hg : Gr b wr wr') (hs : src B b wr') (hwb : w.heap.size + 1 < b) (hbL : b < L) (h1 : G1 ≠ b) (h2 : G2 ≠ b) (hw : w.heap.size + 1 < wr.heap.size) :
    twoG w wr' B b G1 G2 L n1 s1 rs1 n2 s2 rs2 :=
  ⟨⟨h.ext.1.trans (Below.grown (Below.refl _ _) hg h.ext.2 (fun k hk => by injection hk with hk; omega)), Nat.le_trans h.ext.2 hg.size⟩,
   h.res1.grownD hg (by omega) (by omega), h.res2.grownD hg (by omega) (by omega), hs,
   fun o => (World.cell?_of_block (a := ⟨G1, o, none⟩) (hg.block G1 h.l1 (fun e => by injection e with e; exact h1 e))).trans (h.g1 o),
   fun o => (World.cell?_of_block (a := ⟨G2, o, none⟩) (hg.block G2 h.l2 (fun e => by injection e with e; exact h2 e))).trans (h.g2 o),
   h.r1.gr hg h.k1 hbL, h.r2.gr hg h.k2 hbL, h.k1, h.k2, h.d1, h.d2, fun o => (World.frozen?_of_block (a := ⟨G2, o, none⟩) (hg.block G2 h.l2 (fun e => by injection e with e; exact h2 e))).trans (h.f2 o), Nat.lt_of_lt_of_le h.l1 hg.size, Nat.lt_of_lt_of_le h.l2 hg.size⟩
theorem rdI.setN {b : Nat} {w : World} {v : Value} {xs : List Int} (h : rdI w v xs) (o : Nat) (x : Value) (hv : xs ≠ [] → ∀ k, v.ownBlock = some k → k ≠ b) : rdI (w.setCell ⟨b, o, none⟩ x) v xs := by
  obtain ⟨a, cap, rfl, hm, hc⟩ := h
  refine ⟨a, cap, rfl, hm, fun hne => ?_⟩
  obtain ⟨b', o', rfl, hcell⟩ := hc hne
  refine ⟨b', o', rfl, fun i hi => ?_⟩
  have := hv hne b' rfl
  rw [set_cell, if_neg (by omega)]
  exact hcell i hi
/-- A list that is there lies below the world's end. -/
theorem rdI.lt {w : World} {v : Value} {xs : List Int} (h : rdI w v xs) (hne : xs ≠ []) : ∀ k, v.ownBlock = some k → k < w.heap.size := fun k hk => by
  obtain ⟨a, cap, rfl, hm, hc⟩ := h
  obtain ⟨b', o', rfl, hcell⟩ := hc hne
  have h1 := hcell 0 (List.length_pos_iff.2 hne)
  have := World.block_lt_of_cell? w _ h1
  simp only [Value.ownBlock, Option.some.injEq] at hk this
  omega
theorem resOK.setG {n0 b o : Nat} {w : World} {v : Value} (h : resOK n0 w) (hne : n0 ≠ b) : resOK n0 (w.setCell ⟨b, o, none⟩ v) := fun k hk => by
  rw [World.frozen?_setCell, set_cell, if_neg (by omega)]
  exact h k hk
/-- A new group is stored. -/
theorem twoG.put {w wr : World} {B b G1 G2 L : Nat} {n1 n2 n : Int} {s1 s2 s : Value} {rs1 rs2 rs : List Int} (h : twoG w wr B b G1 G2 L n1 s1 rs1 n2 s2 rs2) (hr : rdI wr s rs) (hk : ∀ k, s.ownBlock = some k → L ≤ k) (hd : rs ≠ [] → ∀ k, s.ownBlock = some k → k ≠ G2) (h2 : G2 ≠ b) (h12 : G1 ≠ G2) (hw : w.heap.size + 1 < G2) (hB : B ≤ G2) :
    twoG w ((wr.setCell ⟨G2, 0, none⟩ (.int .i64 n)).setCell ⟨G2, 1, none⟩ s) B b G1 G2 L n1 s1 rs1 n s rs :=
  ⟨(h.ext.setCell _ _ _ _ (by omega)).setCell _ _ _ _ (by omega), (h.res1.setG (by omega)).setG (by omega), (h.res2.setG (by omega)).setG (by omega), (h.srcw.set h2 hB _).set h2 hB _,
   fun o => by rw [set_cell, if_neg (by omega), set_cell, if_neg (by omega)]; exact h.g1 o,
   fun o => by
    have q := h.g2 o
    have q0 := h.g2 0
    have q1 := h.g2 1
    simp only [set_cell]
    match o with
    | 0 => simp at q0; simp [q0]
    | 1 => simp at q1; simp [q1]
    | o + 2 => simp at q ⊢; exact q,
   (h.r1.setN _ _ h.d1).setN _ _ h.d1, (hr.setN _ _ hd).setN _ _ hd, h.k1, hk, h.d1, hd, fun o => by rw [World.frozen?_setCell, World.frozen?_setCell]; exact h.f2 o, by simpa using h.l1, by simpa using h.l2⟩
/-- What lies below V's end is as it was, but for the two results' cells. -/
def heldT (n0 : Nat) (V w' : World) : Prop := (∀ k o, k < V.heap.size → k ≠ n0 → k ≠ n0 + 1 → w'.cell? ⟨k, o, none⟩ = V.cell? ⟨k, o, none⟩) ∧ V.heap.size ≤ w'.heap.size
theorem heldT.refl (n0 : Nat) (V : World) : heldT n0 V V := ⟨fun _ _ _ _ _ => rfl, Nat.le_refl _⟩
theorem heldT.drew {n0 : Nat} {V w' : World} (h : heldT n0 V w') : heldT n0 V w'.drew := h
theorem heldT.aft {n0 : Nat} {V w' : World} (h : heldT n0 V w') (u : World) : heldT n0 V (Go.Proofs.Ytbkbcbanfnhjpaa.aft w' u) :=
  ⟨fun k o h1 h2 h3 => by have := h.2; rw [aft_cell, if_pos (by omega)]; exact h.1 k o h1 h2 h3, Nat.le_trans h.2 (size_aft w' u)⟩
theorem heldT.alloc {n0 : Nat} {V w' : World} (h : heldT n0 V w') (zs : Array Value) (T : TypeId) : heldT n0 V (w'.alloc (.cells zs T)) :=
  ⟨fun k o h1 h2 h3 => by have := h.2; rw [alloc_cell, if_neg (by omega)]; exact h.1 k o h1 h2 h3, by have := h.2; simp; omega⟩
theorem heldT.set0 {n0 : Nat} {V w' : World} (h : heldT n0 V w') (o' : Nat) (v : Value) : heldT n0 V (w'.setCell ⟨n0, o', none⟩ v) :=
  ⟨fun k o h1 h2 h3 => by rw [set_cell, if_neg (by omega)]; exact h.1 k o h1 h2 h3, by simpa using h.2⟩
theorem heldT.set1 {n0 : Nat} {V w' : World} (h : heldT n0 V w') (o' : Nat) (v : Value) : heldT n0 V (w'.setCell ⟨n0 + 1, o', none⟩ v) :=
  ⟨fun k o h1 h2 h3 => by rw [set_cell, if_neg (by omega)]; exact h.1 k o h1 h2 h3, by simpa using h.2⟩
theorem heldT.at {n0 G : Nat} {V w' : World} {cs : Array Value} (h1 : G < V.heap.size) (h2 : G ≠ n0) (h3 : G ≠ n0 + 1) (hc : ∀ o, V.cell? ⟨G, o, none⟩ = cs[o]?) (h : heldT n0 V w') : (∀ o, w'.cell? ⟨G, o, none⟩ = cs[o]?) ∧ V.heap.size ≤ w'.heap.size :=
  ⟨fun o => (h.1 G o h1 h2 h3).trans (hc o), h.2⟩
theorem rdI.heldT {n0 : Nat} {V w' : World} {v : Value} {xs : List Int} (h : rdI V v xs) (hT : Go.Proofs.Ytbkbcbanfnhjpaa.heldT n0 V w') (hk : ∀ k, v.ownBlock = some k → n0 + 1 < k) : rdI w' v xs := by
  obtain ⟨a, cap, rfl, hm, hc⟩ := h
  refine ⟨a, cap, rfl, hm, fun hne => ?_⟩
  obtain ⟨b', o, rfl, hcell⟩ := hc hne
  refine ⟨b', o, rfl, fun i hi => ?_⟩
  have h1 := hcell i hi
  have hlt := World.block_lt_of_cell? V _ h1
  simp only at hlt
  have := hk b' rfl
  exact (hT.1 b' (o + i) hlt (by omega) (by omega)).trans h1
set_option maxRecDepth 20000 in
set_option maxHeartbeats 8000000 in
theorem s_drawTwo (B : Nat) (a : Option Addr) (len cap : Nat) (w : World) (h : rdB B w a len) (hl : len ≤ 4096) (hB : B ≤ w.heap.size) :
    Calls Try.prog 61 #[.slice a len cap] w fun e w' => ∃ v1 v2, e = .returned (.tuple #[v1, v2]) ∧ grpX w.heap.size w' v1 ∧ grpX w.heap.size w' v2 ∧ Below w.heap.size w w' := by
  go_enter Try.func61, Try.ntmps61
  go_wp2_with fail
  refine viaF (s_from B a len cap _ (h.of fun j o v hj hv => by rw [alloc_cell, if_neg (by simp; omega), alloc_cell, if_neg (by omega)]; exact hv) hl (by simp; omega)) ?_
  intro b u0 hs0 hb0 hl0 hl1
  simp at hb0 hl0
  go_wp2_with fail
  obtain ⟨W0, hW0⟩ : ∃ W0, W0 = aft ((w.alloc (Obj.cells #[.int .i64 0, .slice none 0 0] 26)).alloc (Obj.cells #[.int .i64 0, .slice none 0 0] 26)) u0 := ⟨_, rfl⟩
  have HE0 : Hid (Ext w.heap.size w W0) := hid (by rw [hW0]; exact (((Ext.refl w).alloc _).alloc _).aft _)
  have hres : resOK w.heap.size W0 := by
    intro j hj
    obtain rfl | rfl : j = 0 ∨ j = 1 := by omega
    all_goals (rw [hW0]; simp [go_sem])
  have hres2 : resOK (w.heap.size + 1) W0 := by
    intro j hj
    obtain rfl | rfl : j = 0 ∨ j = 1 := by omega
    all_goals (rw [hW0]; simp [go_sem])
  have HR0 := hid hres
  have HR1 := hid hres2
  rw [← hW0] at hs0 hl0 hl1 ⊢
  have hRW : w.heap.size + 1 < W0.heap.size := by omega
  have hb0' : b < W0.heap.size := by omega
  clear hW0 hres hres2
  refine viaDX (s_draw22 B b _ hs0) ?_
  intro v0 u hv hs hl2
  obtain ⟨n1, s1, rs1, rfl, hn1, hr1, hk1, hrl1⟩ := hv
  obtain ⟨a1, c1, hsh, _, _⟩ := id hr1
  subst hsh
  go_wp2_with fail
  obtain ⟨W1, hW1⟩ : ∃ V, V = (aftD b W0 u).alloc (Obj.cells #[.int .i64 n1, .slice a1 rs1.length c1] 26) := ⟨_, rfl⟩
  obtain ⟨G1, hG1⟩ : ∃ G, G = (aftD b W0 u).heap.size := ⟨_, rfl⟩
  have hE1 : Gr b W0 W1 := by rw [hW1]; exact ((Gr.refl b W0).aftD _).alloc _
  have gV1 : ∀ o, W1.cell? ⟨G1, o, none⟩ = #[Value.int .i64 n1, .slice a1 rs1.length c1][o]? := fun o => by rw [hW1, hG1, alloc_cell, if_pos rfl]
  have hGV1 : G1 < W1.heap.size := by rw [hW1, hG1]; simp
  have hrV1 : rdI W1 (.slice a1 rs1.length c1) rs1 := by rw [hW1]; exact hr1.alloc _
  have hsV1 : src B b W1 := by rw [hW1]; exact hs.alloc _
  have hG10 : W0.heap.size ≤ G1 := by omega
  rw [← hW1, ← hG1]
  clear hW1 hG1 hs hr1 hl2
  have HE1 := hid hE1
  have HV1 := hid gV1
  have HRV1 := hid hrV1
  have HK1 := hid hk1
  clear hE1 gV1 hrV1 hk1
  refine viaDX (s_draw22 B b _ hsV1) ?_
  intro v0 u hv hs hl2
  obtain ⟨n2, s2, rs2, rfl, hn2, hr2, hk2, hrl2⟩ := hv
  obtain ⟨a2, c2, hsh, _, _⟩ := id hr2
  subst hsh
  go_wp2_with fail
  obtain ⟨W2, hW2⟩ : ∃ V, V = (aftD b W1 u).alloc (Obj.cells #[.int .i64 n2, .slice a2 rs2.length c2] 26) := ⟨_, rfl⟩
  obtain ⟨G2, hG2⟩ : ∃ G, G = (aftD b W1 u).heap.size := ⟨_, rfl⟩
  have hE2 : Gr b W1 W2 := by rw [hW2]; exact ((Gr.refl b W1).aftD _).alloc _
  have gV2 : ∀ o, W2.cell? ⟨G2, o, none⟩ = #[Value.int .i64 n2, .slice a2 rs2.length c2][o]? := fun o => by rw [hW2, hG2, alloc_cell, if_pos rfl]
  have hGV2 : G2 < W2.heap.size := by rw [hW2, hG2]; simp
  have hrV2 : rdI W2 (.slice a2 rs2.length c2) rs2 := by rw [hW2]; exact hr2.alloc _
  have hsV2 : src B b W2 := by rw [hW2]; exact hs.alloc _
  have hG20 : W1.heap.size ≤ G2 := by omega
  have hs10 := HE1.out.size
  have hs20 := hE2.size
  have hf2 : ∀ o, W2.frozen? ⟨G2, o, none⟩ = false := fun o => by rw [hW2, hG2, alloc_frozen, if_pos rfl]
  have HLT1 := hid HRV1.out.lt
  have HLT2 : Hid (rs2 ≠ [] → ∀ k, (Value.slice a2 rs2.length c2).ownBlock = some k → k < G2) := hid (by rw [hG2]; exact hr2.lt)
  rw [← hW2, ← hG2]
  clear hW2 hG2 hs hr2 hl2
  have hGr := grownBy_trans HE1.out hE2
  have hST : twoG w W2 B b G1 G2 W0.heap.size n1 (.slice a1 rs1.length c1) rs1 n2 (.slice a2 rs2.length c2) rs2 :=
    ⟨⟨HE0.out.1.trans (Below.grown (Below.refl _ _) hGr (by omega) (fun k hk => by injection hk with hk; omega)), by omega⟩,
     HR0.out.grownD hGr (by omega) (by omega), HR1.out.grownD hGr (by omega) (by omega), hsV2,
     fun o => (World.cell?_of_block (a := ⟨G1, o, none⟩) (hE2.block G1 hGV1 (fun e => by injection e with e; omega))).trans (HV1.out o), gV2,
     HRV1.out.gr hE2 HK1.out hb0', hrV2, HK1.out, fun k hk => by have := hk2 k hk; omega, fun q k hk => by have := HLT1.out q k hk; omega, fun q k hk => by have := HLT2.out q k hk; omega, hf2, by omega, hGV2⟩
  have HST := hid hST
  go_loopw [7] (fun i wr => ∃ (k : Nat) (n2 : Int) (a2 : Option Addr) (c2 : Nat) (rs2 : List Int), k ≤ 6 ∧ i = .int .i64 k ∧ (-10 ≤ n2 ∧ n2 ≤ 10) ∧ rs2.length ≤ 1000 ∧ Hid (twoG w wr B b G1 G2 W0.heap.size n1 (.slice a1 rs1.length c1) rs1 n2 (.slice a2 rs2.length c2) rs2) ∧ W2.heap.size ≤ wr.heap.size) (fun i _ => 6 - (intOf i).toNat)
  case atStart => exact ⟨0, n2, a2, c2, rs2, by omega, rfl, hn2, hrl2, HST, Nat.le_refl _⟩
  case round =>
    obtain ⟨k, n2, a2, c2, rs2, hk, rfl, hn2, hrl2, HS, hsz⟩ := hrel
    have x0 := HS.out.g1 0
    have x1 := HS.out.g1 1
    have y0 := HS.out.g2 0
    have y1 := HS.out.g2 1
    simp at x0 x1 y0 y1
    have fz0 := HS.out.f2 0
    have fz1 := HS.out.f2 1
    have hl1 := HS.out.l1
    have hl2 := HS.out.l2
    by_cases hgo : k < 6 ∧ n1 ≠ n2
    · obtain ⟨hk6, hnn⟩ := hgo
      have hkz : (k : Int) < 6 := by omega
      have hnz : (n1 != n2) = true := by simpa using hnn
      go_wp2_with fail
      refine viaDX (s_valid22 B b _ HS.out.srcw) ?_
      intro v u hv hs3 hl3
      obtain ⟨m, s, rs, rfl, hm, ho, hrl⟩ := hv
      obtain ⟨a9, c9, hsh9, _, _⟩ := ho.rd
      subst hsh9
      obtain ⟨X, hX⟩ : ∃ X, X = aftD b wr u := ⟨_, rfl⟩
      have hGX : Gr b wr X := by rw [hX]; exact (Gr.refl b wr).aftD u
      rw [← hX] at hs3 ho hl3 ⊢
      clear hX
      have hT2 := HS.out.gr hGX hs3 (by omega) hb0' (by omega) (by omega) (by omega)
      have hP := hT2.put (n := (m : Int)) ho.rd (fun k hk => by have := own_row_ge ho k hk; omega) (fun _ k hk => by have := own_row_ge ho k hk; omega) (by omega) (by omega) (by omega) (by omega)
      have HP := hid hP
      have w0 := hT2.g2 0
      have w1 := hT2.g2 1
      simp at w0 w1
      have v0 := hT2.f2 0
      have v1 := hT2.f2 1
      have hl9 := hT2.l2
      clear hT2 hP hGX hs3 ho x0 x1 y0 y1 fz0 fz1
      go_wp2_with fail
      go_roundw
      case rel => exact ⟨k + 1, (m : Int), a9, c9, rs, by omega, by go_num, by omega, by omega, HP, by first | omega | (simp; omega)⟩
      case measure => simp only [intOf]; omega
    · obtain ⟨T, hT⟩ : ∃ T, groupB n1 rs1 = T := ⟨_, rfl⟩
      have HT := hid hT
      have HR1' := hid HS.out.r1
      clear hT
      have hend : ¬ (k : Int) < 6 ∨ ((k : Int) < 6 ∧ (n1 != n2) = false) := by
        by_cases hk6 : k < 6
        · right
          refine ⟨by omega, ?_⟩
          have : n1 = n2 := by
            by_cases e : n1 = n2
            · exact e
            · exact absurd ⟨hk6, e⟩ hgo
          simpa using this
        · left; omega
      clear hgo
      rcases hend with hkz | ⟨hkz, hnz⟩
      · skip
        go_wp2_with fail
        refine via (s_IsGroupE n1 _ rs1 _ T HR1'.out (by omega) HT.out) ?_
        intro u2 z2
        try simp at z2
        cases T
        · obtain ⟨X, hX⟩ : ∃ X, X = aft wr u2 := ⟨_, rfl⟩
          have hGX : Gr b wr X := by rw [hX]; exact (Gr.refl b wr).aft u2
          have hsX : src B b X := by rw [hX]; exact HS.out.srcw.aft u2
          have hTX := HS.out.gr hGX hsX (by omega) hb0' (by omega) (by omega) (by omega)
          have HTX := hid hTX
          rw [← hX]
          clear hX hGX hsX hTX x0 x1 y0 y1 fz0 fz1
          have x0 := HTX.out.g1 0
          have x1 := HTX.out.g1 1
          have y0 := HTX.out.g2 0
          have y1 := HTX.out.g2 1
          simp at x0 x1 y0 y1
          obtain ⟨e0, he0⟩ := Option.isSome_iff_exists.1 (HTX.out.res1 0 (by omega)).2
          obtain ⟨e1, he1⟩ := Option.isSome_iff_exists.1 (HTX.out.res1 1 (by omega)).2
          obtain ⟨d0, hd0⟩ := Option.isSome_iff_exists.1 (HTX.out.res2 0 (by omega)).2
          obtain ⟨d1, hd1⟩ := Option.isSome_iff_exists.1 (HTX.out.res2 1 (by omega)).2
          have hf0 := (HTX.out.res1 0 (by omega)).1
          have hf1 := (HTX.out.res1 1 (by omega)).1
          have hf2' := (HTX.out.res2 0 (by omega)).1
          have hf3 := (HTX.out.res2 1 (by omega)).1
          have hlX1 := HTX.out.l1
          have hlX2 := HTX.out.l2
          have hne12 : G1 ≠ w.heap.size := by omega
          go_wp2_with fail
          go_region
          go_wp2_with fail
          exact bodyPost_ret (v := .tuple #[.agg #[.int .i64 n1, .slice a1 rs1.length c1], .agg #[.int .i64 n2, .slice a2 rs2.length c2]]) (by simp [results, go_sem, he0, he1, hd0, hd1]) rfl ⟨_, _, rfl,
            ⟨n1, _, rs1, rfl, hn1, ((((HTX.out.r1.setB _ _ _ HTX.out.k1 (by omega)).setB _ _ _ HTX.out.k1 (by omega)).setB _ _ _ HTX.out.k1 (by omega)).setB _ _ _ HTX.out.k1 (by omega)).drew, fun k hq => by have := HTX.out.k1 k hq; omega, hrl1⟩,
            ⟨n2, _, rs2, rfl, hn2, ((((HTX.out.r2.setB _ _ _ HTX.out.k2 (by omega)).setB _ _ _ HTX.out.k2 (by omega)).setB _ _ _ HTX.out.k2 (by omega)).setB _ _ _ HTX.out.k2 (by omega)).drew, fun k hq => by have := HTX.out.k2 k hq; omega, hrl2⟩,
            Ext.bel ((((HTX.out.ext.setCell _ _ _ _ (by omega)).setCell _ _ _ _ (by omega)).setCell _ _ _ _ (by omega)).setCell _ _ _ _ (by omega)).drew⟩
        · go_wp2_with fail
          refine viaDr (s_next B b _ _ (HS.out.srcw.aft u2) (by omega)) ?_
          intro y v3 hy hs3 hl3
          (try dsimp only at hy)
          by_cases hy0' : y = 0
          · subst hy0'
            obtain ⟨m, hnm, hm1, hm6, _, _, hrr, hpw, _⟩ := group_facts HT.out
            subst hnm
            have HRR := hid hrr
            have hl7 : rs1.length ≤ 720 := Nat.le_trans (asc_len hpw hrr) (facN_le hm6)
            clear hrr hpw
            obtain ⟨zs, hzs⟩ : ∃ z, filtF m rs1 evB = z := ⟨_, rfl⟩
            have HZS := hid hzs
            have hzl : zs.length ≤ 1000 := by rw [← hzs]; exact Nat.le_trans (filt_le _ _ _) hrl1
            clear hzs
            obtain ⟨X, hX⟩ : ∃ X, X = aftD b (aft wr u2) v3 := ⟨_, rfl⟩
            have hGX : Gr b wr X := by rw [hX]; exact ((Gr.refl b wr).aft u2).aftD v3
            have hsX : src B b X := by rw [hX]; exact hs3
            have hTX := HS.out.gr hGX hsX (by omega) hb0' (by omega) (by omega) (by omega)
            have HTX := hid hTX
            rw [← hX]
            clear hX hGX hsX hTX x0 x1 y0 y1 fz0 fz1
            have gX := HTX.out.g1
            obtain ⟨e0, he0⟩ := Option.isSome_iff_exists.1 (HTX.out.res1 0 (by omega)).2
            obtain ⟨e1, he1⟩ := Option.isSome_iff_exists.1 (HTX.out.res1 1 (by omega)).2
            obtain ⟨d0, hd0⟩ := Option.isSome_iff_exists.1 (HTX.out.res2 0 (by omega)).2
            obtain ⟨d1, hd1⟩ := Option.isSome_iff_exists.1 (HTX.out.res2 1 (by omega)).2
            have hf0 := (HTX.out.res1 0 (by omega)).1
            have hf1 := (HTX.out.res1 1 (by omega)).1
            have hf2' := (HTX.out.res2 0 (by omega)).1
            have hf3 := (HTX.out.res2 1 (by omega)).1
            have hGX := HTX.out.l1
            have hne12 : G1 ≠ w.heap.size := by omega
            have hne13 : G1 ≠ w.heap.size + 1 := by omega
            have hXs : w.heap.size + 1 < X.heap.size := by omega
            have HRX : Hid (∀ U, heldT w.heap.size X U → rdI U (.slice a1 rs1.length c1) rs1) := hid fun U hU => HTX.out.r1.heldT hU (fun k hk => by have := HTX.out.k1 k hk; omega)
            have HK := hid HTX.out.k1
            have HEX := hid HTX.out.ext
            go_wp2_with fail
            (refine wp_region_held_drew (S := (fun w' => (∀ o, w'.cell? ⟨G1, o, none⟩ = #[Value.int .i64 m, .slice a1 rs1.length c1][o]?) ∧ X.heap.size ≤ w'.heap.size)) (by kernel_rfl) ?_ (fun hHeld => ?_); focus ((try dsimp only); (refine heldT.at (n0 := w.heap.size) hGX hne12 hne13 gX ?_; (repeat (with_reducible first | exact heldT.refl _ _ | apply heldT.drew | apply heldT.aft | apply heldT.alloc | apply heldT.set0 | apply heldT.set1)))))
            (refine wpAnyH_take (i := 0) (oi := ?ho1) (v := ?hv1) ?hi1 (by kernel_rfl) (by kernel_rfl) (by kernel_rfl) ?hq1 ?hy1 (by assumption) ?hr1; (case hi1 => (simp only [List.getElem?_toArray, List.getElem?_cons_succ, List.getElem?_cons_zero]; first | done | rfl)); (case hq1 => exact fun _ _ _ h => h); (case hy1 => (refine Or.inl ⟨by rfl, ?_⟩; intro w hSw; (try dsimp only at hSw); go_simp; first | done | with_reducible rfl)); (try simp only [Act.put, List.setIfInBounds_toArray, List.set_cons_zero, List.set_cons_succ]))
            (refine wpAnyH_take (i := 1) (oi := ?ho2) (v := ?hv2) ?hi2 (by kernel_rfl) (by kernel_rfl) (by kernel_rfl) ?hq2 ?hy2 (by assumption) ?hr2; (case hi2 => (simp only [List.getElem?_toArray, List.getElem?_cons_succ, List.getElem?_cons_zero]; first | done | rfl)); (case hq2 => exact fun _ _ _ h => h); (case hy2 => (refine Or.inl ⟨by rfl, ?_⟩; intro w hSw; (try dsimp only at hSw); go_simp; first | done | with_reducible rfl)); (try simp only [Act.put, List.setIfInBounds_toArray, List.set_cons_zero, List.set_cons_succ]))
            (refine wpAnyH_take (i := 2) (oi := ?ho3) (v := ?hv3) ?hi3 (by kernel_rfl) (by kernel_rfl) (by kernel_rfl) ?hq3 ?hy3 (by assumption) ?hr3; (case hi3 => (simp only [List.getElem?_toArray, List.getElem?_cons_succ, List.getElem?_cons_zero]; first | done | rfl)); (case hq3 => exact fun _ _ _ h => h); (case hy3 => (refine Or.inl ⟨by rfl, ?_⟩; intro w hSw; (try dsimp only at hSw); go_simp; first | done | with_reducible rfl)); (try simp only [Act.put, List.setIfInBounds_toArray, List.set_cons_zero, List.set_cons_succ]))
            (refine wpAnyH_take (i := 5) (oi := ?ho4) (v := ?hv4) ?hi4 (by kernel_rfl) (by kernel_rfl) (by kernel_rfl) ?hq4 ?hy4 (by assumption) ?hr4; (case hi4 => (simp only [List.getElem?_toArray, List.getElem?_cons_succ, List.getElem?_cons_zero]; first | done | rfl)); (case hq4 => exact fun _ _ _ h => h); (case hy4 => (refine Or.inl ⟨by rfl, ?_⟩; intro w hSw; (try dsimp only at hSw); go_simp; first | done | with_reducible rfl)); (try simp only [Act.put, List.setIfInBounds_toArray, List.set_cons_zero, List.set_cons_succ]))
            (refine wpAnyH_ready (rs := [3]) (by decide +kernel) (by simp) ?_; refine AllReadyH.cons (o := ?ho11) ?hi11 (fun K hK => ?hr11) AllReadyH.nil; (case hi11 => (simp only [List.getElem?_toArray, List.getElem?_cons_succ, List.getElem?_cons_zero]; first | done | rfl)))
            (go_simp; go_at_call 58; refine viaI (g := id) (s_even m _ rs1 _ zs (HRX.out _ (by (repeat (with_reducible first | exact heldT.refl _ _ | apply heldT.drew | apply heldT.aft | apply heldT.alloc | apply heldT.set0 | apply heldT.set1)))) hm1 hm6 HRR.out hl7 HZS.out) ?_; intro t3 u3 z3 own3; (try simp at z3); obtain ⟨a9, c9, hsh9, _, _⟩ := own3.rd; subst hsh9; have HO9 : ∀ k, (Value.slice a9 zs.length c9).ownBlock = some k → X.heap.size ≤ k := (fun k hq => by have := own_row_ge own3 k hq; (try simp at this); omega); go_wp2_with fail)
            (refine hK.out _ _ ?_ (fun hHeld => ?_); focus ((try dsimp only); (refine heldT.at (n0 := w.heap.size) hGX hne12 hne13 gX ?_; (repeat (with_reducible first | exact heldT.refl _ _ | apply heldT.drew | apply heldT.aft | apply heldT.alloc | apply heldT.set0 | apply heldT.set1)))))
            (clear hK K; (try simp only [Act.put, List.setIfInBounds_toArray, List.set_cons_zero, List.set_cons_succ]))
            (refine wpAnyH_take (i := 4) (oi := ?ho5) (v := ?hv5) ?hi5 (by kernel_rfl) (by kernel_rfl) (by kernel_rfl) ?hq5 ?hy5 (by assumption) ?hr5; (case hi5 => (simp only [List.getElem?_toArray, List.getElem?_cons_succ, List.getElem?_cons_zero]; first | done | rfl)); (case hq5 => exact fun _ _ _ h => h); (case hy5 => (refine Or.inl ⟨by rfl, ?_⟩; intro w hSw; (try dsimp only at hSw); go_simp; first | done | with_reducible rfl)); (try simp only [Act.put, List.setIfInBounds_toArray, List.set_cons_zero, List.set_cons_succ]))
            (refine wpAnyH_ready (rs := [6]) (by decide +kernel) (by simp) ?_; refine AllReadyH.cons (o := ?ho12) ?hi12 (fun K hK => ?hr12) AllReadyH.nil; (case hi12 => (simp only [List.getElem?_toArray, List.getElem?_cons_succ, List.getElem?_cons_zero]; first | done | rfl)))
            (rw [if_pos (by rfl)]; go_wp2_with fail)
            (refine hK.out _ _ ?_ (fun hHeld => ?_); focus ((try dsimp only); (refine heldT.at (n0 := w.heap.size) hGX hne12 hne13 gX ?_; (repeat (with_reducible first | exact heldT.refl _ _ | apply heldT.drew | apply heldT.aft | apply heldT.alloc | apply heldT.set0 | apply heldT.set1)))))
            (clear hK K; (try simp only [Act.put, List.setIfInBounds_toArray, List.set_cons_zero, List.set_cons_succ]))
            (refine wpAnyH_ready (rs := [7]) (by decide +kernel) (by simp) ?_; refine AllReadyH.cons (o := ?ho13) ?hi13 (fun K hK => ?hr13) AllReadyH.nil; (case hi13 => (simp only [List.getElem?_toArray, List.getElem?_cons_succ, List.getElem?_cons_zero]; first | done | rfl)))
            (rw [if_pos (by rfl)]; go_wp2_with fail)
            (refine hK.out _ _ ?_ (fun hHeld => ?_); focus ((try dsimp only); (refine heldT.at (n0 := w.heap.size) hGX hne12 hne13 gX ?_; (repeat (with_reducible first | exact heldT.refl _ _ | apply heldT.drew | apply heldT.aft | apply heldT.alloc | apply heldT.set0 | apply heldT.set1)))))
            (clear hK K; (try simp only [Act.put, List.setIfInBounds_toArray, List.set_cons_zero, List.set_cons_succ]))
            (refine wpAnyH_done (by kernel_rfl) ?_ _)
            go_wp2_with fail
            exact bodyPost_ret (v := (.tuple #[.agg #[.int .i64 m, .slice a9 zs.length c9], .agg #[.int .i64 m, .slice a1 rs1.length c1]])) (by simp [results, go_sem, he0, he1, hd0, hd1, ↓IntWalk.iteOmega]) rfl ⟨_, _, rfl, ⟨m, _, zs, rfl, by omega, (by repeat (with_reducible first | exact own3.rd | apply rdI.drew | apply rdI.aft | (refine rdI.setB (L := X.heap.size) ?_ _ _ _ HO9 (by omega)))), fun k hq => by have := HO9 k hq; omega, hzl⟩, ⟨m, _, rs1, rfl, hn1, HRX.out _ (by (repeat (with_reducible first | exact heldT.refl _ _ | apply heldT.drew | apply heldT.aft | apply heldT.alloc | apply heldT.set0 | apply heldT.set1))), fun k hq => by have := HK.out k hq; omega, hrl1⟩, (by refine Ext.bel ?_; repeat (with_reducible first | exact HEX.out | apply Ext.drew | apply Ext.aft | (refine Ext.setCell ?_ _ _ _ _ (by omega))))⟩
          have hyn : (y == 0) = false := by simpa using hy0'
          · obtain ⟨X, hX⟩ : ∃ X, X = aftD b (aft wr u2) v3 := ⟨_, rfl⟩
            have hGX : Gr b wr X := by rw [hX]; exact ((Gr.refl b wr).aft u2).aftD v3
            have hsX : src B b X := by rw [hX]; exact hs3
            have hTX := HS.out.gr hGX hsX (by omega) hb0' (by omega) (by omega) (by omega)
            have HTX := hid hTX
            rw [← hX]
            clear hX hGX hsX hTX x0 x1 y0 y1 fz0 fz1
            have x0 := HTX.out.g1 0
            have x1 := HTX.out.g1 1
            have y0 := HTX.out.g2 0
            have y1 := HTX.out.g2 1
            simp at x0 x1 y0 y1
            obtain ⟨e0, he0⟩ := Option.isSome_iff_exists.1 (HTX.out.res1 0 (by omega)).2
            obtain ⟨e1, he1⟩ := Option.isSome_iff_exists.1 (HTX.out.res1 1 (by omega)).2
            obtain ⟨d0, hd0⟩ := Option.isSome_iff_exists.1 (HTX.out.res2 0 (by omega)).2
            obtain ⟨d1, hd1⟩ := Option.isSome_iff_exists.1 (HTX.out.res2 1 (by omega)).2
            have hf0 := (HTX.out.res1 0 (by omega)).1
            have hf1 := (HTX.out.res1 1 (by omega)).1
            have hf2' := (HTX.out.res2 0 (by omega)).1
            have hf3 := (HTX.out.res2 1 (by omega)).1
            have hlX1 := HTX.out.l1
            have hlX2 := HTX.out.l2
            have hne12 : G1 ≠ w.heap.size := by omega
            go_wp2_with fail
            go_region
            go_wp2_with fail
            exact bodyPost_ret (v := .tuple #[.agg #[.int .i64 n1, .slice a1 rs1.length c1], .agg #[.int .i64 n2, .slice a2 rs2.length c2]]) (by simp [results, go_sem, he0, he1, hd0, hd1]) rfl ⟨_, _, rfl,
              ⟨n1, _, rs1, rfl, hn1, ((((HTX.out.r1.setB _ _ _ HTX.out.k1 (by omega)).setB _ _ _ HTX.out.k1 (by omega)).setB _ _ _ HTX.out.k1 (by omega)).setB _ _ _ HTX.out.k1 (by omega)).drew, fun k hq => by have := HTX.out.k1 k hq; omega, hrl1⟩,
              ⟨n2, _, rs2, rfl, hn2, ((((HTX.out.r2.setB _ _ _ HTX.out.k2 (by omega)).setB _ _ _ HTX.out.k2 (by omega)).setB _ _ _ HTX.out.k2 (by omega)).setB _ _ _ HTX.out.k2 (by omega)).drew, fun k hq => by have := HTX.out.k2 k hq; omega, hrl2⟩,
              Ext.bel ((((HTX.out.ext.setCell _ _ _ _ (by omega)).setCell _ _ _ _ (by omega)).setCell _ _ _ _ (by omega)).setCell _ _ _ _ (by omega)).drew⟩
      · skip
        go_wp2_with fail
        refine via (s_IsGroupE n1 _ rs1 _ T HR1'.out (by omega) HT.out) ?_
        intro u2 z2
        try simp at z2
        cases T
        · obtain ⟨X, hX⟩ : ∃ X, X = aft wr u2 := ⟨_, rfl⟩
          have hGX : Gr b wr X := by rw [hX]; exact (Gr.refl b wr).aft u2
          have hsX : src B b X := by rw [hX]; exact HS.out.srcw.aft u2
          have hTX := HS.out.gr hGX hsX (by omega) hb0' (by omega) (by omega) (by omega)
          have HTX := hid hTX
          rw [← hX]
          clear hX hGX hsX hTX x0 x1 y0 y1 fz0 fz1
          have x0 := HTX.out.g1 0
          have x1 := HTX.out.g1 1
          have y0 := HTX.out.g2 0
          have y1 := HTX.out.g2 1
          simp at x0 x1 y0 y1
          obtain ⟨e0, he0⟩ := Option.isSome_iff_exists.1 (HTX.out.res1 0 (by omega)).2
          obtain ⟨e1, he1⟩ := Option.isSome_iff_exists.1 (HTX.out.res1 1 (by omega)).2
          obtain ⟨d0, hd0⟩ := Option.isSome_iff_exists.1 (HTX.out.res2 0 (by omega)).2
          obtain ⟨d1, hd1⟩ := Option.isSome_iff_exists.1 (HTX.out.res2 1 (by omega)).2
          have hf0 := (HTX.out.res1 0 (by omega)).1
          have hf1 := (HTX.out.res1 1 (by omega)).1
          have hf2' := (HTX.out.res2 0 (by omega)).1
          have hf3 := (HTX.out.res2 1 (by omega)).1
          have hlX1 := HTX.out.l1
          have hlX2 := HTX.out.l2
          have hne12 : G1 ≠ w.heap.size := by omega
          go_wp2_with fail
          go_region
          go_wp2_with fail
          exact bodyPost_ret (v := .tuple #[.agg #[.int .i64 n1, .slice a1 rs1.length c1], .agg #[.int .i64 n2, .slice a2 rs2.length c2]]) (by simp [results, go_sem, he0, he1, hd0, hd1]) rfl ⟨_, _, rfl,
            ⟨n1, _, rs1, rfl, hn1, ((((HTX.out.r1.setB _ _ _ HTX.out.k1 (by omega)).setB _ _ _ HTX.out.k1 (by omega)).setB _ _ _ HTX.out.k1 (by omega)).setB _ _ _ HTX.out.k1 (by omega)).drew, fun k hq => by have := HTX.out.k1 k hq; omega, hrl1⟩,
            ⟨n2, _, rs2, rfl, hn2, ((((HTX.out.r2.setB _ _ _ HTX.out.k2 (by omega)).setB _ _ _ HTX.out.k2 (by omega)).setB _ _ _ HTX.out.k2 (by omega)).setB _ _ _ HTX.out.k2 (by omega)).drew, fun k hq => by have := HTX.out.k2 k hq; omega, hrl2⟩,
            Ext.bel ((((HTX.out.ext.setCell _ _ _ _ (by omega)).setCell _ _ _ _ (by omega)).setCell _ _ _ _ (by omega)).setCell _ _ _ _ (by omega)).drew⟩
        · go_wp2_with fail
          refine viaDr (s_next B b _ _ (HS.out.srcw.aft u2) (by omega)) ?_
          intro y v3 hy hs3 hl3
          (try dsimp only at hy)
          by_cases hy0' : y = 0
          · subst hy0'
            obtain ⟨m, hnm, hm1, hm6, _, _, hrr, hpw, _⟩ := group_facts HT.out
            subst hnm
            have HRR := hid hrr
            have hl7 : rs1.length ≤ 720 := Nat.le_trans (asc_len hpw hrr) (facN_le hm6)
            clear hrr hpw
            obtain ⟨zs, hzs⟩ : ∃ z, filtF m rs1 evB = z := ⟨_, rfl⟩
            have HZS := hid hzs
            have hzl : zs.length ≤ 1000 := by rw [← hzs]; exact Nat.le_trans (filt_le _ _ _) hrl1
            clear hzs
            obtain ⟨X, hX⟩ : ∃ X, X = aftD b (aft wr u2) v3 := ⟨_, rfl⟩
            have hGX : Gr b wr X := by rw [hX]; exact ((Gr.refl b wr).aft u2).aftD v3
            have hsX : src B b X := by rw [hX]; exact hs3
            have hTX := HS.out.gr hGX hsX (by omega) hb0' (by omega) (by omega) (by omega)
            have HTX := hid hTX
            rw [← hX]
            clear hX hGX hsX hTX x0 x1 y0 y1 fz0 fz1
            have gX := HTX.out.g1
            obtain ⟨e0, he0⟩ := Option.isSome_iff_exists.1 (HTX.out.res1 0 (by omega)).2
            obtain ⟨e1, he1⟩ := Option.isSome_iff_exists.1 (HTX.out.res1 1 (by omega)).2
            obtain ⟨d0, hd0⟩ := Option.isSome_iff_exists.1 (HTX.out.res2 0 (by omega)).2
            obtain ⟨d1, hd1⟩ := Option.isSome_iff_exists.1 (HTX.out.res2 1 (by omega)).2
            have hf0 := (HTX.out.res1 0 (by omega)).1
            have hf1 := (HTX.out.res1 1 (by omega)).1
            have hf2' := (HTX.out.res2 0 (by omega)).1
            have hf3 := (HTX.out.res2 1 (by omega)).1
            have hGX := HTX.out.l1
            have hne12 : G1 ≠ w.heap.size := by omega
            have hne13 : G1 ≠ w.heap.size + 1 := by omega
            have hXs : w.heap.size + 1 < X.heap.size := by omega
            have HRX : Hid (∀ U, heldT w.heap.size X U → rdI U (.slice a1 rs1.length c1) rs1) := hid fun U hU => HTX.out.r1.heldT hU (fun k hk => by have := HTX.out.k1 k hk; omega)
            have HK := hid HTX.out.k1
            have HEX := hid HTX.out.ext
            go_wp2_with fail
            (refine wp_region_held_drew (S := (fun w' => (∀ o, w'.cell? ⟨G1, o, none⟩ = #[Value.int .i64 m, .slice a1 rs1.length c1][o]?) ∧ X.heap.size ≤ w'.heap.size)) (by kernel_rfl) ?_ (fun hHeld => ?_); focus ((try dsimp only); (refine heldT.at (n0 := w.heap.size) hGX hne12 hne13 gX ?_; (repeat (with_reducible first | exact heldT.refl _ _ | apply heldT.drew | apply heldT.aft | apply heldT.alloc | apply heldT.set0 | apply heldT.set1)))))
            (refine wpAnyH_take (i := 0) (oi := ?ho6) (v := ?hv6) ?hi6 (by kernel_rfl) (by kernel_rfl) (by kernel_rfl) ?hq6 ?hy6 (by assumption) ?hr6; (case hi6 => (simp only [List.getElem?_toArray, List.getElem?_cons_succ, List.getElem?_cons_zero]; first | done | rfl)); (case hq6 => exact fun _ _ _ h => h); (case hy6 => (refine Or.inl ⟨by rfl, ?_⟩; intro w hSw; (try dsimp only at hSw); go_simp; first | done | with_reducible rfl)); (try simp only [Act.put, List.setIfInBounds_toArray, List.set_cons_zero, List.set_cons_succ]))
            (refine wpAnyH_take (i := 1) (oi := ?ho7) (v := ?hv7) ?hi7 (by kernel_rfl) (by kernel_rfl) (by kernel_rfl) ?hq7 ?hy7 (by assumption) ?hr7; (case hi7 => (simp only [List.getElem?_toArray, List.getElem?_cons_succ, List.getElem?_cons_zero]; first | done | rfl)); (case hq7 => exact fun _ _ _ h => h); (case hy7 => (refine Or.inl ⟨by rfl, ?_⟩; intro w hSw; (try dsimp only at hSw); go_simp; first | done | with_reducible rfl)); (try simp only [Act.put, List.setIfInBounds_toArray, List.set_cons_zero, List.set_cons_succ]))
            (refine wpAnyH_take (i := 2) (oi := ?ho8) (v := ?hv8) ?hi8 (by kernel_rfl) (by kernel_rfl) (by kernel_rfl) ?hq8 ?hy8 (by assumption) ?hr8; (case hi8 => (simp only [List.getElem?_toArray, List.getElem?_cons_succ, List.getElem?_cons_zero]; first | done | rfl)); (case hq8 => exact fun _ _ _ h => h); (case hy8 => (refine Or.inl ⟨by rfl, ?_⟩; intro w hSw; (try dsimp only at hSw); go_simp; first | done | with_reducible rfl)); (try simp only [Act.put, List.setIfInBounds_toArray, List.set_cons_zero, List.set_cons_succ]))
            (refine wpAnyH_take (i := 5) (oi := ?ho9) (v := ?hv9) ?hi9 (by kernel_rfl) (by kernel_rfl) (by kernel_rfl) ?hq9 ?hy9 (by assumption) ?hr9; (case hi9 => (simp only [List.getElem?_toArray, List.getElem?_cons_succ, List.getElem?_cons_zero]; first | done | rfl)); (case hq9 => exact fun _ _ _ h => h); (case hy9 => (refine Or.inl ⟨by rfl, ?_⟩; intro w hSw; (try dsimp only at hSw); go_simp; first | done | with_reducible rfl)); (try simp only [Act.put, List.setIfInBounds_toArray, List.set_cons_zero, List.set_cons_succ]))
            (refine wpAnyH_ready (rs := [3]) (by decide +kernel) (by simp) ?_; refine AllReadyH.cons (o := ?ho14) ?hi14 (fun K hK => ?hr14) AllReadyH.nil; (case hi14 => (simp only [List.getElem?_toArray, List.getElem?_cons_succ, List.getElem?_cons_zero]; first | done | rfl)))
            (go_simp; go_at_call 58; refine viaI (g := id) (s_even m _ rs1 _ zs (HRX.out _ (by (repeat (with_reducible first | exact heldT.refl _ _ | apply heldT.drew | apply heldT.aft | apply heldT.alloc | apply heldT.set0 | apply heldT.set1)))) hm1 hm6 HRR.out hl7 HZS.out) ?_; intro t3 u3 z3 own3; (try simp at z3); obtain ⟨a9, c9, hsh9, _, _⟩ := own3.rd; subst hsh9; have HO9 : ∀ k, (Value.slice a9 zs.length c9).ownBlock = some k → X.heap.size ≤ k := (fun k hq => by have := own_row_ge own3 k hq; (try simp at this); omega); go_wp2_with fail)
            (refine hK.out _ _ ?_ (fun hHeld => ?_); focus ((try dsimp only); (refine heldT.at (n0 := w.heap.size) hGX hne12 hne13 gX ?_; (repeat (with_reducible first | exact heldT.refl _ _ | apply heldT.drew | apply heldT.aft | apply heldT.alloc | apply heldT.set0 | apply heldT.set1)))))
            (clear hK K; (try simp only [Act.put, List.setIfInBounds_toArray, List.set_cons_zero, List.set_cons_succ]))
            (refine wpAnyH_take (i := 4) (oi := ?ho10) (v := ?hv10) ?hi10 (by kernel_rfl) (by kernel_rfl) (by kernel_rfl) ?hq10 ?hy10 (by assumption) ?hr10; (case hi10 => (simp only [List.getElem?_toArray, List.getElem?_cons_succ, List.getElem?_cons_zero]; first | done | rfl)); (case hq10 => exact fun _ _ _ h => h); (case hy10 => (refine Or.inl ⟨by rfl, ?_⟩; intro w hSw; (try dsimp only at hSw); go_simp; first | done | with_reducible rfl)); (try simp only [Act.put, List.setIfInBounds_toArray, List.set_cons_zero, List.set_cons_succ]))
            (refine wpAnyH_ready (rs := [6]) (by decide +kernel) (by simp) ?_; refine AllReadyH.cons (o := ?ho15) ?hi15 (fun K hK => ?hr15) AllReadyH.nil; (case hi15 => (simp only [List.getElem?_toArray, List.getElem?_cons_succ, List.getElem?_cons_zero]; first | done | rfl)))
            (rw [if_pos (by rfl)]; go_wp2_with fail)
            (refine hK.out _ _ ?_ (fun hHeld => ?_); focus ((try dsimp only); (refine heldT.at (n0 := w.heap.size) hGX hne12 hne13 gX ?_; (repeat (with_reducible first | exact heldT.refl _ _ | apply heldT.drew | apply heldT.aft | apply heldT.alloc | apply heldT.set0 | apply heldT.set1)))))
            (clear hK K; (try simp only [Act.put, List.setIfInBounds_toArray, List.set_cons_zero, List.set_cons_succ]))
            (refine wpAnyH_ready (rs := [7]) (by decide +kernel) (by simp) ?_; refine AllReadyH.cons (o := ?ho16) ?hi16 (fun K hK => ?hr16) AllReadyH.nil; (case hi16 => (simp only [List.getElem?_toArray, List.getElem?_cons_succ, List.getElem?_cons_zero]; first | done | rfl)))
            (rw [if_pos (by rfl)]; go_wp2_with fail)
            (refine hK.out _ _ ?_ (fun hHeld => ?_); focus ((try dsimp only); (refine heldT.at (n0 := w.heap.size) hGX hne12 hne13 gX ?_; (repeat (with_reducible first | exact heldT.refl _ _ | apply heldT.drew | apply heldT.aft | apply heldT.alloc | apply heldT.set0 | apply heldT.set1)))))
            (clear hK K; (try simp only [Act.put, List.setIfInBounds_toArray, List.set_cons_zero, List.set_cons_succ]))
            (refine wpAnyH_done (by kernel_rfl) ?_ _)
            go_wp2_with fail
            exact bodyPost_ret (v := (.tuple #[.agg #[.int .i64 m, .slice a9 zs.length c9], .agg #[.int .i64 m, .slice a1 rs1.length c1]])) (by simp [results, go_sem, he0, he1, hd0, hd1, ↓IntWalk.iteOmega]) rfl ⟨_, _, rfl, ⟨m, _, zs, rfl, by omega, (by repeat (with_reducible first | exact own3.rd | apply rdI.drew | apply rdI.aft | (refine rdI.setB (L := X.heap.size) ?_ _ _ _ HO9 (by omega)))), fun k hq => by have := HO9 k hq; omega, hzl⟩, ⟨m, _, rs1, rfl, hn1, HRX.out _ (by (repeat (with_reducible first | exact heldT.refl _ _ | apply heldT.drew | apply heldT.aft | apply heldT.alloc | apply heldT.set0 | apply heldT.set1))), fun k hq => by have := HK.out k hq; omega, hrl1⟩, (by refine Ext.bel ?_; repeat (with_reducible first | exact HEX.out | apply Ext.drew | apply Ext.aft | (refine Ext.setCell ?_ _ _ _ _ (by omega))))⟩
          have hyn : (y == 0) = false := by simpa using hy0'
          · obtain ⟨X, hX⟩ : ∃ X, X = aftD b (aft wr u2) v3 := ⟨_, rfl⟩
            have hGX : Gr b wr X := by rw [hX]; exact ((Gr.refl b wr).aft u2).aftD v3
            have hsX : src B b X := by rw [hX]; exact hs3
            have hTX := HS.out.gr hGX hsX (by omega) hb0' (by omega) (by omega) (by omega)
            have HTX := hid hTX
            rw [← hX]
            clear hX hGX hsX hTX x0 x1 y0 y1 fz0 fz1
            have x0 := HTX.out.g1 0
            have x1 := HTX.out.g1 1
            have y0 := HTX.out.g2 0
            have y1 := HTX.out.g2 1
            simp at x0 x1 y0 y1
            obtain ⟨e0, he0⟩ := Option.isSome_iff_exists.1 (HTX.out.res1 0 (by omega)).2
            obtain ⟨e1, he1⟩ := Option.isSome_iff_exists.1 (HTX.out.res1 1 (by omega)).2
            obtain ⟨d0, hd0⟩ := Option.isSome_iff_exists.1 (HTX.out.res2 0 (by omega)).2
            obtain ⟨d1, hd1⟩ := Option.isSome_iff_exists.1 (HTX.out.res2 1 (by omega)).2
            have hf0 := (HTX.out.res1 0 (by omega)).1
            have hf1 := (HTX.out.res1 1 (by omega)).1
            have hf2' := (HTX.out.res2 0 (by omega)).1
            have hf3 := (HTX.out.res2 1 (by omega)).1
            have hlX1 := HTX.out.l1
            have hlX2 := HTX.out.l2
            have hne12 : G1 ≠ w.heap.size := by omega
            go_wp2_with fail
            go_region
            go_wp2_with fail
            exact bodyPost_ret (v := .tuple #[.agg #[.int .i64 n1, .slice a1 rs1.length c1], .agg #[.int .i64 n2, .slice a2 rs2.length c2]]) (by simp [results, go_sem, he0, he1, hd0, hd1]) rfl ⟨_, _, rfl,
              ⟨n1, _, rs1, rfl, hn1, ((((HTX.out.r1.setB _ _ _ HTX.out.k1 (by omega)).setB _ _ _ HTX.out.k1 (by omega)).setB _ _ _ HTX.out.k1 (by omega)).setB _ _ _ HTX.out.k1 (by omega)).drew, fun k hq => by have := HTX.out.k1 k hq; omega, hrl1⟩,
              ⟨n2, _, rs2, rfl, hn2, ((((HTX.out.r2.setB _ _ _ HTX.out.k2 (by omega)).setB _ _ _ HTX.out.k2 (by omega)).setB _ _ _ HTX.out.k2 (by omega)).setB _ _ _ HTX.out.k2 (by omega)).drew, fun k hq => by have := HTX.out.k2 k hq; omega, hrl2⟩,
              Ext.bel ((((HTX.out.ext.setCell _ _ _ _ (by omega)).setCell _ _ _ _ (by omega)).setCell _ _ _ _ (by omega)).setCell _ _ _ _ (by omega)).drew⟩
/-- Two groups came back. -/
theorem viaTwo {P : Program} {f : FuncId} {args : Array Value} {w : World} {R : Ending → World → Prop}
    (h : Calls P f args w fun e w' => ∃ v1 v2, e = .returned (.tuple #[v1, v2]) ∧ grpX w.heap.size w' v1 ∧ grpX w.heap.size w' v2 ∧ Below w.heap.size w w')
    (hR : ∀ v1 v2 u, w.heap.size ≤ (aft w u).heap.size → grpX w.heap.size (aft w u) v1 → grpX w.heap.size (aft w u) v2 → R (.returned (.tuple #[v1, v2])) (aft w u)) : Calls P f args w R :=
  h.mono fun e w' ⟨v1, v2, he, h1, h2, hb⟩ => by subst he; obtain ⟨u, rfl⟩ := aft_ex hb; exact hR v1 v2 u (size_aft w u) h1 h2
set_option maxRecDepth 20000 in
set_option maxHeartbeats 4000000 in
theorem s_DrawMeetGroups (B : Nat) (a : Option Addr) (len cap : Nat) (w : World) (h : rdB B w a len) (hl : len ≤ 4096) (hB : B ≤ w.heap.size) :
    Calls Try.prog 16 #[.slice a len cap] w fun e w' => ∃ v1 v2, e = .returned (.tuple #[v1, v2]) ∧ grpX w.heap.size w' v1 ∧ grpX w.heap.size w' v2 ∧ Below w.heap.size w w' := by
  go_enter Try.func16, Try.ntmps16
  go_wp2_with fail
  refine viaTwo (s_drawTwo B a len cap _ (h.of fun j o v hj hv => by rw [alloc_cell, if_neg (by simp; omega), alloc_cell, if_neg (by omega)]; exact hv) hl (by simp; omega)) ?_
  intro v1 v2 u hl2 hv1 hv2
  obtain ⟨n1, s1, rs1, rfl, hn1, hr1, hk1, hrl1⟩ := hv1
  obtain ⟨a1, c1, hsh1, _, _⟩ := id hr1
  subst hsh1
  obtain ⟨n2, s2, rs2, rfl, hn2, hr2, hk2, hrl2⟩ := hv2
  obtain ⟨a2, c2, hsh2, _, _⟩ := id hr2
  subst hsh2
  simp at hl2
  have HR1 := hid hr1
  have HR2 := hid hr2
  have HK1 : Hid (∀ k, (Value.slice a1 rs1.length c1).ownBlock = some k → w.heap.size + 1 + 1 ≤ k) := hid (by simpa using hk1)
  have HK2 : Hid (∀ k, (Value.slice a2 rs2.length c2).ownBlock = some k → w.heap.size + 1 + 1 ≤ k) := hid (by simpa using hk2)
  clear hr1 hr2 hk1 hk2
  go_wp2_with fail
  exact bodyPost_ret (v := .tuple #[.agg #[.int .i64 n1, .slice a1 rs1.length c1], .agg #[.int .i64 n2, .slice a2 rs2.length c2]]) (by first | (simp [results, go_sem]; done) | simp [results, go_sem, ↓IntWalk.iteOmega]) rfl ⟨_, _, rfl,
    ⟨n1, _, rs1, rfl, hn1, (((HR1.out.setB _ _ _ HK1.out (by omega)).setB _ _ _ HK1.out (by omega)).setB _ _ _ HK1.out (by omega)).setB _ _ _ HK1.out (by omega), fun k hq => by have := HK1.out k hq; omega, hrl1⟩,
    ⟨n2, _, rs2, rfl, hn2, (((HR2.out.setB _ _ _ HK2.out (by omega)).setB _ _ _ HK2.out (by omega)).setB _ _ _ HK2.out (by omega)).setB _ _ _ HK2.out (by omega), fun k hq => by have := HK2.out k hq; omega, hrl2⟩, (by refine Ext.bel ?_; repeat (with_reducible first | exact Ext.refl _ | apply Ext.alloc | apply Ext.aft | apply Ext.drew | apply Ext.drewN | apply Ext.setCell | exact Nat.le_add_right _ _ | exact Nat.le_refl _ | (simp; done) | omega))⟩
end Go.Proofs.Ytbkbcbanfnhjpaa
