/- Berlekamp's kernel: the rows are made. -/
import Derived.Test.YtflmoopiajhadaaYB
namespace Go.Proofs.Ytflmoopiajhadaa
open Go Go.RowKit

theorem one_newS {w : World} {t : Value} {T : TypeId} : ∀ (j : Nat) (u : Value), [t][j]? = some u → (w.alloc (.cells #[t] T)).cell? ((⟨w.heap.size, 0, none⟩ : Addr).add j) = some u := by
  intro j u hj
  cases j with
  | zero => simp at hj; subst hj; simp [Addr.add]
  | succ j => simp at hj
theorem one_newK {w : World} {t : Value} {T : TypeId} {k : Nat} (hk : k = w.heap.size) : ∀ (j : Nat) (u : Value), [t][j]? = some u → (w.alloc (.cells #[t] T)).cell? ((⟨k, 0, none⟩ : Addr).add j) = some u := by
  subst hk; exact one_newS
theorem infoBool : (Try.prog.info? 4).map (fun i => (i.zero, i.size, i.bytes)) = some (some (.bool false), 1, 1) := by kernel_rfl
theorem bool_cells (n : Nat) : (madeCells #[Value.bool false] n).toList = List.replicate n (Value.bool false) := by
  rw [toList_madeCells_one]
/-- The numbers of a row: in range, and what it says. -/
def rowOK (p : Int) (f : List Int) (n : Nat) (r : Nat → Int) : Prop := (∀ j, j < 2 * n → 0 ≤ r j ∧ r j ≤ p - 1) ∧ rel p (co f) n r
theorem row_init {p : Int} {f im xs : List Int} {n i : Nat} (hp : 2 ≤ p) (hi : i < n) (hl : im.length ≤ n) (him : isMod p im) (h : cgr p (co f) (co im) (pw XX (i * p.toNat)))
    (hx : ∀ t, t < 2 * n → xs.getD t 0 = if t = n + i then 1 else if t = i then (co im i - 1) % p else if t < im.length then co im t else 0) : rowOK p f n (fun j => xs.getD j 0) := by
  refine ⟨fun j hj => ?_, ?_⟩
  · show 0 ≤ xs.getD j 0 ∧ xs.getD j 0 ≤ p - 1
    rw [hx j hj]
    have h1 := Int.emod_nonneg (co im i - 1) (show p ≠ 0 by omega)
    have h2 := Int.emod_lt_of_pos (co im i - 1) (show 0 < p by omega)
    have h3 := co_bd (p := p) (by omega) him j
    repeat (first | split | omega)
  · have h1 : mg p (co f) (fun j => pw (pw XX p.toNat) i j - co im j) := by
      rw [← pw_mul, Nat.mul_comm]
      exact h.symm
    refine (rel.init hi hl h1).mod fun t ht => ?_
    (try dsimp only)
    rw [hx t ht]
    by_cases hn : t < n
    · rw [if_pos hn, if_neg (show ¬ t = n + i by omega)]
      by_cases hti : t = i
      · subst hti
        rw [if_pos rfl, if_pos rfl]
        exact mod_self0 _ _
      · rw [if_neg hti, if_neg hti]
        by_cases htl : t < im.length
        · rw [if_pos htl]; simp
        · have : co im t = 0 := getD_out (by omega)
          rw [if_neg htl, this]; simp
    · rw [if_neg hn]
      by_cases ht2 : t = n + i
      · rw [if_pos ht2, if_pos ht2]; simp
      · rw [if_neg ht2, if_neg ht2, if_neg (show ¬ t = i by omega), if_neg (show ¬ t < im.length by omega)]; simp
/-- Row i, of which the first j numbers have lost a multiple of row t. -/
def mix (M : Nat → Nat → Int) (i t : Nat) (kk p : Int) (j : Nat) : Nat → Nat → Int := fun i' j' => if i' = i ∧ j' < j then (M i' j' - kk * M t j') % p else M i' j'
theorem mix_0 (M : Nat → Nat → Int) (i t : Nat) (kk p : Int) : mix M i t kk p 0 = M := funext fun i' => funext fun j' => by unfold mix; rw [if_neg (by omega)]
theorem mix_at {M : Nat → Nat → Int} {i t : Nat} {kk p : Int} {j : Nat} {i' j' : Nat} (h : i' ≠ i) : mix M i t kk p j i' j' = M i' j' := by unfold mix; rw [if_neg (fun e => h e.1)]
theorem mix_ge {M : Nat → Nat → Int} {i t : Nat} {kk p : Int} {j : Nat} {i' j' : Nat} (h : j ≤ j') : mix M i t kk p j i' j' = M i' j' := by unfold mix; rw [if_neg (fun e => by omega)]
theorem mix_lt {M : Nat → Nat → Int} {i t : Nat} {kk p : Int} {j j' : Nat} (h : j' < j) : mix M i t kk p j i j' = (M i j' - kk * M t j') % p := by unfold mix; rw [if_pos ⟨rfl, h⟩]
theorem mix_succ (M : Nat → Nat → Int) (i t : Nat) (kk p : Int) (j : Nat) : upd (mix M i t kk p j) i j ((M i j - kk * M t j) % p) = mix M i t kk p (j + 1) := funext fun i' => funext fun j' => by
  unfold upd mix
  by_cases h1 : i' = i
  · subst h1
    by_cases h2 : j' = j
    · subst h2; rw [if_pos ⟨rfl, rfl⟩, if_pos ⟨rfl, by omega⟩]
    · rw [if_neg (fun e => h2 e.2)]
      by_cases h3 : j' < j
      · rw [if_pos ⟨rfl, h3⟩, if_pos ⟨rfl, by omega⟩]
      · rw [if_neg (fun e => h3 e.2), if_neg (fun e => by omega)]
  · rw [if_neg (fun e => h1 e.1), if_neg (fun e => h1 e.1), if_neg (fun e => h1 e.1)]
theorem mix_ok {p : Int} {f : List Int} {n i t : Nat} {M : Nat → Nat → Int} {kk : Int} (hp : 2 ≤ p) (h1 : rowOK p f n (M i)) (h2 : rowOK p f n (M t)) : rowOK p f n (mix M i t kk p (2 * n) i) := by
  refine ⟨fun j hj => ?_, ?_⟩
  · rw [mix_lt hj]
    have q1 := Int.emod_nonneg (M i j - kk * M t j) (show p ≠ 0 by omega)
    have q2 := Int.emod_lt_of_pos (M i j - kk * M t j) (show 0 < p by omega)
    omega
  · exact (h1.2.sub kk h2.2).mod fun j hj => by rw [mix_lt hj]; exact mod_self0 _ _
theorem mix_zero {p : Int} {n i t c : Nat} {M : Nat → Nat → Int} (hs : smallP p = true) (hc : c < 2 * n) (h0 : M t c ≠ 0) (hb : 0 ≤ M t c ∧ M t c ≤ p - 1) : mix M i t (M i c * inv (M t c) p % p) p (2 * n) i c = 0 := by
  rw [mix_lt hc]
  have h1 := inv_ok hs (show 0 < M t c ∧ M t c ≤ p - 1 by omega)
  obtain ⟨x, hx⟩ : ∃ x, x = M i c := ⟨_, rfl⟩
  obtain ⟨y, hy⟩ : ∃ y, y = M t c := ⟨_, rfl⟩
  obtain ⟨u, hu⟩ : ∃ u, u = inv (M t c) p := ⟨_, rfl⟩
  rw [← hu, ← hy] at h1
  rw [← hu, ← hx, ← hy]
  have hp := smallP_bd hs
  have h2 := mod_self0 (x * u) p
  have h3 : (u * y - 1) % p = 0 := by rw [Int.sub_emod, h1, Int.emod_eq_of_lt (show (0 : Int) ≤ 1 by omega) (by omega)]; rfl
  rw [show x - x * u % p * y = (x * u - x * u % p) * y - (u * y - 1) * x by grind]
  exact mod_sub0 (mod_mul0 h2) (mod_mul0 h3)
theorem mix_keep {p : Int} {n i t k : Nat} {M : Nat → Nat → Int} {kk : Int} (hk : k < 2 * n) (h1 : M i k = 0) (h2 : M t k = 0) : mix M i t kk p (2 * n) i k = 0 := by
  rw [mix_lt hk, h1, h2]; simp
theorem grown_put (w : World) (b o : Nat) (v : Value) : w.grownBy (w.setCell ⟨b, o, none⟩ v) (some b) := by
  refine ⟨rfl, rfl, rfl, by simp, fun k hk hn => ?_⟩
  have hne : b ≠ k := fun e => hn (by rw [e])
  show (w.setCell ⟨b, o, none⟩ v).heap[k]? = w.heap[k]?
  simp only [World.setCell, Array.getElem?_modify]
  rw [if_neg hne]
theorem sizeI (w : World) : (Go.sizeOf 2).run Try.prog w = .ok 1 w := by
  obtain ⟨i, hi, hz, hs, hb⟩ := info_parts infoI
  simp [sizeOf, typeInfo, hi, hs]
theorem slice_half (b n : Nat) (hn : 1 ≤ n) (wx : World) : (Instr.slice 26 (.slice (some ⟨b, 0, none⟩) (2 * n) (2 * n)) (some (.int .i64 n)) none none).run Try.prog wx = .ok (.slice (some ⟨b, n, none⟩) n n) wx := by
  have ht' : Try.prog.underlying 26 = some (.slice (Try.prog.elem 26)) := by kernel_rfl
  have he : Try.prog.elem 26 = 2 := by kernel_rfl
  rw [run_slice_l wx _ _ _ _ ht' .i64 _ (by omega) (by omega), he, sizeI]
  simp only [Result.andThen, sliced, Nat.mul_one, Int.toNat_natCast]
  rw [if_neg (by omega)]
  simp [Addr.add, show 2 * n - n = n by omega, show n ≠ 0 by omega]
theorem half_rd {B A U n : Nat} {W : World} {rows : Nat → Nat} {M : Nat → Nat → Int} {us : Nat → Bool} (h : matM B W A U rows n M us) (hn : n ≤ 1000) {i : Nat} (hi : i < n) : rdI W (.slice (some ⟨rows i, n, none⟩) n n) ((List.range n).map fun k => M i (n + k)) := by
  have hl : ((List.range n).map fun k => M i (n + k)).length = n := by simp
  refine ⟨_, n, by rw [hl], by rw [hl]; unfold maxLen; omega, fun _ => ⟨rows i, n, rfl, fun k hk => ?_⟩⟩
  rw [hl] at hk
  rw [(h.2.1 i (n + k) hi (by omega)).1]
  simp
theorem half_co {n : Nat} (r : Nat → Int) (k : Nat) : co (trimF ((List.range n).map fun k => r (n + k))) k = if k < n then r (n + k) else 0 := by
  unfold co
  rw [trimF_getD]
  by_cases hk : k < n
  · rw [if_pos hk]; simp [List.getD_eq_getElem?_getD, hk]
  · rw [if_neg hk]; exact getD_out (by simp; omega)
theorem rd_pair (w : World) (x y : Int) : rdI (w.alloc (.cells #[.int .i64 x, .int .i64 y] 2)) (.slice (some ⟨w.heap.size, 0, none⟩) 2 2) [x, y] :=
  ownR.rd (B := w.heap.size) ⟨rfl, .inr ⟨w.heap.size, 2, #[.int .i64 x, .int .i64 y], rfl, Nat.le_refl _, heap_alloc_new w _, Nat.le_refl _, by unfold maxLen; omega, rfl, rfl⟩⟩
theorem getD_set' (l : List Int) (k j : Nat) (c : Int) (hk : k < l.length) : (l.set k c).getD j 0 = if j = k then c else l.getD j 0 := getD_set l k j c hk

set_option maxRecDepth 20000 in
set_option maxHeartbeats 16000000 in
theorem s_kernel (p : Int) (r2 : Value) (f : List Int) (w : World) (h2 : rdI w r2 f) (hs : smallP p = true) (hf : isMod p f) (hl : 2 ≤ f.length) (hlf : f.length ≤ 9) :
    Calls Try.prog 92 #[.int .i64 p, r2] w fun e w' => ∃ v vs, e = .returned v ∧ ownR w.heap.size w' v vs ∧ (vs = [] ∨ (isMod p vs ∧ 2 ≤ vs.length ∧ vs.length + 1 ≤ f.length ∧ mg p (co f) (fun j => pw (co vs) p.toNat j - co vs j))) ∧ Below w.heap.size w w' := by
  obtain ⟨i0, hi, hz0, hz1, hz2⟩ := info_parts infoI
  obtain ⟨i1, hj, hy0, hy1, hy2⟩ := info_parts infoS
  obtain ⟨i2, hk, hx0, hx1, hx2⟩ := info_parts infoBool
  have hp := smallP_bd hs
  obtain ⟨n, hn⟩ : ∃ n, f.length = n + 1 := ⟨f.length - 1, by omega⟩
  have hn1 : 1 ≤ n ∧ n ≤ 8 := by omega
  obtain ⟨ra, rc, rfl, hrm, hrc⟩ := id h2
  rw [hn] at h2 ⊢
  have H2 := hid h2
  have Hf := hid hf
  have HN := hid hn
  clear h2 hf hrm hrc hn hl hlf
  go_enter Try.func92, Try.ntmps92
  go_wp2_with fail
  go_loopw [6, 7] (fun av iv wr => ∃ (k : Nat) (uu : World) (rows : Nat → Nat) (xss : List (List Int)), wr = aft w uu ∧ iv = .int .i64 k ∧ k ≤ n ∧ Hid (bldM w.heap.size wr av rows n k xss) ∧ Hid (∀ i, i < k → rowOK p f n (fun j => (xss.getD i []).getD j 0))) (fun _ iv _ => n - (intOf iv).toNat)
  case atStart =>
    refine ⟨0, w.alloc (Obj.cells #[] 26), fun _ => 0, [], (aft_of (Below.alloc (Below.refl _ _) (Nat.le_refl _) _)).symm, rfl, by omega, hid ⟨rfl, [], ⟨rfl, ?_, fun i h => by simp at h⟩, fun i h => by omega, fun xs h => by simp at h, fun i j _ h => by omega⟩, hid fun i h => by omega⟩
    exact World.ownsRow_made w #[] 0 (Nat.le_refl _) (by simp [maxLen]) (by simp)
  case round =>
    obtain ⟨k, uu, rows, xss, rfl, rfl, hkn, HB, HR⟩ := hrel
    have zs := size_aft w uu
    by_cases hlt : k < n
    case neg =>
      have ek : k = n := by omega
      subst ek
      have hd : decide ((k : Int) < (k : Int)) = false := by simp
      obtain ⟨n, hnk⟩ : ∃ n, n = k := ⟨_, rfl⟩
      rw [← hnk] at hn1 HN HB HR hd H2 ⊢
      have HNK := hid hnk
      clear hkn hlt hnk
      obtain ⟨Wi, hWi⟩ : ∃ X, X = aft w uu := ⟨_, rfl⟩
      have HE : Hid (Ext w.heap.size w Wi) := hid (by rw [hWi]; exact (Ext.refl w).aft _)
      rw [← hWi] at HB zs ⊢
      clear hWi
      obtain ⟨aa, am, ac, hu6⟩ : ∃ aa am ac, u6 = .slice aa am ac := by
        obtain ⟨_, es, ⟨_, hown, _⟩, _⟩ := HB.out
        rcases hown.2 with ⟨rfl, _⟩ | ⟨g, c, cur, rfl, _⟩
        · exact ⟨_, _, _, rfl⟩
        · exact ⟨_, _, _, rfl⟩
      subst hu6
      go_wp2_with (at_make; refine wpList_make_full _ rfl _ _ 87 rfl w.heap.size 4 i2 (.bool false) 1 Try.underlying87 hk hx0 hx1 _ _ _ _ n rfl rfl rfl rfl (by rw [hx2]; omega) (by unfold maxLen; omega) HE.out.2 ?_)
      intro w1 hownU hgr
      have hU2 : w1.ownsRow w.heap.size 4 1 (.slice (some ⟨Wi.heap.size, 0, none⟩) n n) n (List.replicate n (.bool false)) := by
        have e : (madeCells #[Value.bool false] n).toList = List.replicate n (Value.bool false) := bool_cells n
        rw [← e]; simpa [Value.cells] using hownU
      have hB1 : Below Wi.heap.size Wi w1 := Below.grown (Below.refl _ _) hgr (Nat.le_refl _) (fun k hk => by cases hk)
      obtain ⟨A, hA, ham, hM⟩ := (HB.out.below hB1).mat hn1.1 hU2
      subst hA ham
      obtain ⟨U, hU⟩ : ∃ U, U = Wi.heap.size := ⟨_, rfl⟩
      rw [← hU] at hM ⊢
      obtain ⟨M0, hM0⟩ : ∃ M : Nat → Nat → Int, M = fun i j => (xss.getD i []).getD j 0 := ⟨_, rfl⟩
      rw [← hM0] at hM
      have HM := hid hM
      have HR0 : Hid (∀ i, i < am → rowOK p f am (M0 i)) := hid (by rw [hM0]; exact HR.out)
      have HBw : Hid (Below w.heap.size w w1) := hid (HE.out.1.trans (hB1.mono HE.out.2))
      clear hownU hU2 hgr hB1 hM hM0 hU HB HR HE zs
      go_wp2_with fail
      go_loopw [12] (fun cv wr => ∃ (c : Nat) (M : Nat → Nat → Int) (us : Nat → Bool), cv = .int .i64 c ∧ c ≤ am ∧ Hid (matM w.heap.size wr A U rows am M us) ∧ Hid (∀ i, i < am → rowOK p f am (M i)) ∧ Hid (∀ i, i < am → us i = false → ∀ k, k < c → M i k = 0) ∧ Hid (Below w.heap.size w wr)) (fun cv _ => am - (intOf cv).toNat)
      case atStart => exact ⟨0, M0, fun _ => false, rfl, by omega, HM, HR0, hid (fun i _ _ k hk => by omega), HBw⟩
      case round =>
        obtain ⟨c, M, us, rfl, hca, HM, HR, HZ, HBw⟩ := hrel
        obtain ⟨wo, rfl⟩ : ∃ wo : World, wo = wr := ⟨_, rfl⟩
        by_cases hlt : c < am
        case neg =>
          have ec : c = am := by omega
          subst ec
          have hd2 : decide ((c : Int) < (c : Int)) = false := by simp
          clear hlt
          go_wp2_with fail
          go_loopw [19] (fun iv wr => ∃ (i : Nat) (uu : World), wr = aft wo uu ∧ iv = .int .i64 i ∧ i ≤ c) (fun iv _ => c - (intOf iv).toNat)
          case atStart => exact ⟨0, wo, (aft_of (Below.refl _ _)).symm, rfl, by omega⟩
          case round =>
            obtain ⟨i, u2, rfl, rfl, hic⟩ := hrel
            have zs2 := size_aft wo u2
            have hBz := HBw.out.size
            by_cases hli : i < c
            case neg =>
              have ei : i = c := by omega
              subst ei
              have hdi : decide ((i : Int) < (i : Int)) = false := by simp
              clear hli
              go_wp2_with fail
              go_ret
              exact ⟨_, [], rfl, ownR.nil _ _, .inl rfl, HBw.out.trans ((below_aft wo u2).mono hBz)⟩
            have hliz : (i : Int) < (c : Int) := by omega
            have hdi : decide ((i : Int) < (c : Int)) = true := by simp; omega
            have HM2 := hid (HM.out.aft u2)
            have cA := HM2.out.1 i hli
            have cu := (HM2.out.2.2.1 i hli).1
            have hub := World.block_lt_of_cell? _ _ cu
            have hsl := slice_half (rows i) c hn1.1
            have hrd := half_rd HM2.out (by omega) hli
            have hll : ((List.range c).map fun k => M i (c + k)).length = c := by simp
            have HCO := hid (fun k => half_co (n := c) (M i) k)
            have HBL : Hid (∀ x ∈ (List.range c).map (fun k => M i (c + k)), 0 ≤ x ∧ x ≤ p - 1) := hid fun x hx => by
              obtain ⟨k, hk, rfl⟩ := List.mem_map.1 hx
              have := List.mem_range.1 hk
              exact (HR.out i hli).1 (c + k) (by omega)
            obtain ⟨L, hL⟩ : ∃ L, L = (List.range c).map (fun k => M i (c + k)) := ⟨_, rfl⟩
            rw [← hL] at hrd hll HBL
            have HCO2 : Hid (∀ k, co (trimF L) k = if k < c then M i (c + k) else 0) := hid fun k => by rw [hL]; exact HCO.out k
            have HTR : Hid (Calls Try.prog 55 #[.slice (some ⟨rows i, c, none⟩) c c] (aft wo u2) fun e w' => ∃ v, e = .returned v ∧ ownR (aft wo u2).heap.size w' v (trimF L) ∧ Below (aft wo u2).heap.size (aft wo u2) w') := hid (by
              have := s_trimR (some ⟨rows i, c, none⟩) c L (aft wo u2) (by rw [hll]; exact hrd) (by omega) (by omega)
              rw [hll] at this
              exact this)
            have HMD : Hid (isMod p (trimF L)) := hid ⟨fun x hx => HBL.out x (trimF_mem hx), lastNZ_trim _⟩
            have htl := trimF_len L
            have HRE := hid (HR.out i hli).2
            have HZI : Hid (us i = false → ∀ k, k < c → M i k = 0) := hid fun hu => HZ.out i hli hu
            clear hrd hL HCO HBL
            go_wp2_with fail
            refine viaI (g := id) HTR.out ?_
            intro tv u3 z3 own3
            obtain ⟨ta, tc, rfl, _, _⟩ := id own3.rd
            have HO := hid (own3.mono (show w.heap.size ≤ _ by omega))
            clear own3
            obtain ⟨TL, hTL⟩ : ∃ T, T = trimF L := ⟨_, rfl⟩
            rw [← hTL] at HO HMD HCO2 htl ⊢
            have HB3 : Hid (Below w.heap.size w (aft (aft wo u2) u3)) := hid ((HBw.out.trans ((below_aft wo u2).mono hBz)).trans ((below_aft _ u3).mono (by omega)))
            have HExt : Hid (Below wo.heap.size wo (aft (aft wo u2) u3)) := hid ((below_aft wo u2).trans ((below_aft _ u3).mono (by omega)))
            clear hTL HTR
            cases hui : us i with
            | true =>
              rw [hui] at cu
              clear hui
              go_wp2_with fail
              go_roundw
              case rel => exact ⟨i + 1, _, (aft_of HExt.out).symm, by go_num, by omega⟩
              case measure => simp only [intOf]; omega
            | false =>
              rw [hui] at cu
              by_cases hT : 1 < TL.length
              · have hTd : decide ((1 : Int) < (TL.length : Int)) = true := by simp; omega
                have hTd2 : decide (1 < TL.length) = true := by simp; omega
                have HF : Hid (mg p (co f) (fun j => pw (co TL) p.toNat j - co TL j)) := hid (rel.fin hs HRE.out (HZI.out hui) HCO2.out)
                have HT := hid hT
                clear hui hT
                go_wp2_with fail
                go_ret
                exact ⟨_, TL, rfl, HO.out, .inr ⟨HMD.out, HT.out, by have := HNK.out; omega, HF.out⟩, HB3.out⟩
              · have hTd : decide ((1 : Int) < (TL.length : Int)) = false := by simp; omega
                have hTd2 : decide (1 < TL.length) = false := by simp; omega
                clear hui hT
                go_wp2_with fail
                go_roundw
                case rel => exact ⟨i + 1, _, (aft_of HExt.out).symm, by go_num, by omega⟩
                case measure => simp only [intOf]; omega
        have hltz : (c : Int) < (am : Int) := by omega
        have hd2 : decide ((c : Int) < (am : Int)) = true := by simp; omega
        go_wp2_with fail
        go_loop [13, 14] (fun av iv => ∃ i : Nat, i ≤ am ∧ av = .int .i64 (-1) ∧ iv = .int .i64 i ∧ Hid (∀ t, t < i → us t = false → M t c = 0)) (fun _ iv => am - (intOf iv).toNat)
        case atStart => exact ⟨0, by omega, rfl, rfl, hid (by omega)⟩
        case round =>
          obtain ⟨i, hia, rfl, rfl, HT⟩ := hrel
          by_cases hli : i < am
          case neg =>
            have ei : i = am := by omega
            subst ei
            have hdi : decide ((i : Int) < (i : Int)) = false := by simp
            have HZ2 : Hid (∀ t, t < i → us t = false → ∀ k, k < c + 1 → M t k = 0) := hid fun t ht hu k hk => by
              by_cases e : k = c
              · subst e; exact HT.out t ht hu
              · exact HZ.out t ht hu k (by omega)
            go_wp2_with fail
            exact ⟨⟨c + 1, M, us, by go_num, by omega, HM, HR, HZ2, HBw⟩, by simp only [intOf]; omega⟩
          have hliz : (i : Int) < (am : Int) := by omega
          have hdi : decide ((i : Int) < (am : Int)) = true := by simp; omega
          have cu := (HM.out.2.2.1 i hli).1
          have cA := HM.out.1 i hli
          have cR := (HM.out.2.1 i c hli (by omega)).1
          have hc2 : (c : Int) < 2 * (am : Int) := by omega
          cases hui : us i with
          | true =>
            rw [hui] at cu
            have HT2 : Hid (∀ t, t < i + 1 → us t = false → M t c = 0) := hid fun t ht hu => by
              by_cases e : t = i
              · subst e; rw [hui] at hu; cases hu
              · exact HT.out t (by omega) hu
            clear hui
            go_wp2_with fail
            go_round
            case rel => exact ⟨i + 1, by omega, rfl, by go_num, HT2⟩
            case measure => simp only [intOf]; omega
          | false =>
            rw [hui] at cu
            by_cases hx0 : M i c = 0
            · rw [hx0] at cR
              have HT2 : Hid (∀ t, t < i + 1 → us t = false → M t c = 0) := hid fun t ht hu => by
                by_cases e : t = i
                · subst e; exact hx0
                · exact HT.out t (by omega) hu
              clear hui hx0
              go_wp2_with fail
              go_round
              case rel => exact ⟨i + 1, by omega, rfl, by go_num, HT2⟩
              case measure => simp only [intOf]; omega
            · have hx0' : (M i c == 0) = false := by simpa using hx0
              have hx0n : (M i c != 0) = true := by simpa using hx0
              have hMb := (HR.out i hli).1 c (by omega)
              have cuf := (HM.out.2.2.1 i hli).2
              have hub := World.block_lt_of_cell? _ _ cu
              have hrb := World.block_lt_of_cell? _ _ cR
              have hAb := World.block_lt_of_cell? _ _ cA
              have HM2 := hid (HM.out.use hli)
              have HBw2 : Hid (Below w.heap.size w (wo.setCell ⟨U, i, none⟩ (.bool true))) := hid (Below.grown HBw.out (grown_put wo U i _) HBw.out.size (fun k hk => by injection hk with hk; have := HM.out.2.2.2.2.2; omega))
              have HIV : Hid (∀ W : World, Calls Try.prog 71 #[.int .i64 (M i c), .int .i64 p] W fun e w' => e = .returned (.int .i64 (inv (M i c) p)) ∧ W = w') := hid fun W => s_inverse (M i c) p W (by omega) (by omega)
              have hib := inv_bd (a := M i c) (m := p) (by omega)
              have HX0 := hid hx0
              have HMB := hid hMb
              obtain ⟨us2, hus2⟩ : ∃ us2 : Nat → Bool, us2 = fun i' => if i' = i then true else us i' := ⟨_, rfl⟩
              have HZ2 : Hid (∀ t, t < am → us2 t = false → ∀ k, k < c → M t k = 0) := hid fun t ht hu k hk => by
                rw [hus2] at hu
                by_cases e : t = i
                · simp [e] at hu
                · simp only [if_neg e] at hu; exact HZ.out t ht hu k hk
              have HZi : Hid (∀ k, k < c → M i k = 0) := hid fun k hk => HZ.out i hli hui k hk
              have HUI : Hid (us2 i = true) := hid (by rw [hus2]; simp)
              rw [← hus2] at HM2
              obtain ⟨y, hy⟩ : ∃ y, y = inv (M i c) p := ⟨_, rfl⟩
              rw [← hy] at HIV hib
              have HYI := hid hy
              obtain ⟨nU, nA, nR⟩ := HM.out.apart hli
              clear hus2 hy hx0 hui
              go_wp2_with fail
              refine pur (HIV.out _) ?_
              obtain ⟨W3, hW3⟩ : ∃ X, X = wo.setCell ⟨U, i, none⟩ (.bool true) := ⟨_, rfl⟩
              rw [← hW3] at HM2 HBw2 ⊢
              clear hW3 cu cuf cA cR hub hrb hAb nU nA nR HBw HM
              go_wp2_with fail
              go_loopw [16] (fun qv wr => ∃ (q : Nat) (M' : Nat → Nat → Int), qv = .int .i64 q ∧ q ≤ am ∧ Hid (matM w.heap.size wr A U rows am M' us2) ∧ Hid (∀ t, t < am → rowOK p f am (M' t)) ∧ Hid (∀ j, M' i j = M i j) ∧ Hid (∀ t, t < am → us2 t = false → ∀ k, k < c → M' t k = 0) ∧ Hid (∀ t, t < q → t ≠ i → M' t c = 0) ∧ Hid (Below w.heap.size w wr)) (fun qv _ => am - (intOf qv).toNat)
              case atStart => exact ⟨0, M, rfl, by omega, HM2, HR, hid (fun _ => rfl), HZ2, hid (fun t ht => by omega), HBw2⟩
              case round =>
                obtain ⟨q, M', rfl, hqa, HM, HR, HMi, HZ2, HC0, HBw⟩ := hrel
                obtain ⟨wo, rfl⟩ : ∃ wo : World, wo = wr := ⟨_, rfl⟩
                by_cases hlq : q < am
                case neg =>
                  have eq : q = am := by omega
                  subst eq
                  have hdq : decide ((q : Int) < (q : Int)) = false := by simp
                  have HZ3 : Hid (∀ t, t < q → us2 t = false → ∀ k, k < c + 1 → M' t k = 0) := hid fun t ht hu k hk => by
                    by_cases e : k = c
                    · subst e
                      exact HC0.out t ht (fun e => by rw [e, HUI.out] at hu; cases hu)
                    · exact HZ2.out t ht hu k (by omega)
                  go_wp2_with fail
                  exact ⟨⟨c + 1, M', us2, by go_num, by omega, HM, HR, HZ3, HBw⟩, by simp only [intOf]; omega⟩
                have hlqz : (q : Int) < (am : Int) := by omega
                have hdq : decide ((q : Int) < (am : Int)) = true := by simp; omega
                by_cases hqi : q = i
                · have e1 : ((q : Int) == (i : Int)) = true := by rw [beq_iff_eq]; omega
                  have e2 : (q == i) = true := by rw [beq_iff_eq]; exact hqi
                  have HC1 : Hid (∀ t, t < q + 1 → t ≠ i → M' t c = 0) := hid fun t ht hne => HC0.out t (by omega) hne
                  clear hqi
                  go_wp2_with fail
                  go_roundw
                  case rel => exact ⟨q + 1, M', by go_num, by omega, HM, HR, HMi, HZ2, HC1, HBw⟩
                  case measure => simp only [intOf]; omega
                have e1 : ((q : Int) == (i : Int)) = false := by rw [beq_eq_false_iff_ne]; omega
                have e2 : (q == i) = false := by rw [beq_eq_false_iff_ne]; exact hqi
                have cA := HM.out.1 q hlq
                have cR := (HM.out.2.1 q c hlq (by omega)).1
                by_cases hz0 : M' q c = 0
                · rw [hz0] at cR
                  have HC1 : Hid (∀ t, t < q + 1 → t ≠ i → M' t c = 0) := hid fun t ht hne => by
                    by_cases e : t = q
                    · subst e; exact hz0
                    · exact HC0.out t (by omega) hne
                  clear hqi hz0
                  go_wp2_with fail
                  go_roundw
                  case rel => exact ⟨q + 1, M', by go_num, by omega, HM, HR, HMi, HZ2, HC1, HBw⟩
                  case measure => simp only [intOf]; omega
                have hz0' : (M' q c == 0) = false := by simpa using hz0
                have hMq := (HR.out q hlq).1 c (by omega)
                obtain ⟨x, hx⟩ : ∃ x, x = M' q c := ⟨_, rfl⟩
                rw [← hx] at cR hz0' hMq
                have hxy : 0 ≤ x * y ∧ x * y ≤ 96 * 96 := ⟨Int.mul_nonneg hMq.1 hib.1, Int.mul_le_mul (by omega) (by omega) (by omega) (by omega)⟩
                have htm : (x * y).tmod p = x * y % p := Int.tmod_eq_emod_of_nonneg hxy.1
                have hkk1 := Int.emod_nonneg (x * y) (show p ≠ 0 by omega)
                have hkk2 := Int.emod_lt_of_pos (x * y) (show 0 < p by omega)
                have hp0 : p ≠ 0 := by omega
                have hp0' : (p == 0) = false := by rw [beq_eq_false_iff_ne]; exact hp0
                obtain ⟨kk, hkk⟩ : ∃ kk, kk = x * y % p := ⟨_, rfl⟩
                have HKK : Hid (kk = M' q c * inv (M' i c) p % p) := hid (by rw [hkk, hx, HYI.out, HMi.out])
                rw [← hkk] at htm hkk1 hkk2
                have HQI := hid hqi
                clear hqi hz0 hx hkk
                go_wp2_with fail
                go_loopw [18] (fun jv wr => ∃ j : Nat, jv = .int .i64 j ∧ j ≤ 2 * am ∧ Hid (matM w.heap.size wr A U rows am (mix M' q i kk p j) us2) ∧ Hid (Below w.heap.size w wr)) (fun jv _ => 2 * am - (intOf jv).toNat)
                case atStart => exact ⟨0, rfl, by omega, by rw [mix_0]; exact HM, HBw⟩
                case round =>
                  obtain ⟨j, rfl, hj2, HM, HBw⟩ := hrel
                  obtain ⟨wo, rfl⟩ : ∃ wo : World, wo = wr := ⟨_, rfl⟩
                  by_cases hlj : j < 2 * am
                  case neg =>
                    have ej : j = 2 * am := by omega
                    subst ej
                    have hdj : decide (((2 * am : Nat) : Int) < 2 * (am : Int)) = false := by simp
                    have HRn : Hid (∀ t, t < am → rowOK p f am (mix M' q i kk p (2 * am) t)) := hid fun t ht => by
                      by_cases e : t = q
                      · subst e; exact mix_ok hp.1 (HR.out t ht) (HR.out i hli)
                      · have : mix M' q i kk p (2 * am) t = M' t := funext fun j' => mix_at e
                        rw [this]; exact HR.out t ht
                    have HMi2 : Hid (∀ j', mix M' q i kk p (2 * am) i j' = M i j') := hid fun j' => by
                      rw [mix_at (fun e => HQI.out e.symm)]; exact HMi.out j'
                    have HZn : Hid (∀ t, t < am → us2 t = false → ∀ k, k < c → mix M' q i kk p (2 * am) t k = 0) := hid fun t ht hu k hk => by
                      by_cases e : t = q
                      · subst e; exact mix_keep (by omega) (HZ2.out t ht hu k hk) (by rw [HMi.out]; exact HZi.out k hk)
                      · rw [mix_at e]; exact HZ2.out t ht hu k hk
                    have HCn : Hid (∀ t, t < q + 1 → t ≠ i → mix M' q i kk p (2 * am) t c = 0) := hid fun t ht hne => by
                      by_cases e : t = q
                      · subst e
                        rw [HKK.out]
                        exact mix_zero hs (by omega) (by rw [HMi.out]; exact HX0.out) (by rw [HMi.out]; exact HMB.out)
                      · rw [mix_at e]; exact HC0.out t (by omega) hne
                    go_wp2_with fail
                    exact ⟨⟨q + 1, _, by go_num, by omega, HM, HRn, HMi2, HZn, HCn, HBw⟩, by simp only [intOf]; omega⟩
                  have hljz : (j : Int) < 2 * (am : Int) := by omega
                  have hdj : decide ((j : Int) < 2 * (am : Int)) = true := by simp; omega
                  have cA := HM.out.1 q hlq
                  have cA2 := HM.out.1 i hli
                  obtain ⟨cR, cRf⟩ := HM.out.2.1 q j hlq hlj
                  have cR2 := (HM.out.2.1 i j hli hlj).1
                  rw [mix_ge (Nat.le_refl j)] at cR
                  rw [mix_at (fun e => HQI.out e.symm)] at cR2
                  have hA1 := World.block_lt_of_cell? _ _ cA
                  have hA2 := World.block_lt_of_cell? _ _ cA2
                  have hr1 := World.block_lt_of_cell? _ _ cR
                  have hr2 := World.block_lt_of_cell? _ _ cR2
                  have hb1 := (HR.out q hlq).1 j hlj
                  have hb2 := (HR.out i hli).1 j hlj
                  have HPut : Hid (∀ (V : World), matM w.heap.size V A U rows am (mix M' q i kk p j) us2 → matM w.heap.size (V.setCell ⟨rows q, j, none⟩ (.int .i64 ((M' q j - kk * M' i j) % p))) A U rows am (mix M' q i kk p (j + 1)) us2) := hid fun V hV => by
                    have := hV.put hlq hlj ((M' q j - kk * M' i j) % p)
                    rw [mix_succ] at this
                    exact this
                  have hrB := HM.out.2.2.2.2.1 q hlq
                  obtain ⟨a1, ha1⟩ : ∃ a1, a1 = M' q j := ⟨_, rfl⟩
                  obtain ⟨a2, ha2⟩ : ∃ a2, a2 = M' i j := ⟨_, rfl⟩
                  rw [← ha1] at cR hb1 HPut
                  rw [← ha2] at cR2 hb2 HPut
                  have hmul : 0 ≤ kk * a2 ∧ kk * a2 ≤ 96 * 96 := ⟨Int.mul_nonneg hkk1 hb2.1, Int.mul_le_mul (by omega) (by omega) (by omega) (by omega)⟩
                  have HMD : Hid (∀ W : World, Calls Try.prog 68 #[.int .i64 (a1 - kk * a2), .int .i64 p] W fun e w' => e = .returned (.int .i64 ((a1 - kk * a2) % p)) ∧ W = w') := hid fun W => s_mod (a1 - kk * a2) p W (by omega) (by omega)
                  clear ha1 ha2
                  go_wp2_with fail
                  refine wp_region_calm_tail 25 (by kernel_rfl) (by kernel_rfl) ?_
                  simp only [List.take_succ_cons, List.take_zero, List.drop_succ_cons, List.drop_zero]
                  repeat (go_big_quiet_step (first | (go_at_call 68; exact calmp (HMD.out _))))
                  refine wpQuiet_nil ?_; intro uq zq; try simp at zq
                  have HM3 := hid (HPut.out _ (HM.out.aft uq))
                  have HBq : Hid (Below w.heap.size w ((aft wo uq).setCell ⟨rows q, j, none⟩ (.int .i64 ((a1 - kk * a2) % p)))) := hid (Below.grown (HBw.out.trans ((below_aft wo uq).mono HBw.out.size)) (grown_put _ _ _ _) (Nat.le_trans HBw.out.size (size_aft wo uq)) (fun k hk => by injection hk with hk; omega))
                  go_wp2_with fail
                  go_roundw
                  case rel => exact ⟨j + 1, by go_num, by omega, HM3, HBq⟩
                  case measure => simp only [intOf]; omega
    have hltz : (k : Int) < (n : Int) := by omega
    have hd : decide ((k : Int) < (n : Int)) = true := by simp; omega
    obtain ⟨Wi, hWi⟩ : ∃ X, X = aft w uu := ⟨_, rfl⟩
    have HE : Hid (Ext w.heap.size w Wi) := hid (by rw [hWi]; exact (Ext.refl w).aft _)
    rw [← hWi] at HB zs ⊢
    have H2i : Hid (rdI Wi (.slice ra (n + 1) rc) f) := hid (by rw [hWi]; exact H2.out.aft _)
    clear hWi
    go_wp2_with (at_make; refine wpList_make_full _ rfl _ _ 26 rfl Wi.heap.size 2 i0 (.int .i64 0) 1 Try.underlying26 hi hz0 hz1 _ _ _ _ (2 * n) rfl rfl (by omega) (by omega) (by rw [hz2]; omega) (by unfold maxLen; omega) (Nat.le_refl _) ?_)
    intro w1 hown hgr
    have hrow : ownR Wi.heap.size w1 (.slice (some ⟨Wi.heap.size, 0, none⟩) (2 * n) (2 * n)) (List.replicate (2 * n) 0) := by
      unfold ownR
      rw [List.length_replicate, ← vI_zeros]; simpa using hown
    have hB1 : Below Wi.heap.size Wi w1 := Below.grown (Below.refl _ _) hgr (Nat.le_refl _) (fun k hk => by cases hk)
    have hz1 : Wi.heap.size ≤ w1.heap.size := hB1.size
    have HRW := hid hrow
    have HB1 := hid hB1
    obtain ⟨R, hR⟩ : ∃ R, R = Wi.heap.size := ⟨_, rfl⟩
    have hpn : ((k * p.toNat : Nat) : Int) = (k : Int) * p := by rw [Int.natCast_mul, show ((p.toNat : Nat) : Int) = p by omega]
    have hpb : k * p.toNat ≤ 8 * 97 := Nat.mul_le_mul (by omega) (by omega)
    have hpb2 : 0 ≤ (k : Int) * p ∧ (k : Int) * p ≤ 776 := by rw [← hpn]; omega
    have HPW : Hid (∀ (W : World) (r1 : Value), rdI W r1 [0, 1] → rdI W (.slice ra (n + 1) rc) f → Calls Try.prog 95 #[.int .i64 p, r1, .int .i64 ((k : Int) * p), .slice ra (n + 1) rc] W fun e w' => ∃ v R, e = .returned v ∧ ownR W.heap.size w' v R ∧ (isMod p R ∧ R.length < n + 1 ∧ cgr p (co f) (co R) (pw XX (k * p.toNat))) ∧ Below W.heap.size W w') := hid fun W r1 q1 q2 => by
      have hXX : co [0, 1] = XX := by rw [co_cons, co_1, sc_zero, zr_ad, cv1R]
      have := s_powP p r1 _ [0, 1] f (k * p.toNat) W q1 q2 hs (by intro x hx; simp at hx; omega) Hf.out (by simp) (by rw [HN.out]; omega) (by rw [HN.out]; omega) (by omega)
      rw [hpn, hXX, HN.out] at this
      exact this
    clear hown hgr hrow hB1
    go_wp2_with fail
    refine viaR (HPW.out _ _ (rd_pair _ _ _) ((H2i.out.below HB1.out).alloc _)) ?_
    intro iv im u2 z2 ownI him
    obtain ⟨mi, li, ci⟩ := him
    (try simp at z2)
    have HI := hid (ownI.mono (show R + 1 ≤ _ by simp; omega))
    have MI := hid mi
    have CI := hid ci
    have HB2 : Hid (Below R Wi (aft (w1.alloc (Obj.cells #[Value.int IntKind.i64 0, Value.int IntKind.i64 1] 2)) u2)) := hid (by rw [hR]; have hx : Ext Wi.heap.size Wi w1 := ⟨HB1.out, hz1⟩; exact ((hx.alloc _).aft _).1)
    have HRW2 : Hid (ownR R (aft (w1.alloc (Obj.cells #[Value.int IntKind.i64 0, Value.int IntKind.i64 1] 2)) u2) (.slice (some ⟨R, 0, none⟩) (2 * n) (2 * n)) (List.replicate (2 * n) 0)) := hid (by rw [hR]; exact (HRW.out.alloc _).aft _)
    obtain ⟨W2, hW2⟩ : ∃ X, X = aft (w1.alloc (Obj.cells #[Value.int IntKind.i64 0, Value.int IntKind.i64 1] 2)) u2 := ⟨_, rfl⟩
    have hRW2 : R < W2.heap.size := by rw [hW2]; omega
    rw [← hW2] at HI HB2 HRW2 ⊢
    obtain ⟨ia, ic, rfl, _, _⟩ := id HI.out.rd
    rw [← hR]
    have HRe := hid hR
    have hRi : R ≤ Wi.heap.size := by omega
    have hwR : w.heap.size ≤ R := by rw [hR]; exact HE.out.2
    clear ownI mi ci hW2 HPW HRW HB1 z2 hz1 hR
    go_wp2_with fail
    go_loopw [10] (fun kv wr => ∃ (t : Nat) (ys : List Int), kv = .int .i64 t ∧ t ≤ im.length ∧ Hid (ownR R wr (.slice (some ⟨R, 0, none⟩) (2 * n) (2 * n)) ys) ∧ ys.length = 2 * n ∧ Hid (∀ j, ys.getD j 0 = if j < t then co im j else 0) ∧ Hid (ownR (R + 1) wr (.slice ia im.length ic) im) ∧ Hid (Below R Wi wr) ∧ R < wr.heap.size) (fun kv _ => im.length - (intOf kv).toNat)
    case atStart => exact ⟨0, List.replicate (2 * n) 0, rfl, by omega, HRW2, by simp, hid fun j => by rw [if_neg (by omega)]; simp [List.getD_eq_getElem?_getD, List.getElem?_replicate]; split <;> rfl, HI, HB2, hRW2⟩
    case round =>
      obtain ⟨t, ys, rfl, ht, HY, hyl, HYV, HI, HBW, hRw⟩ := hrel
      obtain ⟨wo, rfl⟩ : ∃ wo : World, wo = wr := ⟨_, rfl⟩
      by_cases hti : t < im.length
      · have htz : (t : Int) < (im.length : Int) := by omega
        have htd : decide ((t : Int) < (im.length : Int)) = true := by simp; omega
        obtain ⟨b1, o1, rfl⟩ := rd_head HI.out.rd (by intro e; rw [e] at hti; simp at hti)
        have hcl := rd_at HI.out.rd hti
        obtain ⟨c1, c2⟩ := own_cell HY.out (j := t) (by omega)
        have hck := World.block_lt_of_cell? _ _ c1
        obtain ⟨x, hx⟩ : ∃ x, x = im.getD t 0 := ⟨_, rfl⟩
        rw [← hx] at hcl
        have hst := own_set HY.out t x
        have HS := hid hst.1
        have HI2 := hid (HI.out.setCell R t none (.int .i64 x) (by omega))
        have HB3 : Hid (Below R Wi (wo.setCell ⟨R, t, none⟩ (.int .i64 x))) := hid (Below.grown HBW.out hst.2 (by have := HRe.out; have := HBW.out.size; omega) (fun k hk => by injection hk with hk; omega))
        have HYV2 : Hid (∀ j, (ys.set t x).getD j 0 = if j < t + 1 then co im j else 0) := hid fun j => by
          rw [getD_set _ _ _ _ (by omega), HYV.out j]
          by_cases hjt : j = t
          · subst hjt; rw [if_pos rfl, if_pos (by omega), hx]; rfl
          · rw [if_neg hjt]
            by_cases h3 : j < t
            · rw [if_pos h3, if_pos (by omega)]
            · rw [if_neg h3, if_neg (by omega)]
        have hsz : R < (wo.setCell ⟨R, t, none⟩ (.int .i64 x)).heap.size := by simpa using hRw
        have h2n : (t : Int) < 2 * (n : Int) := by omega
        have hlt2 : t < 2 * n := by omega
        clear hst hx
        go_wp2_with fail
        go_roundw
        case rel => exact ⟨t + 1, ys.set t x, by go_num, by omega, HS, by rw [List.length_set]; exact hyl, HYV2, HI2, HB3, hsz⟩
        case measure => simp only [intOf]; omega
      · have eti : t = im.length := by omega
        subst eti
        have htd : decide ((im.length : Int) < (im.length : Int)) = false := by simp
        clear hti
        have hkl : k < 2 * n := by omega
        have hnk : n + k < 2 * n := by omega
        have hnkz : ((n : Int) + (k : Int)).toNat = n + k := by omega
        have hnk2 : (n : Int) + (k : Int) < 2 * (n : Int) := by omega
        have hkz2 : (k : Int) < 2 * (n : Int) := by omega
        obtain ⟨c1, c2⟩ := own_cell HY.out (j := k) (by omega)
        have hck := World.block_lt_of_cell? _ _ c1
        have hxb : 0 ≤ ys.getD k 0 ∧ ys.getD k 0 ≤ p - 1 := by
          rw [HYV.out k]
          have := co_bd (p := p) (by omega) MI.out k
          split <;> omega
        have hxv := HYV.out k
        obtain ⟨x, hx⟩ : ∃ x, x = ys.getD k 0 := ⟨_, rfl⟩
        rw [← hx] at c1 hxb hxv
        have HM : Hid (∀ W : World, Calls Try.prog 68 #[.int .i64 (x - 1), .int .i64 p] W fun e w' => e = .returned (.int .i64 ((x - 1) % p)) ∧ W = w') := hid fun W => s_mod (x - 1) p W (by omega) (by omega)
        obtain ⟨y, hy⟩ : ∃ y, y = (x - 1) % p := ⟨_, rfl⟩
        rw [← hy] at HM
        have hst := own_set HY.out k y
        have HS := hid hst.1
        have HB3 : Hid (Below R Wi (wo.setCell ⟨R, k, none⟩ (.int .i64 y))) := hid (Below.grown HBW.out hst.2 (by have := HRe.out; have := HBW.out.size; omega) (fun k hk => by injection hk with hk; omega))
        have HXV := hid hxv
        have HYE := hid hy
        have hsz : R < (wo.setCell ⟨R, k, none⟩ (.int .i64 y)).heap.size := by simpa using hRw
        have hlen1 : (ys.set k y).length = 2 * n := by rw [List.length_set]; exact hyl
        obtain ⟨c3, c4⟩ := own_cell HY.out (j := n + k) (by omega)
        have hck3 := World.block_lt_of_cell? _ _ c3
        have hkn3 : ¬ k = n + k := by omega
        have hst2 := own_set HS.out (n + k) 1
        have HS2 := hid hst2.1
        have HB5 : Hid (Below R Wi ((wo.setCell ⟨R, k, none⟩ (.int .i64 y)).setCell ⟨R, n + k, none⟩ (.int .i64 1))) := hid (Below.grown HB3.out hst2.2 (by have := HRe.out; have := HB3.out.size; omega) (fun k hk => by injection hk with hk; omega))
        have HBl : Hid (bldM w.heap.size ((wo.setCell ⟨R, k, none⟩ (.int .i64 y)).setCell ⟨R, n + k, none⟩ (.int .i64 1)) u6 rows n k xss) := hid (HB.out.below (HB5.out.mono (Nat.le_of_eq HRe.out.symm)))
        obtain ⟨hbl0, es, hE1, hE2, hE3, hE4⟩ := HBl.out
        obtain ⟨_, _, _, hE2', _, _⟩ := HB.out
        have hrR : ∀ i, i < k → rows i < R := fun i hi => by rw [HRe.out]; exact (hE2' i hi).2.2
        have HRR := hid hrR
        have HOE := hid hE1
        have HE2 := hid hE2
        have HE3 := hid hE3
        have HE4 := hid hE4
        have HL0 := hid hbl0
        have HX : Hid (∀ t, t < 2 * n → ((ys.set k y).set (n + k) 1).getD t 0 = if t = n + k then 1 else if t = k then (co im k - 1) % p else if t < im.length then co im t else 0) := hid fun t ht => by
          rw [getD_set _ _ _ _ (by omega)]
          by_cases h1 : t = n + k
          · rw [if_pos h1, if_pos h1]
          · rw [if_neg h1, if_neg h1, getD_set _ _ _ _ (by omega)]
            by_cases h2 : t = k
            · rw [if_pos h2, if_pos h2, HYE.out, HXV.out]
              by_cases h3 : k < im.length
              · rw [if_pos h3]
              · have : co im k = 0 := getD_out (by omega)
                rw [if_neg h3, this]
            · rw [if_neg h2, if_neg h2, HYV.out t]
        have hlen2 : ((ys.set k y).set (n + k) 1).length = 2 * n := by rw [List.length_set]; exact hlen1
        have hsz2 : R < ((wo.setCell ⟨R, k, none⟩ (.int .i64 y)).setCell ⟨R, n + k, none⟩ (.int .i64 1)).heap.size := by simpa using hRw
        clear hst hst2 hx hxv hy hE1 hE2 hE2' hE3 hE4 hbl0 hrR
        have hxl : xss.length = k := HL0.out
        go_wp2_with (first | (go_at_call 68; refine pur (HM.out _) ?_) | (at_builtin; refine wpList_append_own _ rfl _ _ 77 rfl w.heap.size 26 i1 (.slice none 0 0) 1 24 Try.underlying77 hj hy0 hy1 hy2 rfl (by decide) _ _ _ rfl (HOE.out.below ((Below.refl _ _).alloc (Nat.le_refl _) _)).2.1 ⟨_, 0, none⟩ 1 1 [.slice (some ⟨R, 0, none⟩) (2 * n) (2 * n)] rfl rfl (one_newK (by simp)) ?c2 ?c3 ?c4 ?c5 ?_))
        case c2 => first | rfl | (intro u hu; simp at hu; subst hu; rfl)
        case c3 => rw [hxl]; unfold maxLen; omega
        case c4 => rw [hxl]; omega
        case c5 => first | omega | (simp; omega)
        intro v' w' hown' hgrow _
        have HNE : Hid (ownE w.heap.size w' v' (es ++ [.slice (some ⟨R, 0, none⟩) (2 * n) (2 * n)]) (xss ++ [(ys.set k y).set (n + k) 1])) := hid (ownE.snoc (HOE.out.below ((Below.refl _ _).alloc (Nat.le_refl _) _)) ((HS2.out.mono hwR).alloc _) (by rw [hxl]; exact hown') hgrow)
        have hEx : Ext w.heap.size w (((wo.setCell ⟨R, k, none⟩ (.int .i64 y)).setCell ⟨R, n + k, none⟩ (.int .i64 1)).alloc (Obj.cells #[.slice (some ⟨R, 0, none⟩) (2 * n) (2 * n)] 26)) := Ext.alloc ⟨HE.out.1.trans (HB5.out.mono hwR), by omega⟩ _
        have hsz3 := hgrow.size
        obtain ⟨u', rfl⟩ := grown_aft (W := w) hEx hgrow (ownE.row (HOE.out.below ((Below.refl _ _).alloc (Nat.le_refl _) (Obj.cells #[.slice (some ⟨R, 0, none⟩) (2 * n) (2 * n)] 26))))
        have hsz4 : R < (aft w u').heap.size := by
          have : R < (((wo.setCell ⟨R, k, none⟩ (.int .i64 y)).setCell ⟨R, n + k, none⟩ (.int .i64 1)).alloc (Obj.cells #[.slice (some ⟨R, 0, none⟩) (2 * n) (2 * n)] 26)).heap.size := by simp at hsz2 ⊢; omega
          omega
        have HBn : Hid (bldM w.heap.size (aft w u') v' (fun i => if i = k then R else rows i) n (k + 1) (xss ++ [(ys.set k y).set (n + k) 1])) := hid (by
          have hes : es.length = k := by rw [HOE.out.1]; exact hxl
          refine ⟨by simp [hxl], _, HNE.out, fun i hi => ?_, fun xs hxs => ?_, fun i j hij hjk => ?_⟩
          · by_cases hik : i = k
            · subst hik
              simp only [if_true]
              refine ⟨?_, hwR, hsz4⟩
              rw [List.getElem?_append_right (by omega), hes]; simp
            · simp only [if_neg hik]
              have := HRR.out i (by omega)
              refine ⟨?_, (HE2.out i (by omega)).2.1, by omega⟩
              rw [List.getElem?_append_left (by omega)]; exact (HE2.out i (by omega)).1
          · rcases List.mem_append.1 hxs with h | h
            · exact HE3.out xs h
            · simp at h; subst h; exact hlen2
          · by_cases hjk2 : j = k
            · subst hjk2
              simp only [if_true, if_neg (show ¬ i = j by omega)]
              exact HRR.out i (by omega)
            · simp only [if_neg hjk2, if_neg (show ¬ i = k by omega)]
              exact HE4.out i j hij (by omega))
        have HRn : Hid (∀ i, i < k + 1 → rowOK p f n (fun j => ((xss ++ [(ys.set k y).set (n + k) 1]).getD i []).getD j 0)) := hid fun i hi => by
          by_cases hik : i = k
          · have e : (xss ++ [(ys.set k y).set (n + k) 1]).getD i [] = (ys.set k y).set (n + k) 1 := by
              rw [List.getD_eq_getElem?_getD, List.getElem?_append_right (by omega), hxl, hik]; simp
            rw [e]
            exact row_init hp.1 hlt (by omega) MI.out CI.out HX.out
          · have e : (xss ++ [(ys.set k y).set (n + k) 1]).getD i [] = xss.getD i [] := by
              rw [List.getD_eq_getElem?_getD, List.getElem?_append_left (by omega), ← List.getD_eq_getElem?_getD]
            rw [e]
            exact HR.out i (by omega)
        clear hown' hgrow hEx hsz3
        go_wp2_with fail
        exact ⟨⟨k + 1, u', _, _, rfl, by go_num, by omega, HBn, HRn⟩, by simp only [intOf]; omega⟩
end Go.Proofs.Ytflmoopiajhadaa
