/- FindConic: plain, and the program's text. -/
import Derived.Test.YtdeehgcabnoclaaJD
namespace Go.Proofs.Ytdeehgcabnoclaa
open Go Go.RowKit

def scanZ (a b x y : Int) : Nat → Int → Option (Int × Int × Int)
  | 0, _ => none
  | k + 1, z => if a * x * x + b * y * y = z * z ∧ (x ≠ 0 ∨ y ≠ 0 ∨ z ≠ 0) then some (x, y, z) else scanZ a b x y k (z + 1)
def scanY (a b x : Int) (M : Nat) : Nat → Int → Option (Int × Int × Int)
  | 0, _ => none
  | k + 1, y => (scanZ a b x y M 0).or (scanY a b x M k (y + 1))
def scanX (a b : Int) (M : Nat) : Nat → Int → Option (Int × Int × Int)
  | 0, _ => none
  | k + 1, x => (scanY a b x M M 0).or (scanX a b M k (x + 1))
def fcO : Option (Int × Int × Int) → Int × Int × Int × Int
  | none => (0, 0, 0, 4)
  | some (x, y, z) => (x, y, z, 0)
/-- The first point on a conic, and the code. -/
def fcF (a b m : Int) : Int × Int × Int × Int := if (inB a (-1000000) 1000000 = true ∧ a ≠ 0) ∧ (inB b (-1000000) 1000000 = true ∧ b ≠ 0) ∧ inB m 0 100 = true then fcO (scanX a b (m + 1).toNat (m + 1).toNat 0) else (0, 0, 0, 2)
theorem scanZ_some {a b x y : Int} : ∀ {k : Nat} {z : Int} {t : Int × Int × Int}, scanZ a b x y k z = some t → a * t.1 * t.1 + b * t.2.1 * t.2.1 = t.2.2 * t.2.2 ∧ (t.1 ≠ 0 ∨ t.2.1 ≠ 0 ∨ t.2.2 ≠ 0)
  | 0, _, _, h => by simp [scanZ] at h
  | k + 1, z, t, h => by
    unfold scanZ at h
    split at h
    · rename_i h2; simp at h; subst h; exact h2
    · exact scanZ_some h
theorem scanY_some {a b x : Int} {M : Nat} : ∀ {k : Nat} {y : Int} {t : Int × Int × Int}, scanY a b x M k y = some t → a * t.1 * t.1 + b * t.2.1 * t.2.1 = t.2.2 * t.2.2 ∧ (t.1 ≠ 0 ∨ t.2.1 ≠ 0 ∨ t.2.2 ≠ 0)
  | 0, _, _, h => by simp [scanY] at h
  | k + 1, y, t, h => by
    unfold scanY at h
    rcases hz : scanZ a b x y M 0 with _ | t'
    · rw [hz] at h; exact scanY_some h
    · rw [hz] at h; simp at h; subst h; exact scanZ_some hz
theorem scanX_some {a b : Int} {M : Nat} : ∀ {k : Nat} {x : Int} {t : Int × Int × Int}, scanX a b M k x = some t → a * t.1 * t.1 + b * t.2.1 * t.2.1 = t.2.2 * t.2.2 ∧ (t.1 ≠ 0 ∨ t.2.1 ≠ 0 ∨ t.2.2 ≠ 0)
  | 0, _, _, h => by simp [scanX] at h
  | k + 1, x, t, h => by
    unfold scanX at h
    rcases hz : scanY a b x M M 0 with _ | t'
    · rw [hz] at h; exact scanX_some h
    · rw [hz] at h; simp at h; subst h; exact scanY_some hz
theorem fcF_found {a b m : Int} (h : (fcF a b m).2.2.2 = 0) : (-1000000 ≤ a ∧ a ≤ 1000000 ∧ a ≠ 0) ∧ (-1000000 ≤ b ∧ b ≤ 1000000 ∧ b ≠ 0) ∧ a * (fcF a b m).1 * (fcF a b m).1 + b * (fcF a b m).2.1 * (fcF a b m).2.1 = (fcF a b m).2.2.1 * (fcF a b m).2.2.1 ∧ ((fcF a b m).1 ≠ 0 ∨ (fcF a b m).2.1 ≠ 0 ∨ (fcF a b m).2.2.1 ≠ 0) := by
  unfold fcF at h ⊢
  split at h
  · rename_i hc
    rw [if_pos hc]
    have h1 := inB_iff.1 hc.1.1
    have h2 := inB_iff.1 hc.2.1.1
    refine ⟨⟨h1.1, h1.2, hc.1.2⟩, ⟨h2.1, h2.2, hc.2.1.2⟩, ?_⟩
    rcases hz : scanX a b (m + 1).toNat (m + 1).toNat 0 with _ | ⟨x, y, z⟩
    · rw [hz] at h; simp [fcO] at h
    · exact scanX_some hz
  · simp at h
theorem results_tmp4 {fn : Func} {t u v x : Tmp} (h : fn.results = #[.tmp t, .tmp u, .tmp v, .tmp x]) (tmps : Array Value) (P : Program) (w : World) :
    (results fn tmps).run P w = .ok (.tuple #[tmps.getD t undef, tmps.getD u undef, tmps.getD v undef, tmps.getD x undef]) w := by
  simp [results, h]
theorem mul2_bd {a x : Int} (ha : -1000000 ≤ a ∧ a ≤ 1000000) (hx : 0 ≤ x ∧ x ≤ 100) : -100000000 ≤ a * x ∧ a * x ≤ 100000000 ∧ -10000000000 ≤ a * x * x ∧ a * x * x ≤ 10000000000 := by
  have e1 : a * x ≤ 1000000 * x := Int.mul_le_mul_of_nonneg_right (by omega) (by omega)
  have e2 : -1000000 * x ≤ a * x := Int.mul_le_mul_of_nonneg_right (by omega) (by omega)
  have e3 : a * x * x ≤ 100000000 * x := Int.mul_le_mul_of_nonneg_right (by omega) (by omega)
  have e4 : -100000000 * x ≤ a * x * x := Int.mul_le_mul_of_nonneg_right (by omega) (by omega)
  omega
theorem sq2_bd {z : Int} (hz : 0 ≤ z ∧ z ≤ 100) : 0 ≤ z * z ∧ z * z ≤ 10000 := by
  have e1 : z * z ≤ 100 * z := Int.mul_le_mul_of_nonneg_right (by omega) (by omega)
  have e2 := Int.mul_nonneg hz.1 hz.1
  omega

set_option maxRecDepth 20000 in
set_option maxHeartbeats 4000000 in
theorem i_FindConic (a b m : Int) (w : World) :
    Calls Try.prog 6 #[.int .i64 a, .int .i64 b, .int .i64 m] w fun e w' => e = .returned (.tuple #[.int .i64 (fcF a b m).1, .int .i64 (fcF a b m).2.1, .int .i64 (fcF a b m).2.2.1, .int .i64 (fcF a b m).2.2.2]) ∧ Below w.heap.size w w' := by
  by_cases hA : inB a (-1000000) 1000000 = true ∧ a ≠ 0
  case neg =>
    have e : fcF a b m = (0, 0, 0, 2) := by unfold fcF; rw [if_neg (fun h => hA h.1)]
    rw [e]
    clear e
    go_enter Try.func6, Try.ntmps6
    go_wp2_with fail
    go_loop [19] (fun i => i = .int .i64 0) (fun _ => 0)
    case atStart => rfl
    case round =>
      subst hrel
      have c0 : (w.alloc (Obj.cells #[Value.int IntKind.i64 a, Value.int IntKind.i64 b] 2)).cell? ⟨w.heap.size, 0, none⟩ = some (.int .i64 a) := by rw [alloc_cell, if_pos rfl]; rfl
      by_cases h0 : a = 0
      · have h0' : (a == 0) = true := by simpa using h0
        clear h0 hA
        go_wp2_with fail
        (try simp only [Exit.inBlock, Exit.then]); refine bodyPost_ret (results_tmp4 rfl _ _ _) rfl ?_
        exact ⟨rfl, (by refine Ext.bel ?_; repeat (with_reducible first | exact Ext.refl _ | apply Ext.alloc | apply Ext.aft | apply Ext.drew | apply Ext.drewN | apply Ext.setCell | exact Nat.le_add_right _ _ | exact Nat.le_refl _ | (simp; done) | omega))⟩
      · have h0' : (a == 0) = false := by simpa using h0
        have h1' : inB a (-1000000) 1000000 = false := by
          rw [← Bool.not_eq_true]; exact fun h => hA ⟨h, h0⟩
        clear h0 hA
        go_wp2_with fail
        refine pur (i_within _ _ _ _) ?_
        rw [h1']
        go_wp2_with fail
        (try simp only [Exit.inBlock, Exit.then]); refine bodyPost_ret (results_tmp4 rfl _ _ _) rfl ?_
        exact ⟨rfl, (by refine Ext.bel ?_; repeat (with_reducible first | exact Ext.refl _ | apply Ext.alloc | apply Ext.aft | apply Ext.drew | apply Ext.drewN | apply Ext.setCell | exact Nat.le_add_right _ _ | exact Nat.le_refl _ | (simp; done) | omega))⟩
  have a0 : (a == 0) = false := by simpa using hA.2
  have a1 := hA.1
  have ab := inB_iff.1 a1
  by_cases hB : inB b (-1000000) 1000000 = true ∧ b ≠ 0
  case neg =>
    have e : fcF a b m = (0, 0, 0, 2) := by unfold fcF; rw [if_neg (fun h => hB h.2.1)]
    rw [e]
    clear e hA
    go_enter Try.func6, Try.ntmps6
    go_wp2_with fail
    go_loop [19] (fun i => i = .int .i64 0 ∨ i = .int .i64 1) (fun i => 1 - (intOf i).toNat)
    case atStart => exact .inl rfl
    case round =>
      have c0 : (w.alloc (Obj.cells #[Value.int IntKind.i64 a, Value.int IntKind.i64 b] 2)).cell? ⟨w.heap.size, 0, none⟩ = some (.int .i64 a) := by rw [alloc_cell, if_pos rfl]; rfl
      have c1 : (w.alloc (Obj.cells #[Value.int IntKind.i64 a, Value.int IntKind.i64 b] 2)).cell? ⟨w.heap.size, 1, none⟩ = some (.int .i64 b) := by rw [alloc_cell, if_pos rfl]; rfl
      rcases hrel with rfl | rfl
      · go_wp2_with fail
        refine pur (i_within _ _ _ _) ?_
        rw [a1]
        go_wp2_with fail
        go_round
        case rel => exact .inr rfl
        case measure => simp [intOf]
      · by_cases h0 : b = 0
        · have h0' : (b == 0) = true := by simpa using h0
          clear h0 hB
          go_wp2_with fail
          (try simp only [Exit.inBlock, Exit.then]); refine bodyPost_ret (results_tmp4 rfl _ _ _) rfl ?_
          exact ⟨rfl, (by refine Ext.bel ?_; repeat (with_reducible first | exact Ext.refl _ | apply Ext.alloc | apply Ext.aft | apply Ext.drew | apply Ext.drewN | apply Ext.setCell | exact Nat.le_add_right _ _ | exact Nat.le_refl _ | (simp; done) | omega))⟩
        · have h0' : (b == 0) = false := by simpa using h0
          have h1' : inB b (-1000000) 1000000 = false := by
            rw [← Bool.not_eq_true]; exact fun h => hB ⟨h, h0⟩
          clear h0 hB
          go_wp2_with fail
          refine pur (i_within _ _ _ _) ?_
          rw [h1']
          go_wp2_with fail
          (try simp only [Exit.inBlock, Exit.then]); refine bodyPost_ret (results_tmp4 rfl _ _ _) rfl ?_
          exact ⟨rfl, (by refine Ext.bel ?_; repeat (with_reducible first | exact Ext.refl _ | apply Ext.alloc | apply Ext.aft | apply Ext.drew | apply Ext.drewN | apply Ext.setCell | exact Nat.le_add_right _ _ | exact Nat.le_refl _ | (simp; done) | omega))⟩
  have b0 : (b == 0) = false := by simpa using hB.2
  have b1 := hB.1
  have bb := inB_iff.1 b1
  have eF : fcF a b m = if inB m 0 100 = true then fcO (scanX a b (m + 1).toNat (m + 1).toNat 0) else (0, 0, 0, 2) := by
    unfold fcF
    by_cases h : inB m 0 100 = true
    · rw [if_pos ⟨hA, hB, h⟩, if_pos h]
    · rw [if_neg (fun h2 => h h2.2.2), if_neg h]
  obtain ⟨F, hF⟩ : ∃ F, F = fcF a b m := ⟨_, rfl⟩
  rw [← hF]
  have HFm : Hid (¬ inB m 0 100 = true → (0, 0, 0, 2) = F) := hid fun h => by rw [hF, eF, if_neg h]
  have HFg : Hid (inB m 0 100 = true → fcO (scanX a b (m + 1).toNat (m + 1).toNat 0) = F) := hid fun h => by rw [hF, eF, if_pos h]
  clear eF hA hB hF
  go_enter Try.func6, Try.ntmps6
  go_wp2_with fail
  go_loop [19] (fun i => i = .int .i64 0 ∨ i = .int .i64 1 ∨ i = .int .i64 2) (fun i => 2 - (intOf i).toNat)
  case atStart => exact .inl rfl
  case round =>
    have c0 : (w.alloc (Obj.cells #[Value.int IntKind.i64 a, Value.int IntKind.i64 b] 2)).cell? ⟨w.heap.size, 0, none⟩ = some (.int .i64 a) := by rw [alloc_cell, if_pos rfl]; rfl
    have c1 : (w.alloc (Obj.cells #[Value.int IntKind.i64 a, Value.int IntKind.i64 b] 2)).cell? ⟨w.heap.size, 1, none⟩ = some (.int .i64 b) := by rw [alloc_cell, if_pos rfl]; rfl
    rcases hrel with rfl | rfl | rfl
    · go_wp2_with fail
      refine pur (i_within _ _ _ _) ?_
      rw [a1]
      go_wp2_with fail
      go_round
      case rel => exact .inr (.inl rfl)
      case measure => simp [intOf]
    · go_wp2_with fail
      refine pur (i_within _ _ _ _) ?_
      rw [b1]
      go_wp2_with fail
      go_round
      case rel => exact .inr (.inr rfl)
      case measure => simp [intOf]
    · clear c0 c1
      have hGr : Hid (Below w.heap.size w (w.alloc (Obj.cells #[Value.int IntKind.i64 a, Value.int IntKind.i64 b] 2))) := hid (by refine Ext.bel ?_; repeat (with_reducible first | exact Ext.refl _ | apply Ext.alloc | apply Ext.aft | apply Ext.drew | apply Ext.drewN | apply Ext.setCell | exact Nat.le_add_right _ _ | exact Nat.le_refl _ | (simp; done) | omega))
      generalize (w.alloc (Obj.cells #[Value.int IntKind.i64 a, Value.int IntKind.i64 b] 2)) = W at hGr ⊢
      by_cases hm : inB m 0 100 = true
      case neg =>
        have hF := HFm.out hm
        clear HFm HFg
        subst hF
        have hm' : inB m 0 100 = false := by simpa using hm
        go_wp2_with fail
        refine pur (i_within _ _ _ _) ?_
        rw [hm']
        go_wp2_with fail
        (try simp only [Exit.inBlock, Exit.then]); refine bodyPost_ret (results_tmp4 rfl _ _ _) rfl ?_
        exact ⟨rfl, hGr.out⟩
      have hF := HFg.out hm
      clear HFm HFg
      have mb := inB_iff.1 hm
      obtain ⟨M, hM⟩ : ∃ M : Nat, M = (m + 1).toNat := ⟨_, rfl⟩
      have hMi : (M : Int) = m + 1 := by omega
      rw [← hM] at hF
      obtain ⟨L, hL⟩ : ∃ L, L = scanX a b M M 0 := ⟨_, rfl⟩
      rw [← hL] at hF
      have HL := hid hL.symm
      subst hF
      clear hL hM
      go_wp2_with fail
      refine pur (i_within _ _ _ _) ?_
      rw [hm]
      clear hm
      go_wp2_with fail
      go_loop [36] (fun xv => ∃ x : Nat, x ≤ M ∧ xv = .int .i64 x ∧ scanX a b M (M - x) x = L) (fun xv => M - (intOf xv).toNat)
      case atStart => exact ⟨0, by omega, rfl, by rw [Nat.sub_zero]; exact HL.out⟩
      case round =>
        obtain ⟨x, hx, rfl, hR⟩ := hrel
        by_cases hlt : x < M
        case neg =>
          have e1 : M - x = 0 := by omega
          rw [e1] at hR
          have hR2 : none = L := hR
          subst hR2
          have hd : decide ((x : Int) < m + 1) = false := by simp; omega
          clear hR e1 hlt
          go_wp2_with fail
          (try simp only [Exit.inBlock, Exit.then]); refine bodyPost_ret (results_tmp4 rfl _ _ _) rfl ?_
          exact ⟨rfl, hGr.out⟩
        have hd : decide ((x : Int) < m + 1) = true := by simp; omega
        have e1 : M - x = (M - (x + 1)) + 1 := by omega
        rw [e1] at hR
        have hR2 : (scanY a b x M M 0).or (scanX a b M (M - (x + 1)) ((x + 1 : Nat) : Int)) = L := hR
        have HR := hid hR2
        have xb := mul2_bd ab (show 0 ≤ (x : Int) ∧ (x : Int) ≤ 100 by omega)
        clear hR hR2 e1
        go_wp2_with fail
        go_loop [41] (fun yv => ∃ y : Nat, y ≤ M ∧ yv = .int .i64 y ∧ (scanY a b x M (M - y) y).or (scanX a b M (M - (x + 1)) ((x + 1 : Nat) : Int)) = L) (fun yv => M - (intOf yv).toNat)
        case atStart => exact ⟨0, by omega, rfl, by rw [Nat.sub_zero]; exact HR.out⟩
        case round =>
          obtain ⟨y, hy, rfl, hR⟩ := hrel
          by_cases hlty : y < M
          case neg =>
            have e1 : M - y = 0 := by omega
            rw [e1] at hR
            have HR3 : Hid (scanX a b M (M - (x + 1)) ((x + 1 : Nat) : Int) = L) := hid hR
            have hdy : decide ((y : Int) < m + 1) = false := by simp; omega
            clear hR e1 hlty
            go_wp2_with fail
            exact ⟨⟨x + 1, by omega, by go_num, HR3.out⟩, by simp only [intOf]; omega⟩
          have hdy : decide ((y : Int) < m + 1) = true := by simp; omega
          have e1 : M - y = (M - (y + 1)) + 1 := by omega
          rw [e1] at hR
          have hR2 : ((scanZ a b x y M 0).or (scanY a b x M (M - (y + 1)) ((y + 1 : Nat) : Int))).or (scanX a b M (M - (x + 1)) ((x + 1 : Nat) : Int)) = L := hR
          have HR2 := hid hR2
          have yb := mul2_bd bb (show 0 ≤ (y : Int) ∧ (y : Int) ≤ 100 by omega)
          clear hR hR2 e1
          go_wp2_with fail
          go_loop [46] (fun zv => ∃ z : Nat, z ≤ M ∧ zv = .int .i64 z ∧ ((scanZ a b x y (M - z) z).or (scanY a b x M (M - (y + 1)) ((y + 1 : Nat) : Int))).or (scanX a b M (M - (x + 1)) ((x + 1 : Nat) : Int)) = L) (fun zv => M - (intOf zv).toNat)
          case atStart => exact ⟨0, by omega, rfl, by rw [Nat.sub_zero]; exact HR2.out⟩
          case round =>
            obtain ⟨z, hz, rfl, hR⟩ := hrel
            by_cases hltz : z < M
            case neg =>
              have e1 : M - z = 0 := by omega
              rw [e1] at hR
              have HR3 : Hid ((scanY a b x M (M - (y + 1)) ((y + 1 : Nat) : Int)).or (scanX a b M (M - (x + 1)) ((x + 1 : Nat) : Int)) = L) := hid hR
              have hdz : decide ((z : Int) < m + 1) = false := by simp; omega
              clear hR e1 hltz
              go_wp2_with fail
              exact ⟨⟨y + 1, by omega, by go_num, HR3.out⟩, by simp only [intOf]; omega⟩
            have hdz : decide ((z : Int) < m + 1) = true := by simp; omega
            have e1 : M - z = (M - (z + 1)) + 1 := by omega
            rw [e1] at hR
            unfold scanZ at hR
            have zb := sq2_bd (show 0 ≤ (z : Int) ∧ (z : Int) ≤ 100 by omega)
            by_cases ht : a * (x : Int) * (x : Int) + b * (y : Int) * (y : Int) = (z : Int) * (z : Int) ∧ ((x : Int) ≠ 0 ∨ (y : Int) ≠ 0 ∨ (z : Int) ≠ 0)
            · rw [if_pos ht] at hR
              have hR2 : some ((x : Int), (y : Int), (z : Int)) = L := hR
              have hte : (a * (x : Int) * (x : Int) + b * (y : Int) * (y : Int) == (z : Int) * (z : Int)) = true := by simpa using ht.1
              have hto := ht.2
              clear hR ht e1
              subst hR2
              by_cases x0 : (x : Int) = 0
              · have x0' : ((x : Int) == 0) = true := by simpa using x0
                have x0n : ((x : Int) != 0) = false := by simpa using x0
                by_cases y0 : (y : Int) = 0
                · have y0' : ((y : Int) == 0) = true := by simpa using y0
                  have y0n : ((y : Int) != 0) = false := by simpa using y0
                  have z0' : ((z : Int) == 0) = false := by rw [beq_eq_false_iff_ne]; omega
                  have z0n : ((z : Int) != 0) = true := by rw [bne_iff_ne]; omega
                  clear x0 y0 hto
                  go_wp2_with fail
                  (try simp only [Exit.inBlock, Exit.then]); refine bodyPost_ret (results_tmp4 rfl _ _ _) rfl ?_
                  exact ⟨rfl, hGr.out⟩
                · have y0' : ((y : Int) == 0) = false := by simpa using y0
                  have y0n : ((y : Int) != 0) = true := by simpa using y0
                  clear x0 y0 hto
                  go_wp2_with fail
                  (try simp only [Exit.inBlock, Exit.then]); refine bodyPost_ret (results_tmp4 rfl _ _ _) rfl ?_
                  exact ⟨rfl, hGr.out⟩
              · have x0' : ((x : Int) == 0) = false := by simpa using x0
                have x0n : ((x : Int) != 0) = true := by simpa using x0
                clear x0 hto
                go_wp2_with fail
                (try simp only [Exit.inBlock, Exit.then]); refine bodyPost_ret (results_tmp4 rfl _ _ _) rfl ?_
                exact ⟨rfl, hGr.out⟩
            · rw [if_neg ht] at hR
              have HR4 : Hid (((scanZ a b x y (M - (z + 1)) ((z + 1 : Nat) : Int)).or (scanY a b x M (M - (y + 1)) ((y + 1 : Nat) : Int))).or (scanX a b M (M - (x + 1)) ((x + 1 : Nat) : Int)) = L) := hid hR
              clear hR e1
              by_cases he : a * (x : Int) * (x : Int) + b * (y : Int) * (y : Int) = (z : Int) * (z : Int)
              · have hte : (a * (x : Int) * (x : Int) + b * (y : Int) * (y : Int) == (z : Int) * (z : Int)) = true := by simpa using he
                have x0 : (x : Int) = 0 := by
                  rcases Classical.em ((x : Int) = 0) with h | h
                  · exact h
                  · exact absurd ⟨he, .inl h⟩ ht
                have y0 : (y : Int) = 0 := by
                  rcases Classical.em ((y : Int) = 0) with h | h
                  · exact h
                  · exact absurd ⟨he, .inr (.inl h)⟩ ht
                have z0 : (z : Int) = 0 := by
                  rcases Classical.em ((z : Int) = 0) with h | h
                  · exact h
                  · exact absurd ⟨he, .inr (.inr h)⟩ ht
                have x0' : ((x : Int) == 0) = true := by simpa using x0
                have x0n : ((x : Int) != 0) = false := by simpa using x0
                have y0' : ((y : Int) == 0) = true := by simpa using y0
                have y0n : ((y : Int) != 0) = false := by simpa using y0
                have z0' : ((z : Int) == 0) = true := by simpa using z0
                have z0n : ((z : Int) != 0) = false := by simpa using z0
                clear x0 y0 z0 he ht
                go_wp2_with fail
                go_round
                case rel => exact ⟨z + 1, by omega, by go_num, HR4.out⟩
                case measure => simp only [intOf]; omega
              · have hte : (a * (x : Int) * (x : Int) + b * (y : Int) * (y : Int) == (z : Int) * (z : Int)) = false := by simpa using he
                clear he ht
                go_wp2_with fail
                go_round
                case rel => exact ⟨z + 1, by omega, by go_num, HR4.out⟩
                case measure => simp only [intOf]; omega
end Go.Proofs.Ytdeehgcabnoclaa
