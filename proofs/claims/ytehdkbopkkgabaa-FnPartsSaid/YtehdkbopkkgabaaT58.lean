/- Plain: a number is the sum of its fraction and its whole part. -/
import Derived.Test.YtehdkbopkkgabaaT57
import Derived.Test.YtehdkbopkkgabaaE1
import Derived.Test.YtehdkbopkkgabaaE9
namespace Go.Proofs.Ytehdkbopkkgabaa
open Go Go.RowKit

theorem known_sum (p v r c : Int) : (knownF p v r c).v + (knownF p v r c).n = v + c := by
  unfold knownF
  split
  · simp
  · simp only; omega
theorem known_ge (p v r c : Int) (hc : 0 ≤ c) : v ≤ (knownF p v r c).v := by
  unfold knownF
  split
  · simp only; omega
  · simp only; omega
theorem known_val {p r c : Int} (hp : 2 ≤ p) : (knownF p 0 r c).u * p ^ ((knownF p 0 r c).v).toNat = r := by
  unfold knownF
  split
  · rename_i h; simp [h]
  · rename_i h
    obtain ⟨d, h1, h2, h3⟩ := vl_spec hp h
    simp only [Int.zero_add, Int.toNat_natCast]
    rw [h3]
    exact h1.symm
theorem ring_le {p n m : Int} (h : ringB p n = true) (h1 : 1 ≤ m) (h2 : m ≤ n) : ringB p m = true := by
  have a := ringB_iff.1 h
  have hp := smallP_bd a.1
  have := pow_mono (show 1 ≤ p by omega) (show m.toNat ≤ n.toNat by omega)
  exact ringB_iff.2 ⟨a.1, h1, by omega, by omega⟩
theorem padic_mk {p v u n : Int} (hr : ringB p n = true) (hv : -60 ≤ v ∧ v ≤ 60) (hu : 0 ≤ u ∧ u ≤ p ^ n.toNat - 1) (hz : ¬ u % p = 0) : padicB p v u n = true := by
  have a := ringB_iff.1 hr
  have e3 : u ≠ 0 := fun q => hz (by rw [q]; simp)
  rw [padicB_alt a.1 (inB_t hv.1 hv.2) (by omega), hr, inB_t (n := u) (a := 1) (b := p ^ n.toNat - 1) (by omega) (by omega)]
  simp only [Bool.true_and, bne_iff_ne, ne_eq]
  exact hz
theorem zero_ok {p v : Int} (hs : smallP p = true) (hv : -60 ≤ v ∧ v ≤ 60) : padicB p v 0 0 = true := by
  unfold padicB
  rw [hs, inB_t hv.1 hv.2]
  simp
theorem known_ok {p v r c : Int} (hr : ringB p c = true) (h0 : 0 ≤ r ∧ r < p ^ c.toNat) (hv : -60 ≤ v ∧ v + c ≤ 60) : padicB (knownF p v r c).p (knownF p v r c).v (knownF p v r c).u (knownF p v r c).n = true := by
  have a := ringB_iff.1 hr
  have hp := smallP_bd a.1
  unfold knownF
  split
  · show padicB p (v + c) 0 0 = true
    exact zero_ok a.1 (by omega)
  · rename_i h
    have hl := vl_lt hp.1 (show 0 < r by omega) (show r < p ^ c.toNat from h0.2)
    obtain ⟨d, h1, h2, h3⟩ := vl_spec hp.1 h
    rw [h3]
    have hP := pow_pos' (show 1 ≤ p by omega) (vl r p)
    have e : p ^ c.toNat = p ^ (c - (vl r p : Int)).toNat * p ^ vl r p := by
      rw [← Int.pow_add]; congr 1; omega
    have d0 : 0 ≤ d := by
      rcases Int.lt_or_le d 0 with hd | hd
      · have := Int.mul_le_mul_of_nonneg_right (show d ≤ -1 by omega) (show 0 ≤ p ^ vl r p by omega)
        omega
      · exact hd
    have d1 : d < p ^ (c - (vl r p : Int)).toNat := by
      refine Int.lt_of_mul_lt_mul_right (a := p ^ vl r p) ?_ (by omega)
      rw [← e, ← h1]
      exact h0.2
    show padicB p (v + (vl r p : Int)) d (c - (vl r p : Int)) = true
    exact padic_mk (ring_le hr (by omega) (by omega)) (by omega) ⟨d0, by omega⟩ h2
theorem known_self {p v u n : Int} (h : padicB p v u n = true) (h0 : n ≠ 0) : knownF p v (u % p ^ n.toNat) n = ⟨p, v, u, n⟩ := by
  obtain ⟨hr, hu, hun⟩ := padic_unit' h h0
  have hp := smallP_bd (ringB_iff.1 hr).1
  rw [Int.emod_eq_of_lt (by omega) (by omega)]
  unfold knownF
  rw [if_neg (by omega), vl_unit hp.1 hun]
  simp
theorem inv_one {M : Int} (h : 2 ≤ M) : inv 1 M = 1 := by
  obtain ⟨m, rfl⟩ : ∃ m : Nat, M = (m : Int) := ⟨M.toNat, by omega⟩
  unfold inv
  rw [Int.toNat_natCast, bx_step _ _ _ _ _ (by omega)]
  rw [show (1 : Int) % (m : Int) = 1 from Int.emod_eq_of_lt (by omega) (by omega), show (1 : Int) / (m : Int) = 0 from Int.ediv_eq_zero_of_lt (by omega) (by omega)]
  rw [show m = (m - 1) + 1 by omega, bx_step _ _ _ _ _ (by decide)]
  rw [show ((m - 1 + 1 : Nat) : Int) % 1 = 0 from Int.emod_one _]
  rw [show m - 1 = (m - 2) + 1 by omega, bx_zero]
  rw [Int.zero_mul, Int.sub_zero]
  exact Int.emod_eq_of_lt (by omega) (by omega)

/-- What the law wants of the parts of a number. -/
theorem parts_facts {p v u n : Int} (h : padicB p v u n = true) (he : 0 ≤ v + n) :
    ∃ N D : Int, frF p v u n = (N, D, 0) ∧ (0 ≤ N ∧ N < D ∧ D ≤ 1000000000) ∧ ratB N D = true ∧ 0 ≤ (wholeF p v u n).v ∧ (n = 0 → N = 0) ∧
      (N ≠ 0 → popF N D p n = (⟨p, v, N, n⟩, 0) ∧ addpF p v N n (wholeF p v u n).p (wholeF p v u n).v (wholeF p v u n).u (wholeF p v u n).n = (⟨p, v, u, n⟩, 0)) := by
  obtain ⟨hp, hv, hu, hn, hb⟩ := padic_facts h
  by_cases h0 : 0 ≤ v
  · refine ⟨0, 1, by unfold frF; rw [if_pos h, if_neg (by omega), if_pos h0], by omega, by decide, ?_, fun _ => rfl, fun hh => absurd rfl hh⟩
    unfold wholeF
    rw [if_pos h0]
    exact h0
  have hn0 : n ≠ 0 := by omega
  obtain ⟨hr, hu2, hun⟩ := padic_unit' h hn0
  have a := ringB_iff.1 hr
  obtain ⟨K, hK⟩ : ∃ K : Nat, K = (-v).toNat := ⟨_, rfl⟩
  have hb1 := pow_mono (show 1 ≤ p by omega) (show K ≤ n.toNat by omega)
  have hP := pow_pos' (show 1 ≤ p by omega) K
  have hPp : p ≤ p ^ K := by
    have := pow_mono (show 1 ≤ p by omega) (show 1 ≤ K by omega)
    rw [Int.pow_succ, Int.pow_zero, Int.one_mul] at this
    exact this
  have hq0 := Int.emod_nonneg u (show p ^ K ≠ 0 by omega)
  have hq1 := Int.emod_lt_of_pos u (show 0 < p ^ K by omega)
  have hq2 := Int.emod_add_mul_ediv u (p ^ K)
  have hmu := mod_unit hun (show 1 ≤ K by omega)
  have hN0 : u % p ^ K ≠ 0 := fun e => hmu (by rw [e]; exact Int.zero_emod p)
  have hg := gcd_pow a.1 hmu K
  have hrat : ratB (u % p ^ K) (p ^ K) = true := by
    unfold ratB
    rw [inB_t (by omega) (by omega), inB_t (by omega) (by omega), hg]
    rfl
  have hw : wholeF p v u n = makeF p 0 (u / p ^ K) (v + n) := by unfold wholeF; rw [if_neg h0, hK]
  have hq : 0 ≤ u / p ^ K := Int.ediv_nonneg hu.1 (by omega)
  have esplit : p ^ n.toNat = p ^ (v + n).toNat * p ^ K := by rw [← Int.pow_add]; congr 1; omega
  have hq3 : u / p ^ K < p ^ (v + n).toNat := by
    refine Int.lt_of_mul_lt_mul_right (a := p ^ K) ?_ (by omega)
    rw [← esplit]
    rw [Int.mul_comm] at hq2
    omega
  have hwk : makeF p 0 (u / p ^ K) (v + n) = knownF p 0 (u / p ^ K) (v + n) := by
    unfold makeF
    split
    · have e0 : v + n = 0 := by omega
      rw [e0] at hq3 ⊢
      have : u / p ^ K = 0 := by
        rw [show (0 : Int).toNat = 0 from rfl, Int.pow_zero] at hq3
        omega
      rw [this]
      simp [knownF]
    · rw [show v + n - 0 = v + n by omega, Int.emod_eq_of_lt hq hq3]
  have hwv : 0 ≤ (knownF p 0 (u / p ^ K) (v + n)).v := known_ge _ _ _ _ he
  have hws := known_sum p 0 (u / p ^ K) (v + n)
  have hwu := known_val (p := p) (r := u / p ^ K) (c := v + n) hp.1
  have hwp : (knownF p 0 (u / p ^ K) (v + n)).p = p := by unfold knownF; split <;> rfl
  have hwok : padicB p (knownF p 0 (u / p ^ K) (v + n)).v (knownF p 0 (u / p ^ K) (v + n)).u (knownF p 0 (u / p ^ K) (v + n)).n = true := by
    rcases Int.lt_or_le 0 (v + n) with h1 | h1
    · have := known_ok (v := 0) (ring_le hr (show 1 ≤ v + n by omega) (by omega)) ⟨hq, hq3⟩ (by omega)
      rw [hwp] at this
      exact this
    · have e0 : v + n = 0 := by omega
      rw [e0] at hq3 ⊢
      have : u / p ^ K = 0 := by
        rw [show (0 : Int).toNat = 0 from rfl, Int.pow_zero] at hq3
        omega
      rw [this, show knownF p 0 0 0 = ⟨p, 0, 0, 0⟩ by simp [knownF]]
      show padicB p 0 0 0 = true
      exact zero_ok a.1 (by omega)
  refine ⟨u % p ^ K, p ^ K, by unfold frF; rw [if_pos h, if_neg (by omega), if_neg h0, ← hK], by omega, hrat, by rw [hw, hwk]; exact hwv, fun e => absurd e hn0, fun _ => ?_⟩
  have hf : padicB p v (u % p ^ K) n = true := padic_mk hr hv ⟨hq0, by omega⟩ hmu
  constructor
  · unfold popF
    rw [if_pos ⟨hrat, hr⟩, if_neg hN0]
    unfold pofF
    have e1 : vl (u % p ^ K) p = 0 := vl_unit hp.1 hmu
    have e2 : vl (p ^ K) p = K := vl_eq hp.1 (c := 1) (by rw [Int.one_mul]) (by rw [Int.emod_eq_of_lt (by omega) (by omega)]; decide)
    have hM : 2 ≤ p ^ n.toNat := by omega
    rw [e1, e2, Int.ediv_self (by omega), show (1 : Int) % p ^ n.toNat = 1 from Int.emod_eq_of_lt (by omega) (by omega), inv_one hM, Int.pow_zero, Int.ediv_one, Int.mul_one, Int.emod_emod, Int.emod_eq_of_lt hq0 (by omega)]
    rw [show ((0 : Nat) : Int) - (K : Int) = v by omega]
  · rw [hw, hwk, hwp]
    obtain ⟨W, hW⟩ : ∃ W, W = knownF p 0 (u / p ^ K) (v + n) := ⟨_, rfl⟩
    rw [← hW] at hwv hws hwu hwok ⊢
    unfold addpF
    have hpair : pairF p v (u % p ^ K) n p W.v W.u W.n = 0 := by unfold pairF; rw [if_pos ⟨hf, hwok⟩, if_pos rfl]
    rw [if_pos hpair]
    have hadd : addF p v (u % p ^ K) n W.v W.u W.n = ⟨p, v, u, n⟩ := by
      unfold addF
      rw [Int.min_eq_left (show v ≤ W.v by omega), show min (v + n) (W.v + W.n) = v + n by omega, Int.sub_self]
      have e3 : u % p ^ K * p ^ (0 : Int).toNat + W.u * p ^ (W.v - v).toNat = u := by
        rw [show (0 : Int).toNat = 0 from rfl, Int.pow_zero, Int.mul_one, show (W.v - v).toNat = (W.v).toNat + K by omega, Int.pow_add, ← Int.mul_assoc, hwu, Int.mul_comm]
        exact hq2
      rw [e3]
      unfold makeF
      rw [if_neg (by omega), show v + n - v = n by omega]
      exact known_self h hn0
    rw [hadd]
    unfold limF
    rw [if_pos h]
end Go.Proofs.Ytehdkbopkkgabaa
