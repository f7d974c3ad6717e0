/- Plain: powers of polynomials; Frobenius by a small prime; the product of y - s. -/
import Derived.Test.YtflmoopiajhadaaLE
import Derived.Test.YtflmoopiajhadaaT25
namespace Go.Proofs.Ytflmoopiajhadaa
open Go Go.RowKit

theorem cvC (a b : Nat → Int) : cv a b = cv b a := funext (cv_comm a b)
theorem cvA (a b c : Nat → Int) : cv (cv a b) c = cv a (cv b c) := funext fun j => cv_assoc b c j a
theorem cv1 (a : Nat → Int) : cv one a = a := funext (cv_one a)
theorem cv1R (a : Nat → Int) : cv a one = a := by rw [cvC, cv1]
def ad (a b : Nat → Int) : Nat → Int := fun j => a j + b j
def sc (k : Int) (a : Nat → Int) : Nat → Int := fun j => k * a j
def zr : Nat → Int := fun _ => 0
theorem cv_ad (c a b : Nat → Int) : cv c (ad a b) = ad (cv c a) (cv c b) := funext (cv_addR a b c)
theorem ad_cv (c a b : Nat → Int) : cv (ad a b) c = ad (cv a c) (cv b c) := funext (cv_add a b c)
theorem cv_sc (k : Int) (a c : Nat → Int) : cv c (sc k a) = sc k (cv c a) := funext (cv_scaleR k a c)
theorem sc_cv (k : Int) (a c : Nat → Int) : cv (sc k a) c = sc k (cv a c) := funext (cv_scale k a c)
theorem cv_zr (a : Nat → Int) : cv a zr = zr := funext fun j => sumR_zero _ _ fun i _ => by simp [zr]
theorem ad_zr (a : Nat → Int) : ad a zr = a := funext fun j => by simp [ad, zr]
theorem zr_ad (a : Nat → Int) : ad zr a = a := funext fun j => by simp [ad, zr]
theorem sc_zero (a : Nat → Int) : sc 0 a = zr := funext fun j => by simp [sc, zr]
theorem sc_one (a : Nat → Int) : sc 1 a = a := funext fun j => by simp [sc]
theorem sc_ad (k : Int) (a b : Nat → Int) : sc k (ad a b) = ad (sc k a) (sc k b) := funext fun j => by simp [sc, ad, Int.mul_add]
theorem sc_zr (k : Int) : sc k zr = zr := funext fun j => by simp [sc, zr]
theorem ad_ad4 (a b c d : Nat → Int) : ad (ad a b) (ad c d) = ad (ad a c) (ad b d) := funext fun j => by simp only [ad]; omega
theorem add_sc (k l : Int) (a : Nat → Int) : sc (k + l) a = ad (sc k a) (sc l a) := funext fun j => by simp [sc, ad, Int.add_mul]
def pw (a : Nat → Int) : Nat → (Nat → Int)
  | 0 => one
  | n + 1 => cv a (pw a n)
theorem pw_add (a : Nat → Int) (m : Nat) : ∀ n, pw a (m + n) = cv (pw a m) (pw a n)
  | 0 => by simp only [pw, Nat.add_zero]; rw [cv1R]
  | n + 1 => by
    rw [← Nat.add_assoc]
    simp only [pw]
    rw [pw_add a m n, ← cvA, ← cvA, cvC a (pw a m)]
theorem pw_one : ∀ n, pw one n = one
  | 0 => rfl
  | n + 1 => by simp only [pw]; rw [pw_one n, cv1]
theorem pw_cv (a b : Nat → Int) : ∀ n, pw (cv a b) n = cv (pw a n) (pw b n)
  | 0 => by simp only [pw]; rw [cv1]
  | n + 1 => by
    simp only [pw]
    rw [pw_cv a b n, cvA, cvA]
    congr 1
    rw [← cvA, ← cvA, cvC b (pw a n)]
theorem pw_mul (a : Nat → Int) (m : Nat) : ∀ n, pw a (m * n) = pw (pw a m) n
  | 0 => rfl
  | n + 1 => by rw [Nat.mul_succ, pw_add, pw_mul a m n, cvC]; rfl
theorem pw_sc (c : Int) : ∀ n, pw (sc c one) n = sc (c ^ n) one
  | 0 => by simp only [pw]; rw [Int.pow_zero, sc_one]
  | n + 1 => by
    simp only [pw]
    rw [pw_sc c n, sc_cv, cv1]
    funext j
    simp only [sc]
    rw [Int.pow_succ]
    grind
/-- Equal by p. -/
def eqm (p : Int) (a b : Nat → Int) : Prop := ∀ j, (a j - b j) % p = 0
theorem eqm.refl (p : Int) (a : Nat → Int) : eqm p a a := fun j => by rw [Int.sub_self]; rfl
theorem eqm.symm {p : Int} {a b : Nat → Int} (h : eqm p a b) : eqm p b a := fun j => by rw [show b j - a j = -(a j - b j) by omega]; exact neg0 (h j)
theorem eqm.trans {p : Int} {a b c : Nat → Int} (h : eqm p a b) (h' : eqm p b c) : eqm p a c := fun j => by rw [show a j - c j = (a j - b j) + (b j - c j) by omega]; exact mod_add0 (h j) (h' j)
theorem eqm.ad {p : Int} {a b c d : Nat → Int} (h : eqm p a b) (h' : eqm p c d) : eqm p (ad a c) (ad b d) := fun j => by
  show (a j + c j - (b j + d j)) % p = 0
  rw [show a j + c j - (b j + d j) = (a j - b j) + (c j - d j) by omega]; exact mod_add0 (h j) (h' j)
theorem eqm.sc {p : Int} {a b : Nat → Int} (k : Int) (h : eqm p a b) : eqm p (sc k a) (sc k b) := fun j => by
  show (k * a j - k * b j) % p = 0
  rw [← Int.mul_sub]; exact mod_mul0' (h j)
theorem eqm.scl {p k l : Int} (a : Nat → Int) (h : (k - l) % p = 0) : eqm p (Go.Proofs.Ytflmoopiajhadaa.sc k a) (Go.Proofs.Ytflmoopiajhadaa.sc l a) := fun j => by
  show (k * a j - l * a j) % p = 0
  rw [← Int.sub_mul]; exact mod_mul0 h
theorem eqm.cvl {p : Int} {a b : Nat → Int} (c : Nat → Int) (h : eqm p a b) : eqm p (cv a c) (cv b c) := fun j => by rw [← cv_sub]; exact cv_zp h j
theorem eqm.cvr {p : Int} {a b : Nat → Int} (c : Nat → Int) (h : eqm p a b) : eqm p (cv c a) (cv c b) := by rw [cvC c a, cvC c b]; exact h.cvl c
theorem eqm.cv {p : Int} {a b c d : Nat → Int} (h : eqm p a b) (h' : eqm p c d) : eqm p (cv a c) (cv b d) := (h.cvl c).trans (h'.cvr b)
theorem eqm.pw {p : Int} {a b : Nat → Int} (h : eqm p a b) : ∀ n, eqm p (pw a n) (pw b n)
  | 0 => eqm.refl _ _
  | n + 1 => h.cv (h.pw n)
theorem eqm.dg {p : Int} {a b : Nat → Int} {N : Nat} (h : eqm p a b) (hd : dg p N a) : dg p N b := fun j hj => by
  have := mod_sub0 (hd j hj) (h j)
  rwa [show a j - (a j - b j) = b j by omega] at this
theorem dg_cv {p : Int} {N M K : Nat} {a b : Nat → Int} (h : dg p N a) (h' : dg p M b) (hK : N + M - 1 ≤ K) : dg p K (cv a b) := (h.cvL h').mono hK
theorem dg_pw {p : Int} {N : Nat} {a : Nat → Int} (h : dg p N a) : ∀ n, ∃ K, dg p K (pw a n)
  | 0 => ⟨1, dg_one p⟩
  | n + 1 => by obtain ⟨K, hK⟩ := dg_pw h n; exact ⟨N + K - 1, h.cvL hK⟩

/-! ### The binomial theorem -/
def bs (a b : Nat → Int) : List Int → Nat → Nat → Int
  | [], _ => zr
  | c :: L, m => ad (sc c (pw b m)) (cv a (bs a b L (m - 1)))
theorem bs_zip (a b : Nat → Int) : ∀ (L L' : List Int) (m : Nat), L.length = L'.length → bs a b (List.zipWith (· + ·) L L') m = ad (bs a b L m) (bs a b L' m)
  | [], [], m, _ => by simp only [List.zipWith_nil_left, bs]; rw [ad_zr]
  | c :: L, d :: L', m, h => by
    simp only [List.zipWith_cons_cons, bs]
    rw [bs_zip a b L L' (m - 1) (by simpa using h), add_sc, cv_ad, ad_ad4]
  | [], d :: L', m, h => by simp at h
  | c :: L, [], m, h => by simp at h
theorem bs_snoc (a b : Nat → Int) : ∀ (L : List Int) (m : Nat), L.length ≤ m + 1 → bs a b (L ++ [0]) (m + 1) = cv b (bs a b L m)
  | [], m, _ => by simp only [List.nil_append, bs]; rw [sc_zero, cv_zr, cv_zr, ad_zr]
  | c :: L, m, h => by
    simp only [List.cons_append, bs]
    rw [cv_ad, cv_sc]
    congr 1
    rw [← cvA, cvC b a, cvA]
    congr 1
    match m, h with
    | 0, h =>
      have : L = [] := List.eq_nil_of_length_eq_zero (by simpa using h)
      subst this
      simp only [List.nil_append, bs]
      rw [sc_zero, cv_zr, cv_zr, ad_zr]
    | m + 1, h => exact bs_snoc a b L m (by simpa using h)
theorem bs_cons (a b : Nat → Int) (L : List Int) (m : Nat) : bs a b (0 :: L) (m + 1) = cv a (bs a b L m) := by
  simp only [bs]; rw [sc_zero, zr_ad]; rfl
def rowB : Nat → List Int
  | 0 => [1]
  | n + 1 => List.zipWith (· + ·) (rowB n ++ [0]) (0 :: rowB n)
theorem rowB_len : ∀ n, (rowB n).length = n + 1
  | 0 => rfl
  | n + 1 => by simp [rowB, rowB_len n]
theorem binom (a b : Nat → Int) : ∀ n, pw (ad a b) n = bs a b (rowB n) n
  | 0 => by simp only [pw, rowB, bs]; rw [cv_zr, ad_zr, sc_one]
  | n + 1 => by
    have hl := rowB_len n
    simp only [pw, rowB]
    rw [binom a b n, bs_zip _ _ _ _ _ (by simp), bs_snoc _ _ _ _ (by omega), bs_cons, ad_cv]
    funext j
    simp only [ad]; omega
theorem bs_mod {p : Int} (a b : Nat → Int) : ∀ (L : List Int) (m : Nat), eqm p (bs a b L m) (bs a b (L.map (· % p)) m)
  | [], _ => eqm.refl _ _
  | c :: L, m => by
    simp only [List.map_cons, bs]
    exact (eqm.scl _ (mod_self0 c p)).ad ((bs_mod a b L (m - 1)).cvr a)
theorem bs_tail (a b : Nat → Int) : ∀ k, bs a b (List.replicate k 0 ++ [1]) k = pw a k
  | 0 => by simp only [List.replicate_zero, List.nil_append, bs, pw]; rw [cv_zr, ad_zr, sc_one]
  | k + 1 => by
    rw [List.replicate_succ, List.cons_append, bs_cons, bs_tail a b k]; rfl
theorem row_all : ∀ p : Fin 98, primeB (p.val : Int) = true → (rowB p.val).map (· % (p.val : Int)) = 1 :: (List.replicate (p.val - 1) 0 ++ [1]) := by decide +kernel
theorem frob {p : Int} (hs : smallP p = true) (a b : Nat → Int) : eqm p (pw (ad a b) p.toNat) (ad (pw a p.toNat) (pw b p.toNat)) := by
  have hp := smallP_bd hs
  obtain ⟨n, hn⟩ : ∃ n : Nat, p.toNat = n + 1 := ⟨p.toNat - 1, by omega⟩
  have h1 := row_all ⟨p.toNat, by omega⟩ (by show primeB ((p.toNat : Nat) : Int) = true; rw [show ((p.toNat : Nat) : Int) = p by omega]; exact smallP_prime hs)
  simp only at h1
  rw [show ((p.toNat : Nat) : Int) = p by omega] at h1
  rw [binom]
  have h2 := bs_mod (p := p) a b (rowB p.toNat) p.toNat
  rw [h1, hn] at h2
  simp only [bs, Nat.add_sub_cancel] at h2
  rw [bs_tail, sc_one] at h2
  rw [hn]
  refine h2.trans ?_
  have e : ad (pw b (n + 1)) (cv a (pw a n)) = ad (pw a (n + 1)) (pw b (n + 1)) := funext fun j => by simp only [ad, pw]; omega
  rw [e]
  exact eqm.refl _ _

/-! ### The product of y + r -/
def ev (y : Nat → Int) : List Int → (Nat → Int)
  | [] => zr
  | c :: L => ad (sc c one) (cv y (ev y L))
def stL (r : Int) (L : List Int) : List Int := List.zipWith (· + ·) (0 :: L) (L.map (r * ·) ++ [0])
def xpd : List Int → List Int
  | [] => [1]
  | r :: rs => stL r (xpd rs)
def prR (y : Nat → Int) : List Int → (Nat → Int)
  | [] => one
  | r :: rs => cv (ad y (sc r one)) (prR y rs)
theorem ev_zip (y : Nat → Int) : ∀ (L L' : List Int), L.length = L'.length → ev y (List.zipWith (· + ·) L L') = ad (ev y L) (ev y L')
  | [], [], _ => by simp only [List.zipWith_nil_left, ev]; rw [ad_zr]
  | c :: L, d :: L', h => by
    simp only [List.zipWith_cons_cons, ev]
    rw [ev_zip y L L' (by simpa using h), add_sc, cv_ad, ad_ad4]
  | [], d :: L', h => by simp at h
  | c :: L, [], h => by simp at h
theorem ev_snoc (y : Nat → Int) : ∀ L : List Int, ev y (L ++ [0]) = ev y L
  | [] => by simp only [List.nil_append, ev]; rw [sc_zero, cv_zr, ad_zr]
  | c :: L => by simp only [List.cons_append, ev]; rw [ev_snoc y L]
theorem ev_map (y : Nat → Int) (r : Int) : ∀ L : List Int, ev y (L.map (r * ·)) = sc r (ev y L)
  | [] => by simp only [List.map_nil, ev]; rw [sc_zr]
  | c :: L => by
    simp only [List.map_cons, ev]
    rw [ev_map y r L, sc_ad, cv_sc]
    congr 1
    funext j
    simp only [sc, Int.mul_assoc]
theorem ev_step (y : Nat → Int) (r : Int) (L : List Int) : ev y (stL r L) = cv (ad y (sc r one)) (ev y L) := by
  unfold stL
  rw [ev_zip _ _ _ (by simp), ev_snoc, ev_map, ad_cv, sc_cv, cv1]
  congr 1
  simp only [ev]
  rw [sc_zero, zr_ad]
theorem ev_xpd (y : Nat → Int) : ∀ rs : List Int, ev y (xpd rs) = prR y rs
  | [] => by simp only [xpd, ev, prR]; rw [cv_zr, ad_zr, sc_one]
  | r :: rs => by simp only [xpd, prR]; rw [ev_step, ev_xpd y rs]
theorem ev_mod {p : Int} (y : Nat → Int) : ∀ L : List Int, eqm p (ev y L) (ev y (L.map (· % p)))
  | [] => eqm.refl _ _
  | c :: L => by
    simp only [List.map_cons, ev]
    exact (eqm.scl _ (mod_self0 c p)).ad ((ev_mod y L).cvr y)
theorem ev_tail (y : Nat → Int) : ∀ k, ev y (List.replicate k 0 ++ [1]) = pw y k
  | 0 => by simp only [List.replicate_zero, List.nil_append, ev, pw]; rw [cv_zr, ad_zr, sc_one]
  | k + 1 => by
    rw [List.replicate_succ, List.cons_append]
    simp only [ev, pw]
    rw [ev_tail y k, sc_zero, zr_ad]
def negs (n : Nat) : List Int := (List.range n).map fun s : Nat => -(s : Int)
theorem xpd_all : ∀ p : Fin 98, primeB (p.val : Int) = true → (xpd (negs p.val)).map (· % (p.val : Int)) = 0 :: ((p.val : Int) - 1) :: (List.replicate (p.val - 2) 0 ++ [1]) := by decide +kernel
/-- The product of all y - s is y^p - y. -/
theorem prod_all {p : Int} (hs : smallP p = true) (y : Nat → Int) : eqm p (prR y (negs p.toNat)) (fun j => pw y p.toNat j - y j) := by
  have hp := smallP_bd hs
  obtain ⟨n, hn⟩ : ∃ n : Nat, p.toNat = n + 2 := ⟨p.toNat - 2, by omega⟩
  have h1 := xpd_all ⟨p.toNat, by omega⟩ (by show primeB ((p.toNat : Nat) : Int) = true; rw [show ((p.toNat : Nat) : Int) = p by omega]; exact smallP_prime hs)
  simp only at h1
  rw [show ((p.toNat : Nat) : Int) = p by omega] at h1
  rw [← ev_xpd]
  have h2 := ev_mod (p := p) y (xpd (negs p.toNat))
  rw [h1, show p.toNat - 2 = n by omega] at h2
  simp only [ev] at h2
  rw [ev_tail, sc_zero, zr_ad, cv_ad, cv_sc, cv1R] at h2
  refine h2.trans ?_
  rw [hn]
  intro j
  show ((p - 1) * y j + pw y (n + 2) j - (pw y (n + 2) j - y j)) % p = 0
  rw [show (p - 1) * y j + pw y (n + 2) j - (pw y (n + 2) j - y j) = p * y j by grind]
  exact Int.mul_emod_right _ _

/-! ### The power p of a list -/
def XX : Nat → Int := fun j => if j = 1 then 1 else 0
theorem co_cons (c : Int) (w : List Int) : co (c :: w) = ad (sc c one) (cv XX (co w)) := by
  have hx : ∀ a j, cv XX a j = if j = 0 then 0 else a (j - 1) := fun a j => by
    cases j with
    | zero => simp [cv, sumR, XX]
    | succ j =>
      rw [cv_tail]
      have : cv (fun i => XX (i + 1)) a j = cv one a j := cv_congr j (fun i => by simp [XX, one]) (fun _ => rfl)
      rw [this, cv_one]
      simp [XX]
  funext j
  simp only [ad, sc]
  rw [hx]
  cases j with
  | zero => simp [co, one]
  | succ j => simp [co, one]
/-- The list with x^p for x. -/
def sub (P : Nat → Int) : List Int → (Nat → Int)
  | [] => zr
  | c :: w => ad (sc c one) (cv P (sub P w))
theorem co_zr : co [] = zr := funext fun j => by simp [co, zr]
theorem pw_zr {n : Nat} (h : 1 ≤ n) : pw zr n = zr := by
  obtain ⟨k, rfl⟩ : ∃ k, n = k + 1 := ⟨n - 1, by omega⟩
  simp only [pw]
  rw [cvC, cv_zr]
theorem pow_p {p : Int} (hs : smallP p = true) : ∀ v : List Int, eqm p (pw (co v) p.toNat) (sub (pw XX p.toNat) v)
  | [] => by
    have hp := smallP_bd hs
    rw [co_zr, pw_zr (by omega)]
    exact eqm.refl _ _
  | c :: w => by
    rw [co_cons]
    refine (frob hs _ _).trans ?_
    simp only [sub]
    rw [pw_sc, pw_cv]
    exact (eqm.scl _ (mod_eq0 (fermat hs c))).ad ((pow_p hs w).cvr _)
end Go.Proofs.Ytflmoopiajhadaa
