/- ReadPadic, the plain part: a text that is a number's text is told by its words; both readers need only know the numerals of such texts. -/
import Derived.Test.YtdnfefkkbckmgaaGreatDoorTB5
import Derived.Test.YtdnfefkkbckmgaaGreatDoorTB1
import Derived.Test.YtdnfefkkbckmgaaGreatDoorF3
namespace Go.Proofs.YtdnfefkkbckmgaaGreatDoor
open Go Go.RowKit

/-- The words of a text between the places of a byte. -/
def splA (b : UInt8) : List UInt8 → List UInt8 → List (List UInt8)
  | acc, [] => [acc]
  | acc, c :: r => if c = b then acc :: splA b [] r else splA b (acc ++ [c]) r
theorem splA_free {b : UInt8} : ∀ (w acc rest : List UInt8), b ∉ w → splA b acc (w ++ rest) = splA b (acc ++ w) rest
  | [], acc, rest, _ => by simp
  | c :: w, acc, rest, h => by
    have h1 : c ≠ b := fun e => h (by simp [e])
    have h2 : b ∉ w := fun e => h (by simp [e])
    rw [List.cons_append, splA, if_neg h1, splA_free w _ _ h2]
    simp
theorem splA_hit (b : UInt8) (acc r : List UInt8) : splA b acc (b :: r) = acc :: splA b [] r := by rw [splA, if_pos rfl]
theorem splA_end {b : UInt8} (w : List UInt8) (h : b ∉ w) : splA b [] w = [w] := by
  have := splA_free w [] [] h
  simpa [splA] using this
theorem spl_kit (c : UInt8) : ∀ (s acc : List UInt8), ∃ hd tl, Lib.splitK [c] 0 (Lib.count s [c]) s = hd :: tl ∧ splA c acc s = (acc ++ hd) :: tl
  | [], acc => by
    refine ⟨[], [], ?_, by simp [splA]⟩
    rw [Lib.count_miss (by simp [Lib.index])]
    rfl
  | b :: l, acc => by
    by_cases hb : b = c
    · subst hb
      obtain ⟨hd, tl, h1, h2⟩ := spl_kit b l []
      refine ⟨[], hd :: tl, ?_, ?_⟩
      · have hix : Lib.index (b :: l) [b] = 0 := by rw [Lib.index]; simp [List.isPrefixOf]
        rw [Lib.count_cons_eq, Nat.add_comm, Lib.splitK, hix]
        simpa using h1
      · rw [splA_hit, h2]; simp
    · obtain ⟨hd, tl, h1, h2⟩ := spl_kit c l (acc ++ [b])
      have hp : ([c] : List UInt8).isPrefixOf (b :: l) = false := by simp [List.isPrefixOf, Ne.symm hb]
      have hix : Lib.index (b :: l) [c] = if Lib.index l [c] == -1 then -1 else Lib.index l [c] + 1 := by rw [Lib.index, hp]; simp
      refine ⟨b :: hd, tl, ?_, by rw [splA, if_neg hb, h2]; simp⟩
      rw [Lib.count_cons_ne b c l hb]
      cases hk : Lib.count l [c] with
      | zero =>
        rw [hk] at h1
        simp only [Lib.splitK, List.cons.injEq] at h1 ⊢
        exact ⟨by rw [h1.1]; exact ⟨trivial, rfl⟩, h1.2⟩
      | succ k =>
        rw [hk] at h1
        by_cases hm : Lib.index l [c] = -1
        · rw [Lib.count_miss hm] at hk; omega
        · have hge := Lib.index_ge l [c]
          obtain ⟨j, hj⟩ : ∃ j : Nat, Lib.index l [c] = j := ⟨(Lib.index l [c]).toNat, by omega⟩
          have hne : ¬ (((j : Int) == -1) = true) := fun e => by have := beq_iff_eq.1 e; omega
          have hne2 : ¬ (((j : Int) + 1 == -1) = true) := fun e => by have := beq_iff_eq.1 e; omega
          rw [Lib.splitK, hix, hj, if_neg hne, if_neg hne2]
          rw [Lib.splitK, hj, if_neg hne] at h1
          simp only [List.cons.injEq] at h1 ⊢
          have e1 : ((j : Int) + 1).toNat = j + 1 := by omega
          have e2 : ((j : Int)).toNat = j := by omega
          rw [e2] at h1
          rw [e1]
          refine ⟨?_, ?_⟩
          · rw [← h1.1]; simp
          · rw [← h1.2]; simp [Nat.add_comm, Nat.add_left_comm]
theorem kit_split (S : List UInt8) (c : UInt8) : (Lib.splitB ⟨#[c]⟩ 0 (Lib.countB ⟨S.toArray⟩ ⟨#[c]⟩) ⟨S.toArray⟩).map (·.data.toList) = splA c [] S := by
  rw [Lib.splitB_data]
  obtain ⟨hd, tl, h1, h2⟩ := spl_kit c S []
  rw [h2]
  simpa [Lib.countB] using h1

/-- Short numerals by evaluation. -/
def decX (n : Nat) : List UInt8 := if n < 10 then [UInt8.ofNat (48 + n)] else [UInt8.ofNat (48 + n / 10), UInt8.ofNat (48 + n % 10)]
def itoaX (m : Int) : List UInt8 := if m < 0 then [45] ++ decX (-m).toNat else decX m.toNat
theorem itoa_X {m : Int} (h : -100 < m ∧ m < 100) : Lib.itoa m = itoaX m := by
  have hd : ∀ n : Nat, n < 100 → Lib.decDigits n = decX n := by
    intro n hn
    unfold decX
    split
    · exact dec_small ‹_›
    · exact dec_two ‹_› hn
  unfold itoaX
  split
  · rw [itoa_neg ‹_›, hd _ (by omega)]
  · rw [itoa_pos ‹_›, hd _ (by omega)]
/-- The digits' number. -/
def valL : Int → List UInt8 → Option Int
  | acc, [] => some acc
  | acc, c :: r => if 48 ≤ c.toNat ∧ c.toNat ≤ 57 then valL (10 * acc + ((c.toNat : Int) - 48)) r else none
def okNum (m : Int) : Bool :=
  (match Lib.parseIntB 64 (itoaX m) with | .ok v => v == m | _ => false) &&
  !((58 : UInt8) ∈ itoaX m) && !((44 : UInt8) ∈ itoaX m) && (itoaX m != [45]) && decide (1 ≤ (itoaX m).length) && decide ((itoaX m).length ≤ 3) &&
  (if 0 ≤ m then valL 0 (itoaX m) == some m && (itoaX m).head? != some 45 else valL 0 (itoaX m).tail == some (-m) && (itoaX m).head? == some 45)
theorem okNum_all : ∀ k : Fin 199, okNum ((k : Int) - 99) = true := by decide +kernel
theorem okNum_at {m : Int} (h : -100 < m ∧ m < 100) : okNum m = true := by
  have := okNum_all ⟨(m + 99).toNat, by omega⟩
  rwa [show (((⟨(m + 99).toNat, by omega⟩ : Fin 199) : Nat) : Int) - 99 = m by show ((m + 99).toNat : Int) - 99 = m; omega] at this
theorem num_facts {m : Int} (h : -100 < m ∧ m < 100) : Lib.parseIntB 64 (Lib.itoa m) = .ok m ∧ (58 : UInt8) ∉ Lib.itoa m ∧ (44 : UInt8) ∉ Lib.itoa m ∧ Lib.itoa m ≠ [45] ∧ 1 ≤ (Lib.itoa m).length ∧ (Lib.itoa m).length ≤ 3 ∧
    (0 ≤ m → valL 0 (Lib.itoa m) = some m ∧ (Lib.itoa m).head? ≠ some 45) ∧ (¬ 0 ≤ m → valL 0 (Lib.itoa m).tail = some (-m) ∧ (Lib.itoa m).head? = some 45) := by
  have := okNum_at h
  rw [itoa_X h]
  unfold okNum at this
  simp only [Bool.and_eq_true] at this
  obtain ⟨⟨⟨⟨⟨⟨h1, h2⟩, h3⟩, h4⟩, h5⟩, h6⟩, h7⟩ := this
  refine ⟨?_, by simpa using h2, by simpa using h3, by simpa using h4, of_decide_eq_true h5, of_decide_eq_true h6, ?_, ?_⟩
  · cases hp : Lib.parseIntB 64 (itoaX m) with
    | ok v => rw [hp] at h1; simp at h1; rw [h1]
    | «syntax» => rw [hp] at h1; simp at h1
    | range => rw [hp] at h1; simp at h1
  · intro h0; rw [if_pos h0] at h7; simpa using h7
  · intro h0; rw [if_neg h0] at h7; simpa using h7
theorem itoa_inj {m k : Int} (h : -100 < m ∧ m < 100) (h' : -100 < k ∧ k < 100) (e : Lib.itoa m = Lib.itoa k) : m = k := by
  have h1 := (num_facts h).1
  have h2 := (num_facts h').1
  rw [e, h2] at h1
  injection h1 with h1
  exact h1.symm

theorem joinL_cons (d : Int) (ds : List Int) : joinL (d :: ds) = if ds = [] then Lib.itoa d else Lib.itoa d ++ [44] ++ joinL ds := by
  unfold joinL Lib.join
  cases ds with
  | nil => simp [List.intercalate]
  | cons e es => simp [List.intercalate]
theorem spl_join : ∀ ds : List Int, ds ≠ [] → (∀ d ∈ ds, 0 ≤ d ∧ d < 100) → splA 44 [] (joinL ds) = ds.map Lib.itoa ∧ (58 : UInt8) ∉ joinL ds
  | [], h, _ => absurd rfl h
  | d :: ds, _, hd => by
    have h0 := hd d (by simp)
    have hf := num_facts (m := d) (by omega)
    rw [joinL_cons]
    by_cases hn : ds = []
    · subst hn
      rw [if_pos rfl]
      exact ⟨by rw [splA_end _ hf.2.2.1]; rfl, hf.2.1⟩
    · rw [if_neg hn]
      obtain ⟨i1, i2⟩ := spl_join ds hn (fun x hx => hd x (by simp [hx]))
      refine ⟨?_, ?_⟩
      · rw [List.append_assoc, splA_free _ _ _ hf.2.2.1, List.nil_append, List.singleton_append, splA_hit, i1]
        rfl
      · simp only [List.mem_append, List.mem_singleton, not_or]
        exact ⟨⟨hf.2.1, by decide⟩, i2⟩
theorem join_dash {ds : List Int} (h : ds ≠ []) (hd : ∀ d ∈ ds, 0 ≤ d ∧ d < 100) : joinL ds ≠ [45] := by
  intro e
  have h1 := (spl_join ds h hd).1
  rw [e, splA_end [45] (by decide)] at h1
  cases ds with
  | nil => exact h rfl
  | cons d t =>
    simp only [List.map_cons, List.cons.injEq] at h1
    have h0 := hd d (by simp)
    exact (num_facts (m := d) (by omega)).2.2.2.1 h1.1.symm
theorem map_itoa_inj : ∀ {xs ys : List Int}, (∀ d ∈ xs, 0 ≤ d ∧ d < 100) → (∀ d ∈ ys, 0 ≤ d ∧ d < 100) → xs.map Lib.itoa = ys.map Lib.itoa → xs = ys
  | [], [], _, _, _ => rfl
  | [], _ :: _, _, _, h => by simp at h
  | _ :: _, [], _, _, h => by simp at h
  | x :: xs, y :: ys, hx, hy, h => by
    simp only [List.map_cons, List.cons.injEq] at h
    have h1 := hx x (by simp)
    have h2 := hy y (by simp)
    rw [itoa_inj (by omega) (by omega) h.1, map_itoa_inj (fun d hd => hx d (by simp [hd])) (fun d hd => hy d (by simp [hd])) h.2]

def dgs (x : Pd) : List Int := if x.n = 0 then [] else digs x.p x.u x.n.toNat
/-- The text is that of a number that its own digits give again. -/
def goodT (S : List UInt8) (x : Pd) : Prop := padicB x.p x.v x.u x.n = true ∧ textL x.p x.v x.u x.n = S ∧ fdF x.p x.v (dgs x) = (x, 0)
def numP (a : List UInt8) (n : Int) : Prop := ∀ m : Int, 0 ≤ m ∧ m < 100 → a = Lib.itoa m → n = m
def numV (a : List UInt8) (n : Int) : Prop := ∀ m : Int, -100 < m ∧ m < 100 → a = Lib.itoa m → n = m
def lstD (c : List UInt8) (xs : List Int) : Prop := (c = [45] → xs = []) ∧ ∀ ds : List Int, ds ≠ [] → (∀ d ∈ ds, 0 ≤ d ∧ d < 100) → c = joinL ds → xs = ds
theorem dgs_facts {x : Pd} (h : padicB x.p x.v x.u x.n = true) : (x.n ≠ 0 → dgs x ≠ [] ∧ tailL x.p x.u x.n = joinL (dgs x)) ∧ (x.n = 0 → dgs x = [] ∧ tailL x.p x.u x.n = [45]) ∧ (∀ d ∈ dgs x, 0 ≤ d ∧ d < 100) := by
  obtain ⟨hp, hv, hu, hn, hb⟩ := padic_facts h
  refine ⟨fun h0 => ?_, fun h0 => ?_, ?_⟩
  · unfold dgs tailL
    rw [if_neg h0, if_neg h0]
    refine ⟨?_, rfl⟩
    intro e
    have := digs_len x.p x.u x.n.toNat
    rw [e] at this
    simp at this
    omega
  · unfold dgs tailL
    rw [if_pos h0, if_pos h0]
    exact ⟨rfl, rfl⟩
  · unfold dgs
    split
    · intro d hd; simp at hd
    · exact digs_bd hp _
theorem text_words {x : Pd} (h : padicB x.p x.v x.u x.n = true) : splA 58 [] (textL x.p x.v x.u x.n) = [Lib.itoa x.p, Lib.itoa x.v, tailL x.p x.u x.n] := by
  obtain ⟨hp, hv, hu, hn, hb⟩ := padic_facts h
  obtain ⟨g1, g2, g3⟩ := dgs_facts h
  have ht : (58 : UInt8) ∉ tailL x.p x.u x.n := by
    by_cases h0 : x.n = 0
    · rw [(g2 h0).2]; decide
    · rw [(g1 h0).2]; exact (spl_join _ (g1 h0).1 g3).2
  unfold textL
  rw [List.append_assoc, List.append_assoc, List.append_assoc, splA_free _ _ _ (num_facts (m := x.p) (by omega)).2.1, List.nil_append, List.singleton_append, splA_hit, splA_free _ _ _ (num_facts (m := x.v) (by omega)).2.1, List.nil_append, List.singleton_append, splA_hit, splA_end _ ht]
theorem read_short {S : List UInt8} (h : (splA 58 [] S).length ≠ 3) : ∀ y, ¬ goodT S y := by
  rintro y ⟨h1, h2, _⟩
  rw [← h2, text_words h1] at h
  exact h rfl
theorem read_from {S a b c : List UInt8} {p v : Int} {xs : List Int} (hs : splA 58 [] S = [a, b, c]) (hp : numP a p) (hv : numV b v) (hx : lstD c xs) : ∀ y, goodT S y → fdF p v xs = (y, 0) := by
  rintro y ⟨h1, h2, h3⟩
  have hw := text_words h1
  rw [h2, hs] at hw
  simp only [List.cons.injEq, and_true] at hw
  obtain ⟨rfl, rfl, rfl⟩ := hw
  obtain ⟨ip, iv, iu, i4, ib⟩ := padic_facts h1
  rw [hp y.p (by omega) rfl, hv y.v (by omega) rfl]
  obtain ⟨g1, g2, g3⟩ := dgs_facts h1
  by_cases h0 : y.n = 0
  · rw [hx.1 (g2 h0).2, ← (g2 h0).1]; exact h3
  · rw [hx.2 _ (g1 h0).1 g3 (g1 h0).2]; exact h3
theorem read_good {S a b c : List UInt8} {p v : Int} {xs : List Int} {x : Pd} (hs : splA 58 [] S = [a, b, c]) (hp : numP a p) (hv : numV b v) (hx : lstD c xs) (hf : fdF p v xs = (x, 0)) (hval : padicB x.p x.v x.u x.n = true) (ht : textL x.p x.v x.u x.n = S) : goodT S x := by
  refine ⟨hval, ht, ?_⟩
  have hw := text_words hval
  rw [ht, hs] at hw
  simp only [List.cons.injEq, and_true] at hw
  obtain ⟨rfl, rfl, rfl⟩ := hw
  obtain ⟨ip, iv, iu, i4, ib⟩ := padic_facts hval
  rw [hp x.p (by omega) rfl, hv x.v (by omega) rfl] at hf
  obtain ⟨g1, g2, g3⟩ := dgs_facts hval
  by_cases h0 : x.n = 0
  · rw [hx.1 (g2 h0).2] at hf; rw [(g2 h0).1]; exact hf
  · rw [hx.2 _ (g1 h0).1 g3 (g1 h0).2] at hf; exact hf
/-- What both texts answer. -/
def resT (S : List UInt8) (x : Pd) (c : Int) : Prop := (c = 0 ∧ goodT S x) ∨ (c = 6 ∧ x = ⟨0, 0, 0, 0⟩ ∧ ∀ y, ¬ goodT S y)
theorem good_one {S : List UInt8} {x y : Pd} (hx : goodT S x) (hy : goodT S y) : x = y := by
  obtain ⟨h1, h2, h3⟩ := hx
  obtain ⟨ip, iv, iu, i4, ib⟩ := padic_facts h1
  obtain ⟨g1, g2, g3⟩ := dgs_facts h1
  have hw := text_words h1
  rw [h2] at hw
  have := read_from (p := x.p) (v := x.v) (xs := dgs x) hw (fun m hm e => itoa_inj (by omega) (by omega) e) (fun m hm e => itoa_inj (by omega) (by omega) e) ⟨fun e => ?_, fun ds hd hb e => ?_⟩ y hy
  · rw [h3] at this; exact (Prod.mk.inj this).1
  · by_cases h0 : x.n = 0
    · exact (g2 h0).1
    · rw [(g1 h0).2] at e; exact absurd e (join_dash (g1 h0).1 g3)
  · by_cases h0 : x.n = 0
    · rw [(g2 h0).2] at e; exact absurd e.symm (join_dash hd hb)
    · rw [(g1 h0).2] at e
      have e2 := congrArg (splA 44 []) e
      rw [(spl_join _ (g1 h0).1 g3).1, (spl_join _ hd hb).1] at e2
      exact map_itoa_inj g3 hb e2
theorem res_one {S : List UInt8} {x y : Pd} {c d : Int} (h : resT S x c) (h' : resT S y d) : x = y ∧ c = d := by
  rcases h with ⟨rfl, h⟩ | ⟨rfl, rfl, h⟩ <;> rcases h' with ⟨rfl, h'⟩ | ⟨rfl, rfl, h'⟩
  · exact ⟨good_one h h', rfl⟩
  · exact absurd h (h' _)
  · exact absurd h' (h _)
  · exact ⟨rfl, rfl⟩
theorem fd_valid {p v : Int} {xs : List Int} (h : (fdF p v xs).2 = 0) : padicB (fdF p v xs).1.p (fdF p v xs).1.v (fdF p v xs).1.u (fdF p v xs).1.n = true := by
  unfold fdF at h ⊢
  split at h
  · split at h
    · split at h
      · rw [if_pos ‹_›, if_pos ‹_›, if_pos ‹_›]
        unfold limF at h ⊢
        split at h
        · rw [if_pos ‹_›]; assumption
        · simp at h
      · simp at h
    · simp at h
  · simp at h
end Go.Proofs.YtdnfefkkbckmgaaGreatDoor
