/- The program's readers: ParseInt at every text, readDecimal, Split. -/
import Derived.Test.YtdnfefkkbckmgaaGreatDoorTB2
namespace Go.Proofs.YtdnfefkkbckmgaaGreatDoor
open Go Go.RowKit

/-- What the library's functions read stands, whatever is done from block B on. -/
def libB (B : Nat) (w : World) : Prop := ∀ w', Below B w w' → Lib.TabIs Tryz.prog w' "internal/strconv.uint64pow10" .u64 Lib.pow10Tab ∧ (∃ m, w'.cell? ⟨0, 0, none⟩ = some (.int .i64 m)) ∧
  (∃ tp p, w'.var? Tryz.prog "strconv.ErrSyntax" = some #[.iface tp p]) ∧ (∃ tp p, w'.var? Tryz.prog "strconv.ErrRange" = some #[.iface tp p])
theorem libB.on {B : Nat} {w w' : World} (h : libB B w) (hb : Below B w w') : libB B w' := fun w2 h2 => h w2 (hb.trans h2)
theorem libB.ext {w w' : World} (h : libB w.heap.size w) (hb : Ext w.heap.size w w') : libB w'.heap.size w' := fun w2 h2 => h w2 (hb.1.trans (h2.mono hb.2))
theorem libB.tab {B : Nat} {w : World} (h : libB B w) : tabB B w := fun w' hb => (h w' hb).1

/-- A slice of texts that can be read. -/
def rdT (w : World) (v : Value) (ws : List (List UInt8)) : Prop :=
  ∃ b cap, v = .slice (some ⟨b, 0, none⟩) ws.length cap ∧ ws.length ≤ 2000000 ∧ (∀ l ∈ ws, l.length ≤ 2000000) ∧ b < w.heap.size ∧ ∀ i (h : i < ws.length), w.cell? ⟨b, i, none⟩ = some (.string ⟨ws[i].toArray⟩)
theorem rdT.below {w w' : World} {v : Value} {ws : List (List UInt8)} (h : rdT w v ws) (hb : Below w.heap.size w w') : rdT w' v ws := by
  obtain ⟨b, cap, rfl, h1, h2, h3, h4⟩ := h
  exact ⟨b, cap, rfl, h1, h2, Nat.lt_of_lt_of_le h3 hb.size, fun i hi => (hb.cell (p := ⟨b, i, none⟩) h3).trans (h4 i hi)⟩
theorem rdT.aft {w : World} {v : Value} {ws : List (List UInt8)} (h : rdT w v ws) (u : World) : rdT (aft w u) v ws := h.below (below_aft w u)
theorem rdT.alloc {w : World} {v : Value} {ws : List (List UInt8)} (h : rdT w v ws) (o : Obj) : rdT (w.alloc o) v ws := h.below (Below.alloc (Below.refl _ _) (Nat.le_refl _) o)
theorem rdT.drew {w : World} {v : Value} {ws : List (List UInt8)} (h : rdT w v ws) : rdT w.drew v ws := h.below (Below.drew (Below.refl _ _))
theorem splA_len (b : UInt8) : ∀ (S acc : List UInt8), 1 ≤ (splA b acc S).length ∧ (splA b acc S).length ≤ S.length + 1 ∧ ∀ l ∈ splA b acc S, l.length ≤ acc.length + S.length
  | [], acc => by simp [splA]
  | c :: r, acc => by
    by_cases h : c = b
    · obtain ⟨h1, h2, h3⟩ := splA_len b r []
      rw [splA, if_pos h]
      refine ⟨by simp, by simp; omega, fun l hl => ?_⟩
      simp only [List.mem_cons] at hl
      rcases hl with rfl | hl
      · simp
      · have := h3 l hl; simp at this ⊢; omega
    · obtain ⟨h1, h2, h3⟩ := splA_len b r (acc ++ [c])
      rw [splA, if_neg h]
      exact ⟨h1, by simp; omega, fun l hl => by have := h3 l hl; simp at this ⊢; omega⟩
theorem k_split (S : List UInt8) (c : UInt8) (w : World) (hl : S.length ≤ 1048576) (hm : ∃ m, w.cell? ⟨0, 0, none⟩ = some (.int .i64 m)) :
    Calls Tryz.prog 19 #[.string ⟨S.toArray⟩, .string ⟨#[c]⟩] w fun e w' => ∃ r, e = .returned r ∧ rdT w' r (splA c [] S) ∧ Below w.heap.size w w' := by
  obtain ⟨m, hm⟩ := hm
  have hz : (⟨S.toArray⟩ : ByteArray).size = S.length := by simp [ByteArray.size]
  have hc : (⟨#[c]⟩ : ByteArray).size = 1 := rfl
  refine (Any.strings_Split { laysM146 with } laysM146.i9 ⟨S.toArray⟩ ⟨#[c]⟩ m w (by omega) hm (by omega)).mono ?_
  rintro e w' ⟨rfl, rfl⟩
  have hk := kit_split S c
  have hlen : (splA c [] S).length = Lib.countB ⟨S.toArray⟩ ⟨#[c]⟩ + 1 := by
    rw [← hk, List.length_map, Lib.splitB_all _ (by omega) 0 _ _ rfl]
  obtain ⟨h1, h2, h3⟩ := splA_len c S []
  refine ⟨_, rfl, ⟨w.heap.size, _, by rw [hlen], by omega, fun l hl' => by have := h3 l hl'; rw [List.length_nil] at this; omega, by simp, fun i hi => ?_⟩, Below.alloc (Below.refl _ _) (Nat.le_refl _) _⟩
  rw [alloc_cell, if_pos rfl]
  have hi2 : i < (Lib.splitB ⟨#[c]⟩ 0 (Lib.countB ⟨S.toArray⟩ ⟨#[c]⟩) ⟨S.toArray⟩).length := by rw [Lib.splitB_all _ (by omega) 0 _ _ rfl]; omega
  have hg : (splA c [] S)[i] = ((Lib.splitB ⟨#[c]⟩ 0 (Lib.countB ⟨S.toArray⟩ ⟨#[c]⟩) ⟨S.toArray⟩)[i]).data.toList := by
    have : (splA c [] S)[i]? = some (((Lib.splitB ⟨#[c]⟩ 0 (Lib.countB ⟨S.toArray⟩ ⟨#[c]⟩) ⟨S.toArray⟩)[i]).data.toList) := by
      rw [← hk, List.getElem?_map, List.getElem?_eq_getElem hi2]; rfl
    rw [List.getElem?_eq_getElem hi] at this
    exact Option.some.inj this
  rw [hg]
  simp [List.getElem?_eq_getElem hi2]

def numE (S : List UInt8) (v : Int) (ok : Bool) : Prop := ∀ m : Int, -100 < m ∧ m < 100 → S = Lib.itoa m → v = m ∧ ok = true
theorem i_parse (S : List UInt8) (w : World) (hl : S.length ≤ 2000000) (h : libB w.heap.size w) :
    Calls Tryz.prog 42 #[.string ⟨S.toArray⟩, .int .i64 10, .int .i64 64] w fun e w' => ∃ v ev, e = .returned (.tuple #[.int .i64 v, ev]) ∧ (-9223372036854775808 ≤ v ∧ v ≤ 9223372036854775807) ∧
      ((ev = .nilIface ∧ numE S v true) ∨ ((∃ tp p, ev = .iface tp p) ∧ ∀ m : Int, -100 < m ∧ m < 100 → S ≠ Lib.itoa m)) ∧ Below w.heap.size w w' := by
  have hz : (⟨S.toArray⟩ : ByteArray).size = S.length := by simp [ByteArray.size]
  obtain ⟨_, _, ⟨ts, ps, hs⟩, ⟨tr, pr, hr⟩⟩ := h w (Below.refl _ _)
  have hcan : ∀ m : Int, -100 < m ∧ m < 100 → S = Lib.itoa m → Lib.parseIntB 64 S = .ok m := fun m hm e => by rw [e]; exact (num_facts hm).1
  cases hp : Lib.parseIntB 64 S with
  | ok v =>
    refine (Any.strconv_ParseInt_10_at64_ok laysC174 ⟨S.toArray⟩ (by omega) v hp w).mono ?_
    rintro e w' ⟨rfl, hw⟩
    refine ⟨v, .nilIface, rfl, ?_, .inl ⟨rfl, fun m hm e => ⟨?_, rfl⟩⟩, ?_⟩
    · unfold Lib.parseIntB at hp
      split at hp
      · simp at hp
      · dsimp only at hp
        split at hp
        · simp at hp
        · simp at hp
        · split at hp
          · simp at hp
          · split at hp
            · simp at hp
            · simp only [Lib.NumEnd.ok.injEq] at hp
              subst hp
              split <;> omega
    · have := hcan m hm e
      rw [hp] at this
      injection this
    · rcases hw with rfl | ⟨t, rfl⟩
      · exact Below.refl _ _
      · exact Lib.bytesWorld_below _ _ _
  | «syntax» =>
    refine (Any.strconv_ParseInt_10_at64_syntax_var laysC174 ⟨S.toArray⟩ (by omega) hp ts ps w hs).mono ?_
    rintro e w' ⟨N, rfl, _, _, hb⟩
    exact ⟨0, _, rfl, by omega, .inr ⟨⟨_, _, rfl⟩, fun m hm e => by have := hcan m hm e; rw [hp] at this; simp at this⟩, hb⟩
  | range =>
    refine (Any.strconv_ParseInt_10_at64_range_var laysC174 ⟨S.toArray⟩ (by omega) hp tr pr w hr).mono ?_
    rintro e w' ⟨N, rfl, _, _, hb⟩
    refine ⟨Lib.intSat 64 S, _, rfl, ?_, .inr ⟨⟨_, _, rfl⟩, fun m hm e => by have := hcan m hm e; rw [hp] at this; simp at this⟩, hb⟩
    unfold Lib.intSat
    split <;> omega
set_option maxHeartbeats 1000000 in
theorem i_readDecimal (S : List UInt8) (w : World) (hl : S.length ≤ 2000000) (h : libB w.heap.size w) :
    Calls Tryz.prog 20 #[.string ⟨S.toArray⟩] w fun e w' => ∃ v ok, e = .returned (.tuple #[.int .i64 v, .bool ok]) ∧ numE S v ok ∧ Below w.heap.size w w' := by
  have HP := hid (i_parse S w hl h)
  have HL := hid h
  clear h
  go_enter Tryz.func20, Tryz.ntmps20
  go_wp2_with fail
  refine HP.out.mono ?_
  rintro e w1 ⟨v, ev, rfl, hv, hev, hb⟩
  obtain ⟨u, rfl⟩ := aft_ex hb
  have HD := hid (i_decimal v (aft w u) hv (HL.out _ hb).1)
  rcases hev with ⟨rfl, hn⟩ | ⟨⟨tp, p, rfl⟩, hn⟩
  · have HN := hid hn
    clear hn hb
    go_wp2_with fail
    refine via HD.out ?_
    intro u2 z2
    go_wp2_with fail
    go_ret2
    refine ⟨_, _, rfl, fun m hm e => ?_, (by refine Ext.bel ?_; repeat (with_reducible first | exact Ext.refl _ | apply Ext.alloc | apply Ext.aft | apply Ext.drew | apply Ext.drewN | apply Ext.setCell | exact Nat.le_add_right _ _ | exact Nat.le_refl _ | (simp; done) | omega))⟩
    obtain ⟨rfl, _⟩ := HN.out m hm e
    exact ⟨rfl, by rw [e]; simp⟩
  · have HN := hid hn
    clear hn hb
    go_wp2_with fail
    go_ret2
    exact ⟨_, _, rfl, fun m hm e => absurd e (HN.out m hm), (by refine Ext.bel ?_; repeat (with_reducible first | exact Ext.refl _ | apply Ext.alloc | apply Ext.aft | apply Ext.drew | apply Ext.drewN | apply Ext.setCell | exact Nat.le_add_right _ _ | exact Nat.le_refl _ | (simp; done) | omega))⟩
end Go.Proofs.YtdnfefkkbckmgaaGreatDoor
