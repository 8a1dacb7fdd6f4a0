/- Part 4 of what the law FnLine stands on; the last part ends with the law's row. No condition of mine. -/
import Derived.Lib.SpaceUEq
import Derived.Lib.FieldsP
import Derived.Test.YteipfgcnfeclgaaMFnLine3
import Derived.Test.YteipfgcnfeclgaaMFnLine2
import Derived.Test.YteipfgcnfeclgaaRows
import Derived.WalkKit
import Derived.ProofKit
import Derived.OpenShut
import Derived.ShutString
import Derived.ChangeOld
import Derived.Below
import Derived.SizedLaws
import Derived.Carry
/- Lemmas of mine: a text in one line, by the program and by the reference. Plain. -/
set_option linter.unusedVariables false
set_option linter.unusedSimpArgs false
namespace Go.Proofs.Yteipfgcnfeclgaa.P
open Go.RowKit Go.Proofs.YteipfgcnfeclgaaW.PrintWords
def mkL (l : List UInt8) : ByteArray := ⟨l.toArray⟩
theorem bl_mkL (l : List UInt8) : bl (mkL l) = l := bl_mk l
/-- A blank. -/
def bk (b : UInt8) : Bool := decide (b.toNat = 9 ∨ b.toNat = 10 ∨ b.toNat = 13 ∨ b.toNat = 32)
theorem bk_iff (b : UInt8) : bk b = true ↔ (b.toNat = 9 ∨ b.toNat = 10 ∨ b.toNat = 13 ∨ b.toNat = 32) := decide_eq_true_iff
theorem sp_iff (b : UInt8) : b.toNat = 32 ↔ b = 32 := ⟨fun h => UInt8.toNat_inj.1 (h.trans rfl), fun h => by rw [h]; rfl⟩
def lastSp (l : List UInt8) : Bool := decide (l[l.length - 1]? = some 32)
def stepL (out : List UInt8) (b : UInt8) : List UInt8 := if bk b = true then (if out = [] ∨ lastSp out = true then out else out ++ [32]) else out ++ [b]
def endL (out : List UInt8) : List UInt8 := if lastSp out = true then out.take (out.length - 1) else out
def lineL (l : List UInt8) : List UInt8 := endL (l.foldl stepL [])
theorem stepL_len (out : List UInt8) (b : UInt8) : (stepL out b).length ≤ out.length + 1 := by
  unfold stepL
  split
  · split
    · omega
    · rw [List.length_append]; simp
  · rw [List.length_append]; simp
theorem foldL_len : ∀ (l out : List UInt8), (l.foldl stepL out).length ≤ out.length + l.length
  | [], out => by simp
  | b :: l, out => by
    have h1 := foldL_len l (stepL out b)
    have h2 := stepL_len out b
    rw [List.foldl_cons, List.length_cons]
    omega
theorem endL_len (out : List UInt8) : (endL out).length ≤ out.length := by
  unfold endL
  split
  · rw [List.length_take]; omega
  · omega
theorem lineL_len (l : List UInt8) : (lineL l).length ≤ l.length := by
  have h1 := foldL_len l []
  have h2 := endL_len (l.foldl stepL [])
  unfold lineL
  simp only [List.length_nil] at h1
  omega
-- the reference
theorem blank_eq (b : UInt8) : spec_l05Blank.f (b.toNat : Int) = some (bk b) := by
  unfold spec_l05Blank.f
  cases hb : bk b with
  | true =>
    rcases (bk_iff b).1 hb with h | h | h | h
    · rw [if_neg (by omega), if_pos (by omega)]
    · rw [if_neg (by omega), if_neg (by omega), if_pos (by omega)]
    · rw [if_neg (by omega), if_neg (by omega), if_neg (by omega), h]; rfl
    · rw [if_pos (by omega)]
  | false =>
    have hn : ¬ (b.toNat = 9 ∨ b.toNat = 10 ∨ b.toNat = 13 ∨ b.toNat = 32) := fun h => by rw [(bk_iff b).2 h] at hb; cases hb
    rw [if_neg (by omega), if_neg (by omega), if_neg (by omega)]
    have : ((b.toNat : Int) == 13) = false := beq_eq_false_iff_ne.mpr (by omega)
    rw [this]
theorem last_rd (out : List UInt8) (h : out ≠ []) : (rd (nb out) (((out.length : Nat) : Int) - 1) = 32) ↔ lastSp out = true := by
  have hpos := List.length_pos_iff.2 h
  have e : ((out.length : Nat) : Int) - 1 = ((out.length - 1 : Nat) : Int) := by omega
  rw [e, rd_nb out _ (by omega)]
  unfold lastSp
  rw [List.getElem?_eq_getElem (by omega), decide_eq_true_iff]
  generalize out[out.length - 1]'(by omega) = c
  constructor
  · intro q
    have h2 : c.toNat = 32 := by omega
    rw [(sp_iff c).1 h2]
  · intro q; rw [Option.some.inj q]; rfl
theorem specL_l0 (s : ByteArray) (hs : s.size ≤ 65536) : ∀ (d i : Nat) (out : List UInt8), i + d = (bl s).length → out.length ≤ i → Ev (fun k => spec_l06Line.l0 k s (nb out) (i : Int)) (mkL (endL (((bl s).drop i).foldl stepL out))) := by
  have hsz := bl_size s
  intro d
  induction d with
  | zero =>
    intro i out hi ho
    rw [List.drop_eq_nil_of_le (by omega), List.foldl_nil]
    refine Ev.step (f := fun _ => some _) (fun k => ?_) (Ev.now _)
    simp only [spec_l06Line.l0, nb_length]
    rw [if_neg (by omega)]
    unfold endL
    by_cases hz : out = []
    · subst hz
      rw [if_neg (by simp), if_neg (by decide), strOf_nb]; rfl
    · have hpos := List.length_pos_iff.2 hz
      have e : wrap64 (((out.length : Nat) : Int) - 1) = ((out.length : Nat) : Int) - 1 := w64 (by omega) (by omega)
      rw [if_pos (by omega), e, if_pos (by omega), if_pos (by omega)]
      by_cases hl : lastSp out = true
      · have e2 : (((out.length : Nat) : Int) - 1).toNat = out.length - 1 := by omega
        rw [if_pos ((last_rd out hz).2 hl), if_pos (by omega), if_pos hl, e2]
        have e3 : (nb out).take (out.length - 1) = nb (out.take (out.length - 1)) := by simp [nb]
        rw [e3, strOf_nb]; rfl
      · rw [if_neg (fun q => hl ((last_rd out hz).1 q)), if_neg hl, strOf_nb]; rfl
  | succ d ih =>
    intro i out hi ho
    have hlt : i < (bl s).length := by omega
    have hv := bt_eq s i hlt
    rw [List.drop_eq_getElem_cons hlt, List.foldl_cons]
    generalize (bl s)[i]'hlt = b at hv
    have hn := ih (i + 1) (stepL out b) (by omega) (by have := stepL_len out b; omega)
    refine Ev.step (fun k => ?_) hn
    have w1 : Aside0 (wrap64 ((i : Int) + 1) = ((i + 1 : Nat) : Int)) := ⟨w64s i (by omega)⟩
    simp only [spec_l06Line.l0, hv, blank_eq, bS, nb_length, w1.out]
    rw [if_pos (by omega), if_pos (by omega)]
    unfold stepL
    cases hb : bk b with
    | true =>
      rw [if_pos rfl, if_pos rfl]
      by_cases hz : out = []
      · subst hz
        rw [if_neg (by simp), if_pos (.inl rfl)]
      · have hpos := List.length_pos_iff.2 hz
        have e : wrap64 (((out.length : Nat) : Int) - 1) = ((out.length : Nat) : Int) - 1 := w64 (by omega) (by omega)
        rw [if_pos (by omega), e, if_pos (by omega), if_pos (by omega)]
        by_cases hl : lastSp out = true
        · rw [if_pos ((last_rd out hz).2 hl), if_pos (.inr hl)]
        · rw [if_neg (fun q => hl ((last_rd out hz).1 q)), if_pos (by omega), if_neg (fun q => q.elim hz hl), nb_append]
          rfl
    | false =>
      rw [if_neg (show ¬ (false = true) by decide), if_neg (show ¬ (false = true) by decide), if_pos (by omega), nb_append]
      rfl
theorem specOne_ev (s : ByteArray) (hs : s.size ≤ 65536) : Ev (fun k => spec_OneLine.f k s) (mkL (lineL (bl s)), 0) := by
  have h := specL_l0 s hs (bl s).length 0 [] (by omega) (by simp)
  rw [List.drop_zero] at h
  refine Ev.congr (f := fun k => (spec_l06Line.f k s).bind fun t101 => some (t101, 0)) (fun k => ?_) (Ev.bind (a := mkL (lineL (bl s))) h (Ev.now _))
  simp only [spec_OneLine.f]
  exact if_neg (by omega)
-- the program
theorem lit_eq (n : Nat) : ((impl_oneLine_L1.f (n : Int)) == some true) = decide (n = 9 ∨ n = 10 ∨ n = 13 ∨ n = 32) := by
  unfold impl_oneLine_L1.f impl_isBlank.f
  by_cases h : (n : Int) < 128
  · have e : (n : Int) % 256 = (n : Int) := by omega
    rw [if_pos h, e]
    by_cases h9 : n = 9
    · subst h9; rfl
    · by_cases h10 : n = 10
      · subst h10; rfl
      · by_cases h13 : n = 13
        · subst h13; rfl
        · by_cases h32 : n = 32
          · subst h32; rfl
          · rw [if_neg (by omega), if_neg (by omega), if_neg (by omega), decide_eq_false (by omega)]
            have : ((n : Int) == 32) = false := beq_eq_false_iff_ne.mpr (by omega)
            rw [this]; rfl
  · rw [if_neg h, decide_eq_false (by omega)]; rfl
/-- The same scan, byte by byte. -/
def scanB (L : List UInt8) : Nat → Nat → Option Nat → List (Nat × Nat) → List (Nat × Nat) × Option Nat
  | 0, _, st, acc => (acc, st)
  | m + 1, pos, st, acc =>
    if (L[pos]?.map bk) = some true then
      (match st with
       | some a => scanB L m (pos + 1) none (acc ++ [(a, pos)])
       | none => scanB L m (pos + 1) none acc)
    else
      (match st with
       | some a => scanB L m (pos + 1) (some a) acc
       | none => scanB L m (pos + 1) (some pos) acc)
theorem scan_skip (L : List UInt8) (a : Nat) (acc : List (Nat × Nat)) : ∀ (n m pos : Nat), (∀ j, j < n → (L[pos + j]?.map bk) ≠ some true) → scanB L (m + n) pos (some a) acc = scanB L m (pos + n) (some a) acc
  | 0, m, pos, _ => rfl
  | n + 1, m, pos, h => by
    have h0 := h 0 (by omega)
    rw [Nat.add_zero] at h0
    have ih := scan_skip L a acc n m (pos + 1) (fun j hj => by have := h (j + 1) (by omega); rw [show pos + 1 + j = pos + (j + 1) by omega]; exact this)
    rw [show m + (n + 1) = (m + n) + 1 by omega, scanB, if_neg h0]
    show scanB L (m + n) (pos + 1) (some a) acc = _
    rw [ih, show pos + 1 + n = pos + (n + 1) by omega]
theorem not_bk_big (b : UInt8) (h : 128 ≤ b.toNat) : bk b ≠ true := fun q => by have := (bk_iff b).1 q; omega
theorem spans_eq (s : ByteArray) (P : Nat → Bool) (hP : ∀ n, P n = decide (n = 9 ∨ n = 10 ∨ n = 13 ∨ n = 32)) : ∀ (m f pos : Nat) (st : Option Nat) (acc : List (Nat × Nat)), pos + m = (bl s).length → m ≤ f →
    Lib.spansFromP P s f pos st acc = scanB (bl s) m pos st acc := by
  have hsz := bl_size s
  intro m
  induction m using Nat.strongRecOn with
  | ind m ih =>
    intro f pos st acc hm hf
    cases m with
    | zero =>
      rw [Lib.spansFromP_end _ s f pos st acc (by omega)]
      rfl
    | succ m =>
      obtain ⟨f, rfl⟩ : ∃ g, f = g + 1 := ⟨f - 1, by omega⟩
      have hlt : pos < (bl s).length := by omega
      have hg : (bl s)[pos]? = some ((bl s)[pos]'hlt) := List.getElem?_eq_getElem hlt
      have hD : ∀ i (h : i < (bl s).length), (s.data.toList.getD i 0).toNat = ((bl s)[i]'h).toNat := fun i h => by
        show ((bl s).getD i 0).toNat = _
        rw [List.getD_eq_getElem?_getD, List.getElem?_eq_getElem h]; rfl
      have hdec := Lib.decode_N s pos
      have hlen : s.data.toList.length = (bl s).length := rfl
      rw [hlen, hD pos hlt] at hdec
      have hb0 := ((bl s)[pos]'hlt).toNat_lt
      unfold Lib.spansFromP scanB
      rw [if_pos (by omega), hg, Option.map_some]
      generalize hb : (bl s)[pos]'hlt = b at hdec hb0
      by_cases h128 : b.toNat < 128
      · rw [Lib.decodeN_ascii _ _ _ _ _ h128] at hdec
        rw [hdec, hP]
        by_cases hbk : bk b = true
        · rw [if_pos (decide_eq_true ((bk_iff b).1 hbk)), if_pos (congrArg some hbk)]
          cases st with
          | none => exact ih m (by omega) f (pos + 1) none acc (by omega) (by omega)
          | some a => exact ih m (by omega) f (pos + 1) none _ (by omega) (by omega)
        · rw [if_neg (fun q => hbk ((bk_iff b).2 (of_decide_eq_true q))), if_neg (fun q => hbk (Option.some.inj q))]
          cases st with
          | none => exact ih m (by omega) f (pos + 1) (some pos) acc (by omega) (by omega)
          | some a => exact ih m (by omega) f (pos + 1) (some a) acc (by omega) (by omega)
      · generalize hb1 : (s.data.toList.getD (pos + 1) 0).toNat = b1 at hdec
        generalize hb2 : (s.data.toList.getD (pos + 2) 0).toNat = b2 at hdec
        generalize hb3 : (s.data.toList.getD (pos + 3) 0).toNat = b3 at hdec
        have hcs := Lib.decodeN_cases ((bl s).length - pos) b.toNat b1 b2 b3
        have hct := Lib.decodeN_conts ((bl s).length - pos) b.toNat b1 b2 b3
        have hge := Lib.decodeN_ge1 ((bl s).length - pos) b.toNat b1 b2 b3
        rw [← hdec] at hcs hct hge
        obtain ⟨w, hw⟩ : ∃ w, (Utf8.decode s pos).2 = w := ⟨_, rfl⟩
        obtain ⟨r, hr⟩ : ∃ r, (Utf8.decode s pos).1 = r := ⟨_, rfl⟩
        have hrb : 128 ≤ r := by
          rcases hcs with ⟨h, _⟩ | ⟨_, _, _, h, e⟩ | ⟨_, _, _, _, h, e⟩ | ⟨h, _⟩ | e
          · omega
          · rw [e] at hr; simp only at hr; omega
          · rw [e] at hr; simp only at hr; omega
          · omega
          · rw [e] at hr; simp only at hr; omega
        rw [hw] at hct hge
        obtain ⟨c1, c2, c3, c4⟩ := hct
        have hwl : w ≤ m + 1 := by omega
        have hno : ∀ j, j < w → ((bl s)[pos + j]?.map bk) ≠ some true := by
          intro j hj
          have hjl : pos + j < (bl s).length := by omega
          rw [List.getElem?_eq_getElem hjl, Option.map_some]
          intro q
          refine not_bk_big _ ?_ (Option.some.inj q)
          rw [← hD _ hjl]
          have : j = 0 ∨ j = 1 ∨ j = 2 ∨ j = 3 := by omega
          rcases this with rfl | rfl | rfl | rfl
          · rw [hD _ hjl]
            have e : (bl s)[pos + 0]'hjl = b := hb
            rw [e]; omega
          · rw [hb1]; have := (c1 (by omega)).1; omega
          · rw [hb2]; have := (c2 (by omega)).1; omega
          · rw [hb3]; have := (c3 (by omega)).1; omega
        have h0 : bk b ≠ true := not_bk_big b (by omega)
        rw [hr, hw, hP]
        rw [if_neg (fun q => by have := of_decide_eq_true q; omega), if_neg (fun q => h0 (Option.some.inj q))]
        have hsk : ∀ a, scanB (bl s) m (pos + 1) (some a) acc = scanB (bl s) (m + 1 - w) (pos + w) (some a) acc := fun a => by
          have := scan_skip (bl s) a acc (w - 1) (m + 1 - w) (pos + 1) (fun j hj => by
            have := hno (j + 1) (by omega)
            rw [show pos + 1 + j = pos + (j + 1) by omega]; exact this)
          rw [show m + 1 - w + (w - 1) = m by omega, show pos + 1 + (w - 1) = pos + w by omega] at this
          exact this
        cases st with
        | none =>
          show Lib.spansFromP P s f (pos + w) (some pos) acc = scanB (bl s) m (pos + 1) (some pos) acc
          rw [hsk]
          exact ih (m + 1 - w) (by omega) f (pos + w) (some pos) acc (by omega) (by omega)
        | some a =>
          show Lib.spansFromP P s f (pos + w) (some a) acc = scanB (bl s) m (pos + 1) (some a) acc
          rw [hsk]
          exact ih (m + 1 - w) (by omega) f (pos + w) (some a) acc (by omega) (by omega)
/-- Texts with a blank between two. -/
def jw : List (List UInt8) → List UInt8
  | [] => []
  | [x] => x
  | x :: y :: r => x ++ 32 :: jw (y :: r)
theorem jw_join : ∀ l : List (List UInt8), Lib.join l [32] = jw l
  | [] => rfl
  | [x] => by simp [Lib.join, jw, List.intercalate, List.intersperse]
  | x :: y :: r => by
    have h := jw_join (y :: r)
    unfold Lib.join at h ⊢
    rw [jw, ← h]
    simp [List.intercalate, List.intersperse]
def GG (l : List (List UInt8)) : List UInt8 := if l = [] then [] else jw l ++ [32]
theorem jw_snoc : ∀ (l : List (List UInt8)) (x : List UInt8), jw (l ++ [x]) = GG l ++ x
  | [], x => rfl
  | [y], x => by simp [GG, jw]
  | y :: z :: r, x => by
    have h := jw_snoc (z :: r) x
    unfold GG at h ⊢
    rw [if_neg (by simp)] at h ⊢
    show y ++ 32 :: jw (z :: r ++ [x]) = _
    rw [h]
    simp [jw]
theorem GG_snoc (l : List (List UInt8)) (x : List UInt8) : GG (l ++ [x]) = GG l ++ x ++ [32] := by
  unfold GG
  rw [if_neg (by simp), jw_snoc]
  rfl
theorem lastSp_snoc (l : List UInt8) (c : UInt8) : lastSp (l ++ [c]) = decide (c = 32) := by
  unfold lastSp
  have e : (l ++ [c])[(l ++ [c]).length - 1]? = some c := by
    rw [List.length_append, List.length_singleton, Nat.add_sub_cancel, List.getElem?_append_right (Nat.le_refl _), Nat.sub_self]; rfl
  rw [e]
  exact decide_eq_decide.2 ⟨fun h => Option.some.inj h, fun h => congrArg some h⟩
theorem bk32 {c : UInt8} (h : bk c = false) : c ≠ 32 := fun e => by rw [e] at h; exact absurd h (by decide)
theorem endL_sp (l : List UInt8) : endL (l ++ [32]) = l := by
  unfold endL
  rw [lastSp_snoc, if_pos (by decide), List.length_append, List.length_singleton, Nat.add_sub_cancel, List.take_left' rfl]
theorem endL_no (l : List UInt8) (c : UInt8) (h : c ≠ 32) : endL (l ++ [c]) = l ++ [c] := by
  unfold endL
  rw [lastSp_snoc, if_neg (by rw [decide_eq_true_iff]; exact h)]
def wd (L : List UInt8) (x : Nat × Nat) : List UInt8 := (L.drop x.1).take (x.2 - x.1)
def closeB (n : Nat) (x : List (Nat × Nat) × Option Nat) : List (Nat × Nat) :=
  match x.2 with
  | some a => x.1 ++ [(a, n)]
  | none => x.1
theorem scan_line (L : List UInt8) : ∀ (m pos : Nat) (st : Option Nat) (acc : List (Nat × Nat)) (out : List UInt8), pos + m = L.length →
    (match st with
     | none => out = GG (acc.map (wd L))
     | some a => a < pos ∧ ∃ w c, (L.drop a).take (pos - a) = w ++ [c] ∧ bk c = false ∧ out = GG (acc.map (wd L)) ++ (w ++ [c])) →
    endL ((L.drop pos).foldl stepL out) = jw ((closeB L.length (scanB L m pos st acc)).map (wd L)) := by
  intro m
  induction m with
  | zero =>
    intro pos st acc out hm hI
    rw [List.drop_eq_nil_of_le (by omega), List.foldl_nil]
    cases st with
    | none =>
      have hI : out = GG (acc.map (wd L)) := hI
      show endL out = jw (acc.map (wd L))
      rw [hI]
      unfold GG
      by_cases hz : acc.map (wd L) = []
      · rw [if_pos hz, hz]; rfl
      · rw [if_neg hz, endL_sp]
    | some a =>
      obtain ⟨ha, w, c, h1, h2, h3⟩ := hI
      show endL out = jw ((acc ++ [(a, L.length)]).map (wd L))
      have hw : wd L (a, L.length) = w ++ [c] := by
        have e : pos = L.length := by omega
        rw [e] at h1
        exact h1
      rw [List.map_append, List.map_cons, List.map_nil, hw, jw_snoc, h3, ← List.append_assoc, endL_no _ _ (bk32 h2)]
  | succ m ih =>
    intro pos st acc out hm hI
    have hlt : pos < L.length := by omega
    have hg : L[pos]? = some (L[pos]'hlt) := List.getElem?_eq_getElem hlt
    rw [List.drop_eq_getElem_cons hlt, List.foldl_cons]
    unfold scanB
    rw [hg, Option.map_some]
    generalize hbb : L[pos]'hlt = b
    have hd1 : (L.drop pos).take 1 = [b] := by rw [List.drop_eq_getElem_cons hlt, hbb]; rfl
    cases hb : bk b with
    | true =>
      rw [if_pos rfl]
      cases st with
      | none =>
        have hI : out = GG (acc.map (wd L)) := hI
        have hs : stepL out b = out := by
          unfold stepL
          rw [if_pos hb, if_pos]
          rw [hI]
          unfold GG
          by_cases hz : acc.map (wd L) = []
          · rw [if_pos hz]; exact .inl rfl
          · rw [if_neg hz, lastSp_snoc]; exact .inr (by decide)
        rw [hs]
        exact ih (pos + 1) none acc out (by omega) hI
      | some a =>
        obtain ⟨ha, w, c, h1, h2, h3⟩ := hI
        have hs : stepL out b = out ++ [32] := by
          unfold stepL
          rw [if_pos hb, if_neg]
          rw [h3, ← List.append_assoc]
          intro q
          rcases q with q | q
          · have := congrArg List.length q
            rw [List.length_append] at this
            simp at this
          · rw [lastSp_snoc, decide_eq_true_iff] at q
            exact bk32 h2 q
        rw [hs]
        refine ih (pos + 1) none (acc ++ [(a, pos)]) (out ++ [32]) (by omega) ?_
        show out ++ [32] = GG ((acc ++ [(a, pos)]).map (wd L))
        have hw : wd L (a, pos) = w ++ [c] := h1
        rw [List.map_append, List.map_cons, List.map_nil, hw, GG_snoc, h3]
    | false =>
      rw [if_neg (fun q => by cases Option.some.inj q)]
      have hs : stepL out b = out ++ [b] := by
        unfold stepL
        rw [if_neg (fun q => by rw [hb] at q; cases q)]
      rw [hs]
      cases st with
      | none =>
        have hI : out = GG (acc.map (wd L)) := hI
        refine ih (pos + 1) (some pos) acc (out ++ [b]) (by omega) ⟨by omega, [], b, ?_, hb, by rw [hI]; rfl⟩
        rw [show pos + 1 - pos = 1 by omega]
        exact hd1
      | some a =>
        obtain ⟨ha, w, c, h1, h2, h3⟩ := hI
        refine ih (pos + 1) (some a) acc (out ++ [b]) (by omega) ⟨by omega, w ++ [c], b, ?_, hb, by rw [h3, List.append_assoc]⟩
        rw [show pos + 1 - a = (pos - a) + 1 by omega, List.take_add_one, h1, List.getElem?_drop, show a + (pos - a) = pos by omega, hg, hbb]
        rfl
theorem scan_len (L : List UInt8) : ∀ (m pos : Nat) (st : Option Nat) (acc : List (Nat × Nat)), (scanB L m pos st acc).1.length ≤ acc.length + m
  | 0, pos, st, acc => by unfold scanB; exact Nat.le_refl _
  | m + 1, pos, st, acc => by
    unfold scanB
    have ih := fun st acc => scan_len L m (pos + 1) st acc
    split
    · cases st with
      | none => have := ih none acc; simp only; omega
      | some a => have := ih none (acc ++ [(a, pos)]); rw [List.length_append, List.length_singleton] at this; simp only; omega
    · cases st with
      | none => have := ih (some pos) acc; simp only; omega
      | some a => have := ih (some a) acc; simp only; omega
theorem implOne_eq (s : ByteArray) (hs : s.size ≤ 65536) : impl_OneLine.f s = some (mkL (lineL (bl s)), 0) := by
  have hsz := bl_size s
  obtain ⟨P, hPd⟩ : ∃ P : Nat → Bool, P = fun n_ : Nat => (impl_oneLine_L1.f (n_ : Int)) == some true := ⟨_, rfl⟩
  have hP : ∀ n, P n = decide (n = 9 ∨ n = 10 ∨ n = 13 ∨ n = 32) := fun n => by rw [hPd]; exact lit_eq n
  have hsp := spans_eq s P hP (bl s).length s.size 0 none [] (by omega) (by omega)
  obtain ⟨sp, hspd⟩ : ∃ sp, closeB (bl s).length (scanB (bl s) (bl s).length 0 none []) = sp := ⟨_, rfl⟩
  have hcl : Lib.spansOfP P s = sp := by
    unfold Lib.spansOfP
    rw [hsp, ← hspd, ← hsz]
    rfl
  have hln := scan_line (bl s) (bl s).length 0 none [] [] (by omega) rfl
  rw [List.drop_zero, hspd] at hln
  have hlen : sp.length ≤ 65537 := by
    have := scan_len (bl s) (bl s).length 0 none []
    rw [← hspd]
    unfold closeB
    simp only [List.length_nil] at this
    split
    · rw [List.length_append, List.length_singleton]; omega
    · omega
  have hgf : Lib.goFieldsP P s = sp.map fun x => s.extract x.1 x.2 := by unfold Lib.goFieldsP; rw [hcl]
  have hj : joinB (sp.map fun x => s.extract x.1 x.2) (⟨#[32]⟩ : ByteArray) = lineL (bl s) := by
    unfold joinB
    rw [List.map_map]
    have e : (fun x : ByteArray => x.data.toList) ∘ (fun x : Nat × Nat => s.extract x.1 x.2) = wd (bl s) := funext fun x => bl_extract s x.1 x.2
    rw [e]
    show Lib.join (sp.map (wd (bl s))) [32] = _
    rw [jw_join, ← hln]
    rfl
  have hll := lineL_len (bl s)
  have h1 : strings_FieldsFunc_at_impl_oneLine_L1.f s = some (sp.map fun x => s.extract x.1 x.2) := by
    unfold strings_FieldsFunc_at_impl_oneLine_L1.f
    rw [← hPd, if_pos (by omega), hgf]
  have h2 : strings_Join.f (sp.map fun x => s.extract x.1 x.2) (⟨#[32]⟩ : ByteArray) = some (mkL (lineL (bl s))) := by
    unfold strings_Join.f
    rw [hj, if_pos ⟨by rw [List.length_map]; omega, by omega⟩]
    rfl
  simp only [impl_OneLine.f, impl_oneLine.f, h1, h2, bS]
  exact if_neg (by omega)
/-- Text in one line, perhaps with a blank at its end. -/
def CP (out : List UInt8) : Prop := ∀ (i : Nat) (b : UInt8), out[i]? = some b → (b.toNat ≠ 9 ∧ b.toNat ≠ 10 ∧ b.toNat ≠ 13) ∧ (b = 32 → 0 < i ∧ out[i - 1]? ≠ some 32)
theorem CP_snoc (out : List UInt8) (c : UInt8) (h : CP out) (h1 : c.toNat ≠ 9 ∧ c.toNat ≠ 10 ∧ c.toNat ≠ 13) (h2 : c = 32 → out ≠ [] ∧ lastSp out ≠ true) : CP (out ++ [c]) := by
  intro i b hi
  by_cases hlt : i < out.length
  · rw [List.getElem?_append_left hlt] at hi
    obtain ⟨g1, g2⟩ := h i b hi
    exact ⟨g1, fun e => ⟨(g2 e).1, by rw [List.getElem?_append_left (by omega)]; exact (g2 e).2⟩⟩
  · have hie : i = out.length := by
      have := (List.getElem?_eq_some_iff.1 hi).1
      rw [List.length_append, List.length_singleton] at this
      omega
    subst hie
    rw [List.getElem?_append_right (Nat.le_refl _), Nat.sub_self] at hi
    have hcb : c = b := Option.some.inj hi
    subst hcb
    refine ⟨h1, fun e => ?_⟩
    obtain ⟨g1, g2⟩ := h2 e
    have hpos := List.length_pos_iff.2 g1
    refine ⟨hpos, ?_⟩
    rw [List.getElem?_append_left (by omega)]
    intro q
    exact g2 (decide_eq_true q)
theorem CP_step (out : List UInt8) (b : UInt8) (h : CP out) : CP (stepL out b) := by
  unfold stepL
  by_cases hb : bk b = true
  · rw [if_pos hb]
    by_cases hz : out = [] ∨ lastSp out = true
    · rw [if_pos hz]; exact h
    · rw [if_neg hz]
      exact CP_snoc out 32 h (by decide) fun _ => ⟨fun e => hz (.inl e), fun e => hz (.inr e)⟩
  · rw [if_neg hb]
    have hn : ¬ (b.toNat = 9 ∨ b.toNat = 10 ∨ b.toNat = 13 ∨ b.toNat = 32) := fun e => hb ((bk_iff b).2 e)
    exact CP_snoc out b h ⟨by omega, by omega, by omega⟩ fun e => absurd ((sp_iff b).2 e) (by omega)
theorem CP_fold : ∀ (l out : List UInt8), CP out → CP (l.foldl stepL out)
  | [], out, h => h
  | b :: l, out, h => CP_fold l (stepL out b) (CP_step out b h)
def Clean (X : List UInt8) : Prop := CP X ∧ lastSp X ≠ true
theorem clean_line (l : List UInt8) : Clean (lineL l) := by
  have h := CP_fold l [] (fun i b hi => by simp at hi)
  unfold lineL
  generalize l.foldl stepL [] = out at h
  unfold endL
  by_cases hl : lastSp out = true
  · rw [if_pos hl]
    have hs : out[out.length - 1]? = some 32 := of_decide_eq_true hl
    have hlt := (List.getElem?_eq_some_iff.1 hs).1
    have hq := ((h _ _ hs).2 rfl)
    refine ⟨fun i b hi => ?_, fun q => ?_⟩
    · have hi2 : i < out.length - 1 := by
        have := (List.getElem?_eq_some_iff.1 hi).1
        rw [List.length_take] at this
        omega
      rw [List.getElem?_take_of_lt hi2] at hi
      obtain ⟨g1, g2⟩ := h i b hi
      exact ⟨g1, fun e => ⟨(g2 e).1, by rw [List.getElem?_take_of_lt (by omega)]; exact (g2 e).2⟩⟩
    · have q2 : (out.take (out.length - 1))[(out.take (out.length - 1)).length - 1]? = some 32 := of_decide_eq_true q
      have hlen : (out.take (out.length - 1)).length = out.length - 1 := by rw [List.length_take]; omega
      rw [hlen] at q2
      have hi2 := (List.getElem?_eq_some_iff.1 q2).1
      rw [hlen] at hi2
      rw [List.getElem?_take_of_lt (by omega)] at q2
      exact hq.2 q2
  · rw [if_neg hl]
    exact ⟨h, hl⟩
theorem fold_clean (X : List UInt8) (h : Clean X) : ∀ (d i : Nat), i + d = X.length → (X.drop i).foldl stepL (X.take i) = X
  | 0, i, hi => by rw [List.drop_eq_nil_of_le (by omega), List.take_of_length_le (by omega)]; rfl
  | d + 1, i, hi => by
    have hlt : i < X.length := by omega
    have hg : X[i]? = some (X[i]'hlt) := List.getElem?_eq_getElem hlt
    have ih := fold_clean X h d (i + 1) (by omega)
    rw [List.drop_eq_getElem_cons hlt, List.foldl_cons]
    have hs : stepL (X.take i) (X[i]'hlt) = X.take (i + 1) := by
      rw [List.take_add_one, hg]
      obtain ⟨⟨g1, g2, g3⟩, g4⟩ := h.1 i _ hg
      generalize X[i]'hlt = b at g1 g2 g3 g4 hg
      unfold stepL
      by_cases hb : bk b = true
      · have h32 : b = 32 := (sp_iff b).1 (by rcases (bk_iff b).1 hb with e | e | e | e <;> omega)
        subst h32
        obtain ⟨k1, k2⟩ := g4 rfl
        have hlen : (X.take i).length = i := by rw [List.length_take]; omega
        rw [if_pos hb, if_neg]
        · rfl
        · intro q
          rcases q with q | q
          · rw [q] at hlen; simp at hlen; omega
          · have q2 : (X.take i)[(X.take i).length - 1]? = some 32 := of_decide_eq_true q
            rw [hlen, List.getElem?_take_of_lt (by omega)] at q2
            exact k2 q2
      · rw [if_neg hb]; rfl
    rw [hs]
    exact ih
theorem line_clean (X : List UInt8) (h : Clean X) : lineL X = X := by
  have := fold_clean X h X.length 0 (by omega)
  rw [List.drop_zero, List.take_zero] at this
  unfold lineL
  rw [this]
  unfold endL
  exact if_neg h.2
end Go.Proofs.Yteipfgcnfeclgaa.P
/- Lemmas of mine: loops that count up: over any function of rounds. Plain. -/
set_option linter.unusedVariables false
set_option linter.unusedSimpArgs false
namespace Go.Proofs.Yteipfgcnfeclgaa.P
open Go.RowKit Go.Proofs.YteipfgcnfeclgaaW.PrintWords
/-- A loop whose rounds change the place alone. -/
theorem up_loop {R : Type} (L : Nat → Int → Option R) (n : Nat) (r : R)
  (hstep : ∀ i : Nat, i < n → ∃ K, ∀ k, K ≤ k → L (k + 1) (i : Int) = L k ((i + 1 : Nat) : Int))
  (hend : ∃ K, ∀ k, K ≤ k → L (k + 1) (n : Int) = some r) : ∀ d i : Nat, i + d = n → Ev (fun k => L k (i : Int)) r := by
 intro d
 induction d with
 | zero =>
  intro i hi
  obtain rfl : i = n := by omega
  obtain ⟨K, h⟩ := hend
  exact ⟨K + 1, fun k hk => by obtain ⟨m, rfl⟩ : ∃ m, k = m + 1 := ⟨k - 1, by omega⟩; exact h m (by omega)⟩
 | succ d ih =>
  intro i hi
  obtain ⟨K, h⟩ := hstep i (by omega)
  obtain ⟨K2, h2⟩ := ih (i + 1) (by omega)
  refine ⟨K + K2 + 1, fun k hk => ?_⟩
  obtain ⟨m, rfl⟩ : ∃ m, k = m + 1 := ⟨k - 1, by omega⟩
  show L (m + 1) (i : Int) = some r
  rw [h m (by omega)]
  exact h2 m (by omega)
/-- A loop with a state: what holds of the state says what comes out. -/
theorem st_loop {σ R : Type} (L : Nat → σ → Int → Option R) (n : Nat) (out : Nat → σ → R → Prop)
  (hstep : ∀ (i : Nat) (s : σ), i < n → (∃ r, (∃ K, ∀ k, K ≤ k → L (k + 1) s (i : Int) = some r) ∧ out i s r) ∨ ∃ s', (∃ K, ∀ k, K ≤ k → L (k + 1) s (i : Int) = L k s' ((i + 1 : Nat) : Int)) ∧ ∀ r, out (i + 1) s' r → out i s r)
  (hend : ∀ s, ∃ r, (∃ K, ∀ k, K ≤ k → L (k + 1) s (n : Int) = some r) ∧ out n s r) : ∀ (d i : Nat) (s : σ), i + d = n → ∃ r, Ev (fun k => L k s (i : Int)) r ∧ out i s r := by
 intro d
 induction d with
 | zero =>
  intro i s hi
  obtain rfl : i = n := by omega
  obtain ⟨r, ⟨K, h⟩, ho⟩ := hend s
  exact ⟨r, ⟨K + 1, fun k hk => by obtain ⟨m, rfl⟩ : ∃ m, k = m + 1 := ⟨k - 1, by omega⟩; exact h m (by omega)⟩, ho⟩
 | succ d ih =>
  intro i s hi
  rcases hstep i s (by omega) with ⟨r, ⟨K, h⟩, ho⟩ | ⟨s', ⟨K, h⟩, ho⟩
  ·exact ⟨r, ⟨K + 1, fun k hk => by obtain ⟨m, rfl⟩ : ∃ m, k = m + 1 := ⟨k - 1, by omega⟩; exact h m (by omega)⟩, ho⟩
  ·obtain ⟨r, ⟨K2, h2⟩, ho2⟩ := ih (i + 1) s' (by omega)
   refine ⟨r, ⟨K + K2 + 1, fun k hk => ?_⟩, ho r ho2⟩
   obtain ⟨m, rfl⟩ : ∃ m, k = m + 1 := ⟨k - 1, by omega⟩
   show L (m + 1) s (i : Int) = some r
   rw [h m (by omega)]
   exact h2 m (by omega)
theorem map_set {α β : Type} (xs : List α) (ys : List β) (g : α → β) (i : Nat) (hi : i < xs.length) (hl : ys.length = xs.length) (hy : ys.take i = (xs.take i).map g) :
  (ys.set i (g (xs[i]'hi))).take (i + 1) = (xs.take (i + 1)).map g := by
 have e2 : (xs.take (i + 1)).map g = (xs.take i).map g ++ [g (xs[i]'hi)] := by
  rw [List.take_add_one, List.getElem?_eq_getElem hi, List.map_append]
  rfl
 have e : ((xs.take i).map g).length = i := by rw [List.length_map, List.length_take]; omega
 rw [e2, List.take_set, List.take_add_one, List.getElem?_eq_getElem (by omega), hy, List.set_append_right _ _ (by omega), e, Nat.sub_self]
 rfl
/-- A loop that fills a row of the same length. -/
theorem copy_loop {α β : Type} (L : Nat → List β → Int → Option (List β)) (xs : List α) (g : α → β)
  (hstep : ∀ (i : Nat) (ys : List β) (hi : i < xs.length), ys.length = xs.length → ∃ K, ∀ k, K ≤ k → L (k + 1) ys (i : Int) = L k (ys.set i (g (xs[i]'hi))) ((i + 1 : Nat) : Int))
  (hend : ∀ ys, ys.length = xs.length → ∃ K, ∀ k, K ≤ k → L (k + 1) ys (xs.length : Int) = some ys) :
  ∀ (d i : Nat) (ys : List β), i + d = xs.length → ys.length = xs.length → ys.take i = (xs.take i).map g → Ev (fun k => L k ys (i : Int)) (xs.map g) := by
 intro d
 induction d with
 | zero =>
  intro i ys hi hl hy
  obtain rfl : i = xs.length := by omega
  rw [List.take_of_length_le (by omega), List.take_of_length_le (Nat.le_refl _)] at hy
  subst hy
  obtain ⟨K, h⟩ := hend _ hl
  exact ⟨K + 1, fun k hk => by obtain ⟨m, rfl⟩ : ∃ m, k = m + 1 := ⟨k - 1, by omega⟩; exact h m (by omega)⟩
 | succ d ih =>
  intro i ys hi hl hy
  obtain ⟨K, h⟩ := hstep i ys (by omega) hl
  obtain ⟨K2, h2⟩ := ih (i + 1) (ys.set i (g (xs[i]'(by omega)))) (by omega) (by rw [List.length_set]; exact hl) (map_set xs ys g i (by omega) hl hy)
  refine ⟨K + K2 + 1, fun k hk => ?_⟩
  obtain ⟨m, rfl⟩ : ∃ m, k = m + 1 := ⟨k - 1, by omega⟩
  show L (m + 1) ys (i : Int) = _
  rw [h m (by omega)]
  exact h2 m (by omega)
theorem getD_nat {α : Type} (xs : List α) (z : α) (i : Nat) (h : i < xs.length) : xs.getD ((i : Nat) : Int).toNat z = xs[i]'h := by
 rw [Int.toNat_natCast, List.getD_eq_getElem?_getD, List.getElem?_eq_getElem h]; rfl
end Go.Proofs.Yteipfgcnfeclgaa.P
/- Lemmas of mine: a source of choices always gives one, within its bounds. Plain. -/
set_option linter.unusedVariables false
set_option linter.unusedSimpArgs false
namespace Go.Proofs.Yteipfgcnfeclgaa.P
open Go.RowKit Go.Proofs.YteipfgcnfeclgaaW.PrintWords
/-- A source: its bytes, its place (at most B), its seed. -/
def Src (l : List Int) (a s B : Int) : Prop := (∀ y ∈ l, 0 ≤ y ∧ y ≤ 255) ∧ (0 ≤ a ∧ a ≤ B) ∧ (0 ≤ s ∧ s < 2147483648)
theorem Src.grow {l : List Int} {a s B C : Int} (h : Src l a s B) (hc : B ≤ C) : Src l a s C := ⟨h.1, ⟨h.2.1.1, by have := h.2.1.2; omega⟩, h.2.2⟩
theorem rd_mem (l : List Int) (i : Int) (h0 : 0 ≤ i) (h1 : i < (l.length : Int)) : rd l i ∈ l := by
 have h : i.toNat < l.length := by omega
 unfold rd
 rw [List.getD_eq_getElem?_getD, List.getElem?_eq_getElem h]
 exact List.getElem_mem h
theorem byte_ok {l : List Int} {a s B : Int} (h : Src l a s B) (hB : B ≤ 4611686018427387904) : ∃ r a' s', spec_l00Src_byte.f l a s = some (r, a', s') ∧ Src l a' s' (B + 1) ∧ 0 ≤ r ∧ r ≤ 255 := by
 obtain ⟨hl, ⟨h0, h1⟩, h2, h3⟩ := h
 unfold spec_l00Src_byte.f
 rw [if_pos ⟨h0, by omega, h2, h3⟩]
 by_cases c1 : a + 1 ≤ (l.length : Int)
 ·have hm := hl _ (rd_mem l a h0 (by omega))
  rw [if_pos c1, if_pos hm]
  exact ⟨_, _, _, rfl, ⟨hl, ⟨by omega, by omega⟩, by omega, by omega⟩, hm.1, hm.2⟩
 ·rw [if_neg c1]
  by_cases c2 : a + 1 > 3000
  ·rw [if_pos c2]
   exact ⟨_, _, _, rfl, ⟨hl, ⟨by omega, by omega⟩, h2, h3⟩, by omega, by omega⟩
  ·rw [if_neg c2]
   exact ⟨_, _, _, rfl, ⟨hl, ⟨by omega, by omega⟩, by omega, by omega⟩, by omega, by omega⟩
theorem tmod_in (n m : Int) (h0 : 0 ≤ n) (h1 : 0 < m) : 0 ≤ Int.tmod n m ∧ Int.tmod n m < m := ⟨Int.tmod_nonneg m h0, Int.tmod_lt_of_pos n h1⟩
theorem next_ok {l : List Int} {a s B : Int} (n : Int) (h : Src l a s B) (hB : B ≤ 4611686018427387900) : ∃ r a' s', spec_l00Src_next.f l a s n = some (r, a', s') ∧ Src l a' s' (B + 3) ∧ 0 ≤ r ∧ (1 ≤ n → r < n) := by
 unfold spec_l00Src_next.f
 by_cases c1 : n ≤ 1
 ·rw [if_pos c1]
  exact ⟨_, _, _, rfl, h.grow (by omega), by omega, fun _ => by omega⟩
 ·rw [if_neg c1]
  obtain ⟨r1, a1, s1, e1, h1, b1, d1⟩ := byte_ok h (by omega)
  by_cases c2 : n ≤ 256
  ·rw [if_pos c2, e1]
   simp only [Option.bind_some]
   rw [if_neg (by omega)]
   obtain ⟨t1, t2⟩ := tmod_in r1 n b1 (by omega)
   exact ⟨_, _, _, rfl, h1.grow (by omega), t1, fun _ => t2⟩
  ·rw [if_neg c2, e1]
   simp only [Option.bind_some]
   obtain ⟨r2, a2, s2, e2, h2, b2, d2⟩ := byte_ok h1 (by omega)
   rw [e2]
   simp only [Option.bind_some]
   obtain ⟨r3, a3, s3, e3, h3, b3, d3⟩ := byte_ok h2 (by omega)
   rw [e3]
   simp only [Option.bind_some]
   rw [if_neg (by omega), w64 (n := r1 * 65536) (by omega) (by omega), w64 (n := r2 * 256) (by omega) (by omega), w64 (n := r1 * 65536 + r2 * 256) (by omega) (by omega), w64 (n := r1 * 65536 + r2 * 256 + r3) (by omega) (by omega)]
   obtain ⟨t1, t2⟩ := tmod_in (r1 * 65536 + r2 * 256 + r3) n (by omega) (by omega)
   exact ⟨_, _, _, rfl, h3.grow (by omega), t1, fun _ => t2⟩
theorem source_ok (l : List Int) (h : ∀ y ∈ l, 0 ≤ y ∧ y ≤ 255) : ∃ s, spec_l00Source.f l = some (l, 0, s) ∧ Src l 0 s 0 := by
 refine ⟨_, rfl, h, ⟨by omega, by omega⟩, by omega, by omega⟩
theorem u8_of_wf {y : Int} (h : (Lit.int .u8 y).wf = true) : 0 ≤ y ∧ y ≤ 255 := by
 have : IntKind.u8.min ≤ y ∧ y ≤ IntKind.u8.max := by simpa [Lit.wf] using h
 have e1 : IntKind.u8.min = 0 := by decide
 have e2 : IntKind.u8.max = 255 := by decide
 rw [e1, e2] at this
 exact this
end Go.Proofs.Yteipfgcnfeclgaa.P
/- Lemmas of mine: a drawn text is put together out of right pieces. Plain. -/
set_option linter.unusedVariables false
set_option linter.unusedSimpArgs false
namespace Go.Proofs.Yteipfgcnfeclgaa.P
open Go.RowKit Go.Proofs.YteipfgcnfeclgaaW.PrintWords
theorem l01In_t (a b c : Int) : spec_l01In.f a b c = some (decide (b ≤ a ∧ a ≤ c)) := by
 unfold spec_l01In.f
 by_cases h : a ≥ b
 ·rw [if_pos h]; simp [show b ≤ a from h]
 ·rw [if_neg h]; simp; omega
/-- A drawn rune. -/
def RuneR (r : Int) : Prop := (0 ≤ r ∧ r < 128) ∨ r ∈ ([228, 2047, 2048, 8364, 55295, 57344, 65535, 65536, 128512, 1114111] : List Int)
/-- A rune's bytes. -/
def Piece (p : List UInt8) : Prop := (∃ b : UInt8, b.toNat < 128 ∧ p = [b]) ∨ p ∈ ([[195, 164], [223, 191], [224, 160, 128], [226, 130, 172], [237, 159, 191], [238, 128, 128], [239, 191, 191], [240, 144, 128, 128], [240, 159, 152, 128], [244, 143, 191, 191]] : List (List UInt8))
theorem piece_len {p : List UInt8} (h : Piece p) : 1 ≤ p.length ∧ p.length ≤ 4 := by
 rcases h with ⟨b, _, rfl⟩ | h
 ·exact ⟨Nat.le_refl _, show 1 ≤ 4 by decide⟩
 ·simp only [List.mem_cons, List.not_mem_nil, or_false] at h
  rcases h with rfl | rfl | rfl | rfl | rfl | rfl | rfl | rfl | rfl | rfl <;> exact ⟨by decide, by decide⟩
theorem rune_ok {l : List Int} {a s B : Int} (h : Src l a s B) (hB : B ≤ 4611686018427387000) : ∃ r a' s', spec_l00Src_rune.f l a s = some (r, a', s') ∧ Src l a' s' (B + 9) ∧ RuneR r := by
 obtain ⟨r1, a1, s1, e1, h1, b1, c1⟩ := next_ok 128 h (by omega)
 obtain ⟨r2, a2, s2, e2, h2, b2, c2⟩ := next_ok 26 h1 (by omega)
 obtain ⟨r3, a3, s3, e3, h3, b3, c3⟩ := next_ok 12 h2 (by omega)
 have c1 := c1 (by decide)
 have c2 := c2 (by decide)
 have c3 := c3 (by decide)
 have w : wrap64 (97 + r2) = 97 + r2 := w64 (by omega) (by omega)
 have hlen : (([r1, 97 + r2, 228, 2047, 2048, 8364, 55295, 57344, 65535, 65536, 128512, 1114111] : List Int).length : Int) = 12 := rfl
 refine ⟨rd ([r1, 97 + r2, 228, 2047, 2048, 8364, 55295, 57344, 65535, 65536, 128512, 1114111] : List Int) r3, a3, s3, ?_, h3.grow (by omega), ?_⟩
 ·simp only [spec_l00Src_rune.f, e1, e2, e3, bS, w]
  rw [if_pos b3, hlen, if_pos c3]
 ·obtain ⟨i, hi⟩ : ∃ i : Nat, r3 = (i : Int) := ⟨r3.toNat, (Int.toNat_of_nonneg b3).symm⟩
  subst hi
  have hc : i = 0 ∨ i = 1 ∨ i = 2 ∨ i = 3 ∨ i = 4 ∨ i = 5 ∨ i = 6 ∨ i = 7 ∨ i = 8 ∨ i = 9 ∨ i = 10 ∨ i = 11 := by omega
  rcases hc with rfl | rfl | rfl | rfl | rfl | rfl | rfl | rfl | rfl | rfl | rfl | rfl
  ·exact .inl ⟨b1, c1⟩
  ·exact .inl (show 0 ≤ 97 + r2 ∧ 97 + r2 < 128 by omega)
  ·exact .inr (show (228 : Int) ∈ ([228, 2047, 2048, 8364, 55295, 57344, 65535, 65536, 128512, 1114111] : List Int) by decide)
  ·exact .inr (show (2047 : Int) ∈ ([228, 2047, 2048, 8364, 55295, 57344, 65535, 65536, 128512, 1114111] : List Int) by decide)
  ·exact .inr (show (2048 : Int) ∈ ([228, 2047, 2048, 8364, 55295, 57344, 65535, 65536, 128512, 1114111] : List Int) by decide)
  ·exact .inr (show (8364 : Int) ∈ ([228, 2047, 2048, 8364, 55295, 57344, 65535, 65536, 128512, 1114111] : List Int) by decide)
  ·exact .inr (show (55295 : Int) ∈ ([228, 2047, 2048, 8364, 55295, 57344, 65535, 65536, 128512, 1114111] : List Int) by decide)
  ·exact .inr (show (57344 : Int) ∈ ([228, 2047, 2048, 8364, 55295, 57344, 65535, 65536, 128512, 1114111] : List Int) by decide)
  ·exact .inr (show (65535 : Int) ∈ ([228, 2047, 2048, 8364, 55295, 57344, 65535, 65536, 128512, 1114111] : List Int) by decide)
  ·exact .inr (show (65536 : Int) ∈ ([228, 2047, 2048, 8364, 55295, 57344, 65535, 65536, 128512, 1114111] : List Int) by decide)
  ·exact .inr (show (128512 : Int) ∈ ([228, 2047, 2048, 8364, 55295, 57344, 65535, 65536, 128512, 1114111] : List Int) by decide)
  ·exact .inr (show (1114111 : Int) ∈ ([228, 2047, 2048, 8364, 55295, 57344, 65535, 65536, 128512, 1114111] : List Int) by decide)
theorem bytes_ok (r : Int) (h : RuneR r) : ∃ p, spec_l01Bytes.f r = some (nb p) ∧ Piece p := by
 rcases h with ⟨h0, h1⟩ | h
 ·obtain ⟨n, rfl⟩ : ∃ n : Nat, r = (n : Int) := ⟨r.toNat, (Int.toNat_of_nonneg h0).symm⟩
  have hb : (UInt8.ofNat n).toNat = n := by
   rw [UInt8.toNat_ofNat']
   exact Nat.mod_eq_of_lt (by omega)
  refine ⟨[UInt8.ofNat n], ?_, .inl ⟨_, by omega, rfl⟩⟩
  have hs : spec_RuneSize.f (n : Int) = some 1 := by
   unfold spec_RuneSize.f spec_l01Scalar.f
   simp only [l01In_t, bS]
   rw [decide_eq_true (show (0 : Int) ≤ (n : Int) ∧ (n : Int) ≤ 55295 by omega)]
   simp only [if_true, bS]
   rw [if_pos (by omega)]
  simp only [spec_l01Bytes.f, hs, bS, if_true]
  have e : (n : Int) % 256 = (n : Int) := by omega
  rw [e]
  simp [nb, hb]
 ·simp only [List.mem_cons, List.not_mem_nil, or_false] at h
  rcases h with rfl | rfl | rfl | rfl | rfl | rfl | rfl | rfl | rfl | rfl
  ·exact ⟨[195, 164], by decide +kernel, .inr (by decide)⟩
  ·exact ⟨[223, 191], by decide +kernel, .inr (by decide)⟩
  ·exact ⟨[224, 160, 128], by decide +kernel, .inr (by decide)⟩
  ·exact ⟨[226, 130, 172], by decide +kernel, .inr (by decide)⟩
  ·exact ⟨[237, 159, 191], by decide +kernel, .inr (by decide)⟩
  ·exact ⟨[238, 128, 128], by decide +kernel, .inr (by decide)⟩
  ·exact ⟨[239, 191, 191], by decide +kernel, .inr (by decide)⟩
  ·exact ⟨[240, 144, 128, 128], by decide +kernel, .inr (by decide)⟩
  ·exact ⟨[240, 159, 152, 128], by decide +kernel, .inr (by decide)⟩
  ·exact ⟨[244, 143, 191, 191], by decide +kernel, .inr (by decide)⟩
theorem abc_ok (i : Int) (h0 : 0 ≤ i) (h1 : i < 8) : ∃ b : UInt8, b.toNat < 128 ∧ bt (⟨#[97, 98, 99, 32, 120, 121, 122, 46]⟩ : ByteArray) i = (b.toNat : Int) := by
 obtain ⟨n, rfl⟩ : ∃ n : Nat, i = (n : Int) := ⟨i.toNat, (Int.toNat_of_nonneg h0).symm⟩
 have hl : n < (bl (⟨#[97, 98, 99, 32, 120, 121, 122, 46]⟩ : ByteArray)).length := by show n < 8; omega
 refine ⟨_, ?_, bt_eq _ n hl⟩
 have hall : ∀ b ∈ bl (⟨#[97, 98, 99, 32, 120, 121, 122, 46]⟩ : ByteArray), b.toNat < 128 := by decide
 exact hall _ (List.getElem_mem hl)
theorem text_l0 {l : List Int} : ∀ (d : Nat) (ps : List (List UInt8)) (a s B : Int), Src l a s B → B + 20 * (d : Int) ≤ 4611686018427386000 → ps.length + d ≤ 100 → (∀ p ∈ ps, Piece p) →
  ∃ (qs : List (List UInt8)) (a' s' : Int), Ev (fun k => spec_l00Src_text.l0 k (nb ps.flatten) (d : Int) l a s) (strOfNums (nb qs.flatten), a', s') ∧ (∀ p ∈ qs, Piece p) ∧ qs.length ≤ ps.length + d
 | 0, ps, a, s, B, h, hB, hl, hx => ⟨ps, a, s, Ev.step (f := fun _ => some _) (fun k => by simp only [spec_l00Src_text.l0]; rw [if_neg (by omega)]) (Ev.now _), hx, Nat.le_refl _⟩
 | d + 1, ps, a, s, B, h, hB, hl, hx => by
  have hfl : ps.flatten.length ≤ 400 := by
   have : ∀ qs : List (List UInt8), (∀ p ∈ qs, Piece p) → qs.flatten.length ≤ 4 * qs.length := by
    intro qs
    induction qs with
    | nil => intro _; simp
    | cons q qs ih =>
     intro hq
     have h1 := (piece_len (hq q (List.mem_cons_self ..))).2
     have h2 := ih fun p hp => hq p (List.mem_cons_of_mem _ hp)
     rw [List.flatten_cons, List.length_append, List.length_cons]
     omega
   have := this ps hx
   omega
  have e3 : Aside0 (wrap64 ((((d + 1 : Nat)) : Int) - 1) = (d : Int)) := ⟨by rw [w64 (by omega) (by omega)]; omega⟩
  obtain ⟨r1, a1, s1, e1, h1, b1, c1⟩ := next_ok 2 h (by omega)
  have hch : spec_l00Src_chance.f l a s 2 = some ((r1 == 1), a1, s1) := by
   have w1 : wrap64 (2 - 1) = 1 := w64 (by omega) (by omega)
   simp only [spec_l00Src_chance.f, e1, bS, w1]
  have hgo : ∀ (p : List UInt8) (a2 s2 : Int), Piece p → Src l a2 s2 (B + 20) → ∃ (qs : List (List UInt8)) (a' s' : Int), Ev (fun k => spec_l00Src_text.l0 k (nb ps.flatten ++ nb p) (d : Int) l a2 s2) (strOfNums (nb qs.flatten), a', s') ∧ (∀ p ∈ qs, Piece p) ∧ qs.length ≤ ps.length + (d + 1) := by
   intro p a2 s2 hp h2
   obtain ⟨qs, a', s', e, hq, hle⟩ := text_l0 d (ps ++ [p]) a2 s2 (B + 20) h2 (by omega) (by rw [List.length_append, List.length_singleton]; omega) (fun x hx' => by
    rcases List.mem_append.1 hx' with h | h
    ·exact hx x h
    ·rw [List.mem_singleton.1 h]; exact hp)
   rw [List.flatten_append, nb_append, show [p].flatten = p by simp] at e
   rw [List.length_append, List.length_singleton] at hle
   exact ⟨qs, a', s', e, hq, by omega⟩
  cases hr : (r1 == 1) with
  | true =>
   rw [hr] at hch
   obtain ⟨r2, a2, s2, e2, h2, b2, c2⟩ := next_ok 8 h1 (by omega)
   have c2 := c2 (by decide)
   obtain ⟨b, hb, hbt⟩ := abc_ok r2 b2 c2
   obtain ⟨qs, a', s', e, hq, hle⟩ := hgo [b] a2 s2 (.inl ⟨b, hb, rfl⟩) (h2.grow (by omega))
   refine ⟨qs, a', s', Ev.step (fun k => ?_) e, hq, hle⟩
   simp only [spec_l00Src_text.l0, hch, bS, e2, hbt, e3.out, nb_length]
   rw [if_pos (by omega), if_pos trivial, if_pos b2, if_pos c2, if_pos (by omega)]
   rfl
  | false =>
   rw [hr] at hch
   obtain ⟨r2, a2, s2, e2, h2, hR⟩ := rune_ok h1 (by omega)
   obtain ⟨p, hp, hP⟩ := bytes_ok r2 hR
   have hpl := piece_len hP
   obtain ⟨qs, a', s', e, hq, hle⟩ := hgo p a2 s2 hP (h2.grow (by omega))
   refine ⟨qs, a', s', Ev.step (fun k => ?_) e, hq, hle⟩
   simp only [spec_l00Src_text.l0, hch, bS, e2, hp, e3.out, nb_length]
   rw [if_pos (by omega), if_neg (by decide), if_pos (by omega)]
theorem flat_pieces (qs : List (List UInt8)) (h : ∀ p ∈ qs, Piece p) : qs.flatten.length ≤ 4 * qs.length := by
 induction qs with
 | nil => simp
 | cons q qs ih =>
  have h1 := (piece_len (h q (List.mem_cons_self ..))).2
  have h2 := ih fun p hp => h p (List.mem_cons_of_mem _ hp)
  rw [List.flatten_cons, List.length_append, List.length_cons]
  omega
theorem textOf_ok (l : List Int) (hw : ∀ y ∈ l, 0 ≤ y ∧ y ≤ 255) : ∃ qs : List (List UInt8), ∃ t, Ev (fun k => spec_TextOf.f k l) t ∧ bl t = qs.flatten ∧ (∀ p ∈ qs, Piece p) ∧ t.size ≤ 48 := by
 obtain ⟨s0, e0, h0⟩ := source_ok l hw
 obtain ⟨r, a1, s1, e1, h1, b1, c1⟩ := next_ok 12 h0 (by omega)
 have c1 := c1 (by decide)
 obtain ⟨d, hd⟩ : ∃ d : Nat, r = (d : Int) := ⟨r.toNat, (Int.toNat_of_nonneg b1).symm⟩
 subst hd
 obtain ⟨qs, a2, s2, ⟨K, e⟩, hq, hle⟩ := text_l0 d [] a1 s1 _ h1 (by omega) (by simp only [List.length_nil]; omega) (fun p hp => by cases hp)
 have hfl := flat_pieces qs hq
 simp only [List.length_nil] at hle
 refine ⟨qs, strOfNums (nb qs.flatten), ⟨K, fun k hk => ?_⟩, bl_strOf_nb _, hq, by rw [bl_size, bl_strOf_nb]; omega⟩
 have e2 : spec_l00Src_text.l0 k [] (d : Int) l a1 s1 = some (strOfNums (nb qs.flatten), a2, s2) := e k hk
 simp only [spec_TextOf.f, e0, bS, spec_l00Src_text.f, e1, e2]
end Go.Proofs.Yteipfgcnfeclgaa.P
/- The pure statement of the law FnLine: a text in one line has no blanks at its ends, none beside another one, and stays as it is. No condition. -/
set_option linter.unusedVariables false
set_option linter.unusedSimpArgs false
namespace Go.Proofs.Yteipfgcnfeclgaa.P
open Go.RowKit Go.Proofs.YteipfgcnfeclgaaW.PrintWords
theorem wfByteL {x : Int} (h : (Lit.int .u8 x).wf = true) : 0 ≤ x ∧ x ≤ 255 := by
 have h2 : IntKind.u8.min ≤ x ∧ x ≤ IntKind.u8.max := by simpa [Lit.wf] using h
 have e1 : IntKind.u8.min = 0 := by decide +kernel
 have e2 : IntKind.u8.max = 255 := by decide +kernel
 rw [e1, e2] at h2
 exact h2
theorem line_l0 (X : ByteArray) (hX : Clean (bl X)) (hz : X.size ≤ 65536) : ∀ (d i : Nat), i + d = (bl X).length → Ev (fun k => laws_FnLine.l0 k X (i : Int)) true := by
 have hsz := bl_size X
 intro d
 induction d with
 | zero =>
  intro i hi
  exact Ev.step (f := fun _ => some _) (fun k => by simp only [laws_FnLine.l0]; rw [if_neg (by omega)]) (Ev.now _)
 | succ d ih =>
  intro i hi
  have hlt : i < (bl X).length := by omega
  have hg : (bl X)[i]? = some ((bl X)[i]'hlt) := List.getElem?_eq_getElem hlt
  obtain ⟨⟨g1, g2, g3⟩, g4⟩ := hX.1 i _ hg
  have hv := bt_eq X i hlt
  have w1 : Aside0 (wrap64 ((i : Int) + 1) = ((i + 1 : Nat) : Int)) := ⟨w64s i (by omega)⟩
  refine Ev.step (fun k => ?_) (ih (i + 1) (by omega))
  generalize hb : (bl X)[i]'hlt = b at g1 g2 g3 g4 hv
  simp only [laws_FnLine.l0, hv, w1.out]
  rw [if_pos (by omega), if_pos (by omega), if_neg (by omega), if_neg (by omega), if_neg (by omega)]
  by_cases h32 : b = 32
  ·obtain ⟨k1, k2⟩ := g4 h32
   have hlast : i + 1 ≠ (bl X).length := by
    intro e
    refine hX.2 (decide_eq_true ?_)
    rw [show (bl X).length - 1 = i by omega, hg, hb, h32]
   have hp : i - 1 < (bl X).length := by omega
   have hv2 := bt_eq X (i - 1) hp
   have w2 : Aside0 (wrap64 ((i : Int) - 1) = ((i - 1 : Nat) : Int)) := ⟨by rw [w64 (by omega) (by omega)]; omega⟩
   have hne : ((bl X)[i - 1]'hp).toNat ≠ 32 := by
    intro e
    refine k2 ?_
    rw [List.getElem?_eq_getElem hp, (sp_iff _).1 e]
   rw [w2.out, hv2, if_pos (by have := (sp_iff b).2 h32; omega), if_neg (by omega), if_neg (by omega), if_pos (by omega), if_pos (by omega), if_neg (by omega)]
  ·have hne : b.toNat ≠ 32 := fun e => h32 ((sp_iff b).1 e)
   rw [if_neg (by omega)]
end Go.Proofs.Yteipfgcnfeclgaa.P
namespace Go.Proofs.Yteipfgcnfeclgaa.Pure
open Go.RowKit Go.Proofs.Yteipfgcnfeclgaa.P Go.Proofs.YteipfgcnfeclgaaW.PrintWords
theorem FnLine : laws_FnLine.Pure := by
 intro x y hx hy
 refine Ev.k (?_ : Ev (fun k => laws_FnLine.f k x y) true)
 have hT : Ev (fun k => laws_FnLine.j0 k x y true) true := Ev.step (f := fun _ => some true) (fun k => by simp only [laws_FnLine.j0]; exact if_pos trivial) (Ev.now _)
 by_cases h1 : (x.length : Int) > 1048576
 ·exact Ev.congr (fun k => by simp only [laws_FnLine.f]; exact if_pos h1) hT
 ·by_cases h2 : (y.length : Int) > 1048576
  ·exact Ev.congr (fun k => by simp only [laws_FnLine.f]; rw [if_neg h1, decide_eq_true h2]) hT
  ·refine Ev.congr (fun k => by simp only [laws_FnLine.f]; rw [if_neg h1, decide_eq_false h2]) ?_
   obtain ⟨_, s, ⟨K1, hs⟩, _, _, hs2⟩ := textOf_ok x fun z hz => wfByteL (hx.2.2 z hz)
   obtain ⟨_, t, ⟨K2, ht⟩, _, _, ht2⟩ := textOf_ok y fun z hz => wfByteL (hy.2.2 z hz)
   have z1 : (⟨#[32, 10]⟩ : ByteArray).size = 2 := rfl
   have za : ∀ a b : ByteArray, (a ++ b).size = a.size + b.size := fun a b => by rw [bl_size, bl_append, List.length_append, ← bl_size, ← bl_size]
   obtain ⟨u, hu⟩ : ∃ u, (s ++ (⟨#[32, 10]⟩ : ByteArray)) ++ t = u := ⟨_, rfl⟩
   have hus : u.size ≤ 98 := by rw [← hu, za, za]; omega
   have e1 := implOne_eq u (by omega)
   obtain ⟨K3, e2⟩ := specOne_ev u (by omega)
   have hll := lineL_len (bl u)
   have hu2 := bl_size u
   have hXs : (mkL (lineL (bl u))).size ≤ 98 := by rw [bl_size, bl_mkL]; omega
   have hcl := clean_line (bl u)
   have e3 := implOne_eq (mkL (lineL (bl u))) (by omega)
   rw [bl_mkL, line_clean _ hcl] at e3
   obtain ⟨X, hX⟩ : ∃ X, mkL (lineL (bl u)) = X := ⟨_, rfl⟩
   have hXc : P.Clean (bl X) := by rw [← hX, bl_mkL]; exact hcl
   rw [hX] at e1 e2 e3 hXs
   obtain ⟨K4, e4⟩ := line_l0 X hXc (by omega) (bl X).length 0 (by omega)
   refine ⟨K1 + K2 + K3 + K4 + 2, fun k hk => ?_⟩
   obtain ⟨m, rfl⟩ : ∃ m, k = m + 1 + 1 := ⟨k - 2, by omega⟩
   have f1 : spec_TextOf.f (m + 1) x = some s := hs (m + 1) (by omega)
   have f2 : spec_TextOf.f (m + 1) y = some t := ht (m + 1) (by omega)
   have f3 : spec_OneLine.f (m + 1) u = some (X, 0) := e2 (m + 1) (by omega)
   have f4 : laws_FnLine.l0 m X 0 = some true := e4 m (by omega)
   have hb : (X.toList != X.toList) = false := by simp
   show laws_FnLine.j0 (m + 1 + 1) x y false = some true
   simp only [laws_FnLine.j0, f1, f2, bS, hu, e1, f3, e3, hb]
   rw [if_neg (by decide), if_pos (by omega), if_pos (by rw [za]; omega), if_pos trivial, if_pos trivial, if_pos trivial]
   simp only [laws_FnLine.j1, f4]
   exact if_neg (by decide)
end Go.Proofs.Yteipfgcnfeclgaa.Pure
/- The row of the law FnLine: for every input the call returns true and each argument reads behind the call as it read before. No condition of mine. -/
namespace Go.Proofs.Yteipfgcnfeclgaa.fnLine
open Go.ChangeShapes Go.WideShapes Go.ChangeAt Go.RowKit Go.Proofs.Yteipfgcnfeclgaa.P Go.Proofs.YteipfgcnfeclgaaW.PrintWords
open Go.ChangeMaps (open_string shut_string)
set_option linter.unusedVariables false
theorem own : ownKnob Try.prog.godebug = none := by kernel_rfl
theorem laidOut : laidOutB Try.prog = true := by kernel_rfl
set_option maxRecDepth 100000 in
theorem lifted (os : Os) (started : os.Started) (H : Type) (enc : TypeId × Value → H) :
    ReturnsInHanded {} Try.checked os 3 .any (Rows.fnLineSpec.pre6 enc Try.prog Try.f3 Rows.fnLineRow.domain false) (Rows.fnLineSpec.post enc Try.prog Try.f3 false true false false) := by
  refine returnsInHanded_of_change_sized (C := Try.checked) own started (by kernel_rfl) Try.func3
    (ChangeSpec.witness6 (enc := enc) (C := Try.checked) false ⟨#[], #[.slice none 0 0, .slice none 0 0], []⟩ 8 (by kernel_rfl) (by kernel_rfl) (by kernel_rfl) (by kernel_rfl)) ?_
  intro W base args ds gs before hval0 hW hcnd hsz0 _
  have hsz : (DataW.weightsEach Try.prog (Try.f3.params.toList ++ Rows.fnLineSpec.plain.varTypes Try.prog) (ds ++ gs)).all (· ≤ reachBytes) = true := hsz0
  have hval : ∀ (j : Nat) t v, Try.f3.params[j]? = some t → args[j]? = some v → Value.okWide Try.prog W .any base t v := hval0
  have hW' := hW
  obtain ⟨p, q, hA0, hV, rfl, hfz, hnd⟩ := hW
  have hA : DataW.TrodAll enc Try.prog W 0 (fun _ => true) true Try.f3.params.toList args.toList ds p := hA0
  rw [Try.params3] at hA hval hsz
  obtain ⟨v0, vs0, d0, ds0, p0, q0, hargs, rfl, rfl, h0, r0⟩ := trodAll_cons hA
  obtain ⟨v1, vs1, d1, ds1, p1, q1, rfl, rfl, rfl, h1, r1⟩ := trodAll_cons r0
  obtain ⟨rfl, rfl, rfl⟩ := trodAll_nil r1
  obtain rfl : args = #[v0, v1] := by cases args; simp_all
  obtain ⟨rfl, rfl⟩ := trodVars_none hV
  have kk0 := h0
  have lt0 : ∀ x ∈ p0, x.block < W.heap.size := by obtain ⟨m, hm⟩ := kk0; exact DataW.trod_lt m _ _ _ hm
  obtain ⟨x0, hK0, hS0⟩ := Tells.arg (Tells.slice (b := 1) Try.underlying22 (by kernel_rfl) (by kernel_rfl) (Tells.int Try.underlying5)) h0 hsz (j := 0) (t := 22) rfl rfl
  obtain ⟨a0, len0, cap0, rfl⟩ := okWide_slice Try.underlying22 (hval 0 22 v0 rfl rfl)
  obtain ⟨A0, c0, hq0, hl0, hC0⟩ := hK0
  obtain ⟨rfl, rfl, rfl⟩ : a0 = A0 ∧ len0 = x0.length ∧ cap0 = c0 := by simpa [Value.cells] using hq0
  have kk1 := h1
  have lt1 : ∀ x ∈ p1, x.block < W.heap.size := by obtain ⟨m, hm⟩ := kk1; exact DataW.trod_lt m _ _ _ hm
  obtain ⟨x1, hK1, hS1⟩ := Tells.arg (Tells.slice (b := 1) Try.underlying22 (by kernel_rfl) (by kernel_rfl) (Tells.int Try.underlying5)) h1 hsz (j := 1) (t := 22) rfl rfl
  obtain ⟨a1, len1, cap1, rfl⟩ := okWide_slice Try.underlying22 (hval 1 22 v1 rfl rfl)
  obtain ⟨A1, c1, hq1, hl1, hC1⟩ := hK1
  obtain ⟨rfl, rfl, rfl⟩ : a1 = A1 ∧ len1 = x1.length ∧ cap1 = c1 := by simpa [Value.cells] using hq1
  clear hA0 hval0 hsz0 hsz
  obtain ⟨k, h⟩ := Pure.FnLine x0 x1 hS0 hS1
  refine (laws_FnLine.calls k _ _ x0 _ _ x1 true W hC0 hl0 hC1 hl1 h).mono fun e W' ⟨he, bel0⟩ => ?_
  have bel : Below W.heap.size W W' := bel0
  subst he
  exact ⟨_, rfl, _, _, _, [], _, [], hW', trodAll_mk1 (shut_bool Try.underlying4 _), (trodAll_cons_mk (Below.trod laidOut (by kernel_rfl) (of_decide_eq_true (by kernel_rfl)) kk0 bel lt0) (trodAll_cons_mk (Below.trod laidOut (by kernel_rfl) (of_decide_eq_true (by kernel_rfl)) kk1 bel lt1) trodAll_mk0)), rfl, bel.frame _, fun h => by cases h⟩
theorem over : Rows.fnLineRow.holds Try.pinned (OpenSpec.ofChange Rows.fnLineSpec) :=
  OpenClaim.holds_of_wide 3 Try.f3 rfl rfl rfl rfl rfl rfl rfl ⟨rfl, rfl, rfl, rfl, rfl⟩ rfl rfl rfl rfl rfl (by kernel_rfl) Try.func3 (by kernel_rfl)
    (of_decide_eq_true (by kernel_rfl)) (by unfold Func.isWrapper; first | (rw [if_pos (by decide +kernel)]; kernel_rfl) | (rw [if_neg (by decide +kernel)]; exact ⟨rfl, rfl⟩))
    (fun os started H enc _ => lifted os started H enc)
theorem proved : Rows.FnLineSaid := over
#print axioms proved
end Go.Proofs.Yteipfgcnfeclgaa.fnLine
namespace Go.Proofs.Yteipfgcnfeclgaa
/-- The statement, under a short name, for the claim. -/
theorem fnLine_holds : Rows.FnLineSaid := fnLine.proved
end Go.Proofs.Yteipfgcnfeclgaa
