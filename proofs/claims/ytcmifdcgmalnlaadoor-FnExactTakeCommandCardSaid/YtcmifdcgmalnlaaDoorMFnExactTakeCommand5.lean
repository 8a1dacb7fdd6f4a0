/- Part 5 of what the law FnExactTakeCommand stands on; the last part ends with the law's row. No condition of mine. -/
import Derived.Test.YtcmifdcgmalnlaaDoorMFnExactTakeCommand4
import Derived.Test.YtcmifdcgmalnlaaDoorMFnExactTakeCommand2
import Derived.Test.YtcmifdcgmalnlaaDoorMFnExactTakeCommand3
/- Lemmas of mine: a number read from its text: the reference and the program tell the same. Plain. -/
set_option linter.unusedVariables false
set_option linter.unusedSimpArgs false
namespace Go.Proofs.YtcmifdcgmalnlaaDoor.P
open Go.RowKit Go.Proofs.YtcmifdcgmalnlaaDoorW.PrintWords
def isDig (b : UInt8) : Bool := decide (48 ≤ b.toNat ∧ b.toNat ≤ 57)
/-- What digits spell behind a number. -/
def valF : Nat → List UInt8 → Nat
 | a, [] => a
 | a, b :: l => valF (a * 10 + (b.toNat - 48)) l
theorem isDig_iff (b : UInt8) : isDig b = true ↔ 48 ≤ b.toNat ∧ b.toNat ≤ 57 := decide_eq_true_iff
theorem parse_val : ∀ (l : List UInt8) (i acc : Nat), i + l.length ≤ 18 → acc < 10 ^ i → l.all isDig = true → Lib.parseUint10 acc l = .ok (valF acc l) ∧ valF acc l < 10 ^ (i + l.length)
 | [], i, acc, _, ha, _ => ⟨rfl, ha⟩
 | b :: l, i, acc, hi, ha, hd => by
  rw [List.all_cons, Bool.and_eq_true, isDig_iff] at hd
  rw [List.length_cons] at hi
  have h17 : acc < 100000000000000000 := Nat.lt_of_lt_of_le ha (Nat.le_trans (Nat.pow_le_pow_right (by decide) (show i ≤ 17 by omega)) (by decide))
  have hn : acc * 10 + (b.toNat - 48) < 10 ^ (i + 1) := by rw [Nat.pow_succ]; omega
  obtain ⟨h1, h2⟩ := parse_val l (i + 1) (acc * 10 + (b.toNat - 48)) (by omega) hn hd.2
  refine ⟨?_, by rw [List.length_cons, show i + (l.length + 1) = i + 1 + l.length by omega]; exact h2⟩
  unfold Lib.parseUint10
  rw [if_pos hd.1, if_neg (by omega), if_neg (by omega), h1]
  rfl
/-- A number's sign; its digits. -/
def negN (l : List UInt8) : Prop := l[0]? = some 45
def digN (l : List UInt8) : List UInt8 := if l[0]? = some 45 then l.drop 1 else l
def goodN (l : List UInt8) : Prop := (1 ≤ (digN l).length ∧ (digN l).length ≤ 18) ∧ ¬ ((digN l)[0]? = some 48 ∧ (1 < (digN l).length ∨ negN l)) ∧ (digN l).all isDig = true
def valN (l : List UInt8) : Int := if l[0]? = some 45 then -(valF 0 (digN l) : Int) else (valF 0 (digN l) : Int)
theorem valF_lt (l : List UInt8) (h : goodN l) : valF 0 (digN l) < 1000000000000000000 := by
 obtain ⟨_, h2⟩ := parse_val (digN l) 0 0 (by have := h.1.2; omega) (by decide) h.2.2
 exact Nat.lt_of_lt_of_le h2 (Nat.le_trans (Nat.pow_le_pow_right (by decide) (show 0 + (digN l).length ≤ 18 by have := h.1.2; omega)) (by decide))
theorem atoi_good (l : List UInt8) (h : goodN l) : Lib.atoiAll l = .ok (valN l) := by
 have hlt := valF_lt l h
 obtain ⟨h1, _⟩ := parse_val (digN l) 0 0 (by have := h.1.2; omega) (by decide) h.2.2
 have hmag : Lib.parseMag (digN l) = .ok (valF 0 (digN l)) := by
  unfold Lib.parseMag
  rw [if_neg (fun e => by have := h.1.1; rw [e] at this; exact absurd this (by decide)), h1]
 unfold valN
 cases l with
 | nil => exact absurd h.1.1 (by decide)
 | cons c r =>
  unfold Lib.atoiAll
  by_cases hc : c = 45
  ·subst hc
   have hd : digN (45 :: r) = r := rfl
   rw [hd] at hmag hlt ⊢
   have h0 : ((45 :: r : List UInt8)[0]? = some 45) = True := eq_true rfl
   simp only [h0, if_true]
   have e1 : ((45 : UInt8).toNat = 43 ∨ (45 : UInt8).toNat = 45) := Or.inr rfl
   simp only [if_pos e1, hmag]
   have e2 : (45 : UInt8).toNat = 45 := rfl
   simp only [e2, not_true, false_and, if_false, true_and]
   rw [if_neg (by omega), if_pos trivial]
  ·have h0 : ¬ (c :: r)[0]? = some 45 := fun e => hc (Option.some.inj e)
   have hd : digN (c :: r) = c :: r := if_neg h0
   have hdig := h.2.2
   rw [hd] at hmag hlt hdig ⊢
   rw [List.all_cons, Bool.and_eq_true, isDig_iff] at hdig
   rw [if_neg h0]
   have e1 : ¬ (c.toNat = 43 ∨ c.toNat = 45) := by omega
   have e2 : ¬ c.toNat = 45 := by omega
   have e3 : ¬ c.toNat = 43 := by omega
   simp only [e2, e3, or_self, not_false_eq_true, true_and, false_and, if_false]
   rw [hmag]
   show (if 9223372036854775808 ≤ valF 0 (c :: r) then _ else _) = _
   rw [if_neg (by omega)]
theorem stepW (acc b : Nat) (h : acc < 100000000000000000) (hb : 48 ≤ b ∧ b ≤ 57) : wrap64 ((wrap64 ((wrap64 ((acc : Int) * 10)) + (wrap64 (b : Int)))) - 48) = ((acc * 10 + (b - 48) : Nat) : Int) := by
 rw [w64 (n := (acc : Int) * 10) (by omega) (by omega), w64 (n := (b : Int)) (by omega) (by omega), w64 (n := (acc : Int) * 10 + (b : Int)) (by omega) (by omega), w64 (by omega) (by omega)]
 omega
theorem specNum_l0 (s : ByteArray) (sg : Int) (hs : s.size ≤ 18) (hsg : sg = 1 ∨ sg = -1) : ∀ (d i acc : Nat), i + d = s.size → acc < 10 ^ i → Ev (fun k => spec_l00Number.l0 k s sg (acc : Int) (i : Int)) (if ((bl s).drop i).all isDig = true then (sg * (valF acc ((bl s).drop i) : Int), true) else (0, false)) := by
 have hsz := bl_size s
 intro d
 induction d with
 | zero =>
  intro i acc hi ha
  rw [List.drop_eq_nil_of_le (by omega)]
  have h18 : acc < 1000000000000000001 := Nat.lt_of_lt_of_le ha (Nat.le_trans (Nat.pow_le_pow_right (by decide) (show i ≤ 18 by omega)) (by decide))
  refine Ev.step (f := fun _ => some _) (fun k => ?_) (Ev.now _)
  simp only [spec_l00Number.l0]
  rw [if_neg (by omega), List.all_nil, if_pos rfl]
  unfold valF
  rw [w64]
  ·rcases hsg with rfl | rfl <;> omega
  ·rcases hsg with rfl | rfl <;> omega
 | succ d ih =>
  intro i acc hi ha
  have hlt : i < (bl s).length := by omega
  have hv := bt_eq s i hlt
  rw [List.drop_eq_getElem_cons hlt, List.all_cons]
  generalize (bl s)[i] = b at hv
  have hb := byte_lt b
  by_cases hd : 48 ≤ b.toNat ∧ b.toNat ≤ 57
  ·have h17 : acc < 100000000000000000 := Nat.lt_of_lt_of_le ha (Nat.le_trans (Nat.pow_le_pow_right (by decide) (show i ≤ 17 by omega)) (by decide))
   have hn : acc * 10 + (b.toNat - 48) < 10 ^ (i + 1) := by rw [Nat.pow_succ]; omega
   rw [(isDig_iff b).2 hd, Bool.true_and]
   refine Ev.step (fun k => ?_) (ih (i + 1) (acc * 10 + (b.toNat - 48)) (by omega) hn)
   simp only [spec_l00Number.l0, hv]
   rw [if_pos (by omega), if_pos (by omega), if_neg (by omega), if_neg (by omega), stepW acc b.toNat h17 hd, w64s i (by omega)]
  ·have hf : isDig b = false := by
    cases h : isDig b with
    | false => rfl
    | true => exact absurd ((isDig_iff b).1 h) hd
   rw [hf, Bool.false_and, if_neg (by decide)]
   refine Ev.step (f := fun _ => some _) (fun k => ?_) (Ev.now _)
   simp only [spec_l00Number.l0, hv]
   rw [if_pos (by omega), if_pos (by omega)]
   by_cases h1 : (b.toNat : Int) < 48
   ·rw [if_pos h1]
   ·rw [if_neg h1, if_pos (by omega)]
noncomputable def numO (l : List UInt8) : Int × Bool := by
 classical exact if goodN l then (valN l, true) else (0, false)
theorem numO_good (l : List UInt8) (h : goodN l) : numO l = (valN l, true) := by unfold numO; exact if_pos h
theorem numO_bad (l : List UInt8) (h : ¬ goodN l) : numO l = (0, false) := by unfold numO; exact if_neg h
/-- Behind the sign. -/
theorem specNum_j1 (d : ByteArray) (sg : Int) (hsg : sg = 1 ∨ sg = -1) (hd : d.size ≤ 4611686018427387904) :
  Ev (fun k => spec_l00Number.j1 k d sg) (if ((1 ≤ d.size ∧ d.size ≤ 18) ∧ ¬ ((bl d)[0]? = some 48 ∧ (1 < d.size ∨ sg < 0)) ∧ (bl d).all isDig = true) then (sg * (valF 0 (bl d) : Int), true) else (0, false)) := by
 have hsz := bl_size d
 have ejt : Ev (fun k => spec_l00Number.j2 k d sg true) (0, false) := Ev.step (f := fun _ => some _) (fun k => by simp only [spec_l00Number.j2]; exact if_pos trivial) (Ev.now _)
 by_cases h0 : d.size = 0
 ·rw [if_neg (by omega)]
  exact Ev.step (fun k => by simp only [spec_l00Number.j1]; rw [if_pos (by omega)]) ejt
 ·by_cases h18 : d.size > 18
  ·rw [if_neg (by omega)]
   exact Ev.step (fun k => by simp only [spec_l00Number.j1]; rw [if_neg (by omega), if_pos (by omega)]) ejt
  ·have hlt : 0 < (bl d).length := by omega
   have hv := bt_eq d 0 hlt
   have hv' : bt d 0 = (((bl d)[0]).toNat : Int) := hv
   have hg : (bl d)[0]? = some (bl d)[0] := List.getElem?_eq_getElem hlt
   have hl := specNum_l0 d sg (by omega) hsg d.size 0 0 (by omega) (by decide)
   rw [List.drop_zero] at hl
   have hj2 : Ev (fun k => spec_l00Number.j2 k d sg false) (if (bl d).all isDig = true then (sg * (valF 0 (bl d) : Int), true) else (0, false)) :=
    Ev.step (fun k => by simp only [spec_l00Number.j2]; rw [if_neg (by decide)]; rfl) hl
   by_cases h48 : (bl d)[0] = 48
   ·have hb : bt d 0 = 48 := by rw [hv', h48]; rfl
    by_cases h1 : 1 < d.size
    ·rw [if_neg (fun h => h.2.1 ⟨by rw [hg, h48], .inl h1⟩)]
     exact Ev.step (fun k => by simp only [spec_l00Number.j1]; rw [if_neg (by omega), if_neg (by omega), if_pos (by omega), if_pos hb, if_pos (by omega)]) ejt
    ·by_cases hn : sg < 0
     ·rw [if_neg (fun h => h.2.1 ⟨by rw [hg, h48], .inr hn⟩)]
      exact Ev.step (fun k => by simp only [spec_l00Number.j1]; rw [if_neg (by omega), if_neg (by omega), if_pos (by omega), if_pos hb, if_neg (by omega), decide_eq_true hn]) ejt
     ·have e : (if ((1 ≤ d.size ∧ d.size ≤ 18) ∧ ¬ ((bl d)[0]? = some 48 ∧ (1 < d.size ∨ sg < 0)) ∧ (bl d).all isDig = true) then (sg * (valF 0 (bl d) : Int), true) else ((0, false) : Int × Bool)) = if (bl d).all isDig = true then (sg * (valF 0 (bl d) : Int), true) else (0, false) := by
       by_cases ha : (bl d).all isDig = true
       ·rw [if_pos ha, if_pos ⟨by omega, (fun h => by rcases h.2 with h | h <;> omega), ha⟩]
       ·rw [if_neg ha, if_neg (fun h => ha h.2.2)]
      rw [e]
      exact Ev.step (fun k => by simp only [spec_l00Number.j1]; rw [if_neg (by omega), if_neg (by omega), if_pos (by omega), if_pos hb, if_neg (by omega), decide_eq_false hn]) hj2
   ·have hb : ¬ bt d 0 = 48 := by
     rw [hv']
     intro h
     exact h48 ((byte_iff _ _).1 h)
    have e : (if ((1 ≤ d.size ∧ d.size ≤ 18) ∧ ¬ ((bl d)[0]? = some 48 ∧ (1 < d.size ∨ sg < 0)) ∧ (bl d).all isDig = true) then (sg * (valF 0 (bl d) : Int), true) else ((0, false) : Int × Bool)) = if (bl d).all isDig = true then (sg * (valF 0 (bl d) : Int), true) else (0, false) := by
     by_cases ha : (bl d).all isDig = true
     ·rw [if_pos ha, if_pos ⟨by omega, (fun h => h48 (Option.some.inj (hg.symm.trans h.1))), ha⟩]
     ·rw [if_neg ha, if_neg (fun h => ha h.2.2)]
    rw [e]
    exact Ev.step (fun k => by simp only [spec_l00Number.j1]; rw [if_neg (by omega), if_neg (by omega), if_pos (by omega), if_neg hb]) hj2
theorem specNum_ev (s : ByteArray) (hs : s.size ≤ 4611686018427387904) : Ev (fun k => spec_l00Number.f k s) (numO (bl s)) := by
 classical
 have hsz := bl_size s
 by_cases hn : (bl s)[0]? = some 45
 ·have hlt : 0 < (bl s).length := by
   rcases Nat.eq_zero_or_pos (bl s).length with h | h
   ·rw [List.getElem?_eq_none (by omega)] at hn; cases hn
   ·exact h
  have hv : bt s 0 = 45 := by
   have := bt_eq s 0 hlt
   rw [List.getElem?_eq_getElem hlt] at hn
   rw [Option.some.inj hn] at this
   exact this
  have hd : bl (s.extract 1 s.size) = digN (bl s) := by
   unfold digN
   rw [if_pos hn, bl_extract]
   exact List.take_of_length_le (by rw [List.length_drop]; omega)
  have hds : (s.extract 1 s.size).size = (digN (bl s)).length := by rw [bl_size, hd]
  have h := specNum_j1 (s.extract 1 s.size) (-1) (.inr rfl) (by rw [bl_size, bl_extract, List.length_take, List.length_drop]; omega)
  rw [hd, hds] at h
  have e : numO (bl s) = if ((1 ≤ (digN (bl s)).length ∧ (digN (bl s)).length ≤ 18) ∧ ¬ ((digN (bl s))[0]? = some 48 ∧ (1 < (digN (bl s)).length ∨ (-1 : Int) < 0)) ∧ (digN (bl s)).all isDig = true) then ((-1 : Int) * (valF 0 (digN (bl s)) : Int), true) else (0, false) := by
   by_cases hg : goodN (bl s)
   ·rw [numO_good _ hg, if_pos ⟨hg.1, (fun h => hg.2.1 ⟨h.1, .inr hn⟩), hg.2.2⟩]
    unfold valN
    rw [if_pos hn]
    congr 1
    omega
   ·rw [numO_bad _ hg, if_neg (fun h => hg ⟨h.1, (fun q => h.2.1 ⟨q.1, .inr (by decide)⟩), h.2.2⟩)]
  rw [e]
  refine Ev.congr (f := fun k => spec_l00Number.j0 k s 1 true) (fun k => ?_) (Ev.step (fun k => ?_) h)
  ·simp only [spec_l00Number.f]
   rw [if_pos (by omega), if_pos (by omega), hv]
   rfl
  ·simp only [spec_l00Number.j0]
   rw [if_pos trivial, if_pos (by omega)]
 ·have hd : digN (bl s) = bl s := if_neg hn
  have h := specNum_j1 s 1 (.inl rfl) hs
  rw [hsz] at h
  have e : numO (bl s) = if ((1 ≤ (bl s).length ∧ (bl s).length ≤ 18) ∧ ¬ ((bl s)[0]? = some 48 ∧ (1 < (bl s).length ∨ (1 : Int) < 0)) ∧ (bl s).all isDig = true) then ((1 : Int) * (valF 0 (bl s) : Int), true) else (0, false) := by
   by_cases hg : goodN (bl s)
   ·rw [numO_good _ hg]
    have hg' := hg
    unfold goodN at hg'
    rw [hd] at hg'
    rw [if_pos ⟨hg'.1, (fun h => hg'.2.1 ⟨h.1, h.2.elim .inl (fun q => absurd q (by decide))⟩), hg'.2.2⟩]
    unfold valN
    rw [if_neg hn, hd, Int.one_mul]
   ·rw [numO_bad _ hg, if_neg (fun h => hg (by
     unfold goodN
     rw [hd]
     exact ⟨h.1, (fun q => h.2.1 ⟨q.1, q.2.elim .inl (fun q2 => absurd q2 hn)⟩), h.2.2⟩))]
  rw [e]
  have hj : Ev (fun k => spec_l00Number.j0 k s 1 false) (if ((1 ≤ (bl s).length ∧ (bl s).length ≤ 18) ∧ ¬ ((bl s)[0]? = some 48 ∧ (1 < (bl s).length ∨ (1 : Int) < 0)) ∧ (bl s).all isDig = true) then ((1 : Int) * (valF 0 (bl s) : Int), true) else (0, false)) :=
   Ev.step (fun k => by simp only [spec_l00Number.j0]; rw [if_neg (by decide)]) h
  refine Ev.congr (fun k => ?_) hj
  simp only [spec_l00Number.f]
  by_cases h0 : s.size = 0
  ·rw [if_neg (by omega)]
  ·rw [if_pos (by omega), if_pos (by omega)]
   have hlt : 0 < (bl s).length := by omega
   have : (bt s 0 == 45) = false := by
    refine beq_eq_false_iff_ne.mpr fun h => hn ?_
    have hv := bt_eq s 0 hlt
    have hv' : bt s 0 = (((bl s)[0]).toNat : Int) := hv
    rw [hv'] at h
    rw [List.getElem?_eq_getElem hlt]
    exact congrArg some ((byte_iff _ _).1 h)
   rw [this]
theorem trimPre (s : ByteArray) (c : UInt8) : strings_TrimPrefix.f s (⟨#[c]⟩ : ByteArray) = some (if (bl s)[0]? = some c then s.extract 1 s.size else s) := by
 have h1 : (⟨#[c]⟩ : ByteArray).size = 1 := rfl
 have hsz := bl_size s
 have hl : (⟨#[c]⟩ : ByteArray).toList = [c] := by rw [toList_bl]; rfl
 simp only [strings_TrimPrefix.f, stringslite_TrimPrefix.f, stringslite_HasPrefix.f, h1, hl]
 by_cases h0 : s.size = 0
 ·rw [if_neg (by omega), bS, if_neg (by decide), bS, if_neg (by
   rw [List.getElem?_eq_none (by omega)]; simp)]
 ·rw [if_pos (by omega), if_pos (by omega), if_pos (by omega), bS]
  have e : ((s.extract 0 ((((1 : Nat) : Int))).toNat).toList == [c]) = decide ((bl s)[0]? = some c) := by
   rw [toList_bl, bl_extract, List.drop_zero, Bool.eq_iff_iff, beq_iff_eq, decide_eq_true_eq, ← take_one]
   rfl
  rw [e]
  by_cases hc : (bl s)[0]? = some c
  ·rw [decide_eq_true hc, if_pos rfl, if_pos (by omega), if_pos (by omega), bS, if_pos hc]; rfl
  ·rw [decide_eq_false hc, if_neg (by decide), bS, if_neg hc]
theorem implDig (n : Int) : impl_isDigit.f n = some (decide (48 ≤ n ∧ n ≤ 57)) := by
 unfold impl_isDigit.f
 by_cases h : 48 ≤ n
 ·by_cases h2 : n ≤ 57
  ·rw [show decide (48 ≤ n ∧ n ≤ 57) = true from decide_eq_true ⟨h, h2⟩]; simp [h, h2]
  ·rw [show decide (48 ≤ n ∧ n ≤ 57) = false from decide_eq_false (fun q => h2 q.2)]; simp [h]; omega
 ·rw [show decide (48 ≤ n ∧ n ≤ 57) = false from decide_eq_false (fun q => h q.1)]; simp [h]
theorem implNum_l0 (s d : ByteArray) (hd : d.size ≤ 4611686018427387904) (v : Int) (hv : (bl d).all isDig = true → strconv_Atoi_156.f s = some (v, none)) : ∀ (n i : Nat), i + n = d.size → (∀ j (hj : j < i) (h : j < (bl d).length), isDig (bl d)[j] = true) → Ev (fun k => impl_number.l0 k s d (d.size : Int) (i : Int)) (if (bl d).all isDig = true then (v, true) else (0, false)) := by
 have hsz := bl_size d
 intro n
 induction n with
 | zero =>
  intro i hi hp
  have ha : (bl d).all isDig = true := List.all_eq_true.2 fun x hx => by
   obtain ⟨j, hj, rfl⟩ := List.mem_iff_getElem.1 hx
   exact hp j (by omega) hj
  rw [if_pos ha]
  refine Ev.step (f := fun _ => some _) (fun k => ?_) (Ev.now _)
  simp only [impl_number.l0, hv ha, bS]
  rw [if_neg (by omega)]
  rfl
 | succ n ih =>
  intro i hi hp
  have hlt : i < (bl d).length := by omega
  have hb := bt_eq d i hlt
  have hdig : impl_isDigit.f (bt d (i : Int)) = some (isDig (bl d)[i]) := by
   rw [hb, implDig]
   unfold isDig
   congr 1
   rw [Bool.eq_iff_iff, decide_eq_true_eq, decide_eq_true_eq]
   omega
  cases hq : isDig (bl d)[i] with
  | true =>
   refine Ev.step (fun k => ?_) (ih (i + 1) (by omega) (fun j hj h => ?_))
   ·simp only [impl_number.l0, hdig, hq, bS]
    rw [if_pos (by omega), if_pos (by omega), if_pos (by omega), if_pos trivial, w64s i (by omega)]
   ·by_cases e : j = i
    ·subst e; exact hq
    ·exact hp j (by omega) h
  | false =>
   have hn : ¬ (bl d).all isDig = true := fun h => by
    have := List.all_eq_true.1 h _ (List.getElem_mem hlt)
    rw [hq] at this
    cases this
   rw [if_neg hn]
   refine Ev.step (f := fun _ => some _) (fun k => ?_) (Ev.now _)
   simp only [impl_number.l0, hdig, hq, bS]
   rw [if_pos (by omega), if_pos (by omega), if_pos (by omega), if_neg (by decide)]
theorem atoiF (s : ByteArray) (h : goodN (bl s)) : strconv_Atoi_156.f s = some (valN (bl s), none) := by
 have hsz := bl_size s
 have hl : (bl s).length ≤ 19 := by
  have := h.1.2
  unfold digN at this
  split at this
  ·rw [List.length_drop] at this; omega
  ·omega
 unfold strconv_Atoi_156.f
 have e : Lib.atoiAll s.data.toList = .ok (valN (bl s)) := atoi_good _ h
 rw [e]
 show (if s.size ≤ 1000000 then _ else _) = _
 rw [if_pos (by omega)]
theorem implNum_ev (s : ByteArray) (hs : s.size ≤ 4611686018427387904) : Ev (fun k => impl_number.f k s) (numO (bl s)) := by
 have hsz := bl_size s
 obtain ⟨d, hd⟩ : ∃ d : ByteArray, (if (bl s)[0]? = some 45 then s.extract 1 s.size else s) = d := ⟨_, rfl⟩
 have hdl : bl d = digN (bl s) := by
  rw [← hd]
  unfold digN
  split
  ·rw [bl_extract]; exact List.take_of_length_le (by rw [List.length_drop]; omega)
  ·rfl
 have hds : d.size = (digN (bl s)).length := by rw [bl_size, hdl]
 have hdle : d.size ≤ s.size := by
  rw [hds, hsz]
  unfold digN
  split
  ·rw [List.length_drop]; omega
  ·exact Nat.le_refl _
 have htrim : strings_TrimPrefix.f s (⟨#[45]⟩ : ByteArray) = some d := by rw [trimPre, hd]
 have ejt : Ev (fun k => impl_number.j0 k s d true) (0, false) := Ev.step (f := fun _ => some _) (fun k => by simp only [impl_number.j0]; exact if_pos trivial) (Ev.now _)
 have hfin : ∀ (b : Bool), (∀ k, impl_number.f k s = impl_number.j0 k s d b) → (b = true → ¬ goodN (bl s)) → (b = false → (1 ≤ d.size ∧ d.size ≤ 18) ∧ ¬ ((digN (bl s))[0]? = some 48 ∧ (1 < (digN (bl s)).length ∨ negN (bl s)))) → Ev (fun k => impl_number.f k s) (numO (bl s)) := by
  intro b he hbad hgood
  cases b with
  | true =>
   rw [numO_bad _ (hbad rfl)]
   exact Ev.congr he ejt
  | false =>
   obtain ⟨g1, g2⟩ := hgood rfl
   rw [hds] at g1
   have h := implNum_l0 s d (by omega) (valN (bl s)) (fun ha => atoiF s ⟨g1, g2, by rw [← hdl]; exact ha⟩) d.size 0 (by omega) (fun j hj => absurd hj (Nat.not_lt_zero _))
   have e : numO (bl s) = if (bl d).all isDig = true then (valN (bl s), true) else (0, false) := by
    by_cases ha : (bl d).all isDig = true
    ·rw [if_pos ha, numO_good _ ⟨g1, g2, by rw [← hdl]; exact ha⟩]
    ·rw [if_neg ha, numO_bad _ (fun h => ha (by rw [hdl]; exact h.2.2))]
   rw [e]
   exact Ev.congr he (Ev.step (fun k => by simp only [impl_number.j0]; rw [if_neg (by decide)]; rfl) h)
 by_cases hw : 1 ≤ d.size ∧ d.size ≤ 18
 ·have hlt : 0 < (bl d).length := by rw [hdl, ← hds]; omega
  have hv : bt d 0 = (((bl d)[0]).toNat : Int) := bt_eq d 0 hlt
  have hg : (digN (bl s))[0]? = some (bl d)[0] := by rw [← hdl]; exact List.getElem?_eq_getElem hlt
  have hwi : impl_within.f (d.size : Int) 1 18 = some true := by rw [within_eq, decide_eq_true ⟨by omega, by omega⟩]
  by_cases h1 : 1 < d.size
  ·by_cases h48 : bt d 0 = 48
   ·refine hfin true (fun k => ?_) (fun _ h => h.2.1 ⟨?_, .inl (by omega)⟩) (fun h => by cases h)
    ·simp only [impl_number.f, htrim, hwi, bS]
     rw [if_pos trivial, if_pos (by omega), if_pos (by omega), if_pos h48]
    ·rw [hg]
     rw [hv] at h48
     exact congrArg some ((byte_iff _ _).1 h48)
   ·have hb : (s.toList == ([45, 48] : List UInt8)) = false := by
     refine beq_eq_false_iff_ne.mpr fun h => ?_
     rw [toList_bl] at h
     rw [h] at hds
     exact absurd h1 (by rw [hds]; decide)
    refine hfin false (fun k => ?_) (fun h => by cases h) (fun _ => ⟨hw, fun h => h48 ?_⟩)
    ·simp only [impl_number.f, htrim, hwi, bS, hb]
     rw [if_pos trivial, if_pos (by omega), if_pos (by omega), if_neg h48]
    ·rw [hv]
     rw [hg] at h
     rw [Option.some.inj h.1]
     rfl
  ·by_cases hneg0 : s.toList = ([45, 48] : List UInt8)
   ·have hb : (s.toList == ([45, 48] : List UInt8)) = true := beq_iff_eq.mpr hneg0
    refine hfin true (fun k => ?_) (fun _ h => h.2.1 ?_) (fun h => by cases h)
    ·simp only [impl_number.f, htrim, hwi, bS, hb]
     rw [if_pos trivial, if_neg (by omega)]
    ·rw [toList_bl] at hneg0
     rw [hneg0]
     exact ⟨rfl, .inr rfl⟩
   ·have hb : (s.toList == ([45, 48] : List UInt8)) = false := beq_eq_false_iff_ne.mpr hneg0
    refine hfin false (fun k => ?_) (fun h => by cases h) (fun _ => ⟨hw, fun h => ?_⟩)
    ·simp only [impl_number.f, htrim, hwi, bS, hb]
     rw [if_pos trivial, if_neg (by omega)]
    ·rcases h.2 with h2 | h2
     ·omega
     ·refine hneg0 ?_
      rw [toList_bl]
      have hd1 : (digN (bl s)).length = 1 := by omega
      have h0 := h.1
      unfold negN at h2
      unfold digN at hd1 h0
      rw [if_pos h2] at hd1 h0
      cases hl : bl s with
      | nil => rw [hl] at h2; cases h2
      | cons a r =>
       rw [hl] at h2 h0 hd1
       have ha : a = 45 := Option.some.inj h2
       subst ha
       cases r with
       | nil => cases h0
       | cons b r2 =>
        have hb : b = 48 := Option.some.inj h0
        subst hb
        cases r2 with
        | nil => rfl
        | cons _ _ => simp at hd1
 ·have hwi : impl_within.f (d.size : Int) 1 18 = some false := by rw [within_eq, decide_eq_false (fun h => hw ⟨by omega, by omega⟩)]
  refine hfin true (fun k => ?_) (fun _ h => hw ⟨by have := h.1.1; omega, by have := h.1.2; omega⟩) (fun h => by cases h)
  simp only [impl_number.f, htrim, hwi, bS]
  rw [if_neg (by decide)]
end Go.Proofs.YtcmifdcgmalnlaaDoor.P
/- Lemmas of mine: a literal's length at a line's end; a command's end among lines. Plain. -/
set_option linter.unusedVariables false
set_option linter.unusedSimpArgs false
namespace Go.Proofs.YtcmifdcgmalnlaaDoor.P
open Go.RowKit Go.Proofs.YtcmifdcgmalnlaaDoorW.PrintWords
theorem isC (b c : UInt8) (n : Int) (hn : (c.toNat : Int) = n) : ((b.toNat : Int) = n) ↔ b = c := by
 rw [← hn]; exact byte_iff b c
/-- Where a scan that goes down over n bytes meets '{'. -/
def lastI (L : List UInt8) : Nat → Int
 | 0 => -1
 | n + 1 => if L[n]? = some 123 then (n : Int) else lastI L n
theorem lastI_facts (L : List UInt8) : ∀ n, (lastI L n = -1 ∧ ∀ j, j < n → ¬ L[j]? = some 123) ∨ ∃ t : Nat, lastI L n = (t : Int) ∧ t < n ∧ L[t]? = some 123 ∧ ∀ j, t < j → j < n → ¬ L[j]? = some 123
 | 0 => .inl ⟨rfl, fun j h => absurd h (Nat.not_lt_zero _)⟩
 | n + 1 => by
  unfold lastI
  by_cases h : L[n]? = some 123
  ·rw [if_pos h]
   exact .inr ⟨n, rfl, Nat.lt_succ_self _, h, fun j h1 h2 => by omega⟩
  ·rw [if_neg h]
   rcases lastI_facts L n with ⟨h1, h2⟩ | ⟨t, h1, h2, h3, h4⟩
   ·exact .inl ⟨h1, fun j hj => by
     by_cases e : j = n
     ·rw [e]; exact h
     ·exact h2 j (by omega)⟩
   ·exact .inr ⟨t, h1, by omega, h3, fun j hj hj2 => by
     by_cases e : j = n
     ·rw [e]; exact h
     ·exact h4 j hj (by omega)⟩
theorem lastB_l0 (s : ByteArray) (hs : s.size ≤ 4611686018427387904) : ∀ n : Nat, n ≤ s.size → Ev (fun k => bytealg_LastIndexByteString.l0 k s 123 ((n : Int) - 1)) (lastI (bl s) n) := by
 have hsz := bl_size s
 intro n
 induction n with
 | zero =>
  intro _
  refine Ev.step (f := fun _ => some _) (fun k => ?_) (Ev.now _)
  simp only [bytealg_LastIndexByteString.l0]
  rw [if_neg (by omega)]
  rfl
 | succ n ih =>
  intro hn
  have hlt : n < (bl s).length := by omega
  have hv := bt_eq s n hlt
  have hg : (bl s)[n]? = some (bl s)[n] := List.getElem?_eq_getElem hlt
  have e : (((n + 1 : Nat) : Int)) - 1 = (n : Int) := by omega
  unfold lastI
  rw [hg, e]
  by_cases h : (bl s)[n] = 123
  ·rw [if_pos (congrArg some h)]
   refine Ev.step (f := fun _ => some _) (fun k => ?_) (Ev.now _)
   simp only [bytealg_LastIndexByteString.l0, hv]
   rw [if_pos (by omega), if_pos (by omega), if_pos (by omega), if_pos (by rw [h]; rfl)]
  ·rw [if_neg (fun q => h (Option.some.inj q))]
   refine Ev.step (fun k => ?_) (ih (by omega))
   simp only [bytealg_LastIndexByteString.l0, hv]
   rw [if_pos (by omega), if_pos (by omega), if_pos (by omega), if_neg (fun q => h ((isC _ 123 123 rfl).1 q)), w64 (by omega) (by omega)]
theorem lastB_ev (s : ByteArray) (hs : s.size ≤ 4611686018427387904) : Ev (fun k => strings_LastIndexByte.f k s 123) (lastI (bl s) s.size) := by
 refine Ev.congr (f := fun k => (bytealg_LastIndexByteString.l0 k s 123 ((s.size : Int) - 1)).bind fun t => some t) (fun k => ?_) (Ev.bind (lastB_l0 s hs s.size (Nat.le_refl _)) (Ev.now _))
 simp only [strings_LastIndexByte.f, bytealg_LastIndexByteString.f]
 rw [w64 (by omega) (by omega)]
/-- What the reference tells where its scan stops. -/
noncomputable def finL (L : List UInt8) (m k : Nat) : Int × Bool := if L[k]? = some 123 ∧ m - k ≤ 6 then numO ((L.drop (k + 1)).take (m - k)) else (0, false)
noncomputable def litS (L : List UInt8) (m : Nat) : Nat → Int × Bool
 | 0 => finL L m 0
 | k + 1 => if (L[k + 1]?.map isDig) = some true then litS L m k else finL L m (k + 1)
theorem numIn (s : ByteArray) (k m : Nat) (hk : k ≤ m) (hm : m + 2 = s.size) (hs : s.size ≤ 4611686018427387904) :
  Ev (fun q => (spec_l00Number.f q (s.extract ((wrap64 ((k : Int) + 1)) : Int).toNat ((wrap64 ((s.size : Int) - 1)) : Int).toNat)).bind fun bt101 => some (bt101.1, bt101.2)) (numO (((bl s).drop (k + 1)).take (m - k))) := by
 have hsz := bl_size s
 rw [w64s k (by omega), w64 (n := (s.size : Int) - 1) (by omega) (by omega)]
 have e : bl (s.extract (((k + 1 : Nat) : Int)).toNat ((s.size : Int) - 1).toNat) = ((bl s).drop (k + 1)).take (m - k) := by
  rw [bl_extract]
  congr 1
  ·omega
 have h := specNum_ev (s.extract (((k + 1 : Nat) : Int)).toNat ((s.size : Int) - 1).toNat) (by rw [bl_size, bl_extract, List.length_take, List.length_drop]; omega)
 rw [e] at h
 exact Ev.bind h (Ev.now _)
theorem specLit_l0 (s : ByteArray) (m : Nat) (hm : m + 2 = s.size) (hs : s.size ≤ 4611686018427387904) : ∀ k : Nat, k ≤ m → Ev (fun q => spec_l12Literal.l0 q s (k : Int)) (litS (bl s) m k) := by
 have hsz := bl_size s
 have hfin : ∀ k : Nat, k ≤ m → ∀ b : UInt8, (bl s)[k]? = some b → Ev (fun q => if (b.toNat : Int) = 123 then (if (wrap64 ((wrap64 ((s.size : Int) - 2)) - (k : Int))) > 6 then (some (0, false)) else (if 0 ≤ (wrap64 ((k : Int) + 1)) then (if (wrap64 ((k : Int) + 1)) ≤ (wrap64 ((s.size : Int) - 1)) then (if (wrap64 ((s.size : Int) - 1)) ≤ (s.size : Int) then ((spec_l00Number.f q (s.extract ((wrap64 ((k : Int) + 1)) : Int).toNat ((wrap64 ((s.size : Int) - 1)) : Int).toNat)).bind fun bt101 => (some (bt101.1, bt101.2))) else (none)) else (none)) else (none))) else (some (0, false))) (finL (bl s) m k) := by
  intro k hk b hb
  have e2 : wrap64 ((s.size : Int) - 2) = (m : Int) := by rw [w64 (by omega) (by omega)]; omega
  have e3 : wrap64 ((m : Int) - (k : Int)) = ((m - k : Nat) : Int) := w64sub m k hk (by omega)
  have e1 : wrap64 ((s.size : Int) - 1) = (s.size : Int) - 1 := w64 (by omega) (by omega)
  have e4 : wrap64 ((k : Int) + 1) = ((k + 1 : Nat) : Int) := w64s k (by omega)
  unfold finL
  rw [hb]
  by_cases h : b = 123
  ·have h' : (b.toNat : Int) = 123 := by rw [h]; rfl
   by_cases h6 : m - k ≤ 6
   ·rw [if_pos ⟨congrArg some h, h6⟩]
    refine Ev.congr (fun q => ?_) (numIn s k m hk hm hs)
    rw [if_pos h', e2, e3, if_neg (by omega), if_pos (by rw [e4]; omega), if_pos (by rw [e4, e1]; omega), if_pos (by rw [e1]; omega)]
   ·rw [if_neg (fun q => h6 q.2)]
    refine Ev.congr (fun q => ?_) (Ev.now _)
    rw [if_pos h', e2, e3, if_pos (by omega)]
  ·rw [if_neg (fun q => h (Option.some.inj q.1))]
   refine Ev.congr (fun q => ?_) (Ev.now _)
   rw [if_neg (fun q => h ((isC b 123 123 rfl).1 q))]
 intro k
 induction k with
 | zero =>
  intro hk
  have hlt : 0 < (bl s).length := by omega
  have hv := bt_eq s 0 hlt
  have hg : (bl s)[0]? = some (bl s)[0] := List.getElem?_eq_getElem hlt
  have hb := byte_lt (bl s)[0]
  have h := hfin 0 (Nat.zero_le _) (bl s)[0] hg
  unfold litS
  refine Ev.step (fun q => ?_) h
  simp only [spec_l12Literal.l0, hv]
  rw [if_neg (by omega), if_pos (by omega), if_pos (by omega)]
 | succ k ih =>
  intro hk
  have hlt : k + 1 < (bl s).length := by omega
  have hv := bt_eq s (k + 1) hlt
  have hg : (bl s)[k + 1]? = some (bl s)[k + 1] := List.getElem?_eq_getElem hlt
  have hb := byte_lt (bl s)[k + 1]
  have h := hfin (k + 1) hk (bl s)[k + 1] hg
  unfold litS
  rw [hg, Option.map_some]
  by_cases hd : 48 ≤ (bl s)[k + 1].toNat ∧ (bl s)[k + 1].toNat ≤ 57
  ·rw [if_pos (congrArg some ((isDig_iff _).2 hd))]
   refine Ev.step (fun q => ?_) (ih (by omega))
   simp only [spec_l12Literal.l0, hv]
   rw [if_pos (by omega), if_pos (by omega), if_pos (by omega), if_pos (by omega), if_pos (by omega), w64 (by omega) (by omega), show (((k + 1 : Nat) : Int) - 1) = (k : Int) by omega]
  ·rw [if_neg (fun q => hd ((isDig_iff _).1 (Option.some.inj q)))]
   refine Ev.step (fun q => ?_) h
   simp only [spec_l12Literal.l0, hv]
   rw [if_pos (by omega), if_pos (by omega), if_pos (by omega)]
   by_cases h1 : ((bl s)[k + 1].toNat : Int) ≥ 48
   ·rw [if_pos h1, if_neg (by omega)]
   ·rw [if_neg h1]
theorem litS_none (L : List UInt8) (m : Nat) : ∀ k, (∀ j, j ≤ k → ¬ L[j]? = some 123) → litS L m k = (0, false)
 | 0, h => by unfold litS finL; exact if_neg (fun q => h 0 (Nat.le_refl _) q.1)
 | k + 1, h => by
  unfold litS
  split
  ·exact litS_none L m k fun j hj => h j (by omega)
  ·unfold finL; exact if_neg (fun q => h (k + 1) (Nat.le_refl _) q.1)
open Classical in
theorem litS_at (L : List UInt8) (m t : Nat) (ht : L[t]? = some 123) : ∀ d, (∀ j, t < j → j ≤ t + d → ¬ L[j]? = some 123) → litS L m (t + d) = if (∀ j, t < j → j ≤ t + d → (L[j]?.map isDig) = some true) then finL L m t else (0, false)
 | 0, _ => by
  rw [if_pos (fun j h1 h2 => by omega)]
  cases t with
  | zero => rfl
  | succ t =>
   show litS L m (t + 1) = _
   unfold litS
   rw [ht]
   exact if_neg (by decide)
 | d + 1, h => by
  have ih := litS_at L m t ht d fun j h1 h2 => h j h1 (by omega)
  show litS L m (t + d + 1) = _
  unfold litS
  by_cases hd : (L[t + d + 1]?.map isDig) = some true
  ·rw [if_pos hd, ih]
   by_cases ha : ∀ j, t < j → j ≤ t + d → (L[j]?.map isDig) = some true
   ·rw [if_pos ha, if_pos (fun j h1 h2 => by
     by_cases e : j = t + d + 1
     ·rw [e]; exact hd
     ·exact ha j h1 (by omega))]
   ·rw [if_neg ha, if_neg (fun q => ha fun j h1 h2 => q j h1 (by omega))]
  ·rw [if_neg hd, if_neg (fun q => hd (q (t + d + 1) (by omega) (by omega)))]
   unfold finL
   exact if_neg (fun q => h (t + d + 1) (by omega) (by omega) q.1)
theorem valF_ge : ∀ (l : List UInt8) (a : Nat), a ≤ valF a l
 | [], _ => Nat.le_refl _
 | b :: l, a => Nat.le_trans (by omega) (valF_ge l (a * 10 + (b.toNat - 48)))
/-- A good number without a sign is digits alone; with a sign it is less than nought. -/
theorem good_dig (l : List UInt8) (h : goodN l) : (l.all isDig = true ∧ 0 ≤ valN l) ∨ (l.all isDig = false ∧ valN l < 0) := by
 by_cases h45 : l[0]? = some 45
 ·refine .inr ⟨?_, ?_⟩
  ·cases l with
   | nil => cases h45
   | cons a r => rw [Option.some.inj h45]; rfl
  ·unfold valN
   rw [if_pos h45]
   have h1 := h.1.1
   have hd := h.2.2
   have h0 := h.2.1
   cases hl : digN l with
   | nil => rw [hl] at h1; exact absurd h1 (by decide)
   | cons a r =>
    rw [hl] at hd h0
    rw [List.all_cons, Bool.and_eq_true, isDig_iff] at hd
    have ha : a.toNat ≠ 48 := fun e => h0 ⟨congrArg some (UInt8.toNat_inj.1 (e.trans rfl)), .inr h45⟩
    have hge := valF_ge r (0 * 10 + (a.toNat - 48))
    have : valF 0 (a :: r) = valF (0 * 10 + (a.toNat - 48)) r := rfl
    omega
 ·refine .inl ⟨?_, ?_⟩
  ·have := h.2.2
   unfold digN at this
   rw [if_neg h45] at this
   exact this
  ·unfold valN
   rw [if_neg h45]
   exact Int.natCast_nonneg _
theorem valN_lt (l : List UInt8) (h : goodN l) : valN l < 1000000000000000000 := by
 have := valF_lt l h
 unfold valN
 split <;> omega
/-- What both tell of a line: the same word on whether it says a length; if so the same length. -/
def LitBoth (p q : Int × Bool) : Prop := p.2 = q.2 ∧ (p.2 = true → p.1 = q.1 ∧ 0 ≤ p.1 ∧ p.1 < 1000000000000000000)
theorem lit_both (s : ByteArray) (hs : s.size ≤ 4611686018427387904) : ∃ p q, Ev (fun k => spec_l12Literal.f k s) p ∧ Ev (fun k => impl_literal.f k s) q ∧ LitBoth p q := by
 classical
 have hsz := bl_size s
 have hlast := lastB_ev s hs
 have hjt : Ev (fun k => spec_l12Literal.j0 k s true) (0, false) := Ev.step (f := fun _ => some _) (fun k => by simp only [spec_l12Literal.j0]; exact if_pos trivial) (Ev.now _)
 -- the reference: what it says at each line
 have hspec : Ev (fun k => spec_l12Literal.f k s) (if 3 ≤ s.size ∧ (bl s)[s.size - 1]? = some 125 then litS (bl s) (s.size - 2) (s.size - 2) else (0, false)) := by
  by_cases h3 : 3 ≤ s.size
  ·have hlt : s.size - 1 < (bl s).length := by omega
   have hv := bt_eq s (s.size - 1) hlt
   have hg : (bl s)[s.size - 1]? = some (bl s)[s.size - 1] := List.getElem?_eq_getElem hlt
   have e1 : wrap64 ((s.size : Int) - 1) = ((s.size - 1 : Nat) : Int) := by rw [w64 (by omega) (by omega)]; omega
   by_cases h : (bl s)[s.size - 1] = 125
   ·rw [if_pos ⟨h3, by rw [hg, h]⟩]
    have hl := specLit_l0 s (s.size - 2) (by omega) hs (s.size - 2) (Nat.le_refl _)
    refine Ev.congr (f := fun k => spec_l12Literal.j0 k s false) (fun k => ?_) (Ev.step (fun k => ?_) hl)
    ·simp only [spec_l12Literal.f]
     rw [if_neg (by omega), e1, hv, h, if_pos (by omega), if_pos (by omega)]
     rfl
    ·simp only [spec_l12Literal.j0]
     rw [if_neg (by decide), w64 (by omega) (by omega), show ((s.size : Int) - 2) = ((s.size - 2 : Nat) : Int) by omega]
   ·rw [if_neg (fun q => h (by have := q.2; rw [hg] at this; exact Option.some.inj this))]
    refine Ev.congr (fun k => ?_) hjt
    simp only [spec_l12Literal.f]
    have hne : (((bl s)[s.size - 1].toNat : Int) != 125) = true := bne_iff_ne.mpr fun q => h ((isC _ 125 125 rfl).1 q)
    rw [if_neg (by omega), e1, hv, hne, if_pos (by omega), if_pos (by omega)]
  ·rw [if_neg (fun q => h3 q.1)]
   refine Ev.congr (fun k => ?_) hjt
   simp only [spec_l12Literal.f]
   rw [if_pos (by omega)]
 rcases lastI_facts (bl s) s.size with ⟨hl, hno⟩ | ⟨t, hl, htlt, ht, hafter⟩
 ·rw [hl] at hlast
  refine ⟨_, (0, false), hspec, ?_, ?_⟩
  ·refine Ev.congr (fun k => rfl) (Ev.bind hlast (Ev.congr (fun k => ?_) (Ev.now _)))
   exact if_pos (by decide)
  ·have e : (if 3 ≤ s.size ∧ (bl s)[s.size - 1]? = some 125 then litS (bl s) (s.size - 2) (s.size - 2) else (0, false)) = ((0, false) : Int × Bool) := by
    split
    ·exact litS_none _ _ _ fun j hj => hno j (by omega)
    ·rfl
   rw [e]
   exact ⟨rfl, fun h => by cases h⟩
 ·rw [hl] at hlast
  -- what follows the brace
  obtain ⟨a, ha⟩ : ∃ a : ByteArray, s.extract (t + 1) s.size = a := ⟨_, rfl⟩
  have hal : bl a = (bl s).drop (t + 1) := by rw [← ha, bl_extract]; exact List.take_of_length_le (by rw [List.length_drop]; omega)
  have has : a.size = s.size - (t + 1) := by rw [bl_size, hal, List.length_drop]; omega
  have hcut := cutSuf a 125 (by omega)
  have hat : ∀ j, (bl a)[j]? = (bl s)[t + 1 + j]? := fun j => by rw [hal, List.getElem?_drop]
  by_cases hend : 1 ≤ a.size ∧ (bl a)[a.size - 1]? = some 125
  ·rw [if_pos hend] at hcut
   obtain ⟨d, hd⟩ : ∃ d : ByteArray, a.extract 0 (a.size - 1) = d := ⟨_, rfl⟩
   rw [hd] at hcut
   have hdl : bl d = ((bl s).drop (t + 1)).take (s.size - 2 - t) := by
    rw [← hd, bl_extract, hal, List.drop_zero]
    congr 1
    omega
   have hds : d.size = s.size - 2 - t := by rw [bl_size, hdl, List.length_take, List.length_drop]; omega
   have hnum := implNum_ev d (by omega)
   have himpl : Ev (fun k => impl_literal.f k s) (if (numO (bl d)).2 = true then (if (numO (bl d)).1 ≥ 0 then ((numO (bl d)).1, decide ((d.size : Int) ≤ 6)) else ((numO (bl d)).1, false)) else ((numO (bl d)).1, false)) := by
    refine Ev.congr (fun k => rfl) (Ev.bind hlast (Ev.congr (f := fun k => (impl_number.f k d).bind fun bt104 => if bt104.2 = true then (if bt104.1 ≥ 0 then (some (bt104.1, decide ((d.size : Int) ≤ 6))) else (some (bt104.1, false))) else (some (bt104.1, false))) (fun k => ?_) (Ev.bind hnum (Ev.congr (fun k => ?_) (Ev.now _)))))
    ·have e1 : (((t + 1 : Nat) : Int)).toNat = t + 1 := Int.toNat_natCast _
     rw [if_neg (by omega), w64s t (by omega), if_pos (by omega), if_pos (by omega), e1, ha, hcut, bS]
     rfl
    ·split
     ·split <;> rfl
     ·rfl
   have hlast125 : (bl s)[s.size - 1]? = some 125 := by
    have := hend.2
    rw [hat, show t + 1 + (a.size - 1) = s.size - 1 by omega] at this
    exact this
   refine ⟨_, _, hspec, himpl, ?_⟩
   have hfinL : 3 ≤ s.size → litS (bl s) (s.size - 2) (s.size - 2) = if (bl d).all isDig = true then (if d.size ≤ 6 then numO (bl d) else (0, false)) else (0, false) := by
    intro h3
    have h := litS_at (bl s) (s.size - 2) t ht (s.size - 2 - t) fun j h1 h2 => hafter j h1 (by omega)
    rw [show t + (s.size - 2 - t) = s.size - 2 by omega] at h
    rw [h]
    have hiff : (∀ j, t < j → j ≤ s.size - 2 → ((bl s)[j]?.map isDig) = some true) ↔ (bl d).all isDig = true := by
     have hget : ∀ j, j < d.size → (bl d)[j]? = (bl s)[t + 1 + j]? := fun j hj => by
      rw [hdl, List.getElem?_take, if_pos (by omega), List.getElem?_drop]
     constructor
     ·intro H
      refine List.all_eq_true.2 fun x hx => ?_
      obtain ⟨j, hj, rfl⟩ := List.mem_iff_getElem.1 hx
      have hj' : j < d.size := by rw [bl_size]; exact hj
      have := H (t + 1 + j) (by omega) (by omega)
      rw [← hget j hj', List.getElem?_eq_getElem hj] at this
      exact Option.some.inj this
     ·intro H j h1 h2
      have hj : j - (t + 1) < d.size := by omega
      have := hget (j - (t + 1)) hj
      rw [show t + 1 + (j - (t + 1)) = j by omega] at this
      have hj2 : j - (t + 1) < (bl d).length := by rw [← bl_size]; exact hj
      rw [← this, List.getElem?_eq_getElem hj2, Option.map_some]
      exact congrArg some (List.all_eq_true.1 H _ (List.getElem_mem hj2))
    by_cases hall : (bl d).all isDig = true
    ·rw [if_pos (hiff.2 hall), if_pos hall]
     unfold finL
     by_cases h6 : d.size ≤ 6
     ·rw [if_pos ⟨ht, by omega⟩, if_pos h6, hdl]
     ·rw [if_neg (fun q => h6 (by have := q.2; omega)), if_neg h6]
    ·rw [if_neg (fun q => hall (hiff.1 q)), if_neg hall]
   by_cases hg : goodN (bl d)
   ·have hpos : 1 ≤ (bl d).length := by
     have := hg.1.1
     unfold digN at this
     split at this
     ·rw [List.length_drop] at this; omega
     ·exact this
    rw [← bl_size] at hpos
    rw [if_pos ⟨by omega, hlast125⟩, hfinL (by omega), numO_good _ hg]
    have hlt := valN_lt _ hg
    rcases good_dig _ hg with ⟨h1, h2⟩ | ⟨h1, h2⟩
    ·rw [if_pos h1, if_pos rfl, if_pos h2]
     by_cases h6 : d.size ≤ 6
     ·rw [if_pos h6, decide_eq_true (by omega)]
      exact ⟨rfl, fun _ => ⟨rfl, h2, hlt⟩⟩
     ·rw [if_neg h6, decide_eq_false (by omega)]
      exact ⟨rfl, fun h => by cases h⟩
    ·rw [if_neg (by rw [h1]; decide), if_pos rfl, if_neg (by omega)]
     exact ⟨rfl, fun h => by cases h⟩
   ·have e : (if 3 ≤ s.size ∧ (bl s)[s.size - 1]? = some 125 then litS (bl s) (s.size - 2) (s.size - 2) else (0, false)) = ((0, false) : Int × Bool) := by
     split
     ·rename_i h
      rw [hfinL h.1, numO_bad _ hg]
      split
      ·split <;> rfl
      ·rfl
     ·rfl
    rw [e, numO_bad _ hg]
    exact ⟨rfl, fun h => by cases h⟩
  ·rw [if_neg hend] at hcut
   obtain ⟨v, hv⟩ : ∃ v, numO (bl a) = v := ⟨_, rfl⟩
   have hnum := implNum_ev a (by omega)
   rw [hv] at hnum
   have himpl : Ev (fun k => impl_literal.f k s) (v.1, false) := by
    refine Ev.congr (fun k => rfl) (Ev.bind hlast (Ev.congr (f := fun k => (impl_number.f k a).bind fun bt104 => some (bt104.1, false)) (fun k => ?_) (Ev.bind hnum (Ev.now _))))
    have e1 : (((t + 1 : Nat) : Int)).toNat = t + 1 := Int.toNat_natCast _
    rw [if_neg (by omega), w64s t (by omega), if_pos (by omega), if_pos (by omega), e1, ha, hcut, bS]
    rfl
   refine ⟨_, _, hspec, himpl, ?_⟩
   rw [if_neg (fun q => hend (by
    have ht' : (bl s)[s.size - 1]? = some 125 := q.2
    have hne : t ≠ s.size - 1 := fun e => by rw [← e, ht] at ht'; exact absurd (Option.some.inj ht') (by decide)
    refine ⟨by omega, ?_⟩
    rw [hat, show t + 1 + (a.size - 1) = s.size - 1 by omega]
    exact ht'))]
   exact ⟨rfl, fun h => by cases h⟩
/-- A line's end stands at place j. -/
def crlf (L : List UInt8) (j : Nat) : Prop := L[j]? = some 13 ∧ L[j + 1]? = some 10
theorem occ_iff (L : List UInt8) (j : Nat) : Lib.occAt L [13, 10] j = true ↔ crlf L j := by
 unfold Lib.occAt crlf
 have h0 : L[j]? = (L.drop j)[0]? := by rw [List.getElem?_drop]; rfl
 have h1 : L[j + 1]? = (L.drop j)[1]? := by rw [List.getElem?_drop]
 rw [h0, h1]
 generalize L.drop j = d
 cases d with
 | nil => simp
 | cons a d =>
  cases d with
  | nil => simp [List.isPrefixOf]
  | cons b d =>
   simp only [List.isPrefixOf, Bool.and_true, Bool.and_eq_true, beq_iff_eq, List.getElem?_cons_zero, List.getElem?_cons_succ, Option.some.injEq]
   exact ⟨fun h => ⟨h.1.symm, h.2.symm⟩, fun h => ⟨h.1.symm, h.2.symm⟩⟩
theorem least {P : Nat → Prop} (h : ∃ n, P n) : ∃ n, P n ∧ ∀ j, j < n → ¬ P j := by
 classical
 obtain ⟨n, hn⟩ := h
 induction n using Nat.strongRecOn with
 | _ n ih =>
  by_cases hj : ∃ j, j < n ∧ P j
  ·obtain ⟨j, h1, h2⟩ := hj
   exact ih j h1 h2
  ·exact ⟨n, hn, fun j h1 h2 => hj ⟨j, h1, h2⟩⟩
theorem crlf_lt {L : List UInt8} {j : Nat} (h : crlf L j) : j + 1 < L.length := by
 obtain ⟨hlt, _⟩ := List.getElem?_eq_some_iff.1 h.2
 exact hlt
theorem index_crlf (L : List UInt8) : (Lib.index L [13, 10] = -1 ∧ ∀ j, ¬ crlf L j) ∨ ∃ e : Nat, Lib.index L [13, 10] = (e : Int) ∧ crlf L e ∧ ∀ j, j < e → ¬ crlf L j := by
 classical
 by_cases h : ∃ j, crlf L j
 ·obtain ⟨e, he, hl⟩ := least h
  refine .inr ⟨e, Lib.index_first (by have := crlf_lt he; omega) ((occ_iff _ _).2 he) (fun j hj => ?_), he, hl⟩
  cases ho : Lib.occAt L [13, 10] j with
  | false => rfl
  | true => exact absurd ((occ_iff _ _).1 ho) (hl j hj)
 ·refine .inl ⟨Lib.index_none (fun j hj => ?_), fun j hj => h ⟨j, hj⟩⟩
  cases ho : Lib.occAt L [13, 10] j with
  | false => rfl
  | true => exact absurd ⟨j, (occ_iff _ _).1 ho⟩ h
theorem crlf_drop (L : List UInt8) (a j : Nat) : crlf (L.drop a) j ↔ crlf L (a + j) := by
 unfold crlf
 rw [List.getElem?_drop, List.getElem?_drop]
 exact Iff.rfl
/-- The scan goes on over what is no line's end. -/
theorem scan_on (s : ByteArray) (fr : Int) (hs : s.size ≤ 4611686018427387904) (e : Nat) {r : ByteArray × ByteArray × Int} (he : e ≤ 4001) (hr : Ev (fun q => spec_l12Take.l0 q s fr (e : Int)) r) :
  ∀ d k : Nat, k + d = e → (∀ j, k ≤ j → j < e → ¬ crlf (bl s) j) → (k < e → e < s.size) → Ev (fun q => spec_l12Take.l0 q s fr (k : Int)) r := by
 have hsz := bl_size s
 intro d
 induction d with
 | zero => intro k hk _ _; rw [show k = e by omega]; exact hr
 | succ d ih =>
  intro k hk hno hlt
  have hke : k < e := by omega
  have hes := hlt hke
  have h := ih (k + 1) (by omega) (fun j h1 h2 => hno j (by omega) h2) (fun _ => hes)
  have hj1 : Ev (fun q => spec_l12Take.j1 q s fr (k : Int) true) r := by
   refine Ev.step (fun q => ?_) h
   simp only [spec_l12Take.j1]
   rw [if_pos trivial, w64s k (by omega)]
  have h0 : k < (bl s).length := by omega
  have h1 : k + 1 < (bl s).length := by omega
  have v0 := bt_eq s k h0
  have v1 := bt_eq s (k + 1) h1
  refine Ev.step (fun q => ?_) hj1
  simp only [spec_l12Take.l0, v0]
  rw [w64s k (by omega), v1, if_pos (by omega), if_neg (by omega), if_pos (by omega), if_pos (by omega)]
  by_cases h13 : (bl s)[k] = 13
  ·rw [if_pos (by rw [h13]; rfl), if_pos (by omega)]
   have hne : (((bl s)[k + 1].toNat : Int) != 10) = true := bne_iff_ne.mpr fun q => hno k (Nat.le_refl _) hke ⟨by rw [List.getElem?_eq_getElem h0, h13], by rw [List.getElem?_eq_getElem h1]; exact congrArg some ((isC _ 10 10 rfl).1 q)⟩
   rw [hne]
  ·rw [if_neg (fun q => h13 ((isC _ 13 13 rfl).1 q))]
/-- What the reference tells from what the program tells: the end, or a code. -/
def takeR (s : ByteArray) (q : Int × Int) : ByteArray × ByteArray × Int := if q.2 = 0 then (s.extract 0 q.1.toNat, s.extract (q.1 + 2).toNat s.size, 0) else (⟨#[]⟩, s, q.2)
def takeOK (s : ByteArray) (q : Int × Int) : Prop := q.2 = 0 → 0 ≤ q.1 ∧ q.1 + 2 ≤ (s.size : Int)
/-- What follows a line's length in the program; in the reference. -/
def bodyI (s : ByteArray) (E k : Nat) (q : Int × Bool) : Option (Int × Int) := if q.2 = true then (if q.1 > 4000 then (impl_takeCommand.j1 k s (wrap64 (((E + 2 : Nat) : Int) + q.1)) true) else (impl_takeCommand.j1 k s (wrap64 (((E + 2 : Nat) : Int) + q.1)) (decide ((wrap64 (((E + 2 : Nat) : Int) + q.1)) > 4000)))) else (some ((E : Int), 0))
def bodyS (s : ByteArray) (E k : Nat) (p : Int × Bool) : Option (ByteArray × ByteArray × Int) := if p.2 = true then (if p.1 > 4000 then (some ((⟨#[]⟩ : ByteArray), s, 4)) else (spec_l12Take.l0 k s (wrap64 (((E + 2 : Nat) : Int) + p.1)) (wrap64 ((wrap64 ((wrap64 (((E + 2 : Nat) : Int) + p.1)) - 1)) + 1)))) else (some (s.extract 0 ((E : Nat) : Int).toNat, s.extract ((E + 2 : Nat) : Int).toNat s.size, 0))
theorem take_loop (s : ByteArray) (hs : s.size ≤ 1000000) : ∀ d at_ : Nat, 4001 ≤ at_ + d → at_ ≤ 4000 → at_ ≤ s.size →
  ∃ q, Ev (fun k => impl_takeCommand.l0 k s (at_ : Int)) q ∧ Ev (fun k => spec_l12Take.l0 k s (at_ : Int) (at_ : Int)) (takeR s q) ∧ takeOK s q := by
 have hsz := bl_size s
 intro d
 induction d with
 | zero => intro a h1 h2; omega
 | succ d ih =>
  intro a hd ha has
  have hrest : bl (s.extract (a : Int).toNat s.size) = (bl s).drop a := by
   rw [Int.toNat_natCast, bl_extract]; exact List.take_of_length_le (by rw [List.length_drop]; omega)
  have hrs : (s.extract (a : Int).toNat s.size).size ≤ s.size := by rw [bl_size, hrest, List.length_drop]; omega
  have hidx : strings_Index_2.f (s.extract (a : Int).toNat s.size) (⟨#[13, 10]⟩ : ByteArray) = some (Lib.index ((bl s).drop a) [13, 10]) := by
   unfold strings_Index_2.f
   rw [if_pos (by omega)]
   show some (Lib.index (bl (s.extract (a : Int).toNat s.size)) [13, 10]) = _
   rw [hrest]
  have htoo : a ≤ 4001 → 4002 < s.size → Ev (fun k => spec_l12Take.l0 k s (a : Int) ((4001 : Nat) : Int)) (takeR s (0, 4)) := by
   intro _ h
   refine Ev.step (f := fun _ => some _) (fun k => ?_) (Ev.now _)
   simp only [spec_l12Take.l0]
   rw [w64s 4001 (by omega), if_pos (by omega), if_pos (by omega)]
   rfl
  rcases index_crlf ((bl s).drop a) with ⟨hi, hno⟩ | ⟨e', hi, hat, hno⟩
  ·have hno' : ∀ j, a ≤ j → ¬ crlf (bl s) j := fun j hj h => hno (j - a) ((crlf_drop _ _ _).2 (by rw [show a + (j - a) = j by omega]; exact h))
   have himpl : Ev (fun k => impl_takeCommand.l0 k s (a : Int)) (if s.size > 4002 then (0, 4) else (0, 18)) := by
    refine Ev.step (f := fun _ => some _) (fun k => ?_) (Ev.now _)
    simp only [impl_takeCommand.l0, hidx, bS]
    rw [if_pos (by omega), if_pos (by omega), hi, if_pos (by decide)]
    by_cases h : s.size > 4002
    ·rw [if_pos (by omega), if_pos h]
    ·rw [if_neg (by omega), if_neg h]
   refine ⟨_, himpl, ?_, ?_⟩
   ·by_cases h : s.size > 4002
    ·rw [if_pos h]
     exact scan_on s a (by omega) 4001 (Nat.le_refl _) (htoo (by omega) h) (4001 - a) a (by omega) (fun j h1 _ => hno' j h1) (fun _ => by omega)
    ·rw [if_neg h]
     have hstop : ∀ x : Nat, s.size ≤ x + 1 → x ≤ 1000000 → Ev (fun k => spec_l12Take.l0 k s (a : Int) (x : Int)) (takeR s (0, 18)) := by
      intro x hx hx2
      refine Ev.step (f := fun _ => some _) (fun k => ?_) (Ev.now _)
      simp only [spec_l12Take.l0]
      rw [w64s x (by omega), if_neg (by omega), if_neg (by omega), if_neg (by omega)]
      rfl
     by_cases hax : s.size ≤ a + 1
     ·exact hstop a hax (by omega)
     ·exact scan_on s a (by omega) (s.size - 1) (by omega) (hstop (s.size - 1) (by omega) (by omega)) (s.size - 1 - a) a (by omega) (fun j h1 _ => hno' j h1) (fun _ => by omega)
   ·intro h
    split at h <;> cases h
  ·obtain ⟨e, rfl⟩ : ∃ e, e = a + e' := ⟨_, rfl⟩
   have hcr : crlf (bl s) (a + e') := (crlf_drop _ _ _).1 hat
   have hno' : ∀ j, a ≤ j → j < a + e' → ¬ crlf (bl s) j := fun j hj hj2 h => hno (j - a) (by omega) ((crlf_drop _ _ _).2 (by rw [show a + (j - a) = j by omega]; exact h))
   have hlt := crlf_lt hcr
   have hadd : Aside0 (wrap64 ((a : Int) + (e' : Int)) = ((a + e' : Nat) : Int)) := ⟨w64add a e' (by omega)⟩
   by_cases h4 : a + e' > 4000
   ·refine ⟨(0, 4), ?_, ?_, fun h => by cases h⟩
    ·refine Ev.step (f := fun _ => some _) (fun k => ?_) (Ev.now _)
     simp only [impl_takeCommand.l0, hidx, bS]
     rw [if_pos (by omega), if_pos (by omega), hi, if_neg (by omega), hadd.out, if_pos (by omega)]
    ·exact scan_on s a (by omega) 4001 (Nat.le_refl _) (htoo (by omega) (by omega)) (4001 - a) a (by omega) (fun j h1 h2 => hno' j h1 (by omega)) (fun _ => by omega)
   ·-- the line
    obtain ⟨p, q, hp, hq, hpq⟩ := lit_both (s.extract (a : Int).toNat ((a + e' : Nat) : Int).toNat) (by rw [bl_size, bl_extract, List.length_take, List.length_drop]; omega)
    have h0 : a + e' < (bl s).length := by omega
    have v0 := bt_eq s (a + e') h0
    have v1 := bt_eq s (a + e' + 1) hlt
    have b0 : (bl s)[a + e'] = 13 := by have := hcr.1; rw [List.getElem?_eq_getElem h0] at this; exact Option.some.inj this
    have b1 : (bl s)[a + e' + 1] = 10 := by have := hcr.2; rw [List.getElem?_eq_getElem hlt] at this; exact Option.some.inj this
    rw [b0] at v0
    rw [b1] at v1
    replace v0 : bt s ((a + e' : Nat) : Int) = 13 := v0
    replace v1 : bt s ((a + e' + 1 : Nat) : Int) = 10 := v1
    have hto : ∀ {r}, Ev (fun k => spec_l12Take.j1 k s (a : Int) ((a + e' : Nat) : Int) false) r → Ev (fun k => spec_l12Take.l0 k s (a : Int) (a : Int)) r := by
     intro r hr
     refine scan_on s a (by omega) (a + e') (by omega) (Ev.step (fun k => ?_) hr) e' a (by omega) hno' (fun _ => by omega)
     simp only [spec_l12Take.l0, v0]
     rw [w64s (a + e') (by omega), v1, if_pos (by omega), if_neg (by omega), if_pos (by omega), if_pos (by omega), if_pos trivial, if_pos (by omega)]
     rfl
    have e2 : Aside0 (wrap64 (((a + e' : Nat) : Int) + 2) = ((a + e' + 2 : Nat) : Int)) := ⟨by rw [w64 (by omega) (by omega)]; rfl⟩
    obtain ⟨hpq1, hpq2⟩ := hpq
    have hI : ∀ {r}, Ev (fun k => bodyI s (a + e') k q) r → Ev (fun k => impl_takeCommand.l0 k s (a : Int)) r := by
     intro r hr
     refine Ev.step (fun k => ?_) (Ev.bind (f := fun k q => bodyI s (a + e') k q) hq hr)
     simp only [impl_takeCommand.l0, hidx, bS]
     rw [if_pos (by omega), if_pos (by omega), hi, if_neg (by omega), hadd.out, if_neg (by omega), if_pos (by omega), if_pos (by omega), e2.out]
     rfl
    have hS : ∀ {r}, Ev (fun k => bodyS s (a + e') k p) r → Ev (fun k => spec_l12Take.l0 k s (a : Int) (a : Int)) r := by
     intro r hr
     refine hto (Ev.step (fun k => ?_) (Ev.bind (f := fun k p => bodyS s (a + e') k p) hp hr))
     simp only [spec_l12Take.j1]
     rw [if_neg (by decide), if_pos (by omega), if_pos (by omega), if_pos (by omega), if_pos (by omega), e2.out, if_pos (by omega), if_pos (by omega)]
     rfl
    cases hpb : p.2 with
    | false =>
     have hqb : q.2 = false := hpq1 ▸ hpb
     refine ⟨(((a + e' : Nat) : Int), 0), hI (Ev.congr (f := fun _ => some (((a + e' : Nat) : Int), 0)) (fun k => ?_) (Ev.now _)), ?_, fun _ => ?_⟩
     ·unfold bodyI
      rw [if_neg (by rw [hqb]; decide)]
     ·have e5 : takeR s (((a + e' : Nat) : Int), 0) = (s.extract 0 ((a + e' : Nat) : Int).toNat, s.extract ((a + e' + 2 : Nat) : Int).toNat s.size, 0) := by
       unfold takeR
       have e6 : (((a + e' : Nat) : Int)) + 2 = ((a + e' + 2 : Nat) : Int) := by omega
       rw [if_pos rfl, e6]
      rw [e5]
      refine hS (Ev.congr (f := fun _ => some (s.extract 0 ((a + e' : Nat) : Int).toNat, s.extract ((a + e' + 2 : Nat) : Int).toNat s.size, 0)) (fun k => ?_) (Ev.now _))
      unfold bodyS
      rw [if_neg (by rw [hpb]; decide)]
     ·have g1 : (0 : Int) ≤ ((a + e' : Nat) : Int) := by omega
      have g2 : ((a + e' : Nat) : Int) + 2 ≤ (s.size : Int) := by omega
      exact ⟨g1, g2⟩
    | true =>
     have hqb : q.2 = true := hpq1 ▸ hpb
     obtain ⟨hv, hv0, hv1⟩ := hpq2 hpb
     obtain ⟨n, hn⟩ : ∃ n : Nat, p.1 = (n : Int) := ⟨p.1.toNat, (Int.toNat_of_nonneg hv0).symm⟩
     have hqn : q.1 = (n : Int) := hv ▸ hn
     have hn1 : n < 1000000000000000000 := by omega
     obtain ⟨b, hb⟩ : ∃ b, b = a + e' + 2 + n := ⟨_, rfl⟩
     have e3 : Aside0 (wrap64 (((a + e' + 2 : Nat) : Int) + (n : Int)) = (b : Int)) := ⟨by rw [w64add _ _ (by omega), hb]⟩
     have e4 : Aside0 (wrap64 ((wrap64 ((b : Int) - 1)) + 1) = (b : Int)) := ⟨by
      rw [w64 (n := (b : Int) - 1) (by omega) (by omega), w64 (by omega) (by omega)]
      omega⟩
     by_cases hn4 : n > 4000
     ·refine ⟨(0, 4), hI (Ev.congr (f := fun k => impl_takeCommand.j1 k s (b : Int) true) (fun k => ?_) (Ev.step (f := fun _ => some (0, 4)) (fun k => ?_) (Ev.now _))), hS (Ev.congr (f := fun _ => some (takeR s (0, 4))) (fun k => ?_) (Ev.now _)), fun h => by cases h⟩
      ·unfold bodyI
       rw [if_pos hqb, hqn, e3.out, if_pos (by omega)]
      ·simp only [impl_takeCommand.j1]
       rw [if_pos trivial]
      ·unfold bodyS
       rw [if_pos hpb, hn, if_pos (by omega)]
       rfl
     ·have hI2 : ∀ {r}, Ev (fun k => impl_takeCommand.j1 k s (b : Int) (decide ((b : Int) > 4000))) r → Ev (fun k => impl_takeCommand.l0 k s (a : Int)) r := by
       intro r hr
       refine hI (Ev.congr (fun k => ?_) hr)
       unfold bodyI
       rw [if_pos hqb, hqn, e3.out, if_neg (by omega)]
      have hS2 : ∀ {r}, Ev (fun k => spec_l12Take.l0 k s (b : Int) (b : Int)) r → Ev (fun k => spec_l12Take.l0 k s (a : Int) (a : Int)) r := by
       intro r hr
       refine hS (Ev.congr (fun k => ?_) hr)
       unfold bodyS
       rw [if_pos hpb, hn, if_neg (by omega), e3.out, e4.out]
      by_cases hbig : b > 4000
      ·refine ⟨(0, 4), hI2 (Ev.step (f := fun _ => some (0, 4)) (fun k => ?_) (Ev.now _)), hS2 (Ev.step (f := fun _ => some (takeR s (0, 4))) (fun k => ?_) (Ev.now _)), fun h => by cases h⟩
       ·rw [decide_eq_true (show (b : Int) > 4000 by omega)]
        simp only [impl_takeCommand.j1]
        rw [if_pos trivial]
       ·simp only [spec_l12Take.l0]
        rw [w64s b (by omega)]
        by_cases hl : b + 1 < s.size
        ·rw [if_pos (by omega), if_pos (by omega)]
         rfl
        ·rw [if_neg (by omega)]
         by_cases hl2 : s.size > 4002
         ·rw [if_pos (by omega)]
          rfl
         ·rw [if_neg (by omega), if_pos (by omega)]
          rfl
      ·have hd4 : decide ((b : Int) > 4000) = false := decide_eq_false (by omega)
       have hI3 : ∀ {r}, Ev (fun k => impl_takeCommand.j1 k s (b : Int) false) r → Ev (fun k => impl_takeCommand.l0 k s (a : Int)) r := fun hr => hI2 (by rw [hd4]; exact hr)
       by_cases hpast : b > s.size
       ·refine ⟨(0, 18), hI3 (Ev.step (f := fun _ => some (0, 18)) (fun k => ?_) (Ev.now _)), hS2 (Ev.step (f := fun _ => some (takeR s (0, 18))) (fun k => ?_) (Ev.now _)), fun h => by cases h⟩
        ·simp only [impl_takeCommand.j1]
         rw [if_neg (by decide), if_pos (by omega)]
        ·simp only [spec_l12Take.l0]
         rw [w64s b (by omega), if_neg (by omega), if_neg (by omega), if_neg (by omega)]
         rfl
       ·obtain ⟨r, hr1, hr2, hr3⟩ := ih b (by omega) (by omega) (by omega)
        refine ⟨r, hI3 (Ev.step (fun k => ?_) hr1), hS2 hr2, hr3⟩
        simp only [impl_takeCommand.j1]
        rw [if_neg (by decide), if_neg (by omega)]
end Go.Proofs.YtcmifdcgmalnlaaDoor.P
namespace Go.Proofs.YtcmifdcgmalnlaaDoor.P
open Go.RowKit Go.ChangeShapes Go.WideShapes Go.Proofs.YtcmifdcgmalnlaaDoorW.PrintWords

/-- What is to be proved of the law FnExactTakeCommand, over numbers and lists alone. -/
def laws_FnExactTakeCommand.Pure : Prop := ∀ (x0 : ByteArray), x0.size ≤ 140737488351232 → ∃ k, laws_FnExactTakeCommand.f k x0 = some true
end Go.Proofs.YtcmifdcgmalnlaaDoor.P
set_option linter.unusedVariables false
set_option linter.unusedSimpArgs false
namespace Go.Proofs.YtcmifdcgmalnlaaDoor.P
open Go.RowKit Go.Proofs.YtcmifdcgmalnlaaDoorW.PrintWords
theorem Pure.FnExactTakeCommand : laws_FnExactTakeCommand.Pure := by
 intro x0 h0
 refine Ev.k (?_ : Ev (fun k => laws_FnExactTakeCommand.f k x0) true)
 by_cases h1 : (x0.size : Int) > 1048576
 ·exact Ev.congr (fun k => by simp only [laws_FnExactTakeCommand.f]; exact if_pos h1) (Ev.now _)
 ·have hfin : ∀ r : ByteArray × ByteArray × Int, Ev (fun k => spec_TakeCommand.f k x0) r → Ev (fun k => impl_TakeCommand.f k x0) r → Ev (fun k => laws_FnExactTakeCommand.f k x0) true := by
   intro r hs hi
   refine Ev.congr (fun k => by simp only [laws_FnExactTakeCommand.f]; exact if_neg h1) (Ev.bind hs (Ev.bind hi (Ev.congr (f := fun _ => some true) (fun k => ?_) (Ev.now _))))
   rw [if_pos rfl, if_pos rfl, if_pos rfl]
  by_cases h2 : (x0.size : Int) > 65536
  ·refine hfin (⟨#[]⟩, ⟨#[]⟩, 2) (Ev.congr (fun k => ?_) (Ev.now _)) (Ev.congr (fun k => ?_) (Ev.now _))
   ·simp only [spec_TakeCommand.f]; exact if_pos h2
   ·simp only [impl_TakeCommand.f]; exact if_pos h2
  ·obtain ⟨q, hi, hs, hok⟩ := take_loop x0 (by omega) 4001 0 (by omega) (by omega) (by omega)
   refine hfin (takeR x0 q) ?_ ?_
   ·refine Ev.congr (fun k => by simp only [spec_TakeCommand.f]; exact if_neg h2) (Ev.bind hs (Ev.now _))
   ·refine Ev.congr (fun k => by simp only [impl_TakeCommand.f]; exact if_neg h2) (Ev.bind hi (Ev.congr (f := fun _ => some _) (fun k => ?_) (Ev.now _)))
    unfold takeR
    by_cases hq : q.2 = 0
    ·obtain ⟨g1, g2⟩ := hok hq
     have e2 : wrap64 (q.1 + 2) = q.1 + 2 := w64 (by omega) (by omega)
     rw [if_pos hq, if_pos g1, if_pos (by omega), e2, if_pos (by omega), if_pos g2, if_pos hq]
    ·rw [if_neg hq, if_neg hq]
end Go.Proofs.YtcmifdcgmalnlaaDoor.P
