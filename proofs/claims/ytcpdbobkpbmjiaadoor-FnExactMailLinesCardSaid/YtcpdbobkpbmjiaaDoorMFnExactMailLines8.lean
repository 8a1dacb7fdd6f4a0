/- Part 8 of what the law FnExactMailLines stands on; the last part ends with the law's row. No condition of mine. -/
import Derived.Test.YtcpdbobkpbmjiaaDoorMFnExactMailLines7
import Derived.Test.YtcpdbobkpbmjiaaDoorMFnExactMailLines5
import Derived.Test.YtcpdbobkpbmjiaaDoorMFnExactMailLines2
import Derived.Test.YtcpdbobkpbmjiaaDoorMFnExactMailLines6
import Derived.Test.YtcpdbobkpbmjiaaDoorMFnExactMailLines4
/- Lemmas of mine: right mails in both programs. Plain. -/
set_option linter.unusedVariables false
set_option linter.unusedSimpArgs false
namespace Go.Proofs.YtcpdbobkpbmjiaaDoor.P
open Go.RowKit Go.Proofs.YtcpdbobkpbmjiaaDoorW.PrintWords
/-- The scan of the reference: how wide the line is so far. -/
def mailS : Nat → List UInt8 → Bool
 | w, [] => decide (w = 0)
 | w, c :: r => if c = 13 ∧ r.take 1 = [10] then mailS 0 (r.drop 1) else (inB 1 127 c && decide (c ≠ 13) && decide (c ≠ 10) && decide (w + 1 ≤ 998) && mailS (w + 1) r)
termination_by _ l => l.length
decreasing_by
 all_goals simp
 all_goals omega
def mailR (l : List UInt8) : Bool := decide (l.length ≤ 65536) && mailS 0 l
theorem specMail_l0 (s : ByteArray) (hs : s.size ≤ 1000000) : ∀ (d i w : Nat), (bl s).length - i ≤ d → i ≤ (bl s).length → w ≤ 998 → Ev (fun k => spec_MailOK.l0 k s (w : Int) (i : Int)) (mailS w ((bl s).drop i)) := by
 have hsz := bl_size s
 have hend : ∀ (i w : Nat), i = (bl s).length → Ev (fun k => spec_MailOK.l0 k s (w : Int) (i : Int)) (mailS w ((bl s).drop i)) := fun i w hi => by
  rw [List.drop_eq_nil_of_le (by omega), mailS]
  refine Ev.step (f := fun _ => some _) (fun k => ?_) (Ev.now _)
  simp only [spec_MailOK.l0]
  rw [if_neg (by omega)]
  refine congrArg some ?_
  by_cases h : w = 0
  ·subst h; rfl
  ·rw [decide_eq_false h, beq_eq_false_iff_ne.2 (by omega)]
 intro d
 induction d with
 | zero => intro i w hd hi hw; exact hend i w (by omega)
 | succ d ih =>
  intro i w hd hi hw
  by_cases hlt : i < (bl s).length
  case neg => exact hend i w (by omega)
  have hb := bt_eq s i hlt
  rw [List.drop_eq_getElem_cons hlt, mailS]
  generalize hc : (bl s)[i] = c at hb ⊢
  have hc255 := byte_lt c
  have w1 : Aside0 (wrap64 ((i : Int) + 1) = ((i + 1 : Nat) : Int)) := ⟨w64s i (by omega)⟩
  have w2 : Aside0 (wrap64 (((i + 1 : Nat) : Int) + 1) = ((i + 2 : Nat) : Int)) := ⟨w64s (i + 1) (by omega)⟩
  have w3 : Aside0 (wrap64 ((w : Int) + 1) = ((w + 1 : Nat) : Int)) := ⟨w64s w (by omega)⟩
  have toI : ∀ (n : Nat) (x : UInt8), x.toNat = n → (c = x ↔ (c.toNat : Int) = (n : Int)) := fun n x hx => ⟨fun h => by rw [h, hx], fun h => UInt8.toNat_inj.1 (by omega)⟩
  have i13 : c = 13 ↔ (c.toNat : Int) = 13 := toI 13 13 rfl
  have i10 : c = 10 ↔ (c.toNat : Int) = 10 := toI 10 10 rfl
  have rest : ∀ j, spec_MailOK.j1 (j + 1) s (w : Int) (i : Int) (c.toNat : Int) false = if (inB 1 127 c && decide (c ≠ 13) && decide (c ≠ 10) && decide (w + 1 ≤ 998)) = true then spec_MailOK.l0 j s ((w + 1 : Nat) : Int) ((i + 1 : Nat) : Int) else some false := fun j => by
   simp only [spec_MailOK.j1, w1.out, w3.out]
   rw [if_neg (by decide)]
   by_cases a1 : (c.toNat : Int) = 13
   ·rw [if_pos a1, if_neg (by simp [i13.2 a1])]
   ·rw [if_neg a1]
    by_cases a2 : (c.toNat : Int) = 10
    ·rw [if_pos a2, if_neg (by simp [i10.2 a2])]
    ·rw [if_neg a2]
     have d1 : decide (c ≠ 13) = true := decide_eq_true (fun h => a1 (i13.1 h))
     have d2 : decide (c ≠ 10) = true := decide_eq_true (fun h => a2 (i10.1 h))
     rw [d1, d2, Bool.and_true, Bool.and_true]
     by_cases a3 : (c.toNat : Int) = 0
     ·rw [if_pos a3, show inB 1 127 c = false from decide_eq_false (by omega), if_neg (by simp)]
     ·rw [if_neg a3]
      by_cases a4 : (c.toNat : Int) > 127
      ·rw [if_pos a4, show inB 1 127 c = false from decide_eq_false (by omega), if_neg (by simp)]
      ·rw [if_neg a4, show inB 1 127 c = true from decide_eq_true (by omega), Bool.true_and]
       by_cases a5 : w + 1 ≤ 998
       ·rw [if_neg (by omega), if_pos (decide_eq_true a5)]
       ·rw [if_pos (by omega), if_neg (by rw [decide_eq_true_eq]; exact a5)]
  have plain : ∀ K : Nat, (∀ k, spec_MailOK.l0 (k + 1) s (w : Int) (i : Int) = spec_MailOK.j1 k s (w : Int) (i : Int) (c.toNat : Int) false) → Ev (fun k => spec_MailOK.l0 k s (w : Int) (i : Int)) (inB 1 127 c && decide (c ≠ 13) && decide (c ≠ 10) && decide (w + 1 ≤ 998) && mailS (w + 1) ((bl s).drop (i + 1))) := fun _ h => by
   refine Ev.step h (Ev.step rest ?_)
   by_cases hg : (inB 1 127 c && decide (c ≠ 13) && decide (c ≠ 10) && decide (w + 1 ≤ 998)) = true
   ·rw [hg, Bool.true_and]
    refine Ev.congr (fun k => by rw [if_pos rfl]) (ih (i + 1) (w + 1) (by omega) (by omega) ?_)
    simp only [Bool.and_eq_true, decide_eq_true_eq] at hg
    exact hg.2
   ·rw [Bool.not_eq_true] at hg
    rw [hg, Bool.false_and]
    exact Ev.congr (f := fun _ => some false) (fun k => by rw [if_neg (by decide)]) (Ev.now _)
  by_cases h13 : c = 13
  ·have h13' := i13.1 h13
   by_cases h2 : i + 1 < (bl s).length
   ·have hb1 := bt_eq s (i + 1) h2
    have hdr := List.drop_eq_getElem_cons h2
    rw [hdr, List.take_succ_cons, List.take_zero, List.drop_succ_cons, List.drop_zero, ← hdr]
    generalize hc1 : (bl s)[i + 1] = c1 at hb1 hdr ⊢
    have e : ∀ k, spec_MailOK.l0 (k + 1) s (w : Int) (i : Int) = spec_MailOK.j1 k s (w : Int) (i : Int) (c.toNat : Int) ((c1.toNat : Int) == 10) := fun k => by
     simp only [spec_MailOK.l0, hb, w1.out, hb1]
     rw [if_pos (by omega), if_pos (by omega), if_pos h13', if_pos (by omega), if_pos (by omega)]
    by_cases h10 : c1 = 10
    ·have h10' : ((c1.toNat : Int) == 10) = true := by rw [h10]; rfl
     rw [if_pos ⟨h13, by rw [h10]⟩]
     refine Ev.step (fun k => by rw [e, h10']) (Ev.step (f := fun k => spec_MailOK.l0 k s ((0 : Nat) : Int) ((i + 1 + 1 : Nat) : Int)) (fun k => ?_) (ih (i + 1 + 1) 0 (by omega) (by omega) (by omega)))
     simp only [spec_MailOK.j1, w1.out, w2.out]
     rfl
    ·have h10' : ((c1.toNat : Int) == 10) = false := beq_eq_false_iff_ne.2 fun hh => h10 (UInt8.toNat_inj.1 (by rw [show ((10 : UInt8)).toNat = 10 from rfl]; omega))
     rw [if_neg (by simp [h10])]
     exact plain 0 fun k => by rw [e, h10']
   ·rw [List.drop_eq_nil_of_le (by omega), if_neg (by simp)]
    have := plain 0 (fun k => by
     simp only [spec_MailOK.l0, hb, w1.out]
     rw [if_pos (by omega), if_pos (by omega), if_pos h13', if_neg (by omega)])
    rw [List.drop_eq_nil_of_le (by omega)] at this
    exact this
  ·have h13' : ¬ (c.toNat : Int) = 13 := fun h => h13 (i13.2 h)
   rw [if_neg (by simp [h13])]
   exact plain 0 fun k => by
    simp only [spec_MailOK.l0, hb]
    rw [if_pos (by omega), if_pos (by omega), if_neg h13']
theorem specMail_ev (s : ByteArray) : Ev (fun k => spec_MailOK.f k s) (mailR (bl s)) := by
 have hsz := bl_size s
 unfold mailR
 by_cases h0 : (s.size : Int) > 65536
 ·rw [decide_eq_false (by omega), Bool.false_and]
  exact ⟨0, fun k _ => by simp only [spec_MailOK.f]; rw [if_pos h0]⟩
 ·rw [decide_eq_true (by omega), Bool.true_and]
  exact Ev.congr (fun k => by simp only [spec_MailOK.f]; rw [if_neg h0]; rfl) (specMail_l0 s (by omega) (bl s).length 0 0 (by omega) (by omega) (by omega))
/-! ### by its lines -/
def pcr (l : List UInt8) : List (List UInt8) := Lib.splitK [13, 10] 0 (Lib.count l [13, 10]) l
theorem pcr_none (l : List UInt8) (h : Lib.index l [13, 10] = -1) : pcr l = [l] := by
 unfold pcr
 rw [Lib.count_miss h]
 rfl
theorem pcr_at (l : List UInt8) (i : Nat) (h : Lib.index l [13, 10] = i) : pcr l = l.take i :: pcr (l.drop (i + 2)) := by
 unfold pcr
 rw [Lib.count_hit (by simp) h, show ([13, 10] : List UInt8).length = 2 from rfl, Nat.add_comm 1, Lib.splitK, if_neg (by rw [h]; simp), h]
 simp only [Int.toNat_natCast, Nat.add_zero, List.length_cons, List.length_nil]
theorem splitB_pcr (s : ByteArray) : (Lib.splitB ⟨#[13, 10]⟩ 0 (Lib.countB s ⟨#[13, 10]⟩) s).map bl = pcr (bl s) := Lib.splitB_data _ _ _ _
theorem occ_two (l : List UInt8) (i : Nat) : Lib.occAt l [13, 10] i = decide ((l.drop i).take 2 = [13, 10]) := by
 unfold Lib.occAt
 generalize l.drop i = m
 match m with
 | [] => rfl
 | [a] => simp [List.isPrefixOf]
 | a :: b :: m =>
  simp only [List.isPrefixOf, List.take_succ_cons, List.take_zero, Bool.and_true]
  rw [Bool.eq_iff_iff]
  simp only [Bool.and_eq_true, beq_iff_eq, decide_eq_true_eq, List.cons.injEq, and_true]
  constructor <;> rintro ⟨h1, h2⟩ <;> exact ⟨h1.symm, h2.symm⟩
/-- No end of a line, or the first one. -/
theorem cr_cases (l : List UInt8) : (Lib.index l [13, 10] = -1 ∧ ∀ j, (l.drop j).take 2 ≠ [13, 10]) ∨ ∃ p q, l = p ++ 13 :: 10 :: q ∧ Lib.index l [13, 10] = (p.length : Int) ∧ ∀ j, j < p.length → (l.drop j).take 2 ≠ [13, 10] := by
 rcases Lib.index_spec l [13, 10] with ⟨hi, hno⟩ | ⟨i, hi, hle, hocc, hno⟩
 ·refine .inl ⟨hi, fun j hj => ?_⟩
  by_cases hjl : j ≤ l.length
  ·have := hno j hjl
   rw [occ_two] at this
   exact of_decide_eq_false this hj
  ·rw [List.drop_eq_nil_of_le (by omega)] at hj
   simp at hj
 ·rw [occ_two, decide_eq_true_eq] at hocc
  refine .inr ⟨l.take i, (l.drop i).drop 2, ?_, ?_, fun j hj => ?_⟩
  ·have h := List.take_append_drop 2 (l.drop i)
   rw [hocc] at h
   have h2 := List.take_append_drop i l
   rw [← h] at h2
   exact h2.symm
  ·rw [hi, List.length_take, Nat.min_eq_left hle]
  ·rw [List.length_take] at hj
   have := hno j (by omega)
   rw [occ_two] at this
   exact of_decide_eq_false this
def okL (p : List UInt8) : Bool := p.all fun c => inB 1 127 c && decide (c ≠ 13) && decide (c ≠ 10)
theorem mailS_line : ∀ (p q : List UInt8) (w : Nat), (∀ j, j < p.length → ((p ++ 13 :: 10 :: q).drop j).take 2 ≠ [13, 10]) → w ≤ 998 → mailS w (p ++ 13 :: 10 :: q) = (okL p && decide (w + p.length ≤ 998) && mailS 0 q)
 | [], q, w, _, hw => by
  rw [List.nil_append, mailS, if_pos ⟨rfl, rfl⟩, List.length_nil, Nat.add_zero, decide_eq_true hw]
  rfl
 | c :: p, q, w, h, hw => by
  have h0 := h 0 (by simp)
  rw [List.cons_append, mailS, if_neg (by
   rintro ⟨h1, h2⟩
   apply h0
   rw [List.cons_append, List.drop_zero, show (2 : Nat) = 1 + 1 from rfl, List.take_succ_cons, h1, h2])]
  by_cases hw1 : w + 1 ≤ 998
  ·rw [mailS_line p q (w + 1) (fun j hj => by have := h (j + 1) (by simpa using hj); simpa using this) hw1, decide_eq_true hw1, Bool.and_true, show w + 1 + p.length = w + (c :: p).length by simp; omega]
   unfold okL
   rw [List.all_cons]
   simp only [Bool.and_assoc]
  ·rw [decide_eq_false hw1, Bool.and_false, Bool.false_and, decide_eq_false (show ¬ (w + (c :: p).length ≤ 998) by simp; omega), Bool.and_false, Bool.false_and]
theorem mailS_none : ∀ (p : List UInt8) (w : Nat), (∀ j, (p.drop j).take 2 ≠ [13, 10]) → mailS w p = true → p = [] ∧ w = 0
 | [], w, _, h => by rw [mailS, decide_eq_true_eq] at h; exact ⟨rfl, h⟩
 | c :: p, w, hn, h => by
  have h0 := hn 0
  rw [mailS, if_neg (by
   rintro ⟨h1, h2⟩
   apply h0
   rw [List.drop_zero, show (2 : Nat) = 1 + 1 from rfl, List.take_succ_cons, h1, h2]), Bool.and_eq_true] at h
  have := mailS_none p (w + 1) (fun j => by have := hn (j + 1); simpa using this) h.2
  omega
def endCR (l : List UInt8) : Bool := decide (2 ≤ l.length ∧ l.drop (l.length - 2) = [13, 10])
def lineR (p : List UInt8) : Bool := okL p && decide (p.length ≤ 998)
theorem endCR_app (p q : List UInt8) (hq : q ≠ []) (h2 : ∀ x, q = [x] → x ≠ 10) : endCR (p ++ 13 :: 10 :: q) = endCR q := by
 unfold endCR
 apply decide_eq_decide.2
 match q, hq, h2 with
 | [x], _, h2 =>
  constructor
  ·rintro ⟨_, h⟩
   have e : (p ++ 13 :: 10 :: [x]).drop ((p ++ 13 :: 10 :: [x]).length - 2) = [10, x] := by
    rw [show (p ++ 13 :: 10 :: [x]).length - 2 = p.length + 1 by simp, ← List.drop_drop, List.drop_left]
    rfl
   rw [e] at h
   simp at h
  ·rintro ⟨h, _⟩
   simp at h
 | x :: y :: q, _, _ =>
  have e : (p ++ 13 :: 10 :: x :: y :: q).drop ((p ++ 13 :: 10 :: x :: y :: q).length - 2) = (x :: y :: q).drop ((x :: y :: q).length - 2) := by
   rw [show (p ++ 13 :: 10 :: x :: y :: q).length - 2 = p.length + (2 + ((x :: y :: q).length - 2)) by simp; omega, ← List.drop_drop, List.drop_left, ← List.drop_drop]
   rfl
  rw [e]
  constructor
  ·rintro ⟨_, h⟩; exact ⟨by simp, h⟩
  ·rintro ⟨_, h⟩; exact ⟨by simp; omega, h⟩
theorem mailS_pcr : ∀ (n : Nat) (l : List UInt8), l.length ≤ n → mailS 0 l = ((l.isEmpty || endCR l) && (pcr l).all lineR) := by
 intro n
 induction n with
 | zero =>
  intro l hl
  cases l with
  | nil => rw [mailS, pcr_none [] rfl]; rfl
  | cons a b => simp at hl
 | succ n ih =>
  intro l hl
  rcases cr_cases l with ⟨hi, hno⟩ | ⟨p, q, rfl, hi, hno⟩
  ·by_cases he : l = []
   ·subst he
    rw [mailS, pcr_none [] rfl]; rfl
   ·have h1 : mailS 0 l = false := Bool.eq_false_iff.2 fun h => he (mailS_none l 0 hno h).1
    have h2 : endCR l = false := decide_eq_false fun h => by
     have := hno (l.length - 2)
     rw [h.2] at this
     exact this rfl
    have h3 : l.isEmpty = false := by cases l with | nil => exact absurd rfl he | cons a b => rfl
    rw [h1, h2, h3]
    rfl
  ·rw [mailS_line p q 0 hno (by omega), pcr_at _ p.length hi, Nat.zero_add]
   have hd : (p ++ 13 :: 10 :: q).drop (p.length + 2) = q := by rw [← List.drop_drop, List.drop_left]; rfl
   rw [hd, List.take_left, List.all_cons, ih q (by simp at hl; omega)]
   have hem : (p ++ 13 :: 10 :: q).isEmpty = false := by cases p <;> rfl
   rw [hem, Bool.false_or]
   have hl2 : lineR p = (okL p && decide (p.length ≤ 998)) := rfl
   rw [hl2]
   by_cases hq : q = []
   ·subst hq
    have : endCR (p ++ [13, 10]) = true := decide_eq_true ⟨by simp, by simp⟩
    rw [this, pcr_none [] rfl]
    cases okL p <;> cases decide (p.length ≤ 998) <;> rfl
   ·have hqe : q.isEmpty = false := by cases q with | nil => exact absurd rfl hq | cons a b => rfl
    by_cases hx : ∃ x, q = [x] ∧ x = 10
    ·obtain ⟨x, rfl, rfl⟩ := hx
     have : (pcr ([10] : List UInt8)).all lineR = false := by rw [pcr_none _ rfl]; rfl
     rw [this]
     cases okL p <;> cases decide (p.length ≤ 998) <;> cases endCR (p ++ [13, 10, 10]) <;> rfl
    ·rw [endCR_app p q hq (fun x h1 h2 => hx ⟨x, h1, h2⟩), hqe, Bool.false_or]
     cases okL p <;> cases decide (p.length ≤ 998) <;> cases endCR q <;> rfl
/-! ### the program's -/
theorem anyCR (l : List UInt8) : Lib.containsAny l [13, 10] = !(l.all fun c => decide (c ≠ 13) && decide (c ≠ 10)) := by
 unfold Lib.containsAny
 induction l with
 | nil => rfl
 | cons a l ih =>
  have hge := Lib.indexAny_ge [13, 10] l
  rw [List.all_cons]
  by_cases h : a = 13 ∨ a = 10
  ·rw [show (decide (a ≠ 13) && decide (a ≠ 10)) = false by rcases h with rfl | rfl <;> rfl, Bool.false_and]
   have : Lib.indexAny (a :: l) [13, 10] = 0 := Lib.indexAny_hit (i := 0) (Lib.NoAny.zero _ _) (x := a) rfl (by rcases h with rfl | rfl <;> rfl)
   rw [this]
   rfl
  ·have hc : ([13, 10] : List UInt8).contains a = false := by
    simp only [List.contains_cons, List.contains_nil, Bool.or_false, Bool.or_eq_false_iff, beq_eq_false_iff_ne]
    exact ⟨fun e => h (.inl e), fun e => h (.inr e)⟩
   rw [show (decide (a ≠ 13) && decide (a ≠ 10)) = true by simp only [Bool.and_eq_true, decide_eq_true_eq]; exact ⟨fun e => h (.inl e), fun e => h (.inr e)⟩, Bool.true_and, ← ih]
   apply decide_eq_decide.2
   rw [Lib.indexAny, hc]
   simp only [Bool.false_eq_true, if_false]
   split
   ·rename_i hh
    have := beq_iff_eq.1 hh
    omega
   ·rename_i hh
    have : Lib.indexAny l [13, 10] ≠ -1 := fun e => hh (beq_iff_eq.2 e)
    omega
theorem lineR_eq (l : List UInt8) : lineR l = (decide (l.length ≤ 998) && l.all (inB 1 127) && !Lib.containsAny l [13, 10]) := by
 unfold lineR okL
 rw [anyCR, Bool.not_not]
 have : (l.all fun c => inB 1 127 c && decide (c ≠ 13) && decide (c ≠ 10)) = (l.all (inB 1 127) && l.all fun c => decide (c ≠ 13) && decide (c ≠ 10)) := by
  induction l with
  | nil => rfl
  | cons a l ih =>
   rw [List.all_cons, List.all_cons, List.all_cons, ih]
   cases inB 1 127 a <;> cases decide (a ≠ 13) <;> cases decide (a ≠ 10) <;> simp
 rw [this]
 cases decide (l.length ≤ 998) <;> cases l.all (inB 1 127) <;> simp
theorem ascii_of (x : ByteArray) (h : (bl x).all (inB 1 127) = true) : asciiB x = true := by
 unfold asciiB
 refine List.all_eq_true.2 fun b hb => ?_
 have := List.all_eq_true.1 h b hb
 unfold inB at this
 rw [decide_eq_true_eq] at this ⊢
 omega
theorem implMail_l0 (ws : List ByteArray) (hw : ws.length ≤ 4611686018427387904) : ∀ (d i : Nat), i + d = ws.length → Ev (fun k => impl_MailOK.l0 k ws (ws.length : Int) (i : Int)) ((ws.drop i).all fun x => lineR (bl x)) := by
 intro d
 induction d with
 | zero =>
  intro i hi
  rw [List.drop_eq_nil_of_le (by omega)]
  refine Ev.step (f := fun _ => some _) (fun k => ?_) (Ev.now _)
  simp only [impl_MailOK.l0]
  rw [if_neg (by omega)]
  rfl
 | succ d ih =>
  intro i hi
  have hlt : i < ws.length := by omega
  have hr := rdOf_natS ws i hlt
  have hsz := bl_size (ws[i]'hlt)
  rw [List.drop_eq_getElem_cons hlt, List.all_cons, lineR_eq]
  generalize ws[i]'hlt = x at hr hsz ⊢
  have w1 : Aside0 (wrap64 ((i : Int) + 1) = ((i + 1 : Nat) : Int)) := ⟨w64s i (by omega)⟩
  by_cases h1 : (x.size : Int) > 998
  ·rw [decide_eq_false (by omega), Bool.false_and, Bool.false_and, Bool.false_and]
   refine Ev.step (f := fun _ => some false) (fun k => ?_) (Ev.now _)
   simp only [impl_MailOK.l0, hr]
   rw [if_pos (by omega), if_pos (by omega), if_pos (by omega), if_pos h1]
  ·rw [decide_eq_true (by omega), Bool.true_and]
   obtain ⟨K, h⟩ := allWithin_ev x (by omega) 1 127
   obtain ⟨K2, h2⟩ := ih (i + 1) (by omega)
   refine ⟨K + K2 + 1, fun k hk => ?_⟩
   obtain ⟨j, rfl⟩ : ∃ j, k = j + 1 := ⟨k - 1, by omega⟩
   have f := h j (by omega)
   have f2 := h2 j (by omega)
   simp only at f f2
   simp only [impl_MailOK.l0, hr, w1.out]
   rw [if_pos (by omega), if_pos (by omega), if_pos (by omega), if_neg h1, show ((1 : Int)) = ((1 : Nat) : Int) from rfl, show ((127 : Int)) = ((127 : Nat) : Int) from rfl, f, bS]
   by_cases ha : (bl x).all (inB 1 127) = true
   ·have hc : strings_ContainsAny.f x (⟨#[13, 10]⟩ : ByteArray) = some (Lib.containsAny (bl x) [13, 10]) := by
     unfold strings_ContainsAny.f
     rw [if_pos ⟨⟨by omega, by decide⟩, ascii_of x ha, by decide⟩]
     rfl
    rw [ha, if_pos rfl, hc, bS, Bool.true_and]
    cases Lib.containsAny (bl x) [13, 10] with
    | true => rfl
    | false => rw [if_neg (by decide)]; exact f2
   ·rw [Bool.not_eq_true] at ha
    rw [ha]
    rfl
theorem implMail_ev (s : ByteArray) (hs : s.size ≤ 140737488351232) : Ev (fun k => impl_MailOK.f k s) (mailR (bl s)) := by
 have hsz := bl_size s
 unfold mailR
 by_cases h0 : (s.size : Int) > 65536
 ·rw [decide_eq_false (by omega), Bool.false_and]
  refine ⟨1, fun k hk => ?_⟩
  obtain ⟨j, rfl⟩ : ∃ j, k = j + 1 := ⟨k - 1, by omega⟩
  simp only [impl_MailOK.f, impl_MailOK.j0]
  rw [if_pos h0]
  rfl
 ·rw [decide_eq_true (by omega), Bool.true_and, mailS_pcr _ _ (Nat.le_refl _)]
  obtain ⟨ws, hws⟩ : ∃ ws, ws = Lib.splitB ⟨#[13, 10]⟩ 0 (Lib.countB s ⟨#[13, 10]⟩) s := ⟨_, rfl⟩
  have hl : ws.length ≤ 4611686018427387904 := by
   have h1 := Lib.splitB_length_le ⟨#[13, 10]⟩ 0 (Lib.countB s ⟨#[13, 10]⟩) s
   have h2 := Lib.count_le s.data.toList (⟨#[13, 10]⟩ : ByteArray).data.toList
   have h3 : s.data.toList.length = s.size := (Lib.size_eq s).symm
   have h4 : Lib.countB s ⟨#[13, 10]⟩ = Lib.count s.data.toList (⟨#[13, 10]⟩ : ByteArray).data.toList := rfl
   rw [hws]
   omega
  have hsp : strings_Split.f s (⟨#[13, 10]⟩ : ByteArray) = some ws := by
   unfold strings_Split.f
   rw [if_pos ⟨by omega, by decide⟩, hws]
  obtain ⟨K2, h2⟩ := implMail_l0 ws hl ws.length 0 (by omega)
  have hall : (ws.all fun x => lineR (bl x)) = (pcr (bl s)).all lineR := by
   rw [← splitB_pcr, ← hws, List.all_map]
   rfl
  have e : ∀ k, impl_MailOK.f k s = impl_MailOK.j0 k s (!((bl s).isEmpty || endCR (bl s))) := fun k => by
   simp only [impl_MailOK.f]
   rw [if_neg h0]
   by_cases hn : bl s = []
   ·rw [if_pos (by rw [toList_bl, hn]), hn]
    rfl
   ·have hne : (bl s).isEmpty = false := by cases h : bl s with | nil => exact absurd h hn | cons a b => rfl
    have hsf : strings_HasSuffix.f s (⟨#[13, 10]⟩ : ByteArray) = some (endCR (bl s)) := by
     simp only [strings_HasSuffix.f, hasSuf s _ (by omega), bS]
     rw [suf_two]
     rfl
    rw [if_neg (by rw [toList_bl]; exact hn), hsf, bS, hne, Bool.false_or]
  refine ⟨K2 + 1, fun k hk => ?_⟩
  obtain ⟨j, rfl⟩ : ∃ j, k = j + 1 := ⟨k - 1, by omega⟩
  have f := h2 j (by omega)
  simp only [List.drop_zero] at f
  rw [hall] at f
  show impl_MailOK.f (j + 1) s = _
  rw [e]
  simp only [impl_MailOK.j0]
  cases (bl s).isEmpty || endCR (bl s) with
  | false => rfl
  | true =>
   rw [if_neg (by decide), hsp, bS, Bool.true_and]
   exact f
end Go.Proofs.YtcpdbobkpbmjiaaDoor.P
/- Lemmas of mine: a mail taken apart in both programs. Plain. -/
set_option linter.unusedVariables false
set_option linter.unusedSimpArgs false
namespace Go.Proofs.YtcpdbobkpbmjiaaDoor.P
open Go.RowKit Go.Proofs.YtcpdbobkpbmjiaaDoorW.PrintWords
theorem ext_mk (s : ByteArray) (i : Nat) : s.extract i s.size = (⟨((bl s).drop i).toArray⟩ : ByteArray) := by
 have h : bl (s.extract i s.size) = (bl s).drop i := by
  rw [bl_extract, bl_size]
  exact List.take_of_length_le (by rw [List.length_drop]; exact Nat.le_refl _)
 rw [← h]
 exact (mk_bl _).symm
theorem w2l (n : Nat) (h : n ≤ 1000000) : wrap64 ((n : Int) + 2) = ((n + 2 : Nat) : Int) := w64add n 2 (by omega)
abbrev SF := S49
def mkF (x : List UInt8 × List UInt8) : SF := ⟨⟨x.1.toArray⟩, ⟨x.2.toArray⟩⟩
/-- How long the field is that a text begins with. -/
def fe : List UInt8 → Option Nat
 | [] => none
 | c :: r => if c = 13 ∧ r.take 1 = [10] ∧ (r.drop 1).take 1 ≠ [32] then some 2 else (fe r).map (· + 1)
theorem fe_le : ∀ (l : List UInt8) (m : Nat), fe l = some m → 2 ≤ m ∧ m ≤ l.length
 | [], m, h => by simp [fe] at h
 | c :: r, m, h => by
  rw [fe] at h
  split at h
  ·rename_i hc
   obtain rfl := Option.some.inj h
   refine ⟨Nat.le_refl _, ?_⟩
   have := congrArg List.length hc.2.1
   rw [List.length_take] at this
   simp only [List.length_cons, List.length_nil] at this ⊢
   omega
  ·obtain ⟨n, hn, rfl⟩ := Option.map_eq_some_iff.1 h
   have := fe_le r n hn
   rw [List.length_cons]
   omega
def parseS : Nat → List UInt8 → List SF → Option (List SF × List UInt8)
 | 0, _, _ => none
 | n + 1, R, acc => if R.take 2 = [13, 10] then some (acc, R.drop 2) else match fe R with
  | none => none
  | some m => match unfR [] (R.take m) with
   | none => none
   | some f => if acc.length = 40 then none else parseS n (R.drop m) (acc ++ [mkF f])
def parseI : Nat → List UInt8 → List SF → Option (List SF)
 | 0, _, _ => none
 | n + 1, R, acc => if R = [] then some acc else match fe R with
  | none => none
  | some m => match unfR [] (R.take m) with
   | none => none
   | some f => if acc.length = 40 then none else parseI n (R.drop m) (acc ++ [mkF f])
/-! ### where the fields end -/
def idx4 : List UInt8 → Option Nat
 | [] => none
 | c :: r => if (c :: r).take 4 = [13, 10, 13, 10] then some 0 else (idx4 r).map (· + 1)
def hdE (l : List UInt8) : Option Nat := if l.take 2 = [13, 10] then some 0 else (idx4 l).map (· + 2)
theorem idx4_spec : ∀ (l : List UInt8) (i : Nat), idx4 l = some i → (l.drop i).take 4 = [13, 10, 13, 10]
 | [], i, h => by simp [idx4] at h
 | c :: r, i, h => by
  rw [idx4] at h
  split at h
  ·rename_i hc
   obtain rfl := Option.some.inj h
   exact hc
  ·obtain ⟨n, hn, rfl⟩ := Option.map_eq_some_iff.1 h
   exact idx4_spec r n hn
theorem take4_here (c : UInt8) (r : List UInt8) (h : (c :: r).take 4 = [13, 10, 13, 10]) : c = 13 ∧ r.take 1 = [10] ∧ (r.drop 1).take 1 ≠ [32] := by
 match r, h with
 | [], h => simp at h
 | [a], h => simp at h
 | [a, b], h => simp at h
 | a :: b :: d :: r, h =>
  simp only [List.take_succ_cons, List.take_zero, List.cons.injEq, and_true] at h
  obtain ⟨rfl, rfl, rfl, rfl⟩ := h
  simp
theorem idx4_none : ∀ (l : List UInt8), fe l = none → idx4 l = none
 | [], _ => rfl
 | c :: r, h => by
  rw [fe] at h
  split at h
  ·cases h
  ·rename_i hc
   have hr := Option.map_eq_none_iff.1 h
   rw [idx4, if_neg (fun h4 => hc (take4_here c r h4)), idx4_none r hr]
   rfl
theorem idx4_fe : ∀ (l : List UInt8) (m : Nat), fe l = some m → idx4 l = if (l.drop m).take 2 = [13, 10] then some (m - 2) else (idx4 (l.drop m)).map (· + m)
 | [], m, h => by simp [fe] at h
 | c :: r, m, h => by
  rw [fe] at h
  split at h
  ·rename_i hc
   obtain rfl := Option.some.inj h
   obtain ⟨rfl, h1, h2⟩ := hc
   match r, h1, h2 with
   | a :: q, h1, h2 =>
    have ha : a = 10 := by simpa using h1
    subst ha
    rw [show List.drop 2 (13 :: 10 :: q) = q from rfl, idx4]
    by_cases hq : q.take 2 = [13, 10]
    ·rw [if_pos hq, if_pos]
     show 13 :: 10 :: q.take 2 = _
     rw [hq]
    ·rw [if_neg hq, if_neg, idx4, if_neg (by simp), Option.map_map]
     ·rfl
     ·intro hh
      apply hq
      have : 13 :: 10 :: q.take 2 = [13, 10, 13, 10] := hh
      simpa using this
  ·rename_i hc
   obtain ⟨n, hn, rfl⟩ := Option.map_eq_some_iff.1 h
   have h2 := (fe_le r n hn).1
   rw [idx4, if_neg (fun h4 => hc (take4_here c r h4)), idx4_fe r n hn, List.drop_succ_cons]
   split
   ·show some (n - 2 + 1) = _
    congr 1
    omega
   ·rw [Option.map_map]
    rfl
theorem hdE_none (l : List UInt8) (h0 : ¬ l.take 2 = [13, 10]) (h : fe l = none) : hdE l = none := by
 unfold hdE
 rw [if_neg h0, idx4_none l h]
 rfl
theorem hdE_fe (l : List UInt8) (m : Nat) (h0 : ¬ l.take 2 = [13, 10]) (h : fe l = some m) : hdE l = (hdE (l.drop m)).map (· + m) := by
 have h2 := (fe_le l m h).1
 unfold hdE
 rw [if_neg h0, idx4_fe l m h]
 split
 ·show some (m - 2 + 2) = some (0 + m)
  congr 1
  omega
 ·rw [Option.map_map, Option.map_map]
  congr 1
  funext x
  show x + m + 2 = x + 2 + m
  omega
theorem fe_take : ∀ (l : List UInt8) (m e : Nat), fe l = some m → m ≤ e → fe (l.take e) = some m
 | [], m, e, h, _ => by simp [fe] at h
 | c :: r, m, e, h, he => by
  have hm := fe_le _ _ h
  obtain ⟨e, rfl⟩ : ∃ e', e = e' + 1 := ⟨e - 1, by omega⟩
  rw [List.take_succ_cons]
  rw [fe] at h ⊢
  split at h
  ·rename_i hc
   obtain rfl := Option.some.inj h
   obtain ⟨e, rfl⟩ : ∃ e', e = e' + 1 := ⟨e - 1, by omega⟩
   refine if_pos ⟨hc.1, ?_, ?_⟩
   ·match r, hc.2.1 with
    | a :: q, h1 => simpa using h1
   ·match r, hc.2 with
    | a :: q, h1 =>
     rw [List.take_succ_cons, List.drop_succ_cons, List.drop_zero]
     have h12 := h1.2
     rw [List.drop_succ_cons, List.drop_zero] at h12
     cases e with
     | zero => simp
     | succ e =>
      cases q with
      | nil => simp
      | cons b q => simpa using h12
  ·rename_i hc
   obtain ⟨n, hn, rfl⟩ := Option.map_eq_some_iff.1 h
   have h2 := fe_le r n hn
   obtain ⟨e, rfl⟩ : ∃ e', e = e' + 2 := ⟨e - 2, by omega⟩
   rw [fe_take r n (e + 2) hn (by omega), if_neg]
   ·rfl
   ·rintro ⟨h3, h4, h5⟩
    refine hc ⟨h3, ?_, ?_⟩
    ·match r, h4 with
     | a :: q, h4 => simpa using h4
    ·match r, h5 with
     | [], _ => simp
     | [a], _ => simp
     | a :: b :: q, h5 => simpa using h5
theorem parse_same : ∀ (n : Nat) (T : List UInt8) (acc : List SF), parseS n T acc = match hdE T with | none => none | some e => (parseI n (T.take e) acc).map fun F => (F, T.drop (e + 2))
 | 0, T, acc => by
  cases hdE T with
  | none => rfl
  | some e => rfl
 | n + 1, T, acc => by
  by_cases h0 : T.take 2 = [13, 10]
  ·have : hdE T = some 0 := if_pos h0
   rw [this, parseS, if_pos h0]
   simp [parseI]
  ·rw [parseS, if_neg h0]
   cases hf : fe T with
   | none => rw [hdE_none T h0 hf]
   | some m =>
    have hm := fe_le T m hf
    have ih := parse_same n (T.drop m)
    rw [hdE_fe T m h0 hf]
    cases hd : hdE (T.drop m) with
    | none =>
     simp only [hd] at ih
     simp only [Option.map_none]
     cases unfR [] (T.take m) with
     | none => rfl
     | some f =>
      simp only
      rw [ih]
      split <;> rfl
    | some e =>
     simp only [hd] at ih
     simp only [Option.map_some]
     have hne : ¬ T.take (e + m) = [] := by
      intro hh
      have := congrArg List.length hh
      rw [List.length_take] at this
      simp only [List.length_nil] at this
      omega
     rw [parseI, if_neg hne, fe_take T m (e + m) hf (by omega)]
     have e1 : (T.take (e + m)).take m = T.take m := by rw [List.take_take, Nat.min_eq_left (by omega)]
     have e2 : (T.take (e + m)).drop m = (T.drop m).take e := by rw [List.drop_take, show e + m - m = e by omega]
     simp only [e1, e2]
     cases unfR [] (T.take m) with
     | none => rfl
     | some f =>
      simp only
      by_cases h40 : acc.length = 40
      ·rw [if_pos h40, if_pos h40]
       rfl
      ·rw [if_neg h40, if_neg h40, ih, List.drop_drop, show m + (e + 2) = e + m + 2 by omega]
/-! ### the reference's -/
def outP (B : Option (List SF × List UInt8)) (r : List SF × ByteArray × Bool) : Prop := match B with
 | none => r.2.2 = false
 | some (F, b) => r = (F, ⟨b.toArray⟩, true)
theorem two_at (s : ByteArray) (i : Nat) (h : i + 2 ≤ (bl s).length) : (s.extract i (i + 2)).toList = ((bl s).drop i).take 2 := by
 rw [toList_bl, bl_extract, show i + 2 - i = 2 by omega]
theorem take_one' (l : List UInt8) (c : UInt8) : l.take 1 = [c] ↔ l[0]? = some c := take_one l c
theorem specP_l1 (s : ByteArray) (hs : s.size ≤ 1000000) (at_ : Nat) (F : List SF) (b : ByteArray) (R : List SF × ByteArray × Bool) : ∀ (d i : Nat), i + d = (bl s).length →
  (match fe ((bl s).drop i) with | none => R = (F, b, false) | some m => Ev (fun k => spec_l07Parse.j3 k s (at_ : Int) ((i + m - 2 : Nat) : Int) F b) R) → Ev (fun k => spec_l07Parse.l1 k s (at_ : Int) (i : Int) F b) R := by
 have hsz := bl_size s
 have hend : ∀ i : Nat, (bl s).length ≤ i + 1 → i ≤ (bl s).length → R = (F, b, false) → Ev (fun k => spec_l07Parse.l1 k s (at_ : Int) (i : Int) F b) R := fun i hi hi2 hR => by
  have w1 : Aside0 (wrap64 ((i : Int) + 1) = ((i + 1 : Nat) : Int)) := ⟨w64s i (by omega)⟩
  have w2 : Aside0 (wrap64 ((i : Int) + 2) = ((i + 2 : Nat) : Int)) := ⟨w64add i 2 (by omega)⟩
  refine ⟨2, fun k hk => ?_⟩
  obtain ⟨j, rfl⟩ : ∃ j, k = j + 1 + 1 := ⟨k - 2, by omega⟩
  show spec_l07Parse.l1 (j + 1 + 1) s (at_ : Int) (i : Int) F b = some R
  rw [spec_l07Parse.l1, w1.out, if_neg (by omega), spec_l07Parse.j3, w2.out, if_pos (by omega), hR]
 intro d
 induction d with
 | zero =>
  intro i hi h
  refine hend i (by omega) (by omega) ?_
  rw [List.drop_eq_nil_of_le (by omega)] at h
  exact h
 | succ d ih =>
  intro i hi h
  have hlt : i < (bl s).length := by omega
  have w1 : Aside0 (wrap64 ((i : Int) + 1) = ((i + 1 : Nat) : Int)) := ⟨w64s i (by omega)⟩
  have w2 : Aside0 (wrap64 ((i : Int) + 2) = ((i + 2 : Nat) : Int)) := ⟨w64add i 2 (by omega)⟩
  rw [List.drop_eq_getElem_cons hlt, fe] at h
  by_cases h2 : i + 1 < (bl s).length
  case neg =>
   refine hend i (by omega) (by omega) ?_
   have hnil : (bl s).drop (i + 1) = [] := List.drop_eq_nil_of_le (by omega)
   rw [hnil, if_neg (by simp)] at h
   exact h
  have t2 : ((bl s).drop i).take 2 = [(bl s)[i], (bl s)[i + 1]] := by
   rw [List.drop_eq_getElem_cons hlt, List.drop_eq_getElem_cons h2]
   rfl
  have htl := two_at s i (by omega)
  rw [t2] at htl
  have hd1 : ((bl s).drop (i + 1)).take 1 = [(bl s)[i + 1]] := by rw [List.drop_eq_getElem_cons h2]; rfl
  have hd2 : ((bl s).drop (i + 1)).drop 1 = (bl s).drop (i + 2) := by rw [List.drop_drop]
  rw [hd1, hd2] at h
  have h3 : ((bl s).drop (i + 2)).take 1 = [32] ↔ ∃ hh : i + 2 < (bl s).length, (bl s)[i + 2] = 32 := by
   rw [take_one, List.getElem?_drop, Nat.add_zero]
   constructor
   ·intro hh
    obtain ⟨hx, hy⟩ := List.getElem?_eq_some_iff.1 hh
    exact ⟨hx, hy⟩
   ·rintro ⟨hx, hy⟩
    exact List.getElem?_eq_some_iff.2 ⟨hx, hy⟩
  generalize (bl s)[i] = c0 at h htl t2
  generalize (bl s)[i + 1] = c1 at h htl t2 hd1
  have hjump : ∀ m : Nat, fe ((bl s).drop (i + 1)) = some m → i + 1 + m - 2 = i + (m + 1) - 2 := fun m _ => by omega
  have go : (¬ (c0 = 13 ∧ [c1] = [10] ∧ ((bl s).drop (i + 2)).take 1 ≠ [32])) → Ev (fun k => spec_l07Parse.l1 k s (at_ : Int) ((i + 1 : Nat) : Int) F b) R := fun hc => by
   rw [if_neg hc] at h
   refine ih (i + 1) (by omega) ?_
   cases hf : fe ((bl s).drop (i + 1)) with
   | none => rw [hf] at h; exact h
   | some m =>
    rw [hf] at h
    simp only [Option.map_some] at h
    show Ev (fun k => spec_l07Parse.j3 k s (at_ : Int) ((i + 1 + m - 2 : Nat) : Int) F b) R
    rw [hjump m hf]
    exact h
  have e : ∀ k, spec_l07Parse.l1 (k + 1) s (at_ : Int) (i : Int) F b = if ([c0, c1] : List UInt8) = [13, 10] then (if ((i + 2 : Nat) : Int) = (s.size : Int) then spec_l07Parse.j3 k s at_ i F b else (if 0 ≤ ((i + 2 : Nat) : Int) then (if ((i + 2 : Nat) : Int) < (s.size : Int) then (if ¬ bt s ((i + 2 : Nat) : Int) = 32 then spec_l07Parse.j3 k s at_ i F b else spec_l07Parse.l1 k s at_ ((i + 1 : Nat) : Int) F b) else none) else none)) else spec_l07Parse.l1 k s at_ ((i + 1 : Nat) : Int) F b := fun k => by
   simp only [spec_l07Parse.l1, w1.out, w2.out, Int.toNat_natCast, htl]
   rw [if_pos (by omega), if_pos (by omega), if_pos (by omega), if_pos (by omega)]
  by_cases hcr : ([c0, c1] : List UInt8) = [13, 10]
  ·have h0 : c0 = 13 := by simp only [List.cons.injEq, and_true] at hcr; exact hcr.1
   have h1 : c1 = 10 := by simp only [List.cons.injEq, and_true] at hcr; exact hcr.2
   by_cases h32 : ((bl s).drop (i + 2)).take 1 = [32]
   ·obtain ⟨hx, hy⟩ := h3.1 h32
    have hb := bt_eq s (i + 2) hx
    refine Ev.step (fun k => ?_) (go fun hh => hh.2.2 h32)
    rw [e, if_pos hcr, if_neg (by omega), if_pos (by omega), if_pos (by omega), if_neg (fun hh => hh (by rw [hb, hy]; rfl))]
   ·rw [if_pos ⟨h0, by rw [h1], h32⟩] at h
    simp only [show i + 2 - 2 = i by omega] at h
    refine Ev.step (fun k => ?_) h
    rw [e, if_pos hcr]
    by_cases hx : i + 2 < (bl s).length
    ·have hb := bt_eq s (i + 2) hx
     have hy : ¬ bt s ((i + 2 : Nat) : Int) = 32 := fun hh => h32 (h3.2 ⟨hx, UInt8.toNat_inj.1 (by rw [show ((32 : UInt8)).toNat = 32 from rfl]; omega)⟩)
     rw [if_neg (by omega), if_pos (by omega), if_pos (by omega), if_pos hy]
    ·rw [if_pos (by omega)]
  ·refine Ev.step (fun k => ?_) (go fun hh => hcr (by rw [hh.1, show c1 = 10 by simpa using hh.2.1]))
   rw [e, if_neg hcr]
theorem specP_ev (s : ByteArray) (hs : s.size ≤ 1000000) (b : ByteArray) : ∀ (n at_ : Nat) (F : List SF), at_ ≤ (bl s).length → (bl s).length - at_ < n → F.length ≤ 40 → ∃ r, Ev (fun k => spec_l07Parse.l0 k s (at_ : Int) F b) r ∧ outP (parseS n ((bl s).drop at_) F) r := by
 have hsz := bl_size s
 intro n
 induction n with
 | zero => intro at_ F h1 h2; omega
 | succ n ih =>
  intro at_ F h1 h2 hF
  have w2 : Aside0 (wrap64 ((at_ : Int) + 2) = ((at_ + 2 : Nat) : Int)) := ⟨w64add at_ 2 (by omega)⟩
  rw [parseS]
  by_cases h0 : ((bl s).drop at_).take 2 = [13, 10]
  ·have hl : at_ + 2 ≤ (bl s).length := by
    have := congrArg List.length h0
    rw [List.length_take, List.length_drop] at this
    simp only [List.length_cons, List.length_nil] at this
    omega
   have htl := two_at s at_ hl
   rw [h0] at htl
   rw [if_pos h0]
   refine ⟨(F, s.extract (at_ + 2) s.size, true), ⟨2, fun k hk => ?_⟩, ?_⟩
   ·obtain ⟨j, rfl⟩ : ∃ j, k = j + 1 + 1 := ⟨k - 2, by omega⟩
    show spec_l07Parse.l0 (j + 1 + 1) s (at_ : Int) F b = _
    rw [spec_l07Parse.l0, w2.out, if_pos (by omega), if_pos (by omega), if_pos (by omega), Int.toNat_natCast, Int.toNat_natCast, htl, spec_l07Parse.j1, w2.out, if_pos (by decide), if_pos (by omega), if_pos (by omega), Int.toNat_natCast]
   ·show (F, s.extract (at_ + 2) s.size, true) = (F, (⟨(((bl s).drop at_).drop 2).toArray⟩ : ByteArray), true)
    rw [List.drop_drop]
    have : s.extract (at_ + 2) s.size = (⟨((bl s).drop (at_ + 2)).toArray⟩ : ByteArray) := ext_mk s (at_ + 2)
    rw [this]
  ·rw [if_neg h0]
   have head : ∀ R, Ev (fun k => spec_l07Parse.l1 k s (at_ : Int) (at_ : Int) F b) R → Ev (fun k => spec_l07Parse.l0 k s (at_ : Int) F b) R := fun R hR => by
    refine Ev.step (f := fun k => spec_l07Parse.j1 k s (at_ : Int) false F b) (fun k => ?_) (Ev.step (fun k => ?_) hR)
    ·simp only [spec_l07Parse.l0, w2.out, Int.toNat_natCast]
     by_cases hl : at_ + 2 ≤ (bl s).length
     ·have htl := two_at s at_ hl
      rw [if_pos (by omega), if_pos (by omega), if_pos (by omega), htl, beq_eq_false_iff_ne.2 h0]
     ·rw [if_neg (by omega)]
    ·simp only [spec_l07Parse.j1]
     rw [if_neg (by decide)]
   cases hf : fe ((bl s).drop at_) with
   | none => exact ⟨(F, b, false), head _ (specP_l1 s hs at_ F b _ ((bl s).length - at_) at_ (by omega) (by rw [hf])), rfl⟩
   | some m =>
    have hm := fe_le _ _ hf
    rw [List.length_drop] at hm
    have hz : bl (s.extract at_ (at_ + m)) = ((bl s).drop at_).take m := by rw [bl_extract, show at_ + m - at_ = m by omega]
    obtain ⟨u, ⟨K, hu⟩, ho⟩ := specUnf_ev (s.extract at_ (at_ + m)) (by rw [ByteArray.size_extract]; omega)
    rw [hz] at ho
    have w3 : Aside0 (wrap64 (((at_ + m - 2 : Nat) : Int) + 2) = ((at_ + m : Nat) : Int)) := ⟨by rw [show ((at_ + m : Nat) : Int) = ((at_ + m - 2 + 2 : Nat) : Int) by rw [show at_ + m - 2 + 2 = at_ + m by omega]]; exact w64add (at_ + m - 2) 2 (by omega)⟩
    have e : ∀ k, K ≤ k → spec_l07Parse.j3 (k + 1) s (at_ : Int) ((at_ + m - 2 : Nat) : Int) F b = if u.2.2 = true then (if (F.length : Int) = 40 then some (F, b, false) else spec_l07Parse.l0 k s ((at_ + m : Nat) : Int) (F ++ [(⟨u.1, u.2.1⟩ : SF)]) b) else some (F, b, false) := fun k hk => by
     have f := hu k hk
     simp only at f
     simp only [spec_l07Parse.j3, w3.out, Int.toNat_natCast, f, bS]
     rw [if_neg (by omega), if_pos (by omega), if_pos (by omega), if_pos (by omega), if_pos (show F.length < 4398046511104 by omega)]
    have fin : ∀ R, (∃ K2, ∀ k, K2 ≤ k → spec_l07Parse.j3 (k + 1) s (at_ : Int) ((at_ + m - 2 : Nat) : Int) F b = some R) → Ev (fun k => spec_l07Parse.l0 k s (at_ : Int) F b) R := fun R ⟨K2, h⟩ =>
     head _ (specP_l1 s hs at_ F b _ ((bl s).length - at_) at_ (by omega) (by
      rw [hf]
      exact ⟨K2 + 1, fun k hk => by obtain ⟨j, rfl⟩ : ∃ j, k = j + 1 := ⟨k - 1, by omega⟩; exact h j (by omega)⟩))
    simp only
    cases hR : unfR [] (((bl s).drop at_).take m) with
    | none =>
     rw [hR] at ho
     have ho' : u.2.2 = false := ho
     exact ⟨(F, b, false), fin _ ⟨K, fun k hk => by rw [e k hk, ho']; rfl⟩, rfl⟩
    | some f =>
     rw [hR] at ho
     obtain ⟨o1, o2, o3⟩ : u.2.2 = true ∧ bl u.1 = f.1 ∧ bl u.2.1 = f.2 := ho
     simp only
     by_cases h40 : F.length = 40
     ·rw [if_pos h40]
      exact ⟨(F, b, false), fin _ ⟨K, fun k hk => by rw [e k hk, if_pos o1, if_pos (by omega)]⟩, rfl⟩
     ·rw [if_neg h40, List.drop_drop]
      have hmk : (⟨u.1, u.2.1⟩ : SF) = mkF f := by
       unfold mkF
       rw [← o2, ← o3, mk_bl, mk_bl]
      obtain ⟨r, ⟨K2, hr⟩, hro⟩ := ih (at_ + m) (F ++ [mkF f]) (by omega) (by omega) (by simp; omega)
      refine ⟨r, fin _ ⟨K + K2, fun k hk => ?_⟩, hro⟩
      have f2 := hr k (by omega)
      simp only at f2
      rw [e k (by omega), if_pos o1, if_neg (by omega), hmk]
      exact f2
theorem specParse_ev (s : ByteArray) (hs : s.size ≤ 1000000) : ∃ r, Ev (fun k => spec_l07Parse.f k s) r ∧ outP (parseS ((bl s).length + 1) (bl s) []) r := by
 obtain ⟨r, h, ho⟩ := specP_ev s hs (⟨#[]⟩ : ByteArray) ((bl s).length + 1) 0 [] (by omega) (by omega) (by simp)
 exact ⟨r, h, ho⟩
/-! ### the program's -/
theorem index4 (l : List UInt8) : Lib.index l [13, 10, 13, 10] = match idx4 l with | none => -1 | some i => (i : Int) := by
 induction l with
 | nil => rfl
 | cons c r ih =>
  have hp : ([13, 10, 13, 10] : List UInt8).isPrefixOf (c :: r) = decide ((c :: r).take 4 = [13, 10, 13, 10]) := by
   match r with
   | [] => simp [List.isPrefixOf]
   | [a] => simp [List.isPrefixOf]
   | [a, b] => simp [List.isPrefixOf]
   | a :: b :: d :: r =>
    simp only [List.isPrefixOf, List.take_succ_cons, List.take_zero, Bool.and_true]
    rw [Bool.eq_iff_iff]
    simp only [Bool.and_eq_true, beq_iff_eq, decide_eq_true_eq, List.cons.injEq, and_true]
    constructor <;> rintro ⟨h1, h2, h3, h4⟩ <;> exact ⟨h1.symm, h2.symm, h3.symm, h4.symm⟩
  rw [Lib.index, hp, idx4]
  by_cases h : (c :: r).take 4 = [13, 10, 13, 10]
  ·rw [decide_eq_true h, if_pos rfl, if_pos h]
   rfl
  ·rw [decide_eq_false h, if_neg (by decide), if_neg h, ih]
   cases idx4 r with
   | none => rfl
   | some i =>
    simp only [Option.map_some]
    rw [if_neg (by simp)]
    rfl
theorem headEnd_eq (s : ByteArray) (hs : s.size ≤ 1000000) : impl_headEnd.f s = some (match hdE (bl s) with | none => -1 | some e => (e : Int)) := by
 have hsz := bl_size s
 have h1 : strings_HasPrefix.f s (⟨#[13, 10]⟩ : ByteArray) = some (decide ((bl s).take 2 = [13, 10])) := by
  simp only [strings_HasPrefix.f, hasPre, bS]
  refine congrArg some ?_
  show (decide (2 ≤ s.size) && ((bl s).take 2 == [13, 10])) = _
  rw [Bool.eq_iff_iff, Bool.and_eq_true, decide_eq_true_eq, decide_eq_true_eq, beq_iff_eq]
  constructor
  ·exact fun h => h.2
  ·intro h
   have := congrArg List.length h
   rw [List.length_take] at this
   simp only [List.length_cons, List.length_nil] at this
   exact ⟨by omega, h⟩
 have h2 : strings_Index.f s (⟨#[13, 10, 13, 10]⟩ : ByteArray) = some (match idx4 (bl s) with | none => -1 | some i => (i : Int)) := by
  unfold strings_Index.f
  rw [if_pos (by omega), ← index4]
  rfl
 simp only [impl_headEnd.f, h1, h2, bS]
 unfold hdE
 by_cases h0 : (bl s).take 2 = [13, 10]
 ·rw [if_pos (decide_eq_true h0), if_pos h0]
  rfl
 ·rw [if_neg (by rw [decide_eq_true_eq]; exact h0), if_neg h0]
  cases hi : idx4 (bl s) with
  | none => rfl
  | some i =>
   have hsp := congrArg List.length (idx4_spec _ _ hi)
   rw [List.length_take, List.length_drop] at hsp
   simp only [List.length_cons, List.length_nil] at hsp
   simp only [Option.map_some]
   rw [if_neg (by omega), w2l i (by omega)]
theorem endCR_tail (p q : List UInt8) (h : endCR (p ++ 13 :: 10 :: q) = true) : q = [] ∨ endCR q = true := by
 by_cases hq : q = []
 ·exact .inl hq
 ·right
  by_cases hx : ∃ x, q = [x] ∧ x = 10
  ·obtain ⟨x, rfl, rfl⟩ := hx
   unfold endCR at h
   rw [decide_eq_true_eq] at h
   have hl : (p ++ [13, 10, 10]).length - 2 = p.length + 1 := by simp
   have e : (p ++ [13, 10, 10]).drop ((p ++ [13, 10, 10]).length - 2) = [10, 10] := by
    rw [hl, ← List.drop_drop, List.drop_left]
    rfl
   have h2 := h.2
   rw [e] at h2
   exact absurd h2 (by decide)
  ·rwa [endCR_app p q hq (fun x h1 h2 => hx ⟨x, h1, h2⟩)] at h
theorem endCR_first (X : List UInt8) (h : endCR X = true) : ∃ p q, X = p ++ 13 :: 10 :: q ∧ Lib.index X [13, 10] = (p.length : Int) ∧ (q = [] ∨ endCR q = true) ∧ fe X = if q.take 1 = [32] then (fe q).map (· + (p.length + 2)) else some (p.length + 2) := by
 rcases cr_cases X with ⟨_, hno⟩ | ⟨p, q, rfl, hi, hno⟩
 ·unfold endCR at h
  rw [decide_eq_true_eq] at h
  have := hno (X.length - 2)
  rw [h.2] at this
  exact absurd rfl this
 ·refine ⟨p, q, rfl, hi, endCR_tail p q h, ?_⟩
  clear hi h
  induction p with
  | nil =>
   rw [List.nil_append, fe]
   by_cases h32 : q.take 1 = [32]
   ·rw [if_neg (fun hh => hh.2.2 h32), if_pos h32, fe, if_neg (fun hh => absurd hh.1 (by decide)), Option.map_map]
    rfl
   ·rw [if_pos ⟨rfl, rfl, h32⟩, if_neg h32]
    rfl
  | cons c p ih =>
   have h0 := hno 0 (by simp)
   have ih := ih (fun j hj => by have := hno (j + 1) (by simpa using hj); simpa using this)
   rw [List.cons_append, fe, if_neg (by
    rintro ⟨h1, h2, _⟩
    apply h0
    rw [List.cons_append, List.drop_zero, show (2 : Nat) = 1 + 1 from rfl, List.take_succ_cons, h1, h2]), ih]
   split
   ·rw [Option.map_map]
    congr 1
   ·rfl
def fldI (n : Nat) (X : List UInt8) (m : Nat) (F : List SF) : Option (List SF) := match unfR [] (X.take m) with
 | none => none
 | some f => if F.length = 40 then none else parseI n (X.drop m) (F ++ [mkF f])
def outI (b : ByteArray) (B : Option (List SF)) (r : List SF × ByteArray × Bool) : Prop := match B with
 | none => r.2.2 = false
 | some F => r = (F, b, true)
theorem fe_end (X : List UInt8) (h : endCR X = true) : ∃ m, fe X = some m ∧ (X.drop m = [] ∨ endCR (X.drop m) = true) := by
 have : ∀ (n : Nat) (X : List UInt8), X.length ≤ n → endCR X = true → ∃ m, fe X = some m ∧ (X.drop m = [] ∨ endCR (X.drop m) = true) := by
  intro n
  induction n with
  | zero =>
   intro X hX h
   cases X with
   | nil => exact absurd h (by decide)
   | cons a b => simp at hX
  | succ n ih =>
   intro X hX h
   obtain ⟨p, q, rfl, hi, hq, hf⟩ := endCR_first X h
   have hd : ∀ m, (p ++ 13 :: 10 :: q).drop (m + (p.length + 2)) = q.drop m := fun m => by
    rw [Nat.add_comm, ← List.drop_drop, ← List.drop_drop, List.drop_left]
    rfl
   by_cases h32 : q.take 1 = [32]
   ·rw [if_pos h32] at hf
    have hqe : endCR q = true := hq.resolve_left (by rintro rfl; simp at h32)
    obtain ⟨m, hm, hme⟩ := ih q (by simp at hX; omega) hqe
    rw [hm] at hf
    exact ⟨m + (p.length + 2), hf, by rw [hd]; exact hme⟩
   ·rw [if_neg h32] at hf
    exact ⟨p.length + 2, hf, by have := hd 0; rw [Nat.zero_add, List.drop_zero] at this; rw [this]; exact hq⟩
 exact this X.length X (Nat.le_refl _) h
theorem implP_ev (b : ByteArray) : ∀ (n : Nat) (R : ByteArray) (F : List SF), R.size ≤ 100000 → (bl R).length < n → (bl R = [] ∨ endCR (bl R) = true) → F.length ≤ 40 → ∃ r, Ev (fun k => impl_parseMail.l0 k R F b) r ∧ outI b (parseI n (bl R) F) r := by
 intro n
 induction n with
 | zero => intro R F _ h; omega
 | succ n ih =>
  intro R F hR hn he hF
  have hsz := bl_size R
  rw [parseI]
  by_cases h0 : bl R = []
  ·rw [if_pos h0]
   refine ⟨(F, b, true), Ev.step (f := fun _ => some _) (fun k => ?_) (Ev.now _), rfl⟩
   simp only [impl_parseMail.l0]
   rw [if_pos (by rw [toList_bl]; exact h0)]
  ·rw [if_neg h0]
   have he := he.resolve_left h0
   -- behind an end of a line: on, while a blank follows
   have on : ∀ (d x m : Nat) (r : List SF × ByteArray × Bool), (bl R).length - x ≤ d → x ≤ (bl R).length → ((bl R).drop x = [] ∨ endCR ((bl R).drop x) = true) → (if ((bl R).drop x).take 1 = [32] then (fe ((bl R).drop x)).map (· + x) else some x) = some m → (∃ K, ∀ k, K ≤ k → ∀ c : Int, (impl_unfold.f k (R.extract 0 m)).bind (fun bt107 => (if bt107.2.2 = true then (if (F.length : Int) = 40 then (some (([] : List SF), (⟨#[]⟩ : ByteArray), false)) else (if F.length < 4398046511104 then (impl_parseMail.l0 k (R.extract m R.size) (F ++ [(⟨bt107.1, bt107.2.1⟩ : SF)]) b) else (none))) else (some (([] : List SF), (⟨#[]⟩ : ByteArray), false)))) = some r) → Ev (fun k => impl_parseMail.l1 k R (x : Int) F b) r := by
    intro d
    induction d with
    | zero =>
     intro x m r hd hx hxe hm hK
     obtain rfl : x = (bl R).length := by omega
     rw [List.drop_eq_nil_of_le (Nat.le_refl _), if_neg (by simp)] at hm
     obtain rfl := Option.some.inj hm
     obtain ⟨K, hK⟩ := hK
     refine ⟨K + 1, fun k hk => ?_⟩
     obtain ⟨j, rfl⟩ : ∃ j, k = j + 1 := ⟨k - 1, by omega⟩
     show impl_parseMail.l1 (j + 1) R _ F b = _
     rw [impl_parseMail.l1, if_neg (by omega), if_pos (by omega), if_pos (by omega), Int.toNat_natCast]
     exact hK j (by omega) 0
    | succ d ihd =>
     intro x m r hd hx hxe hm hK
     by_cases hxl : x < (bl R).length
     case neg =>
      obtain rfl : x = (bl R).length := by omega
      rw [List.drop_eq_nil_of_le (Nat.le_refl _), if_neg (by simp)] at hm
      obtain rfl := Option.some.inj hm
      obtain ⟨K, hK⟩ := hK
      refine ⟨K + 1, fun k hk => ?_⟩
      obtain ⟨j, rfl⟩ : ∃ j, k = j + 1 := ⟨k - 1, by omega⟩
      show impl_parseMail.l1 (j + 1) R _ F b = _
      rw [impl_parseMail.l1, if_neg (by omega), if_pos (by omega), if_pos (by omega), Int.toNat_natCast]
      exact hK j (by omega) 0
     have hb := bt_eq R x hxl
     have h1 : ((bl R).drop x).take 1 = [(bl R)[x]] := by rw [List.drop_eq_getElem_cons hxl]; rfl
     rw [h1] at hm
     have hxe := hxe.resolve_left (fun hh => by have := congrArg List.length hh; rw [List.length_drop] at this; simp at this; omega)
     by_cases h32 : (bl R)[x] = 32
     ·have hb32 : bt R (x : Int) = 32 := by rw [hb, h32]; rfl
      rw [if_pos (by rw [h32])] at hm
      obtain ⟨p, q, e, hi, hq, hf⟩ := endCR_first _ hxe
      have hxd : bl (R.extract x R.size) = (bl R).drop x := by rw [bl_extract]; exact List.take_of_length_le (by rw [List.length_drop]; omega)
      have hidx : strings_Index.f (R.extract x R.size) (⟨#[13, 10]⟩ : ByteArray) = some (p.length : Int) := by
       unfold strings_Index.f
       rw [if_pos (by rw [ByteArray.size_extract]; omega)]
       refine congrArg some ?_
       show Lib.index (bl (R.extract x R.size)) [13, 10] = _
       rw [hxd, hi]
      have hdq : (bl R).drop (x + (p.length + 2)) = q := by
       rw [← List.drop_drop, e, ← List.drop_drop, List.drop_left]
       rfl
      have hpl : x + (p.length + 2) ≤ (bl R).length := by
       have := congrArg List.length e
       rw [List.length_drop] at this
       simp at this
       omega
      have w : Aside0 (wrap64 ((x : Int) + wrap64 ((p.length : Int) + 2)) = ((x + (p.length + 2) : Nat) : Int)) := ⟨by
       rw [w2l p.length (by omega), w64add x (p.length + 2) (by omega)]⟩
      refine Ev.step (f := fun k => impl_parseMail.l1 k R ((x + (p.length + 2) : Nat) : Int) F b) (fun k => ?_) (ihd (x + (p.length + 2)) m r (by omega) hpl (by rw [hdq]; exact hq) ?_ hK)
      ·simp only [impl_parseMail.l1, hb32, Int.toNat_natCast, hidx, bS, w.out]
       rw [if_pos (by omega), if_pos (by omega), if_pos trivial, if_pos (by omega)]
      ·rw [hdq, ← hm, hf]
       split
       ·rw [Option.map_map]
        congr 1
        funext y
        show y + (x + (p.length + 2)) = y + (p.length + 2) + x
        omega
       ·simp only [Option.map_some]
        congr 1
        omega
     ·have hb32 : ¬ bt R (x : Int) = 32 := fun hh => h32 (UInt8.toNat_inj.1 (by rw [show ((32 : UInt8)).toNat = 32 from rfl]; omega))
      rw [if_neg (by simp [h32])] at hm
      obtain rfl := Option.some.inj hm
      obtain ⟨K, hK⟩ := hK
      refine ⟨K + 1, fun k hk => ?_⟩
      obtain ⟨j, rfl⟩ : ∃ j, k = j + 1 := ⟨k - 1, by omega⟩
      show impl_parseMail.l1 (j + 1) R _ F b = _
      rw [impl_parseMail.l1, if_pos (by omega), if_pos (by omega), if_neg hb32, if_pos (by omega), Int.toNat_natCast]
      exact hK j (by omega) 0
   obtain ⟨p, q, e, hi, hq, hf⟩ := endCR_first _ he
   obtain ⟨m, hm, hme⟩ := fe_end _ he
   have hml := fe_le _ _ hm
   have hidx : strings_Index.f R (⟨#[13, 10]⟩ : ByteArray) = some (p.length : Int) := by
    unfold strings_Index.f
    rw [if_pos (by omega)]
    exact congrArg some hi
   have hpl : p.length + 2 ≤ (bl R).length := by rw [e]; simp
   have hdq : (bl R).drop (p.length + 2) = q := by
    rw [e, ← List.drop_drop, List.drop_left]
    rfl
   have start : ∀ r, Ev (fun k => impl_parseMail.l1 k R ((p.length + 2 : Nat) : Int) F b) r → Ev (fun k => impl_parseMail.l0 k R F b) r := fun r hr => by
    refine Ev.step (fun k => ?_) hr
    simp only [impl_parseMail.l0, hidx, bS]
    rw [if_neg (by rw [toList_bl]; exact h0), w2l p.length (by omega)]
   have hmm : (if ((bl R).drop (p.length + 2)).take 1 = [32] then (fe ((bl R).drop (p.length + 2))).map (· + (p.length + 2)) else some (p.length + 2)) = some m := by
    rw [hdq, ← hf, hm]
   have hz : bl (R.extract 0 m) = (bl R).take m := by rw [bl_extract, List.drop_zero, Nat.sub_zero]
   have hz2 : bl (R.extract m R.size) = (bl R).drop m := by rw [bl_extract]; exact List.take_of_length_le (by rw [List.length_drop]; omega)
   obtain ⟨u, ⟨K, hu⟩, ho⟩ := implUnf_ev (R.extract 0 m) (by rw [ByteArray.size_extract]; omega)
   rw [hz] at ho
   rw [hm]
   simp only
   have fin : ∀ r, (∃ K2, ∀ k, K2 ≤ k → (if u.2.2 = true then (if (F.length : Int) = 40 then (some (([] : List SF), (⟨#[]⟩ : ByteArray), false)) else (if F.length < 4398046511104 then (impl_parseMail.l0 k (R.extract m R.size) (F ++ [(⟨u.1, u.2.1⟩ : SF)]) b) else (none))) else (some (([] : List SF), (⟨#[]⟩ : ByteArray), false))) = some r) → Ev (fun k => impl_parseMail.l0 k R F b) r := fun r ⟨K2, h2⟩ =>
    start r (on (bl R).length (p.length + 2) m r (by omega) hpl (by rw [hdq]; exact hq) hmm ⟨K + K2, fun k hk c => by
     have f := hu k (by omega)
     simp only at f
     rw [f, bS]
     exact h2 k (by omega)⟩)
   cases hR2 : unfR [] ((bl R).take m) with
   | none =>
    rw [hR2] at ho
    have ho' : u.2.2 = false := ho
    exact ⟨_, fin (([] : List SF), (⟨#[]⟩ : ByteArray), false) ⟨0, fun k _ => by rw [ho']; rfl⟩, rfl⟩
   | some f =>
    rw [hR2] at ho
    obtain ⟨o1, o2, o3⟩ : u.2.2 = true ∧ bl u.1 = f.1 ∧ bl u.2.1 = f.2 := ho
    simp only
    by_cases h40 : F.length = 40
    ·rw [if_pos h40]
     exact ⟨_, fin (([] : List SF), (⟨#[]⟩ : ByteArray), false) ⟨0, fun k _ => by rw [if_pos o1, if_pos (by omega)]⟩, rfl⟩
    ·rw [if_neg h40, ← hz2]
     have hmk : (⟨u.1, u.2.1⟩ : SF) = mkF f := by
      unfold mkF
      rw [← o2, ← o3, mk_bl, mk_bl]
     obtain ⟨r, ⟨K2, hr⟩, hro⟩ := ih (R.extract m R.size) (F ++ [mkF f]) (by rw [ByteArray.size_extract]; omega) (by rw [hz2, List.length_drop]; omega) (by rw [hz2]; exact hme) (by simp; omega)
     refine ⟨r, fin r ⟨K2, fun k hk => ?_⟩, hro⟩
     have f2 := hr k hk
     simp only at f2
     rw [if_pos o1, if_neg (by omega), if_pos (by omega), hmk]
     exact f2
theorem hdE_le (l : List UInt8) (e : Nat) (h : hdE l = some e) : e + 2 ≤ l.length ∧ (l.take e = [] ∨ endCR (l.take e) = true) := by
 unfold hdE at h
 split at h
 ·rename_i h0
  obtain rfl := Option.some.inj h
  have := congrArg List.length h0
  rw [List.length_take] at this
  simp only [List.length_cons, List.length_nil] at this
  exact ⟨by omega, .inl (by simp)⟩
 ·obtain ⟨i, hi, rfl⟩ := Option.map_eq_some_iff.1 h
  have h4 := idx4_spec l i hi
  have := congrArg List.length h4
  rw [List.length_take, List.length_drop] at this
  simp only [List.length_cons, List.length_nil] at this
  refine ⟨by omega, .inr (decide_eq_true ⟨by rw [List.length_take]; omega, ?_⟩)⟩
  have hl : (l.take (i + 2)).length = i + 2 := by rw [List.length_take]; omega
  rw [hl, show i + 2 - 2 = i by omega, List.drop_take, show i + 2 - i = 2 by omega]
  have := congrArg (List.take 2) h4
  rw [List.take_take] at this
  exact this
/-- A right mail, or none, in the program: what the reference finds in it. -/
theorem implParse_ev (s : ByteArray) (hs : s.size ≤ 65536) : ∃ r, Ev (fun k => impl_parseMail.f k s) r ∧ (if mailR (bl s) = true then outP (parseS ((bl s).length + 1) (bl s) []) r else r.2.2 = false) := by
 have hsz := bl_size s
 have hh := headEnd_eq s (by omega)
 obtain ⟨K, hM⟩ := implMail_ev s (by omega)
 have bad : ∀ (y : Int) (k : Nat), impl_parseMail.j0 (k + 1) s y true = some (([] : List SF), (⟨#[]⟩ : ByteArray), false) := fun y k => by
  simp only [impl_parseMail.j0]
  rfl
 by_cases hm : mailR (bl s) = true
 ·simp only [hm, if_true]
  rw [parse_same]
  cases hd : hdE (bl s) with
  | none =>
   rw [hd] at hh
   refine ⟨_, ⟨K + 1, fun k hk => ?_⟩, (rfl : outP none (([] : List SF), (⟨#[]⟩ : ByteArray), false))⟩
   obtain ⟨j, rfl⟩ : ∃ j, k = j + 1 := ⟨k - 1, by omega⟩
   have f := hM (j + 1) (by omega)
   simp only at f
   simp only [impl_parseMail.f, hh, f, bS, hm, if_true]
   exact bad _ _
  | some e =>
   rw [hd] at hh
   have hle := hdE_le _ _ hd
   have hz : bl (s.extract 0 e) = (bl s).take e := by rw [bl_extract, List.drop_zero, Nat.sub_zero]
   have hz2 : s.extract (e + 2) s.size = (⟨((bl s).drop (e + 2)).toArray⟩ : ByteArray) := ext_mk s (e + 2)
   obtain ⟨r, ⟨K2, hr⟩, ho⟩ := implP_ev (s.extract (e + 2) s.size) ((bl s).length + 1) (s.extract 0 e) [] (by rw [ByteArray.size_extract]; omega) (by rw [hz, List.length_take]; omega) (by rw [hz]; exact hle.2) (by simp)
   rw [hz] at ho
   refine ⟨r, ⟨K + K2 + 1, fun k hk => ?_⟩, ?_⟩
   ·obtain ⟨j, rfl⟩ : ∃ j, k = j + 1 := ⟨k - 1, by omega⟩
    have f := hM (j + 1) (by omega)
    have f2 := hr j (by omega)
    simp only at f f2
    have w : Aside0 (wrap64 ((e : Int) + 2) = ((e + 2 : Nat) : Int)) := ⟨w2l e (by omega)⟩
    simp only [impl_parseMail.f, hh, f, bS, hm, if_true, impl_parseMail.j0, w.out, Int.toNat_natCast]
    rw [decide_eq_false (by omega), if_neg (by decide), if_pos (by omega), if_pos (by omega), if_pos (by omega), if_pos (by omega)]
    exact f2
   ·simp only
    cases hp : parseI ((bl s).length + 1) ((bl s).take e) [] with
    | none => rw [hp] at ho; exact ho
    | some F =>
     rw [hp] at ho
     have ho' : r = (F, s.extract (e + 2) s.size, true) := ho
     show r = (F, (⟨((bl s).drop (e + 2)).toArray⟩ : ByteArray), true)
     rw [ho', hz2]
 ·rw [Bool.not_eq_true] at hm
  simp only [hm, Bool.false_eq_true, if_false]
  refine ⟨_, ⟨K + 1, fun k hk => ?_⟩, (rfl : ((([] : List SF), (⟨#[]⟩ : ByteArray), false) : List SF × ByteArray × Bool).2.2 = false)⟩
  obtain ⟨j, rfl⟩ : ∃ j, k = j + 1 := ⟨k - 1, by omega⟩
  have f := hM (j + 1) (by omega)
  simp only at f
  simp only [impl_parseMail.f, hh, f, bS, hm]
  rw [if_neg (by decide)]
  exact bad _ _
end Go.Proofs.YtcpdbobkpbmjiaaDoor.P
/- Lemmas of mine: what both programs tell of a mail. Plain. -/
set_option linter.unusedVariables false
set_option linter.unusedSimpArgs false
namespace Go.Proofs.YtcpdbobkpbmjiaaDoor.P
open Go.RowKit Go.Proofs.YtcpdbobkpbmjiaaDoorW.PrintWords
theorem parseS_len : ∀ (n : Nat) (R : List UInt8) (acc F : List SF) (b : List UInt8), acc.length ≤ 40 → parseS n R acc = some (F, b) → F.length ≤ 40
 | 0, R, acc, F, b, _, h => by cases h
 | n + 1, R, acc, F, b, ha, h => by
  rw [parseS] at h
  split at h
  ·simp only [Option.some.injEq, Prod.mk.injEq] at h
   rw [← h.1]
   exact ha
  ·cases hf : fe R with
   | none => rw [hf] at h; cases h
   | some m =>
    rw [hf] at h
    simp only at h
    cases hu : unfR [] (R.take m) with
    | none => rw [hu] at h; cases h
    | some f =>
     rw [hu] at h
     simp only at h
     split at h
     ·cases h
     ·exact parseS_len n _ _ F b (by simp; omega) h
/-- What a right mail is: its fields, and what stands behind the empty line. -/
def mailOf (l : List UInt8) : Option (List SF × List UInt8) := if mailR l = true then parseS (l.length + 1) l [] else none
theorem mailOf_body {l : List UInt8} {F : List SF} {b : List UInt8} (h : mailOf l = some (F, b)) : mailR l = true ∧ F.length ≤ 40 ∧ ∃ e, hdE l = some e ∧ b = l.drop (e + 2) := by
 unfold mailOf at h
 split at h
 ·rename_i hm
  refine ⟨hm, parseS_len _ _ _ _ _ (by simp) h, ?_⟩
  rw [parse_same] at h
  cases hd : hdE l with
  | none => rw [hd] at h; cases h
  | some e =>
   rw [hd] at h
   simp only at h
   obtain ⟨F', _, hF⟩ := Option.map_eq_some_iff.1 h
   simp only [Prod.mk.injEq] at hF
   exact ⟨e, rfl, hF.2.symm⟩
 ·cases h
def outM (B : Option (List SF × List UInt8)) : List SF × ByteArray × Int := match B with
 | none => ([], ⟨#[]⟩, 3)
 | some (F, b) => (F, ⟨b.toArray⟩, 0)
theorem specPM_ev (s : ByteArray) : Ev (fun k => spec_ParseMail.f k s) (if s.size ≤ 65536 then outM (mailOf (bl s)) else ([], ⟨#[]⟩, 2)) := by
 by_cases h0 : s.size ≤ 65536
 ·rw [if_pos h0]
  obtain ⟨K, h⟩ := specMail_ev s
  obtain ⟨r, ⟨K2, h2⟩, ho⟩ := specParse_ev s (by omega)
  refine ⟨K + K2, fun k hk => ?_⟩
  have f := h k (by omega)
  have f2 := h2 k (by omega)
  simp only at f f2
  simp only [spec_ParseMail.f, f, bS, f2]
  rw [if_neg (by omega)]
  unfold mailOf
  by_cases hm : mailR (bl s) = true
  ·rw [if_pos hm, if_pos hm]
   cases hp : parseS ((bl s).length + 1) (bl s) [] with
   | none =>
    rw [hp] at ho
    have ho' : r.2.2 = false := ho
    rw [ho']
    rfl
   | some x =>
    obtain ⟨F, b⟩ := x
    rw [hp] at ho
    have ho' : r = (F, (⟨b.toArray⟩ : ByteArray), true) := ho
    rw [ho']
    rfl
  ·rw [if_neg hm, if_neg hm]
   rfl
 ·rw [if_neg h0]
  exact ⟨0, fun k _ => by simp only [spec_ParseMail.f]; rw [if_pos (by omega)]⟩
theorem implPM_ev (s : ByteArray) : Ev (fun k => impl_ParseMail.f k s) (if s.size ≤ 65536 then outM (mailOf (bl s)) else ([], ⟨#[]⟩, 2)) := by
 by_cases h0 : s.size ≤ 65536
 ·rw [if_pos h0]
  obtain ⟨r, ⟨K2, h2⟩, ho⟩ := implParse_ev s h0
  refine ⟨K2, fun k hk => ?_⟩
  have f2 := h2 k (by omega)
  simp only at f2
  simp only [impl_ParseMail.f, bS, f2]
  rw [if_neg (by omega)]
  unfold mailOf
  by_cases hm : mailR (bl s) = true
  ·rw [if_pos hm] at ho ⊢
   cases hp : parseS ((bl s).length + 1) (bl s) [] with
   | none =>
    rw [hp] at ho
    have ho' : r.2.2 = false := ho
    rw [ho']
    rfl
   | some x =>
    obtain ⟨F, b⟩ := x
    rw [hp] at ho
    have ho' : r = (F, (⟨b.toArray⟩ : ByteArray), true) := ho
    rw [ho']
    rfl
  ·rw [if_neg hm] at ho ⊢
   rw [ho]
   rfl
 ·rw [if_neg h0]
  exact ⟨0, fun k _ => by simp only [impl_ParseMail.f]; rw [if_pos (by omega)]⟩
theorem hdE_at (l : List UInt8) (e : Nat) (h : hdE l = some e) : (l.drop e).take 2 = [13, 10] := by
 unfold hdE at h
 split at h
 ·rename_i h0
  obtain rfl := Option.some.inj h
  rwa [List.drop_zero]
 ·obtain ⟨i, hi, rfl⟩ := Option.map_eq_some_iff.1 h
  have h4 := idx4_spec l i hi
  have := congrArg (List.drop 2) h4
  rw [List.drop_take, List.drop_drop] at this
  exact this
theorem mailS_tail : ∀ (n : Nat) (A B : List UInt8) (w : Nat), A.length ≤ n → mailS w (A ++ 13 :: 10 :: B) = true → mailS 0 B = true := by
 intro n
 induction n with
 | zero =>
  intro A B w hA h
  cases A with
  | nil => rw [List.nil_append, mailS, if_pos ⟨rfl, rfl⟩] at h; exact h
  | cons a b => simp at hA
 | succ n ih =>
  intro A B w hA h
  cases A with
  | nil => rw [List.nil_append, mailS, if_pos ⟨rfl, rfl⟩] at h; exact h
  | cons c A =>
   rw [List.cons_append, mailS] at h
   split at h
   ·rename_i hc
    cases A with
    | nil => simp at hc
    | cons a A => exact ih A B 0 (by simp at hA; omega) h
   ·rw [Bool.and_eq_true] at h
    exact ih A B (w + 1) (by simp at hA; omega) h.2
theorem body_ok (l : List UInt8) (e : Nat) (hm : mailR l = true) (h : hdE l = some e) : mailS 0 (l.drop (e + 2)) = true := by
 unfold mailR at hm
 rw [Bool.and_eq_true] at hm
 have h2 := hdE_at l e h
 have h3 := List.take_append_drop 2 (l.drop e)
 rw [h2, List.drop_drop] at h3
 have h4 := List.take_append_drop e l
 rw [← h3] at h4
 have h5 : l.take e ++ 13 :: 10 :: l.drop (e + 2) = l := h4
 refine mailS_tail _ (l.take e) _ 0 (Nat.le_refl _) ?_
 rw [h5]
 exact hm.2
end Go.Proofs.YtcpdbobkpbmjiaaDoor.P
/- The pure statement of the law FnExactMailLines: the two MailLines tell the same. No condition. -/
set_option linter.unusedVariables false
set_option linter.unusedSimpArgs false
namespace Go.Proofs.YtcpdbobkpbmjiaaDoor.P
open Go.RowKit Go.Proofs.YtcpdbobkpbmjiaaDoorW.PrintWords
theorem count_lines : ∀ (n : Nat) (l : List UInt8), l.length ≤ n → mailS 0 l = true → Lib.count l [13, 10] = l.count 10 := by
 intro n
 induction n with
 | zero =>
  intro l hl _
  cases l with
  | nil => rfl
  | cons a b => simp at hl
 | succ n ih =>
  intro l hl h
  rcases cr_cases l with ⟨hi, hno⟩ | ⟨p, q, rfl, hi, hno⟩
  ·obtain ⟨rfl, _⟩ := mailS_none l 0 hno h
   rfl
  ·rw [mailS_line p q 0 hno (by omega)] at h
   simp only [Bool.and_eq_true] at h
   have hd : (p ++ 13 :: 10 :: q).drop (p.length + 2) = q := by rw [← List.drop_drop, List.drop_left]; rfl
   rw [Lib.count_hit (by simp) hi, show ([13, 10] : List UInt8).length = 2 from rfl, hd, ih q (by simp at hl; omega) h.2]
   have hp : p.count 10 = 0 := List.count_eq_zero.2 fun hm => by
    have := List.all_eq_true.1 h.1.1 10 hm
    exact absurd this (by decide)
   rw [List.count_append, hp, List.count_cons_of_ne (by decide), List.count_cons_self]
   omega
theorem specLines_l0 (F : List SF) (b : ByteArray) (hb0 : b.size ≤ 1000000) : ∀ (d i c : Nat), i + d = (bl b).length → c ≤ i → Ev (fun k => spec_MailLines.l0 k (c : Int) (i : Int) F b) (((c + ((bl b).drop i).count 10 : Nat) : Int), (0 : Int)) := by
 have hsz := bl_size b
 intro d
 induction d with
 | zero =>
  intro i c hi hc
  rw [List.drop_eq_nil_of_le (by omega)]
  refine Ev.step (f := fun _ => some _) (fun k => ?_) (Ev.now _)
  simp only [spec_MailLines.l0]
  rw [if_neg (by omega)]
  rfl
 | succ d ih =>
  intro i c hi hc
  have hlt : i < (bl b).length := by omega
  have hb := bt_eq b i hlt
  rw [List.drop_eq_getElem_cons hlt]
  generalize (bl b)[i] = x at hb ⊢
  have w1 : Aside0 (wrap64 ((i : Int) + 1) = ((i + 1 : Nat) : Int)) := ⟨w64s i (by omega)⟩
  by_cases h10 : x = 10
  ·have e : (bt b (i : Int) == 10) = true := by rw [hb, h10]; rfl
   have h := ih (i + 1) (c + 1) (by omega) (by omega)
   rw [h10, List.count_cons_self, show c + ((List.count 10 ((bl b).drop (i + 1))) + 1) = c + 1 + List.count 10 ((bl b).drop (i + 1)) by omega]
   refine Ev.step (fun k => ?_) h
   simp only [spec_MailLines.l0, e, spec_l01Bit.f, if_true, bS, w1.out]
   rw [if_pos (by omega), if_pos (by omega), w64s c (by omega)]
  ·have e : (bt b (i : Int) == 10) = false := by
    rw [hb]
    exact beq_eq_false_iff_ne.2 fun hh => h10 (UInt8.toNat_inj.1 (by rw [show ((10 : UInt8)).toNat = 10 from rfl]; omega))
   have h := ih (i + 1) c (by omega) (by omega)
   rw [List.count_cons_of_ne h10]
   refine Ev.step (fun k => ?_) h
   have w0 : wrap64 ((c : Int) + 0) = (c : Int) := by rw [Int.add_zero]; exact w64n c (by omega)
   simp only [spec_MailLines.l0, e, spec_l01Bit.f, Bool.false_eq_true, if_false, bS, w1.out, w0]
   rw [if_pos (by omega), if_pos (by omega)]
end Go.Proofs.YtcpdbobkpbmjiaaDoor.P
namespace Go.Proofs.YtcpdbobkpbmjiaaDoor.Pure
open Go.RowKit Go.Proofs.YtcpdbobkpbmjiaaDoor.P Go.Proofs.YtcpdbobkpbmjiaaDoorW.PrintWords
theorem FnExactMailLines : laws_FnExactMailLines.Pure := by
 intro s hs
 refine Ev.k (?_ : Ev (fun k => laws_FnExactMailLines.f k s) true)
 by_cases g1 : (s.size : Int) > 1048576
 ·exact ⟨0, fun k _ => by simp only [laws_FnExactMailLines.f]; rw [if_pos g1]⟩
 have hsz := bl_size s
 obtain ⟨K1, h1⟩ := specPM_ev s
 obtain ⟨K2, h2⟩ := implPM_ev s
 have both : ∃ r, Ev (fun k => spec_MailLines.f k s) r ∧ Ev (fun k => impl_MailLines.f k s) r := by
  by_cases h0 : s.size ≤ 65536
  ·rw [if_pos h0] at h1 h2
   cases hmo : mailOf (bl s) with
   | none =>
    rw [hmo] at h1 h2
    refine ⟨(0, 3), ⟨K1, fun k hk => ?_⟩, ⟨K2, fun k hk => ?_⟩⟩
    ·have f := h1 k hk
     simp only at f
     simp only [spec_MailLines.f, f, bS, outM]
     rw [if_neg (by omega)]
     rfl
    ·have f := h2 k hk
     simp only at f
     simp only [impl_MailLines.f, f, bS, outM]
     rfl
   | some x =>
    obtain ⟨F, b⟩ := x
    obtain ⟨hm, _, e, he, hb⟩ := mailOf_body hmo
    have hbl : b.length ≤ s.size := by rw [hb, List.length_drop, hsz]; omega
    have hbs : (⟨b.toArray⟩ : ByteArray).size = b.length := by rw [bl_size, bl_mk]
    have hc := count_lines _ b (Nat.le_refl _) (by rw [hb]; exact body_ok _ e hm he)
    rw [hmo] at h1 h2
    obtain ⟨K3, h3⟩ := specLines_l0 F (⟨b.toArray⟩ : ByteArray) (by omega) (bl (⟨b.toArray⟩ : ByteArray)).length 0 0 (by omega) (by omega)
    rw [bl_mk, List.drop_zero, Nat.zero_add] at h3
    refine ⟨(((b.count 10 : Nat) : Int), 0), ⟨K1 + K3, fun k hk => ?_⟩, ⟨K2, fun k hk => ?_⟩⟩
    ·have f := h1 k (by omega)
     have f3 := h3 k (by omega)
     simp only at f f3
     simp only [spec_MailLines.f, f, bS, outM]
     rw [if_neg (by omega)]
     exact f3
    ·have f := h2 k hk
     simp only at f
     have hcnt : strings_Count.f (⟨b.toArray⟩ : ByteArray) (⟨#[13, 10]⟩ : ByteArray) = some ((b.count 10 : Nat) : Int) := by
      unfold strings_Count.f
      rw [if_pos ⟨by omega, by decide⟩]
      have : Lib.countB (⟨b.toArray⟩ : ByteArray) (⟨#[13, 10]⟩ : ByteArray) = Lib.count b [13, 10] := rfl
      rw [this, hc]
     simp only [impl_MailLines.f, f, bS, outM, hcnt]
     rfl
  ·rw [if_neg h0] at h1 h2
   refine ⟨(0, 2), ⟨0, fun k _ => ?_⟩, ⟨K2, fun k hk => ?_⟩⟩
   ·simp only [spec_MailLines.f]
    rw [if_pos (by omega)]
   ·have f := h2 k hk
    simp only at f
    simp only [impl_MailLines.f, f, bS]
    rfl
 obtain ⟨r, ⟨K1, h1⟩, ⟨K2, h2⟩⟩ := both
 refine ⟨K1 + K2, fun k hk => ?_⟩
 have f1 := h1 k (by omega)
 have f2 := h2 k (by omega)
 simp only at f1 f2
 simp only [laws_FnExactMailLines.f, f1, f2, bS, if_true]
 rw [if_neg g1]
end Go.Proofs.YtcpdbobkpbmjiaaDoor.Pure
