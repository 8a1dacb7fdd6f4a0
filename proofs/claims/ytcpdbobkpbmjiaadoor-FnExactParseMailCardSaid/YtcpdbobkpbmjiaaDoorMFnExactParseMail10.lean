/- Part 10 of what the law FnExactParseMail stands on; the last part ends with the law's row. No condition of mine. -/
import Derived.Test.YtcpdbobkpbmjiaaDoorMFnExactParseMail9
import Derived.Test.YtcpdbobkpbmjiaaDoorMFnExactParseMail6
import Derived.Test.YtcpdbobkpbmjiaaDoorMFnExactParseMail3
import Derived.Test.YtcpdbobkpbmjiaaDoorMFnExactParseMail8
import Derived.Test.YtcpdbobkpbmjiaaDoorMFnExactParseMail7
/- Lemmas of mine: what both programs tell of a mail. Plain. -/
set_option linter.unusedVariables false
set_option linter.unusedSimpArgs false
namespace Go.Proofs.YtcpdbobkpbmjiaaDoor.P
open Go.RowKit Go.Proofs.YtcpdbobkpbmjiaaDoorW.PrintWords
theorem parseS_len : ∀ (n : Nat) (R : List UInt8) (acc F : List SF) (b : List UInt8), acc.length ≤ 40 → parseS n R acc = some (F, b) → F.length ≤ 40
 | 0, R, acc, F, b, _, h => by cases h
 | n + 1, R, acc, F, b, ha, h => by
  rw [parseS] at h
  split at h
  ·simp only [Option.some.injEq, Prod.mk.injEq] at h
   rw [← h.1]
   exact ha
  ·cases hf : fe R with
   | none => rw [hf] at h; cases h
   | some m =>
    rw [hf] at h
    simp only at h
    cases hu : unfR [] (R.take m) with
    | none => rw [hu] at h; cases h
    | some f =>
     rw [hu] at h
     simp only at h
     split at h
     ·cases h
     ·exact parseS_len n _ _ F b (by simp; omega) h
/-- What a right mail is: its fields, and what stands behind the empty line. -/
def mailOf (l : List UInt8) : Option (List SF × List UInt8) := if mailR l = true then parseS (l.length + 1) l [] else none
theorem mailOf_body {l : List UInt8} {F : List SF} {b : List UInt8} (h : mailOf l = some (F, b)) : mailR l = true ∧ F.length ≤ 40 ∧ ∃ e, hdE l = some e ∧ b = l.drop (e + 2) := by
 unfold mailOf at h
 split at h
 ·rename_i hm
  refine ⟨hm, parseS_len _ _ _ _ _ (by simp) h, ?_⟩
  rw [parse_same] at h
  cases hd : hdE l with
  | none => rw [hd] at h; cases h
  | some e =>
   rw [hd] at h
   simp only at h
   obtain ⟨F', _, hF⟩ := Option.map_eq_some_iff.1 h
   simp only [Prod.mk.injEq] at hF
   exact ⟨e, rfl, hF.2.symm⟩
 ·cases h
def outM (B : Option (List SF × List UInt8)) : List SF × ByteArray × Int := match B with
 | none => ([], ⟨#[]⟩, 3)
 | some (F, b) => (F, ⟨b.toArray⟩, 0)
theorem specPM_ev (s : ByteArray) : Ev (fun k => spec_ParseMail.f k s) (if s.size ≤ 65536 then outM (mailOf (bl s)) else ([], ⟨#[]⟩, 2)) := by
 by_cases h0 : s.size ≤ 65536
 ·rw [if_pos h0]
  obtain ⟨K, h⟩ := specMail_ev s
  obtain ⟨r, ⟨K2, h2⟩, ho⟩ := specParse_ev s (by omega)
  refine ⟨K + K2, fun k hk => ?_⟩
  have f := h k (by omega)
  have f2 := h2 k (by omega)
  simp only at f f2
  simp only [spec_ParseMail.f, f, bS, f2]
  rw [if_neg (by omega)]
  unfold mailOf
  by_cases hm : mailR (bl s) = true
  ·rw [if_pos hm, if_pos hm]
   cases hp : parseS ((bl s).length + 1) (bl s) [] with
   | none =>
    rw [hp] at ho
    have ho' : r.2.2 = false := ho
    rw [ho']
    rfl
   | some x =>
    obtain ⟨F, b⟩ := x
    rw [hp] at ho
    have ho' : r = (F, (⟨b.toArray⟩ : ByteArray), true) := ho
    rw [ho']
    rfl
  ·rw [if_neg hm, if_neg hm]
   rfl
 ·rw [if_neg h0]
  exact ⟨0, fun k _ => by simp only [spec_ParseMail.f]; rw [if_pos (by omega)]⟩
theorem implPM_ev (s : ByteArray) : Ev (fun k => impl_ParseMail.f k s) (if s.size ≤ 65536 then outM (mailOf (bl s)) else ([], ⟨#[]⟩, 2)) := by
 by_cases h0 : s.size ≤ 65536
 ·rw [if_pos h0]
  obtain ⟨r, ⟨K2, h2⟩, ho⟩ := implParse_ev s h0
  refine ⟨K2, fun k hk => ?_⟩
  have f2 := h2 k (by omega)
  simp only at f2
  simp only [impl_ParseMail.f, bS, f2]
  rw [if_neg (by omega)]
  unfold mailOf
  by_cases hm : mailR (bl s) = true
  ·rw [if_pos hm] at ho ⊢
   cases hp : parseS ((bl s).length + 1) (bl s) [] with
   | none =>
    rw [hp] at ho
    have ho' : r.2.2 = false := ho
    rw [ho']
    rfl
   | some x =>
    obtain ⟨F, b⟩ := x
    rw [hp] at ho
    have ho' : r = (F, (⟨b.toArray⟩ : ByteArray), true) := ho
    rw [ho']
    rfl
  ·rw [if_neg hm] at ho ⊢
   rw [ho]
   rfl
 ·rw [if_neg h0]
  exact ⟨0, fun k _ => by simp only [impl_ParseMail.f]; rw [if_pos (by omega)]⟩
theorem hdE_at (l : List UInt8) (e : Nat) (h : hdE l = some e) : (l.drop e).take 2 = [13, 10] := by
 unfold hdE at h
 split at h
 ·rename_i h0
  obtain rfl := Option.some.inj h
  rwa [List.drop_zero]
 ·obtain ⟨i, hi, rfl⟩ := Option.map_eq_some_iff.1 h
  have h4 := idx4_spec l i hi
  have := congrArg (List.drop 2) h4
  rw [List.drop_take, List.drop_drop] at this
  exact this
theorem mailS_tail : ∀ (n : Nat) (A B : List UInt8) (w : Nat), A.length ≤ n → mailS w (A ++ 13 :: 10 :: B) = true → mailS 0 B = true := by
 intro n
 induction n with
 | zero =>
  intro A B w hA h
  cases A with
  | nil => rw [List.nil_append, mailS, if_pos ⟨rfl, rfl⟩] at h; exact h
  | cons a b => simp at hA
 | succ n ih =>
  intro A B w hA h
  cases A with
  | nil => rw [List.nil_append, mailS, if_pos ⟨rfl, rfl⟩] at h; exact h
  | cons c A =>
   rw [List.cons_append, mailS] at h
   split at h
   ·rename_i hc
    cases A with
    | nil => simp at hc
    | cons a A => exact ih A B 0 (by simp at hA; omega) h
   ·rw [Bool.and_eq_true] at h
    exact ih A B (w + 1) (by simp at hA; omega) h.2
theorem body_ok (l : List UInt8) (e : Nat) (hm : mailR l = true) (h : hdE l = some e) : mailS 0 (l.drop (e + 2)) = true := by
 unfold mailR at hm
 rw [Bool.and_eq_true] at hm
 have h2 := hdE_at l e h
 have h3 := List.take_append_drop 2 (l.drop e)
 rw [h2, List.drop_drop] at h3
 have h4 := List.take_append_drop e l
 rw [← h3] at h4
 have h5 : l.take e ++ 13 :: 10 :: l.drop (e + 2) = l := h4
 refine mailS_tail _ (l.take e) _ 0 (Nat.le_refl _) ?_
 rw [h5]
 exact hm.2
end Go.Proofs.YtcpdbobkpbmjiaaDoor.P
/- Lemmas of mine: the mark of a number. Plain. -/
set_option linter.unusedVariables false
set_option linter.unusedSimpArgs false
namespace Go.Proofs.YtcpdbobkpbmjiaaDoor.P
open Go.RowKit Go.Proofs.YtcpdbobkpbmjiaaDoorW.PrintWords
theorem markText_l0 : ∀ (d n : Nat) (x : ByteArray), n < 10 ^ d → n ≤ 9223372036854775807 → x.size + d ≤ 1000 → ∃ t, Ev (fun k => laws_markText.l0 k (n : Int) x) t := by
 intro d
 induction d with
 | zero =>
  intro n x hn hn9 hx
  have : n = 0 := by simpa using hn
  subst this
  refine ⟨(⟨#[109]⟩ : ByteArray) ++ x, Ev.step (f := fun _ => some ((⟨#[109]⟩ : ByteArray) ++ x)) (fun k => ?_) (Ev.now _)⟩
  simp only [laws_markText.l0]
  rw [if_neg (by omega), if_pos (by omega)]
 | succ d ih =>
  intro n x hn hn9 hx
  by_cases h0 : n = 0
  ·subst h0
   refine ⟨(⟨#[109]⟩ : ByteArray) ++ x, Ev.step (f := fun _ => some ((⟨#[109]⟩ : ByteArray) ++ x)) (fun k => ?_) (Ev.now _)⟩
   simp only [laws_markText.l0]
   rw [if_neg (by omega), if_pos (by omega)]
  ·have hp : 10 ^ (d + 1) = 10 ^ d * 10 := rfl
   have hs : (strOfNums [(wrap64 (48 + (Int.tmod (n : Int) 10))) % 256]).size = 1 := by rw [strOfNums_size]; rfl
   obtain ⟨t, ht⟩ := ih (n / 10) (strOfNums [(wrap64 (48 + (Int.tmod (n : Int) 10))) % 256] ++ x) (by omega) (by omega) (by rw [ByteArray.size_append, hs]; omega)
   refine ⟨t, Ev.step (f := fun k => laws_markText.l0 k ((n / 10 : Nat) : Int) (strOfNums [(wrap64 (48 + (Int.tmod (n : Int) 10))) % 256] ++ x)) (fun k => ?_) ht⟩
   have hw : ∀ m : Int, 0 ≤ m → m ≤ n → wrap64 m = m ∨ True := fun _ _ _ => .inr trivial
   simp only [laws_markText.l0, Option.bind_some]
   rw [if_pos (by omega), if_pos (by rw [hs]; omega)]
   have hq : Int.tdiv (n : Int) 10 = ((n / 10 : Nat) : Int) := rfl
   rw [hq]
   rw [w64n _ (by omega)]
theorem markText_some (n : Nat) (hn : n < 10 ^ 18) : ∃ t, Ev (fun k => laws_markText.f k (n : Int)) t := by
 by_cases h0 : (n : Int) ≤ 0
 ·refine ⟨(⟨#[109, 48]⟩ : ByteArray), ⟨0, fun k _ => ?_⟩⟩
  simp only [laws_markText.f]
  rw [if_pos h0]
 ·obtain ⟨t, ht⟩ := markText_l0 18 n ⟨#[]⟩ hn (Nat.le_trans (Nat.le_of_lt hn) (by decide)) (by decide)
  refine ⟨t, Ev.congr (fun k => ?_) ht⟩
  simp only [laws_markText.f]
  rw [if_neg h0]
open Classical in
/-- The mark of a number. -/
noncomputable def mt (n : Nat) : ByteArray := if h : ∃ t, Ev (fun k => laws_markText.f k (n : Int)) t then h.choose else ⟨#[]⟩
theorem mt_ev (n : Nat) (hn : n < 10 ^ 18) : Ev (fun k => laws_markText.f k (n : Int)) (mt n) := by
 unfold mt
 rw [dif_pos (markText_some n hn)]
 exact (markText_some n hn).choose_spec
end Go.Proofs.YtcpdbobkpbmjiaaDoor.P
/- Lemmas of mine: the marks of a row of fields; rows are as themselves. Plain. -/
set_option linter.unusedVariables false
set_option linter.unusedSimpArgs false
namespace Go.Proofs.YtcpdbobkpbmjiaaDoor.P
open Go.RowKit Go.Proofs.YtcpdbobkpbmjiaaDoorW.PrintWords
noncomputable def its : Nat → Nat → List S49
 | _, 0 => []
 | n, m + 1 => ⟨mt n, mt (n + 1)⟩ :: its (n + 2) m
theorem its_length : ∀ m n, (its n m).length = m
 | 0, _ => rfl
 | m + 1, n => by rw [its, List.length_cons, its_length m]
theorem markI_l0 : ∀ (d i n : Nat) (xs : List S49), i + d = xs.length → xs.length ≤ 4611686018427387904 → n + 2 * d < 10 ^ 18 →
  Ev (fun k => laws_markFieldS.l0 k xs (n : Int) (i : Int)) (((n + 2 * d : Nat) : Int), xs.take i ++ its n d) := by
 have hp : (10 : Nat) ^ 18 = 1000000000000000000 := by decide
 intro d
 induction d with
 | zero =>
  intro i n xs hi hx hn
  refine Ev.step (f := fun _ => some _) (fun k => ?_) (Ev.now _)
  simp only [laws_markFieldS.l0]
  rw [if_neg (by omega), List.take_of_length_le (by omega)]
  simp [its]
 | succ d ih =>
  intro i n xs hi hx hn
  obtain ⟨K1, m1⟩ := mt_ev n (by omega)
  obtain ⟨K2, m2⟩ := mt_ev (n + 1) (by omega)
  obtain ⟨K, h⟩ := ih (i + 1) (n + 2) (xs.set i ⟨mt n, mt (n + 1)⟩) (by rw [List.length_set]; omega) (by rw [List.length_set]; omega) (by omega)
  have e : (xs.set i (⟨mt n, mt (n + 1)⟩ : S49)).take (i + 1) ++ its (n + 2) d = xs.take i ++ its n (d + 1) := by
   rw [List.take_set, List.take_add_one, List.getElem?_eq_getElem (by omega)]
   have hl : (xs.take i).length = i := by rw [List.length_take]; omega
   rw [List.set_append_right _ _ (by omega), hl, Nat.sub_self]
   simp only [Option.toList, List.set_cons_zero, List.append_assoc, List.cons_append, List.nil_append, its]
  rw [e, show n + 2 + 2 * d = n + 2 * (d + 1) by omega] at h
  refine ⟨K1 + K2 + K + 1, fun k hk => ?_⟩
  obtain ⟨j, rfl⟩ : ∃ j, k = j + 1 := ⟨k - 1, by omega⟩
  have f1 := m1 j (by omega)
  have f2 := m2 j (by omega)
  have f := h j (by omega)
  simp only at f1 f2 f
  have w1 : Aside0 (wrap64 ((n : Int) + 1) = ((n + 1 : Nat) : Int)) := ⟨w64s n (by omega)⟩
  have w2 : Aside0 (wrap64 (((n + 1 : Nat) : Int) + 1) = ((n + 2 : Nat) : Int)) := ⟨w64s (n + 1) (by omega)⟩
  have w3 : Aside0 (wrap64 ((i : Int) + 1) = ((i + 1 : Nat) : Int)) := ⟨w64s i (by omega)⟩
  have hrd : rd_T49 (xs.set i (⟨mt n, (rd_T49 xs (i : Int)).f1⟩ : S49)) (i : Int) = ⟨mt n, (rd_T49 xs (i : Int)).f1⟩ := by
   simp only [rd_T49, Int.toNat_natCast, List.getD_eq_getElem?_getD]
   rw [List.getElem?_set_self (by omega)]
   rfl
  simp only [laws_markFieldS.l0, f1, bS, w1.out, w2.out, w3.out, f2, Int.toNat_natCast, hrd, List.set_set]
  rw [if_pos (by omega), if_pos (by omega)]
  exact f
theorem markI_ev (xs : List S49) (n : Nat) (hx : xs.length ≤ 4611686018427387904) (hn : n + 2 * xs.length < 10 ^ 18) : Ev (fun k => laws_markFieldS.f k xs (n : Int)) (((n + 2 * xs.length : Nat) : Int), its n xs.length) := by
 have h := markI_l0 xs.length 0 n xs (by omega) hx hn
 rw [List.take_zero, List.nil_append] at h
 exact h
theorem heldI_l0 (ys : List S49) (hy : ys.length ≤ 4611686018427387904) : ∀ (d i n : Nat), i + d = ys.length → ys.drop i = its n d → n + 2 * d < 10 ^ 18 → Ev (fun k => laws_heldFieldS.l0 k ys (n : Int) (i : Int)) ((n + 2 * d : Nat) : Int) := by
 have hp : (10 : Nat) ^ 18 = 1000000000000000000 := by decide
 intro d
 induction d with
 | zero =>
  intro i n hi hd hn
  refine Ev.step (f := fun _ => some _) (fun k => ?_) (Ev.now _)
  simp only [laws_heldFieldS.l0]
  rw [if_neg (by omega)]
  rfl
 | succ d ih =>
  intro i n hi hd hn
  have hlt : i < ys.length := by omega
  rw [List.drop_eq_getElem_cons hlt, its] at hd
  injection hd with h1 h2
  have hr : rd_T49 ys (i : Int) = ⟨mt n, mt (n + 1)⟩ := by
   simp only [rd_T49, Int.toNat_natCast, List.getD_eq_getElem?_getD]
   rw [List.getElem?_eq_getElem hlt, h1]
   rfl
  obtain ⟨K1, m1⟩ := mt_ev n (by omega)
  obtain ⟨K2, m2⟩ := mt_ev (n + 1) (by omega)
  obtain ⟨K, h⟩ := ih (i + 1) (n + 2) (by omega) h2 (by omega)
  rw [show n + 2 + 2 * d = n + 2 * (d + 1) by omega] at h
  refine ⟨K1 + K2 + K + 1, fun k hk => ?_⟩
  obtain ⟨j, rfl⟩ : ∃ j, k = j + 1 := ⟨k - 1, by omega⟩
  have f1 := m1 j (by omega)
  have f2 := m2 j (by omega)
  have f := h j (by omega)
  simp only at f1 f2 f
  have w1 : Aside0 (wrap64 ((n : Int) + 1) = ((n + 1 : Nat) : Int)) := ⟨w64s n (by omega)⟩
  have w2 : Aside0 (wrap64 (((n + 1 : Nat) : Int) + 1) = ((n + 2 : Nat) : Int)) := ⟨w64s (n + 1) (by omega)⟩
  have w3 : Aside0 (wrap64 ((i : Int) + 1) = ((i + 1 : Nat) : Int)) := ⟨w64s i (by omega)⟩
  simp only [laws_heldFieldS.l0, hr, f1, bS, w1.out, w2.out, w3.out, f2]
  rw [if_pos (by omega), if_pos (by omega), if_pos trivial, if_pos trivial]
  exact f
theorem heldI_ev (n m : Nat) (hm : m ≤ 4611686018427387904) (hn : n + 2 * m < 10 ^ 18) : Ev (fun k => laws_heldFieldS.f k (its n m) (n : Int)) ((n + 2 * m : Nat) : Int) :=
 heldI_l0 (its n m) (by rw [its_length]; exact hm) m 0 n (by rw [its_length]; omega) rfl hn
theorem eqI_self (ys : List S49) (h : ys.length ≤ 4611686018427387904) : Ev (fun k => laws_eqFieldS.f k ys ys) true := by
 refine Ev.congr (f := fun k => laws_eqFieldS.l0 k ys ys ((0 : Nat) : Int)) (fun k => ?_)
  (up_loop (fun k i => laws_eqFieldS.l0 k ys ys i) ys.length true ?_ ⟨0, fun k _ => ?_⟩ ys.length 0 (by omega))
 ·unfold laws_eqFieldS.f
  exact if_pos rfl
 ·intro i hi
  refine ⟨0, fun k _ => ?_⟩
  simp only [laws_eqFieldS.l0, laws_eqField.f, if_true, bS]
  rw [if_pos (by omega), if_pos (by omega), if_pos (by omega), w64s i (by omega)]
 ·simp only [laws_eqFieldS.l0]
  rw [if_neg (by omega)]
end Go.Proofs.YtcpdbobkpbmjiaaDoor.P
/- The pure statement of the law FnExactParseMail: the two ParseMail tell the same, in memory of their own. No condition. -/
set_option linter.unusedVariables false
set_option linter.unusedSimpArgs false
namespace Go.Proofs.YtcpdbobkpbmjiaaDoor.Pure
open Go.RowKit Go.Proofs.YtcpdbobkpbmjiaaDoor.P Go.Proofs.YtcpdbobkpbmjiaaDoorW.PrintWords
theorem FnExactParseMail : laws_FnExactParseMail.Pure := by
 intro s hs
 refine Ev.k (?_ : Ev (fun k => laws_FnExactParseMail.f k s) true)
 have hp : (10 : Nat) ^ 18 = 1000000000000000000 := by decide
 by_cases g1 : (s.size : Int) > 1048576
 ·exact ⟨0, fun k _ => by simp only [laws_FnExactParseMail.f]; rw [if_pos g1]⟩
 obtain ⟨K1, sp⟩ := specPM_ev s
 obtain ⟨K2, im⟩ := implPM_ev s
 obtain ⟨F, b, code, hr, hF⟩ : ∃ F b code, (if s.size ≤ 65536 then outM (mailOf (bl s)) else (([] : List SF), (⟨#[]⟩ : ByteArray), (2 : Int))) = (F, b, code) ∧ F.length ≤ 40 := by
  by_cases h0 : s.size ≤ 65536
  ·rw [if_pos h0]
   cases hmo : mailOf (bl s) with
   | none => exact ⟨_, _, _, rfl, by simp⟩
   | some x =>
    obtain ⟨F, b⟩ := x
    exact ⟨_, _, _, rfl, (mailOf_body hmo).2.1⟩
  ·rw [if_neg h0]
   exact ⟨_, _, _, rfl, by simp⟩
 rw [hr] at sp im
 obtain ⟨K3, eqF⟩ := eqI_self F (by omega)
 obtain ⟨K4, mkF_⟩ := markI_ev F 1 (by omega) (by omega)
 obtain ⟨K5, hdF⟩ := heldI_ev 1 F.length (by omega) (by omega)
 have hb : (code != code) = false := by simp
 obtain ⟨S, hS⟩ : ∃ S, S = K1 + K2 + K3 + K4 + K5 := ⟨_, rfl⟩
 have G : ∀ j, S ≤ j → spec_ParseMail.f j s = some (F, b, code) ∧ impl_ParseMail.f j s = some (F, b, code) ∧ laws_eqMail.f j F b F b = some true ∧ laws_markMail.f j F b 1 = some (((1 + 2 * F.length : Nat) : Int), its 1 F.length) ∧ laws_heldMail.f j (its 1 F.length) b 1 = some ((1 + 2 * F.length : Nat) : Int) := fun j hj => by
  have a1 := sp j (by omega)
  have a2 := im j (by omega)
  have a3 := eqF j (by omega)
  have a4 := mkF_ j (by omega)
  have a5 := hdF j (by omega)
  simp only at a1 a2 a3 a4 a5
  refine ⟨a1, a2, ?_, ?_, ?_⟩
  ·simp only [laws_eqMail.f, a3, bS, if_true]
  ·show (laws_markFieldS.f j F ((1 : Nat) : Int)).bind _ = _
   rw [a4, bS]
  ·show (laws_heldFieldS.f j (its 1 F.length) ((1 : Nat) : Int)).bind _ = _
   rw [a5, bS, if_neg (by omega)]
 refine ⟨S + 10, fun k hk => ?_⟩
 have j1 : ∀ j, S ≤ j → laws_FnExactParseMail.j1 (j + 1) ((1 + 2 * F.length : Nat) : Int) false (its 1 F.length) b = some true := fun j hj => by
  simp only [laws_FnExactParseMail.j1, (G j hj).2.2.2.2, bS]
  rw [if_neg (by decide), if_neg (by omega), if_pos trivial]
 have j0 : ∀ j, S ≤ j → laws_FnExactParseMail.j0 (j + 1 + 1) s code false F b F b = some true := fun j hj => by
  obtain ⟨f1, f2, f3, f4, f5⟩ := G (j + 1) (by omega)
  simp only [laws_FnExactParseMail.j0, f2, f3, f4, f5, bS, hb]
  rw [if_neg (by decide), if_neg (by omega), if_pos trivial, if_pos trivial]
  exact j1 j hj
 obtain ⟨j, rfl⟩ : ∃ j, k = j + 1 + 1 := ⟨k - 2, by omega⟩
 obtain ⟨f1, f2, f3, f4, f5⟩ := G (j + 1 + 1) (by omega)
 show laws_FnExactParseMail.f (j + 1 + 1) s = some true
 simp only [laws_FnExactParseMail.f, f1, f2, f3, bS, hb]
 rw [if_neg g1, if_pos trivial]
 exact j0 j (by omega)
end Go.Proofs.YtcpdbobkpbmjiaaDoor.Pure
