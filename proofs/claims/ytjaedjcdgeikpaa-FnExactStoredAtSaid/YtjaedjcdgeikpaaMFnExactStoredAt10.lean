/- Part 10 of what the law FnExactStoredAt stands on; the last part ends with the law's row. No condition of mine. -/
import Derived.Test.YtjaedjcdgeikpaaMFnExactStoredAt9
import Derived.Test.YtjaedjcdgeikpaaMFnExactStoredAt6
import Derived.Test.YtjaedjcdgeikpaaMFnExactStoredAt2
import Derived.Test.YtjaedjcdgeikpaaMFnExactStoredAt5
import Derived.Test.YtjaedjcdgeikpaaMFnExactStoredAt7
import Derived.Test.YtjaedjcdgeikpaaMFnExactStoredAt3
import Derived.Test.YtjaedjcdgeikpaaMFnExactStoredAt1
import Derived.Test.YtjaedjcdgeikpaaMFnExactStoredAt4
import Derived.Test.YtjaedjcdgeikpaaMFnExactStoredAt8
import Derived.Test.YtjaedjcdgeikpaaRows
import Derived.WalkKit
import Derived.ProofKit
import Derived.OpenShut
import Derived.ShutString
import Derived.ChangeOld
import Derived.Below
import Derived.SizedLaws
import Derived.Carry
/- Lemmas of mine: loops that count up: over any function of rounds. Plain. -/
set_option linter.unusedVariables false
set_option linter.unusedSimpArgs false
namespace Go.Proofs.Ytjaedjcdgeikpaa.P
open Go.RowKit Go.Proofs.YtjaedjcdgeikpaaW.PrintWords
/-- A loop whose rounds change the place alone. -/
theorem up_loop {R : Type} (L : Nat → Int → Option R) (n : Nat) (r : R)
  (hstep : ∀ i : Nat, i < n → ∃ K, ∀ k, K ≤ k → L (k + 1) (i : Int) = L k ((i + 1 : Nat) : Int))
  (hend : ∃ K, ∀ k, K ≤ k → L (k + 1) (n : Int) = some r) : ∀ d i : Nat, i + d = n → Ev (fun k => L k (i : Int)) r := by
 intro d
 induction d with
 | zero =>
  intro i hi
  obtain rfl : i = n := by omega
  obtain ⟨K, h⟩ := hend
  exact ⟨K + 1, fun k hk => by obtain ⟨m, rfl⟩ : ∃ m, k = m + 1 := ⟨k - 1, by omega⟩; exact h m (by omega)⟩
 | succ d ih =>
  intro i hi
  obtain ⟨K, h⟩ := hstep i (by omega)
  obtain ⟨K2, h2⟩ := ih (i + 1) (by omega)
  refine ⟨K + K2 + 1, fun k hk => ?_⟩
  obtain ⟨m, rfl⟩ : ∃ m, k = m + 1 := ⟨k - 1, by omega⟩
  show L (m + 1) (i : Int) = some r
  rw [h m (by omega)]
  exact h2 m (by omega)
/-- A loop with a state: what holds of the state says what comes out. -/
theorem st_loop {σ R : Type} (L : Nat → σ → Int → Option R) (n : Nat) (out : Nat → σ → R → Prop)
  (hstep : ∀ (i : Nat) (s : σ), i < n → (∃ r, (∃ K, ∀ k, K ≤ k → L (k + 1) s (i : Int) = some r) ∧ out i s r) ∨ ∃ s', (∃ K, ∀ k, K ≤ k → L (k + 1) s (i : Int) = L k s' ((i + 1 : Nat) : Int)) ∧ ∀ r, out (i + 1) s' r → out i s r)
  (hend : ∀ s, ∃ r, (∃ K, ∀ k, K ≤ k → L (k + 1) s (n : Int) = some r) ∧ out n s r) : ∀ (d i : Nat) (s : σ), i + d = n → ∃ r, Ev (fun k => L k s (i : Int)) r ∧ out i s r := by
 intro d
 induction d with
 | zero =>
  intro i s hi
  obtain rfl : i = n := by omega
  obtain ⟨r, ⟨K, h⟩, ho⟩ := hend s
  exact ⟨r, ⟨K + 1, fun k hk => by obtain ⟨m, rfl⟩ : ∃ m, k = m + 1 := ⟨k - 1, by omega⟩; exact h m (by omega)⟩, ho⟩
 | succ d ih =>
  intro i s hi
  rcases hstep i s (by omega) with ⟨r, ⟨K, h⟩, ho⟩ | ⟨s', ⟨K, h⟩, ho⟩
  ·exact ⟨r, ⟨K + 1, fun k hk => by obtain ⟨m, rfl⟩ : ∃ m, k = m + 1 := ⟨k - 1, by omega⟩; exact h m (by omega)⟩, ho⟩
  ·obtain ⟨r, ⟨K2, h2⟩, ho2⟩ := ih (i + 1) s' (by omega)
   refine ⟨r, ⟨K + K2 + 1, fun k hk => ?_⟩, ho r ho2⟩
   obtain ⟨m, rfl⟩ : ∃ m, k = m + 1 := ⟨k - 1, by omega⟩
   show L (m + 1) s (i : Int) = some r
   rw [h m (by omega)]
   exact h2 m (by omega)
theorem map_set {α β : Type} (xs : List α) (ys : List β) (g : α → β) (i : Nat) (hi : i < xs.length) (hl : ys.length = xs.length) (hy : ys.take i = (xs.take i).map g) :
  (ys.set i (g (xs[i]'hi))).take (i + 1) = (xs.take (i + 1)).map g := by
 have e2 : (xs.take (i + 1)).map g = (xs.take i).map g ++ [g (xs[i]'hi)] := by
  rw [List.take_add_one, List.getElem?_eq_getElem hi, List.map_append]
  rfl
 have e : ((xs.take i).map g).length = i := by rw [List.length_map, List.length_take]; omega
 rw [e2, List.take_set, List.take_add_one, List.getElem?_eq_getElem (by omega), hy, List.set_append_right _ _ (by omega), e, Nat.sub_self]
 rfl
/-- A loop that fills a row of the same length. -/
theorem copy_loop {α β : Type} (L : Nat → List β → Int → Option (List β)) (xs : List α) (g : α → β)
  (hstep : ∀ (i : Nat) (ys : List β) (hi : i < xs.length), ys.length = xs.length → ∃ K, ∀ k, K ≤ k → L (k + 1) ys (i : Int) = L k (ys.set i (g (xs[i]'hi))) ((i + 1 : Nat) : Int))
  (hend : ∀ ys, ys.length = xs.length → ∃ K, ∀ k, K ≤ k → L (k + 1) ys (xs.length : Int) = some ys) :
  ∀ (d i : Nat) (ys : List β), i + d = xs.length → ys.length = xs.length → ys.take i = (xs.take i).map g → Ev (fun k => L k ys (i : Int)) (xs.map g) := by
 intro d
 induction d with
 | zero =>
  intro i ys hi hl hy
  obtain rfl : i = xs.length := by omega
  rw [List.take_of_length_le (by omega), List.take_of_length_le (Nat.le_refl _)] at hy
  subst hy
  obtain ⟨K, h⟩ := hend _ hl
  exact ⟨K + 1, fun k hk => by obtain ⟨m, rfl⟩ : ∃ m, k = m + 1 := ⟨k - 1, by omega⟩; exact h m (by omega)⟩
 | succ d ih =>
  intro i ys hi hl hy
  obtain ⟨K, h⟩ := hstep i ys (by omega) hl
  obtain ⟨K2, h2⟩ := ih (i + 1) (ys.set i (g (xs[i]'(by omega)))) (by omega) (by rw [List.length_set]; exact hl) (map_set xs ys g i (by omega) hl hy)
  refine ⟨K + K2 + 1, fun k hk => ?_⟩
  obtain ⟨m, rfl⟩ : ∃ m, k = m + 1 := ⟨k - 1, by omega⟩
  show L (m + 1) ys (i : Int) = _
  rw [h m (by omega)]
  exact h2 m (by omega)
theorem getD_nat {α : Type} (xs : List α) (z : α) (i : Nat) (h : i < xs.length) : xs.getD ((i : Nat) : Int).toNat z = xs[i]'h := by
 rw [Int.toNat_natCast, List.getD_eq_getElem?_getD, List.getElem?_eq_getElem h]; rfl
end Go.Proofs.Ytjaedjcdgeikpaa.P
/- Lemmas of mine: bounds, the fields of a log. Plain. -/
set_option linter.unusedVariables false
set_option linter.unusedSimpArgs false
namespace Go.Proofs.Ytjaedjcdgeikpaa.P
open Go.RowKit Go.Proofs.YtjaedjcdgeikpaaW.PrintWords
theorem l01In_eq (a b c : Int) : spec_l01In.f a b c = some (decide (b ≤ a ∧ a ≤ c)) := by
 unfold spec_l01In.f
 by_cases h : a ≥ b
 ·rw [if_pos h]; simp [show b ≤ a from h]
 ·rw [if_neg h]; simp; omega
theorem within_eq (a b c : Int) : impl_within.f a b c = some (decide (b ≤ a ∧ a ≤ c)) := l01In_eq a b c
end Go.Proofs.Ytjaedjcdgeikpaa.P
/- Lemmas of mine: the two NameOK tell the same. Plain. -/
set_option linter.unusedVariables false
set_option linter.unusedSimpArgs false
namespace Go.Proofs.Ytjaedjcdgeikpaa.P
open Go.RowKit Go.Proofs.YtjaedjcdgeikpaaW.PrintWords
def isLet (c : Int) : Bool := decide (97 ≤ c ∧ c ≤ 122 ∨ 65 ≤ c ∧ c ≤ 90)
def isDig (c : Int) : Bool := decide (48 ≤ c ∧ c ≤ 57)
theorem implDigit_eq (c : Int) : impl_isDigit.f c = some (isDig c) := by
 unfold impl_isDigit.f isDig
 by_cases h : c ≥ 48 <;> simp [h] <;> omega
theorem specDigit_eq (c : Int) : spec_l00Digit.f c = some (isDig c) := implDigit_eq c
theorem implLetter_eq (c : Int) : impl_isLetter.f c = some (isLet c) := by
 unfold impl_isLetter.f isLet
 by_cases h1 : c ≥ 97 <;> by_cases h2 : c ≤ 122 <;> by_cases h3 : c ≥ 65 <;> by_cases h4 : c ≤ 90 <;> simp [h1, h2, h3, h4] <;> omega
theorem specLetter_eq (c : Int) : spec_l00Letter.f c = some (isLet c || c == 95) := by
 unfold spec_l00Letter.f isLet
 by_cases h1 : c ≥ 97 <;> by_cases h2 : c ≤ 122 <;> by_cases h3 : c ≥ 65 <;> by_cases h4 : c ≤ 90 <;> simp [h1, h2, h3, h4] <;> omega
/-- A byte of a name. -/
def nameB (b : UInt8) : Bool := isLet b.toNat || isDig b.toNat || b.toNat == 95
/-- A name. -/
def nameR (l : List UInt8) : Bool := decide (1 ≤ l.length ∧ l.length ≤ 40) && !(l.head?.any fun b => isDig b.toNat) && l.all nameB
theorem implName_l0 (s : ByteArray) (hs : (bl s).length ≤ 40) : ∀ (d i : Nat), i + d = (bl s).length →
  Ev (fun k => impl_NameOK.l0 k s (s.size : Int) (i : Int)) (((bl s).drop i).all nameB) := by
 intro d
 induction d with
 | zero =>
  intro i hi
  rw [List.drop_eq_nil_of_le (by omega)]
  refine Ev.step (f := fun _ => some _) (fun k => ?_) (Ev.now _)
  simp only [impl_NameOK.l0]
  rw [if_neg (by rw [bl_size]; omega)]
  rfl
 | succ d ih =>
  intro i hi
  have hlt : i < (bl s).length := by omega
  have hz : i < s.size := by rw [bl_size]; exact hlt
  have hbt := bt_eq s i hlt
  rw [List.drop_eq_getElem_cons hlt, List.all_cons]
  generalize (bl s)[i]'hlt = b at hbt ⊢
  by_cases hc : nameB b = true
  ·rw [hc, Bool.true_and]
   refine Ev.step (f := fun k => impl_NameOK.l0 k s (s.size : Int) ((i + 1 : Nat) : Int)) (fun k => ?_) (ih (i + 1) (by omega))
   simp only [impl_NameOK.l0]
   rw [if_pos (by omega), if_pos (by omega), if_pos (by omega), hbt, w64s i (by omega)]
   simp only [implLetter_eq, implDigit_eq, Option.bind_some]
   unfold nameB at hc
   cases h1 : isLet b.toNat with
   | true => rfl
   | false =>
    cases h2 : isDig b.toNat with
    | true => rfl
    | false =>
     have h3 : b.toNat = 95 := by simpa [h1, h2] using hc
     simp [h3]
  ·have hc' : nameB b = false := by simpa using hc
   rw [hc', Bool.false_and]
   refine Ev.step (f := fun _ => some _) (fun k => ?_) (Ev.now _)
   simp only [impl_NameOK.l0]
   rw [if_pos (by omega), if_pos (by omega), if_pos (by omega), hbt]
   simp only [implLetter_eq, implDigit_eq, Option.bind_some]
   unfold nameB at hc'
   simp only [Bool.or_eq_false_iff] at hc'
   obtain ⟨⟨h1, h2⟩, h3⟩ := hc'
   have h4 : ¬ (b.toNat : Int) = 95 := by
    intro h
    have : b.toNat = 95 := by omega
    simp [this] at h3
   simp [h1, h2, h4]
theorem implName_ev (s : ByteArray) : Ev (fun k => impl_NameOK.f k s) (nameR (bl s)) := by
 by_cases h : 1 ≤ s.size ∧ s.size ≤ 40
 ·have hlt : 0 < (bl s).length := by rw [← bl_size]; omega
  have hhd : (bl s).head? = some (bl s)[0] := by rw [List.head?_eq_getElem?, List.getElem?_eq_getElem hlt]
  have e : nameR (bl s) = (!(isDig ((bl s)[0]).toNat) && (bl s).all nameB) := by
   unfold nameR
   rw [hhd, ← bl_size]
   simp [h]
  have hf : ∀ k, impl_NameOK.f k s = impl_NameOK.j0 k s (isDig ((bl s)[0]).toNat) := fun k => by
   simp only [impl_NameOK.f, within_eq, Option.bind_some]
   rw [if_pos (by simp; omega), if_pos (by omega)]
   have := bt_eq s 0 hlt
   rw [show ((0 : Nat) : Int) = 0 from rfl] at this
   rw [this, implDigit_eq]
   rfl
  refine Ev.congr hf ?_
  rw [e]
  cases hd : isDig ((bl s)[0]).toNat with
  | true =>
   refine Ev.step (f := fun _ => some _) (fun k => ?_) (Ev.now _)
   simp [impl_NameOK.j0]
  | false =>
   refine Ev.step (f := fun k => impl_NameOK.l0 k s (s.size : Int) ((0 : Nat) : Int)) (fun k => ?_) (implName_l0 s (by rw [← bl_size]; exact h.2) (bl s).length 0 (by omega))
   simp [impl_NameOK.j0]
 ·have e : nameR (bl s) = false := by
   unfold nameR
   rw [← bl_size]
   simp only [decide_eq_false h, Bool.false_and]
  rw [e]
  refine Ev.congr (f := fun k => impl_NameOK.j0 k s true) (fun k => ?_) ?_
  ·simp only [impl_NameOK.f, within_eq, Option.bind_some]
   rw [if_neg (by simp; omega)]
  ·refine Ev.step (f := fun _ => some _) (fun k => ?_) (Ev.now _)
   simp [impl_NameOK.j0]
theorem specName_l0 (s : ByteArray) (hs : (bl s).length ≤ 40) : ∀ (d i : Nat), i + d = (bl s).length →
  Ev (fun k => spec_l00Word.l0 k s (i : Int)) (((bl s).drop i).all nameB) := by
 intro d
 induction d with
 | zero =>
  intro i hi
  rw [List.drop_eq_nil_of_le (by omega)]
  refine Ev.step (f := fun _ => some _) (fun k => ?_) (Ev.now _)
  simp only [spec_l00Word.l0]
  rw [if_neg (by rw [bl_size]; omega)]
  rfl
 | succ d ih =>
  intro i hi
  have hlt : i < (bl s).length := by omega
  have hz : i < s.size := by rw [bl_size]; exact hlt
  have hbt := bt_eq s i hlt
  rw [List.drop_eq_getElem_cons hlt, List.all_cons]
  generalize (bl s)[i]'hlt = b at hbt ⊢
  have hn : nameB b = ((isLet b.toNat || (b.toNat : Int) == 95) || isDig b.toNat) := by
   unfold nameB
   have : ((b.toNat : Int) == 95) = (b.toNat == 95) := by
    rw [Bool.eq_iff_iff]; simp; omega
   rw [this]
   cases isLet b.toNat <;> cases isDig b.toNat <;> simp
  rw [hn]
  cases h1 : (isLet b.toNat || (b.toNat : Int) == 95) with
  | true =>
   rw [Bool.true_or, Bool.true_and]
   refine Ev.step (f := fun k => spec_l00Word.l0 k s ((i + 1 : Nat) : Int)) (fun k => ?_) (ih (i + 1) (by omega))
   simp only [spec_l00Word.l0]
   rw [if_pos (by omega), if_pos (by omega), hbt, w64s i (by omega)]
   simp only [specLetter_eq, Option.bind_some, h1, if_true]
  | false =>
   rw [Bool.false_or]
   cases h2 : isDig b.toNat with
   | true =>
    rw [Bool.true_and]
    refine Ev.step (f := fun k => spec_l00Word.l0 k s ((i + 1 : Nat) : Int)) (fun k => ?_) (ih (i + 1) (by omega))
    simp only [spec_l00Word.l0]
    rw [if_pos (by omega), if_pos (by omega), hbt, w64s i (by omega)]
    simp only [specLetter_eq, specDigit_eq, Option.bind_some, h1, h2, if_true]
    rfl
   | false =>
    rw [Bool.false_and]
    refine Ev.step (f := fun _ => some _) (fun k => ?_) (Ev.now _)
    simp only [spec_l00Word.l0]
    rw [if_pos (by omega), if_pos (by omega), hbt]
    simp only [specLetter_eq, specDigit_eq, Option.bind_some, h1, h2]
    rfl
theorem specName_ev (s : ByteArray) : Ev (fun k => spec_NameOK.f k s) (nameR (bl s)) := by
 suffices h : Ev (fun k => spec_l00Word.f k s) (nameR (bl s)) by
  obtain ⟨K, h⟩ := h
  exact ⟨K, fun k hk => by simp only [spec_NameOK.f, h k hk]; rfl⟩
 by_cases h : 1 ≤ s.size ∧ s.size ≤ 40
 ·have hlt : 0 < (bl s).length := by rw [← bl_size]; omega
  have hhd : (bl s).head? = some (bl s)[0] := by rw [List.head?_eq_getElem?, List.getElem?_eq_getElem hlt]
  have e : nameR (bl s) = (!(isDig ((bl s)[0]).toNat) && (bl s).all nameB) := by
   unfold nameR
   rw [hhd, ← bl_size]
   simp [h]
  have hf : ∀ k, spec_l00Word.f k s = spec_l00Word.j0 k s (!(isLet ((bl s)[0]).toNat || (((bl s)[0]).toNat : Int) == 95)) := fun k => by
   simp only [spec_l00Word.f]
   rw [if_neg (by omega), if_neg (by omega), if_pos (by omega)]
   have := bt_eq s 0 hlt
   rw [show ((0 : Nat) : Int) = 0 from rfl] at this
   rw [this, specLetter_eq]
   rfl
  refine Ev.congr hf ?_
  have hall : (bl s).all nameB = (nameB (bl s)[0] && ((bl s).drop 1).all nameB) := by
   have := List.drop_eq_getElem_cons hlt
   rw [List.drop_zero] at this
   conv => lhs; rw [this]
   rfl
  rw [e, hall]
  have h95 : ((((bl s)[0]).toNat : Int) == 95) = (((bl s)[0]).toNat == 95) := by
   rw [Bool.eq_iff_iff]; simp; omega
  have hx : isDig ((bl s)[0]).toNat = true → (isLet ((bl s)[0]).toNat || (((bl s)[0]).toNat : Int) == 95) = false := by
   unfold isDig isLet
   simp
   omega
  cases hl : (isLet ((bl s)[0]).toNat || (((bl s)[0]).toNat : Int) == 95) with
  | true =>
   have hd : isDig ((bl s)[0]).toNat = false := by
    cases hd : isDig ((bl s)[0]).toNat with
    | true => rw [hx hd] at hl; cases hl
    | false => rfl
   have hn : nameB (bl s)[0] = true := by
    unfold nameB
    rw [← h95]
    revert hl
    cases isLet ((bl s)[0]).toNat <;> simp [hd]
   rw [hd, hn]
   simp only [Bool.not_false, Bool.true_and]
   refine Ev.step (f := fun k => spec_l00Word.l0 k s ((1 : Nat) : Int)) (fun k => ?_) (specName_l0 s (by rw [← bl_size]; exact h.2) ((bl s).length - 1) 1 (by omega))
   simp [spec_l00Word.j0]
  | false =>
   have hn : (!(isDig ((bl s)[0]).toNat) && (nameB (bl s)[0] && ((bl s).drop 1).all nameB)) = false := by
    cases hd : isDig ((bl s)[0]).toNat with
    | true => rfl
    | false =>
     have : nameB (bl s)[0] = false := by
      unfold nameB
      rw [← h95]
      revert hl
      cases isLet ((bl s)[0]).toNat <;> simp [hd]
     rw [this]
     rfl
   rw [hn]
   refine Ev.step (f := fun _ => some _) (fun k => ?_) (Ev.now _)
   simp [spec_l00Word.j0]
 ·have e : nameR (bl s) = false := by
   unfold nameR
   rw [← bl_size]
   simp only [decide_eq_false h, Bool.false_and]
  rw [e]
  refine Ev.congr (f := fun k => spec_l00Word.j0 k s true) (fun k => ?_) ?_
  ·simp only [spec_l00Word.f]
   by_cases h1 : (s.size : Int) < 1
   ·rw [if_pos h1]
   ·rw [if_neg h1, if_pos (by omega)]
  ·refine Ev.step (f := fun _ => some _) (fun k => ?_) (Ev.now _)
   simp [spec_l00Word.j0]
end Go.Proofs.Ytjaedjcdgeikpaa.P
/- Lemmas of mine: the two BoxOK tell the same. Plain. -/
set_option linter.unusedVariables false
set_option linter.unusedSimpArgs false
namespace Go.Proofs.Ytjaedjcdgeikpaa.P
open Go.RowKit Go.Proofs.YtjaedjcdgeikpaaW.PrintWords
/-- Right mails behind a uid, below a next one. -/
def mailsR (nx : Int) : Int → List S28 → Bool
 | _, [] => true
 | b, x :: l => decide (b + 1 ≤ x.f0 ∧ x.f0 ≤ nx - 1) && decide (0 ≤ x.f1 ∧ x.f1 ≤ 31) && decide (x.f2.size ≤ 4000) && mailsR nx x.f0 l
/-- A text is in a list. -/
def hasT (l : List ByteArray) (x : ByteArray) : Bool := l.any fun y => bl y == bl x
theorem hasT_nil (x : ByteArray) : hasT [] x = false := rfl
theorem hasT_hit (l : List ByteArray) (a x : ByteArray) (h : a = x) : hasT (a :: l) x = true := by simp [hasT, h]
theorem hasT_miss (l : List ByteArray) (a x : ByteArray) (h : ¬ a = x) : hasT (a :: l) x = hasT l x := by
 have : (bl a == bl x) = false := beq_eq_false_iff_ne.mpr fun e => h (bl_inj e)
 simp [hasT, this]
/-- Right keys behind others: each of 1 to 200 bytes, none that stood before. -/
def keysR : List ByteArray → List ByteArray → Bool
 | _, [] => true
 | p, x :: l => decide (1 ≤ x.size ∧ x.size ≤ 200) && !(hasT p x) && keysR (p ++ [x]) l
/-- A right box. -/
def boxR (s : ByteArray) (v nx : Int) (ms : List S28) (ks : List ByteArray) : Bool :=
 nameR (bl s) && decide ((1 ≤ v ∧ v ≤ 1000000) ∧ (1 ≤ nx ∧ nx ≤ 1001) ∧ ms.length ≤ 30 ∧ ks.length ≤ 60 ∧ (ks.length : Int) = nx - 1) && mailsR nx 0 ms && keysR [] ks
theorem rdOf_nat (xs : List ByteArray) (i : Nat) (h : i < xs.length) : rdOf ByteArray.empty xs (i : Int) = xs[i]'h := by
 unfold rdOf
 exact getD_nat xs _ i h
theorem specHasT_l0 (l : List ByteArray) (x : ByteArray) (hl : l.length ≤ 4611686018427387904) : ∀ (d i : Nat), i + d = l.length → Ev (fun k => spec_l06Has.l0 k l x (i : Int)) (hasT (l.drop i) x) := by
 intro d
 induction d with
 | zero =>
  intro i hi
  rw [List.drop_eq_nil_of_le (by omega)]
  refine Ev.step (f := fun _ => some _) (fun k => ?_) (Ev.now _)
  simp only [spec_l06Has.l0]
  rw [if_neg (by omega)]
  rfl
 | succ d ih =>
  intro i hi
  have hlt : i < l.length := by omega
  rw [List.drop_eq_getElem_cons hlt]
  have e : ∀ k, spec_l06Has.l0 (k + 1) l x (i : Int) = if l[i]'hlt = x then some true else spec_l06Has.l0 k l x ((i + 1 : Nat) : Int) := fun k => by
   simp only [spec_l06Has.l0, rdOf_nat l i hlt, toList_iff]
   rw [if_pos (by omega), if_pos (by omega), w64s i (by omega)]
  by_cases hx : l[i]'hlt = x
  ·rw [hasT_hit _ _ _ hx]
   exact Ev.step (f := fun _ => some _) (fun k => by rw [e, if_pos hx]) (Ev.now _)
  ·rw [hasT_miss _ _ _ hx]
   exact Ev.step (f := fun k => spec_l06Has.l0 k l x ((i + 1 : Nat) : Int)) (fun k => by rw [e, if_neg hx]) (ih (i + 1) (by omega))
theorem specHasT_ev (l : List ByteArray) (x : ByteArray) (hl : l.length ≤ 4611686018427387904) : Ev (fun k => spec_l06Has.f k l x) (hasT l x) := specHasT_l0 l x hl l.length 0 (by omega)
theorem index_l0 (l : List ByteArray) (x : ByteArray) (hl : l.length ≤ 4611686018427387904) : ∀ (d i : Nat), i + d = l.length → ∃ r, Ev (fun k => slices_Index_string.l0 k l x (l.length : Int) (i : Int)) r ∧ decide (r ≥ 0) = hasT (l.drop i) x := by
 intro d
 induction d with
 | zero =>
  intro i hi
  rw [List.drop_eq_nil_of_le (by omega)]
  refine ⟨-1, Ev.step (f := fun _ => some _) (fun k => ?_) (Ev.now _), by rw [hasT_nil]; decide⟩
  simp only [slices_Index_string.l0]
  rw [if_neg (by omega)]
 | succ d ih =>
  intro i hi
  have hlt : i < l.length := by omega
  rw [List.drop_eq_getElem_cons hlt]
  have e : ∀ k, slices_Index_string.l0 (k + 1) l x (l.length : Int) (i : Int) = if x = l[i]'hlt then some (i : Int) else slices_Index_string.l0 k l x (l.length : Int) ((i + 1 : Nat) : Int) := fun k => by
   simp only [slices_Index_string.l0, rdOf_nat l i hlt, toList_iff]
   rw [if_pos (by omega), if_pos (by omega), if_pos (by omega), w64s i (by omega)]
  by_cases hx : x = l[i]'hlt
  ·refine ⟨(i : Int), Ev.step (f := fun _ => some _) (fun k => by rw [e, if_pos hx]) (Ev.now _), ?_⟩
   rw [hasT_hit _ _ _ hx.symm]
   exact decide_eq_true (Int.natCast_nonneg i)
  ·obtain ⟨r, h1, h2⟩ := ih (i + 1) (by omega)
   refine ⟨r, Ev.step (f := fun k => slices_Index_string.l0 k l x (l.length : Int) ((i + 1 : Nat) : Int)) (fun k => by rw [e, if_neg hx]) h1, ?_⟩
   rw [h2, hasT_miss _ _ _ (fun h => hx h.symm)]
theorem contains_ev (l : List ByteArray) (x : ByteArray) (hl : l.length ≤ 4611686018427387904) : Ev (fun k => slices_Contains_string.f k l x) (hasT l x) := by
 obtain ⟨r, ⟨K, h1⟩, h2⟩ := index_l0 l x hl l.length 0 (by omega)
 rw [List.drop_zero] at h2
 refine ⟨K, fun k hk => ?_⟩
 have e : slices_Index_string.f k l x = some r := h1 k hk
 simp only [slices_Contains_string.f, e, bS, h2]
theorem specKeys_l1 (s : ByteArray) (v nx : Int) (ms : List S28) (ks : List ByteArray) (hl : ks.length ≤ 60) : ∀ (d i : Nat), i + d = ks.length → Ev (fun k => spec_BoxOK.l1 k (i : Int) s v nx ms ks) (keysR (ks.take i) (ks.drop i)) := by
 intro d
 induction d with
 | zero =>
  intro i hi
  rw [List.drop_eq_nil_of_le (by omega)]
  refine Ev.step (f := fun _ => some _) (fun k => ?_) (Ev.now _)
  simp only [spec_BoxOK.l1]
  rw [if_neg (by omega)]
  rfl
 | succ d ih =>
  intro i hi
  have hlt : i < ks.length := by omega
  obtain ⟨K, hK⟩ := specHasT_ev (ks.take i) (ks[i]'hlt) (by rw [List.length_take]; omega)
  obtain ⟨K2, hK2⟩ := ih (i + 1) (by omega)
  have ht : ks.take (i + 1) = ks.take i ++ [ks[i]'hlt] := by rw [List.take_add_one, List.getElem?_eq_getElem hlt]; rfl
  rw [ht] at hK2
  rw [List.drop_eq_getElem_cons hlt]
  simp only [keysR]
  refine ⟨K + K2 + 1, fun k hk => ?_⟩
  obtain ⟨m, rfl⟩ : ∃ m, k = m + 1 := ⟨k - 1, by omega⟩
  have h1 := hK m (by omega)
  have h2 := hK2 m (by omega)
  simp only at h1 h2
  simp only [spec_BoxOK.l1, rdOf_nat ks i hlt, l01In_eq, Int.toNat_natCast, h1, bS]
  rw [if_pos (by omega), if_pos (by omega), if_pos (show (i : Int) ≤ (ks.length : Int) by omega), w64s i (by omega), h2]
  generalize ks[i]'hlt = x
  by_cases c1 : 1 ≤ x.size ∧ x.size ≤ 200
  ·rw [if_pos (by rw [decide_eq_true_eq]; omega), decide_eq_true c1]
   cases hasT (ks.take i) x <;> rfl
  ·rw [if_neg (by rw [decide_eq_true_eq]; omega), decide_eq_false c1]
   rfl
theorem implKeys_l1 (s : ByteArray) (v nx : Int) (ms : List S28) (ks : List ByteArray) (hl : ks.length ≤ 60) : ∀ (d i : Nat), i + d = ks.length → Ev (fun k => impl_BoxOK.l1 k ks (ks.length : Int) (i : Int) s v nx ms ks) (keysR (ks.take i) (ks.drop i)) := by
 intro d
 induction d with
 | zero =>
  intro i hi
  rw [List.drop_eq_nil_of_le (by omega)]
  refine Ev.step (f := fun _ => some _) (fun k => ?_) (Ev.now _)
  simp only [impl_BoxOK.l1]
  rw [if_neg (by omega)]
  rfl
 | succ d ih =>
  intro i hi
  have hlt : i < ks.length := by omega
  obtain ⟨K, hK⟩ := contains_ev (ks.take i) (ks[i]'hlt) (by rw [List.length_take]; omega)
  obtain ⟨K2, hK2⟩ := ih (i + 1) (by omega)
  have ht : ks.take (i + 1) = ks.take i ++ [ks[i]'hlt] := by rw [List.take_add_one, List.getElem?_eq_getElem hlt]; rfl
  rw [ht] at hK2
  rw [List.drop_eq_getElem_cons hlt]
  simp only [keysR]
  refine ⟨K + K2 + 1, fun k hk => ?_⟩
  obtain ⟨m, rfl⟩ : ∃ m, k = m + 1 := ⟨k - 1, by omega⟩
  have h1 := hK m (by omega)
  have h2 := hK2 m (by omega)
  simp only at h1 h2
  simp only [impl_BoxOK.l1, impl_keyOK.f, rdOf_nat ks i hlt, within_eq, Int.toNat_natCast, h1, bS]
  rw [if_pos (by omega), if_pos (by omega), if_pos (by omega), if_pos (show (i : Int) ≤ (ks.length : Int) by omega), w64s i (by omega), h2]
  generalize ks[i]'hlt = x
  by_cases c1 : 1 ≤ x.size ∧ x.size ≤ 200
  ·rw [if_pos (by rw [decide_eq_true_eq]; omega), decide_eq_true c1]
   cases hasT (ks.take i) x <;> rfl
  ·rw [if_neg (by rw [decide_eq_true_eq]; omega), decide_eq_false c1]
   rfl
/-- The uid before a place. -/
def uidB (ms : List S28) (i : Nat) : Int := if h : 0 < i ∧ i ≤ ms.length then (ms[i - 1]'(by omega)).f0 else 0
theorem specMails_l0 (s : ByteArray) (v nx : Int) (ms : List S28) (ks : List ByteArray) (hm : ms.length ≤ 30) (hl : ks.length ≤ 60) (hn : 1 ≤ nx ∧ nx ≤ 1001) : ∀ (d i : Nat) (b : Int), i + d = ms.length → (i = 0 → b = 0) → (∀ h : 0 < i ∧ i ≤ ms.length, (ms[i - 1]'(by omega)).f0 = b) → 0 ≤ b → b ≤ 1000 →
  Ev (fun k => spec_BoxOK.l0 k (i : Int) s v nx ms ks) (mailsR nx b (ms.drop i) && keysR [] ks) := by
 intro d
 induction d with
 | zero =>
  intro i b hi _ _ _ _
  rw [List.drop_eq_nil_of_le (by omega)]
  have h := specKeys_l1 s v nx ms ks hl ks.length 0 (by omega)
  rw [List.take_zero, List.drop_zero] at h
  simp only [mailsR, Bool.true_and]
  refine Ev.step (f := fun k => spec_BoxOK.l1 k ((0 : Nat) : Int) s v nx ms ks) (fun k => ?_) h
  simp only [spec_BoxOK.l0]
  rw [if_neg (by omega)]
  rfl
 | succ d ih =>
  intro i b hi hz hb h0 h1
  have hlt : i < ms.length := by omega
  rw [List.drop_eq_getElem_cons hlt]
  have e : ∀ k, spec_BoxOK.l0 (k + 1) (i : Int) s v nx ms ks = if (b + 1 ≤ (ms[i]'hlt).f0 ∧ (ms[i]'hlt).f0 ≤ nx - 1) ∧ (0 ≤ (ms[i]'hlt).f1 ∧ (ms[i]'hlt).f1 ≤ 31) ∧ (ms[i]'hlt).f2.size ≤ 4000 then spec_BoxOK.l0 k ((i + 1 : Nat) : Int) s v nx ms ks else some false := fun k => by
   simp only [spec_BoxOK.l0, rd_T28, getD_nat ms _ i hlt, l01In_eq, bS]
   rw [if_pos (by omega), if_pos (by omega), w64s i (by omega), w64 (n := nx - 1) (by omega) (by omega)]
   by_cases hi0 : (i : Int) > 0
   ·have hp := hb ⟨by omega, by omega⟩
    have hw : wrap64 ((i : Int) - 1) = ((i - 1 : Nat) : Int) := by rw [w64 (by omega) (by omega)]; omega
    have hg : ms.getD ((i - 1 : Nat) : Int).toNat z28 = ms[i - 1]'(by omega) := getD_nat ms _ (i - 1) (by omega)
    rw [hw, hg, hp]
    clear hw hg
    generalize ms[i]'hlt = x
    simp only [decide_eq_true_eq]
    by_cases c1 : 1 ≤ x.f0 ∧ x.f0 ≤ nx - 1
    ·rw [if_pos c1, if_pos hi0, if_pos (by omega), if_pos (by omega)]
     by_cases c2 : b ≥ x.f0
     ·rw [if_pos c2, if_neg (by omega)]
     ·rw [if_neg c2]
      by_cases c3 : 0 ≤ x.f1 ∧ x.f1 ≤ 31
      ·rw [if_pos c3]
       by_cases c4 : (x.f2.size : Int) > 4000
       ·rw [if_pos c4, if_neg (by omega)]
       ·rw [if_neg c4, if_pos (by omega)]
      ·rw [if_neg c3, if_neg (by omega)]
    ·rw [if_neg c1, if_neg (by omega)]
   ·have hb0 := hz (by omega)
    generalize ms[i]'hlt = x
    simp only [decide_eq_true_eq]
    by_cases c1 : 1 ≤ x.f0 ∧ x.f0 ≤ nx - 1
    ·rw [if_pos c1, if_neg hi0]
     by_cases c3 : 0 ≤ x.f1 ∧ x.f1 ≤ 31
     ·rw [if_pos c3]
      by_cases c4 : (x.f2.size : Int) > 4000
      ·rw [if_pos c4, if_neg (by omega)]
      ·rw [if_neg c4, if_pos (by omega)]
     ·rw [if_neg c3, if_neg (by omega)]
    ·rw [if_neg c1, if_neg (by omega)]
  by_cases hc : (b + 1 ≤ (ms[i]'hlt).f0 ∧ (ms[i]'hlt).f0 ≤ nx - 1) ∧ (0 ≤ (ms[i]'hlt).f1 ∧ (ms[i]'hlt).f1 ≤ 31) ∧ (ms[i]'hlt).f2.size ≤ 4000
  ·simp only [mailsR, decide_eq_true hc.1, decide_eq_true hc.2.1, decide_eq_true hc.2.2, Bool.true_and]
   refine Ev.step (f := fun k => spec_BoxOK.l0 k ((i + 1 : Nat) : Int) s v nx ms ks) (fun k => by rw [e, if_pos hc]) (ih (i + 1) _ (by omega) (by omega) (fun h => by simp only [Nat.add_sub_cancel]) (by omega) (by omega))
  ·have hf : mailsR nx b (ms[i]'hlt :: ms.drop (i + 1)) = false := by
    simp only [mailsR]
    by_cases c1 : b + 1 ≤ (ms[i]'hlt).f0 ∧ (ms[i]'hlt).f0 ≤ nx - 1
    ·by_cases c2 : 0 ≤ (ms[i]'hlt).f1 ∧ (ms[i]'hlt).f1 ≤ 31
     ·rw [decide_eq_false (show ¬ (ms[i]'hlt).f2.size ≤ 4000 from fun c3 => hc ⟨c1, c2, c3⟩), Bool.and_false, Bool.false_and]
     ·rw [decide_eq_false c2, Bool.and_false, Bool.false_and, Bool.false_and]
    ·rw [decide_eq_false c1, Bool.false_and, Bool.false_and, Bool.false_and]
   rw [hf, Bool.false_and]
   exact Ev.step (f := fun _ => some _) (fun k => by rw [e, if_neg hc]) (Ev.now _)
theorem implMails_l0 (s : ByteArray) (v nx : Int) (ms : List S28) (ks : List ByteArray) (hm : ms.length ≤ 30) (hl : ks.length ≤ 60) (hn : 1 ≤ nx ∧ nx ≤ 1001) : ∀ (d i : Nat) (b : Int), i + d = ms.length → 0 ≤ b → b ≤ 1000 →
  Ev (fun k => impl_BoxOK.l0 k b ms (ms.length : Int) (i : Int) s v nx ms ks) (mailsR nx b (ms.drop i) && keysR [] ks) := by
 intro d
 induction d with
 | zero =>
  intro i b hi _ _
  rw [List.drop_eq_nil_of_le (by omega)]
  have h := implKeys_l1 s v nx ms ks hl ks.length 0 (by omega)
  rw [List.take_zero, List.drop_zero] at h
  simp only [mailsR, Bool.true_and]
  refine Ev.step (f := fun k => impl_BoxOK.l1 k ks (ks.length : Int) ((0 : Nat) : Int) s v nx ms ks) (fun k => ?_) h
  simp only [impl_BoxOK.l0]
  rw [if_neg (by omega)]
  rfl
 | succ d ih =>
  intro i b hi h0 h1
  have hlt : i < ms.length := by omega
  rw [List.drop_eq_getElem_cons hlt]
  have e : ∀ k, impl_BoxOK.l0 (k + 1) b ms (ms.length : Int) (i : Int) s v nx ms ks = if (b + 1 ≤ (ms[i]'hlt).f0 ∧ (ms[i]'hlt).f0 ≤ nx - 1) ∧ (0 ≤ (ms[i]'hlt).f1 ∧ (ms[i]'hlt).f1 ≤ 31) ∧ (ms[i]'hlt).f2.size ≤ 4000 then impl_BoxOK.l0 k (ms[i]'hlt).f0 ms (ms.length : Int) ((i + 1 : Nat) : Int) s v nx ms ks else some false := fun k => by
   simp only [impl_BoxOK.l0, rd_T28, getD_nat ms _ i hlt, within_eq, bS]
   rw [if_pos (by omega), if_pos (by omega), if_pos (by omega), w64s i (by omega), w64 (n := nx - 1) (by omega) (by omega), w64 (n := b + 1) (by omega) (by omega)]
   generalize ms[i]'hlt = x
   simp only [decide_eq_true_eq]
   by_cases c1 : b + 1 ≤ x.f0 ∧ x.f0 ≤ nx - 1
   ·rw [if_pos c1]
    by_cases c3 : 0 ≤ x.f1 ∧ x.f1 ≤ 31
    ·rw [if_pos c3]
     by_cases c4 : (x.f2.size : Int) > 4000
     ·rw [if_pos c4, if_neg (by omega)]
     ·rw [if_neg c4, if_pos (by omega)]
    ·rw [if_neg c3, if_neg (by omega)]
   ·rw [if_neg c1, if_neg (by omega)]
  by_cases hc : (b + 1 ≤ (ms[i]'hlt).f0 ∧ (ms[i]'hlt).f0 ≤ nx - 1) ∧ (0 ≤ (ms[i]'hlt).f1 ∧ (ms[i]'hlt).f1 ≤ 31) ∧ (ms[i]'hlt).f2.size ≤ 4000
  ·simp only [mailsR, decide_eq_true hc.1, decide_eq_true hc.2.1, decide_eq_true hc.2.2, Bool.true_and]
   refine Ev.step (f := fun k => impl_BoxOK.l0 k (ms[i]'hlt).f0 ms (ms.length : Int) ((i + 1 : Nat) : Int) s v nx ms ks) (fun k => by rw [e, if_pos hc]) (ih (i + 1) _ (by omega) (by omega) (by omega))
  ·have hf : mailsR nx b (ms[i]'hlt :: ms.drop (i + 1)) = false := by
    simp only [mailsR]
    by_cases c1 : b + 1 ≤ (ms[i]'hlt).f0 ∧ (ms[i]'hlt).f0 ≤ nx - 1
    ·by_cases c2 : 0 ≤ (ms[i]'hlt).f1 ∧ (ms[i]'hlt).f1 ≤ 31
     ·rw [decide_eq_false (show ¬ (ms[i]'hlt).f2.size ≤ 4000 from fun c3 => hc ⟨c1, c2, c3⟩), Bool.and_false, Bool.false_and]
     ·rw [decide_eq_false c2, Bool.and_false, Bool.false_and, Bool.false_and]
    ·rw [decide_eq_false c1, Bool.false_and, Bool.false_and, Bool.false_and]
   rw [hf, Bool.false_and]
   exact Ev.step (f := fun _ => some _) (fun k => by rw [e, if_neg hc]) (Ev.now _)
theorem specBox_ev (s : ByteArray) (v nx : Int) (ms : List S28) (ks : List ByteArray) : Ev (fun k => spec_BoxOK.f k s v nx ms ks) (boxR s v nx ms ks) := by
 obtain ⟨K, hK⟩ := specName_ev s
 by_cases hA : (1 ≤ v ∧ v ≤ 1000000) ∧ (1 ≤ nx ∧ nx ≤ 1001) ∧ ms.length ≤ 30 ∧ ks.length ≤ 60 ∧ (ks.length : Int) = nx - 1
 ·obtain ⟨a1, a2, a3, a4, a5⟩ := hA
  obtain ⟨K2, h2⟩ := specMails_l0 s v nx ms ks a3 a4 a2 ms.length 0 0 (by omega) (fun _ => rfl) (fun h => absurd h.1 (by omega)) (by omega) (by omega)
  rw [List.drop_zero] at h2
  unfold boxR
  rw [decide_eq_true ⟨a1, a2, a3, a4, a5⟩, Bool.and_true, Bool.and_assoc]
  refine ⟨K + K2 + 1, fun k hk => ?_⟩
  obtain ⟨m, rfl⟩ : ∃ m, k = m + 1 := ⟨k - 1, by omega⟩
  have h1 := hK (m + 1) (by omega)
  have h3 := h2 m (by omega)
  simp only at h1 h3
  have hne : ((ks.length : Int) != wrap64 (nx - 1)) = false := by rw [w64 (by omega) (by omega)]; simp [a5]
  simp only [spec_BoxOK.f, h1, bS, l01In_eq, decide_eq_true a1, decide_eq_true a2, if_true, hne]
  cases nameR (bl s) with
  | false => rw [if_neg (by decide)]; simp only [spec_BoxOK.j0, if_true, Bool.false_and]
  | true =>
   rw [if_pos rfl, if_neg (by omega), if_neg (by omega), Bool.true_and]
   simp only [spec_BoxOK.j0]
   rw [if_neg (by decide)]
   exact h3
 ·have hf : boxR s v nx ms ks = false := by
   unfold boxR
   rw [decide_eq_false hA, Bool.and_false, Bool.false_and, Bool.false_and]
  rw [hf]
  refine ⟨K + 1, fun k hk => ?_⟩
  obtain ⟨m, rfl⟩ : ∃ m, k = m + 1 := ⟨k - 1, by omega⟩
  have h1 := hK (m + 1) (by omega)
  simp only at h1
  have hj : spec_BoxOK.j0 (m + 1) true s v nx ms ks = some false := by simp only [spec_BoxOK.j0, if_true]
  simp only [spec_BoxOK.f, h1, bS, l01In_eq, decide_eq_true_eq, hj]
  cases nameR (bl s) with
  | false => rw [if_neg (by decide)]
  | true =>
   rw [if_pos rfl]
   by_cases b1 : 1 ≤ v ∧ v ≤ 1000000
   ·rw [if_pos b1]
    by_cases b2 : 1 ≤ nx ∧ nx ≤ 1001
    ·rw [if_pos b2]
     by_cases b3 : (ms.length : Int) > 30
     ·rw [if_pos b3]
     ·rw [if_neg b3]
      by_cases b4 : (ks.length : Int) > 60
      ·rw [if_pos b4]
      ·rw [if_neg b4]
       have hne : ((ks.length : Int) != wrap64 (nx - 1)) = true := by
        rw [w64 (by omega) (by omega)]
        exact bne_iff_ne.mpr (fun h => hA ⟨b1, b2, by omega, by omega, h⟩)
       rw [hne, hj]
    ·rw [if_neg b2]
   ·rw [if_neg b1]
theorem implBox_ev (s : ByteArray) (v nx : Int) (ms : List S28) (ks : List ByteArray) : Ev (fun k => impl_BoxOK.f k s v nx ms ks) (boxR s v nx ms ks) := by
 obtain ⟨K, hK⟩ := implName_ev s
 by_cases hA : (1 ≤ v ∧ v ≤ 1000000) ∧ (1 ≤ nx ∧ nx ≤ 1001) ∧ ms.length ≤ 30 ∧ ks.length ≤ 60 ∧ (ks.length : Int) = nx - 1
 ·obtain ⟨a1, a2, a3, a4, a5⟩ := hA
  obtain ⟨K2, h2⟩ := implMails_l0 s v nx ms ks a3 a4 a2 ms.length 0 0 (by omega) (by omega) (by omega)
  rw [List.drop_zero] at h2
  unfold boxR
  rw [decide_eq_true ⟨a1, a2, a3, a4, a5⟩, Bool.and_true, Bool.and_assoc]
  refine ⟨K + K2 + 2, fun k hk => ?_⟩
  obtain ⟨m, rfl⟩ : ∃ m, k = m + 1 + 1 := ⟨k - 2, by omega⟩
  have h1 := hK (m + 1 + 1) (by omega)
  have h3 := h2 m (by omega)
  simp only at h1 h3
  have hne : ((ks.length : Int) != wrap64 (nx - 1)) = false := by rw [w64 (by omega) (by omega)]; simp [a5]
  simp only [impl_BoxOK.f, h1, bS, within_eq, decide_eq_true a1, decide_eq_true a2, if_true]
  cases nameR (bl s) with
  | false => rw [if_neg (by decide)]; simp only [impl_BoxOK.j0, if_true, Bool.false_and]
  | true =>
   rw [if_pos rfl, Bool.true_and]
   simp only [impl_BoxOK.j0, Bool.not_true, hne]
   rw [if_neg (by decide), if_neg (by omega), if_neg (by omega)]
   simp only [impl_BoxOK.j1]
   rw [if_neg (by decide)]
   exact h3
 ·have hf : boxR s v nx ms ks = false := by
   unfold boxR
   rw [decide_eq_false hA, Bool.and_false, Bool.false_and, Bool.false_and]
  rw [hf]
  refine ⟨K + 2, fun k hk => ?_⟩
  obtain ⟨m, rfl⟩ : ∃ m, k = m + 1 + 1 := ⟨k - 2, by omega⟩
  have h1 := hK (m + 1 + 1) (by omega)
  simp only at h1
  have hj : impl_BoxOK.j0 (m + 1 + 1) true s v nx ms ks = some false := by simp only [impl_BoxOK.j0, if_true]
  have hj1 : impl_BoxOK.j1 (m + 1) true s v nx ms ks = some false := by simp only [impl_BoxOK.j1, if_true]
  simp only [impl_BoxOK.f, h1, bS, within_eq, decide_eq_true_eq, hj]
  cases nameR (bl s) with
  | false => rw [if_neg (by decide)]
  | true =>
   rw [if_pos rfl]
   by_cases b1 : 1 ≤ v ∧ v ≤ 1000000
   ·rw [if_pos b1]
    by_cases b2 : 1 ≤ nx ∧ nx ≤ 1001
    ·rw [decide_eq_true b2]
     simp only [impl_BoxOK.j0, Bool.not_true]
     rw [if_neg (by decide)]
     by_cases b3 : (ms.length : Int) > 30
     ·rw [if_pos b3, hj1]
     ·rw [if_neg b3]
      by_cases b4 : (ks.length : Int) > 60
      ·rw [if_pos b4, hj1]
      ·rw [if_neg b4]
       have hne : ((ks.length : Int) != wrap64 (nx - 1)) = true := by
        rw [w64 (by omega) (by omega)]
        exact bne_iff_ne.mpr (fun h => hA ⟨b1, b2, by omega, by omega, h⟩)
       rw [hne, hj1]
    ·rw [decide_eq_false b2]
     exact hj
   ·rw [if_neg b1]
end Go.Proofs.Ytjaedjcdgeikpaa.P
namespace Go.Proofs.Ytjaedjcdgeikpaa.P
open Go.RowKit Go.Proofs.YtjaedjcdgeikpaaW.PrintWords Go.Proofs.YtjaedjcdgeikpaaW.PrintLast Go.Proofs.YtjaedjcdgeikpaaW.PrintMore
attribute [local go_sem] max2_int min2_int max_two min_two max_three min_three max_four min_four   -- for this text's walks alone
set_option linter.unusedVariables false
set_option linter.unusedSimpArgs false

/-! ### laws_markText: function 42 -/
def laws_markText.l0 : Nat → Int → ByteArray → Option (ByteArray)
 | 0, _, _ => none
 | k + 1, x0, x3 => if x0 > 0 then ((some (([(wrap64 (48 + (Int.tmod x0 10))) % 256] : List Int) : List Int)).bind fun y101 => (if (strOfNums y101).size + x3.size ≤ 9223372036854775807 then (laws_markText.l0 k (wrap64 (Int.tdiv x0 10)) ((strOfNums y101) ++ x3)) else (none))) else (if 1 + x3.size ≤ 9223372036854775807 then (some ((⟨#[109]⟩ : ByteArray) ++ x3)) else (none))
def laws_markText.f (k : Nat) (a0 : Int) : Option (ByteArray) := if a0 ≤ 0 then (some (⟨#[109, 48]⟩ : ByteArray)) else (laws_markText.l0 k a0 (⟨#[]⟩ : ByteArray))
theorem laws_markText.mono_l : ∀ k, (∀ y0 y1, LeO (laws_markText.l0 k y0 y1) (laws_markText.l0 (k + 1) y0 y1))
 | 0 => fun _ _ r h => by simp [laws_markText.l0] at h
 | k + 1 => by
  have ih0 := laws_markText.mono_l k
  ·intro y0 y1
   unfold laws_markText.l0
   repeat' first
   | (with_reducible exact ih0 _ _)
   | (with_reducible exact LeO.refl _)
   | (with_reducible exact LeO.none _)
   | (with_reducible refine LeO.ite ?_ ?_)
   | (with_reducible refine LeO.bind ?_ (fun _ => ?_))
   | exact ih0 _ _
   | exact LeO.none _
   | refine LeO.ite ?_ ?_
   | refine LeO.bind ?_ (fun _ => ?_)
theorem laws_markText.mono : ∀ a0 k, LeO (laws_markText.f k a0) (laws_markText.f (k + 1) a0) := by
 intro a0 k
 have ih0 := laws_markText.mono_l k
 unfold laws_markText.f
 repeat' first
   | (with_reducible exact ih0 _ _)
   | (with_reducible exact LeO.refl _)
   | (with_reducible exact LeO.none _)
   | (with_reducible refine LeO.ite ?_ ?_)
   | (with_reducible refine LeO.bind ?_ (fun _ => ?_))
   | exact ih0 _ _
   | exact LeO.none _
   | refine LeO.ite ?_ ?_
   | refine LeO.bind ?_ (fun _ => ?_)
set_option maxHeartbeats 8000000 in
set_option maxRecDepth 100000 in
theorem laws_markText.calls (k : Nat) (a0 : Int) (r : ByteArray) (w : World) (h : laws_markText.f k a0 = some r) :
  Calls Try.prog 42 #[.int .i64 a0] w fun e w' => e = .returned (.string r) ∧ Below w.heap.size w w' := by
 have HB := Aside0.mk (Below.refl w.heap.size w)
 have H : (if a0 ≤ 0 then (some (⟨#[109, 48]⟩ : ByteArray)) else (laws_markText.l0 k a0 (⟨#[]⟩ : ByteArray))) = some r := h
 clear h
 by_cases c2 : a0 ≤ 0
 ·rw [if_pos c2] at H
  have c2b0 : decide (a0 ≤ 0) = true := decide_eq_true c2
  clear c2
  obtain rfl := Option.some.inj H
  go_enter Try.func42, Try.ntmps42
  go_wp2
  go_ret
  exact ⟨by first | rfl | (simp [errW_none, errW_some] <;> rfl) | (simp [*, errW_none, errW_some] <;> rfl), by repeat (first | (with_reducible first | exact HB.out | apply below_alloc | apply pw_below_drewN | apply below_drew1) | exact HB.out)⟩
 ·rw [if_neg c2] at H
  have c2b0 : decide (a0 ≤ 0) = false := decide_eq_false c2
  clear c2
  have H' := Aside0.mk H
  clear H
  go_enter Try.func42, Try.ntmps42
  go_wp2
  go_loopg [0, 3] k (fun kq v0 v3 w' => ∃ (x0_1 : Int) (x3_1 : ByteArray), v0 = .int .i64 x0_1 ∧ v3 = .string x3_1 ∧ Aside0 (laws_markText.l0 kq x0_1 x3_1 = some r) ∧ Aside0 (kq ≤ k) ∧ Aside0 (Below w.heap.size w w'))
  case atStart => exact ⟨(a0), ((⟨#[]⟩ : ByteArray)), (by first | rfl | (simp; done) | (simp [*]; done)), (by first | rfl | (simp; done) | (simp [*]; done)), H', ⟨Nat.le_refl _⟩, ⟨by repeat (first | (with_reducible first | exact HB.out | apply below_alloc | apply pw_below_drewN | apply below_drew1) | exact HB.out)⟩⟩
  case round =>
   clear H'
   try clear c2
   try clear c2b0
   try clear p2
   obtain ⟨x0_1, x3_1, rfl, rfl, HA, HK1, HB⟩ := hrel
   cases gk with
   | zero => exact absurd HA.out (by simp [laws_markText.l0])
   | succ k1 =>
    have H := HA.out
    clear HA
    simp only [laws_markText.l0] at H
    by_cases c3 : x0_1 > 0
    ·rw [if_pos c3] at H
     have c3b0 : decide (0 < x0_1) = true := decide_eq_true c3
     clear c3
     obtain ⟨y101, hy101⟩ : ∃ y_ : List Int, y_ = (([(wrap64 (48 + (Int.tmod x0_1 10))) % 256] : List Int)) := ⟨_, rfl⟩
     replace H : (if (strOfNums y101).size + x3_1.size ≤ 9223372036854775807 then (laws_markText.l0 k1 (wrap64 (Int.tdiv x0_1 10)) ((strOfNums y101) ++ x3_1)) else (none)) = some r := by first | (rw [hy101]; with_reducible exact H) | (have H2_ := (Option.bind_some _ _).symm.trans H; rw [hy101]; with_reducible exact H2_) | (have H2_ := (Option.bind_some _ _).symm.trans H; with_reducible exact H2_) | with_reducible exact H | (rw [hy101]; exact H) | exact H
     have Ny101 := Aside0.mk hy101
     clear hy101
     by_cases c4 : (strOfNums y101).size + x3_1.size ≤ 9223372036854775807
     ·rw [if_pos c4] at H
      have c4b0 := eq_true c4
      have c4b1 : decide ((strOfNums y101).size + x3_1.size ≤ 9223372036854775807) = true := decide_eq_true c4
      try have c4b2 : (9223372036854775807 < (strOfNums y101).size + x3_1.size) = False := eq_false (Nat.not_lt.2 c4)
      have H' := Aside0.mk H
      clear H
      go_wp2_with (first | ((with_reducible refine gate_dst (N := 12) rfl ?_); refine Kd.R_lit (Kd.int .u8) _ 5 ?hg (N := 12) ?hd (xs := ([(wrap64 (48 + (Int.tmod x0_1 10))) % 256] : List Int)) (inner := [.int .u8 ((wrap64 (48 + (Int.tmod x0_1 10))) % 256)]) (ok := fun _ => True) (okp := fun _ => True) ?hr ?hp (fun _ hk => hk) trivial (Below.refl _ _) (Nat.le_refl _) (by simp) ?_; (case hd => rfl); (case hg => rfl); (case hr => first | (go_simp; done) | (go_simp; rfl)); (case hp => exact (Reps.one (show Kd.M (Kd.int .u8) _ _ _ ((wrap64 (48 + (Int.tmod x0_1 10))) % 256) [.int .u8 ((wrap64 (48 + (Int.tmod x0_1 10))) % 256)] from rfl) (Reps.none _ _))); intro v102 w5 ho6 hb hg_ hnew_; clear hg_ hnew_; (first | rw [← Ny101.out] at ho6 | (simp only [Int.reduceToNat] at ho6; rw [← Ny101.out] at ho6)); have n0_ := Aside0.mk (Kd.R_lower ho6 (below_size (by repeat (first | (with_reducible first | exact HB.out | apply below_alloc | apply pw_below_drewN | apply below_drew1) | exact HB.out)))); have n1_ := Aside0.mk (below_step (by repeat (first | (with_reducible first | exact HB.out | apply below_alloc | apply pw_below_drewN | apply below_drew1) | exact HB.out)) hb); clear HB; have HO103 := n0_; have HB := n1_; clear n0_ n1_; clear hb ho6; have hcv7 := own_string (P := Try.prog) Try.underlying78 Try.underlying5 Try.underlying9 (Kd.own_of_R HO103.out)))
      go_roundg k1
      case measure => have := HK1.out; omega
      case rel => exact ⟨(wrap64 (Int.tdiv x0_1 10)), ((strOfNums y101) ++ x3_1), (by first | rfl | (simp; done) | (simp [*]; done)), (by first | rfl | (simp; done) | (simp [*]; done)), H', ⟨by have := HK1.out; omega⟩, ⟨by repeat (first | (with_reducible first | exact HB.out | apply below_alloc | apply pw_below_drewN | apply below_drew1) | exact HB.out)⟩⟩
     ·rw [if_neg c4] at H
      exact absurd H (by simp)
    ·rw [if_neg c3] at H
     have c3b0 : decide (0 < x0_1) = false := decide_eq_false c3
     clear c3
     by_cases c8 : 1 + x3_1.size ≤ 9223372036854775807
     ·rw [if_pos c8] at H
      have c8b0 := eq_true c8
      have c8b1 : decide (1 + x3_1.size ≤ 9223372036854775807) = true := decide_eq_true c8
      try have c8b2 : (9223372036854775807 < 1 + x3_1.size) = False := eq_false (Nat.not_lt.2 c8)
      obtain rfl := Option.some.inj H
      go_wp2
      go_ret
      exact ⟨by first | rfl | (simp [errW_none, errW_some] <;> rfl) | (simp [*, errW_none, errW_some] <;> rfl), by repeat (first | (with_reducible first | exact HB.out | apply below_alloc | apply pw_below_drewN | apply below_drew1) | exact HB.out)⟩
     ·rw [if_neg c8] at H
      exact absurd H (by simp)


/-! ### laws_markStringS: function 44 -/
def laws_markStringS.l0 : Nat → List ByteArray → Int → Int → Option (Int × List ByteArray)
 | 0, _, _, _ => none
 | k + 1, x0, x1, x5 => if x5 < (x0.length : Int) then ((laws_markText.f k x1).bind fun t101 => (if 0 ≤ x5 then (laws_markStringS.l0 k (x0.set (x5 : Int).toNat t101) (wrap64 (x1 + 1)) (wrap64 (x5 + 1))) else (none))) else (some (x1, x0))
def laws_markStringS.f (k : Nat) (l0 : List ByteArray) (a1 : Int) : Option (Int × List ByteArray) := laws_markStringS.l0 k l0 a1 0
theorem laws_markStringS.mono_l : ∀ k, (∀ y0 y1 y2, LeO (laws_markStringS.l0 k y0 y1 y2) (laws_markStringS.l0 (k + 1) y0 y1 y2))
 | 0 => fun _ _ _ r h => by simp [laws_markStringS.l0] at h
 | k + 1 => by
  have ih0 := laws_markStringS.mono_l k
  ·intro y0 y1 y2
   unfold laws_markStringS.l0
   repeat' first
   | (with_reducible exact ih0 _ _ _)
   | (with_reducible exact laws_markText.mono _ _)
   | (with_reducible exact LeO.refl _)
   | (with_reducible exact LeO.none _)
   | (with_reducible refine LeO.ite ?_ ?_)
   | (with_reducible refine LeO.bind ?_ (fun _ => ?_))
   | exact ih0 _ _ _
   | exact laws_markText.mono _ _
   | exact LeO.none _
   | refine LeO.ite ?_ ?_
   | refine LeO.bind ?_ (fun _ => ?_)
theorem laws_markStringS.mono : ∀ a0 a1 k, LeO (laws_markStringS.f k a0 a1) (laws_markStringS.f (k + 1) a0 a1) := by
 intro a0 a1 k
 have ih0 := laws_markStringS.mono_l k
 unfold laws_markStringS.f
 repeat' first
   | (with_reducible exact ih0 _ _ _)
   | (with_reducible exact laws_markText.mono _ _)
   | (with_reducible exact LeO.refl _)
   | (with_reducible exact LeO.none _)
   | (with_reducible refine LeO.ite ?_ ?_)
   | (with_reducible refine LeO.bind ?_ (fun _ => ?_))
   | exact ih0 _ _ _
   | exact laws_markText.mono _ _
   | exact LeO.none _
   | refine LeO.ite ?_ ?_
   | refine LeO.bind ?_ (fun _ => ?_)
set_option maxHeartbeats 8000000 in
set_option maxRecDepth 100000 in
theorem laws_markStringS.calls (k : Nat) (P0_ : Nat → Prop) (u9000_ : Value) (l0 : List ByteArray) (a1 : Int) (r1 : Int) (r2 : List ByteArray) (w0 w : World) (hB : Below w0.heap.size w0 w) (ho0 : Kd.R Kd.string 9 w w0.heap.size P0_ u9000_ l0) (h : laws_markStringS.f k l0 a1 = some (r1, r2)) :
  Calls Try.prog 44 #[u9000_, .int .i64 a1] w fun e w' => e = .returned (.int .i64 r1) ∧ Kd.R Kd.string 9 w' w0.heap.size (fun k_ => (P0_ k_ ∨ w.heap.size ≤ k_)) u9000_ r2 ∧ Below w0.heap.size w0 w' ∧ Kept w w' (fun k_ => P0_ k_) := by
 have HO0 := Aside0.mk (show Kd.R Kd.string 9 w w0.heap.size (fun k_ => (P0_ k_ ∨ w.heap.size ≤ k_)) u9000_ l0 from Kd.R_mono ho0 (fun k_ hk => (.inl hk)))
 have HK := Aside0.mk (Kept.refl w (fun k_ => P0_ k_))
 have HW0 := Aside0.mk hB.size
 have HB := Aside0.mk hB
 clear hB
 have H : (laws_markStringS.l0 k l0 a1 0) = some (r1, r2) := h
 clear h
 have H' := Aside0.mk H
 clear H
 go_enter Try.func44, Try.ntmps44
 go_wp2
 go_loopg [1, 5] k (fun kq v1 v5 w' => ∃ (x0_1 : List ByteArray) (x1_1 : Int) (x5_1 : Int), v1 = .int .i64 x1_1 ∧ v5 = .int .i64 x5_1 ∧ Aside0 (laws_markStringS.l0 kq x0_1 x1_1 x5_1 = some (r1, r2)) ∧ Aside0 (kq ≤ k) ∧ Aside0 (Kd.R Kd.string 9 w' w0.heap.size (fun k_ => (P0_ k_ ∨ w.heap.size ≤ k_)) u9000_ x0_1) ∧ Aside0 (Kept w w' (fun k_ => P0_ k_)) ∧ Aside0 (Below w0.heap.size w0 w'))
 case atStart => exact ⟨(l0), (a1), (0), (by first | rfl | (simp; done) | (simp [*]; done)), (by first | rfl | (simp; done) | (simp [*]; done)), H', ⟨Nat.le_refl _⟩, ⟨by (with_reducible repeat (first | apply Kd.R_alloc | apply Kd.R_drewN | apply Kd.R_drew)); exact HO0.out⟩, ⟨by repeat (first | (with_reducible first | exact HK.out | apply Kept.alloc | apply Kept.drewN | apply Kept.drew) | exact HK.out)⟩, ⟨by repeat (first | (with_reducible first | exact HB.out | apply below_alloc | apply pw_below_drewN | apply below_drew1) | exact HB.out)⟩⟩
 case round =>
  clear H'
  try clear p2
  obtain ⟨x0_1, x1_1, x5_1, rfl, rfl, HA, HK1, HO_0, HK, HB⟩ := hrel
  cases gk with
  | zero => exact absurd HA.out (by simp [laws_markStringS.l0])
  | succ k1 =>
   have H := HA.out
   clear HA
   simp only [laws_markStringS.l0] at H
   by_cases c3 : x5_1 < (x0_1.length : Int)
   ·rw [if_pos c3] at H
    have c3b0 : decide (x5_1 < (x0_1.length : Int)) = true := decide_eq_true c3
    clear c3
    replace H := Option.bind_eq_some_iff.mp H
    obtain ⟨t101, A40, H⟩ := H
    replace H : (if 0 ≤ x5_1 then (laws_markStringS.l0 k1 (x0_1.set (x5_1 : Int).toNat t101) (wrap64 (x1_1 + 1)) (wrap64 (x5_1 + 1))) else (none)) = some (r1, r2) := H
    have A4 := Aside0.mk A40
    clear A40
    by_cases c5 : 0 ≤ x5_1
    ·rw [if_pos c5] at H
     have c5b0 : decide (0 ≤ x5_1) = true := decide_eq_true c5
     clear c5
     obtain ⟨y102, hy102⟩ : ∃ y_ : List ByteArray, y_ = (x0_1.set (x5_1 : Int).toNat t101) := ⟨_, rfl⟩
     replace H : (laws_markStringS.l0 k1 y102 (wrap64 (x1_1 + 1)) (wrap64 (x5_1 + 1))) = some (r1, r2) := by first | (rw [hy102]; with_reducible exact H) | (have H2_ := (Option.bind_some _ _).symm.trans H; rw [hy102]; with_reducible exact H2_) | (have H2_ := (Option.bind_some _ _).symm.trans H; with_reducible exact H2_) | with_reducible exact H | (rw [hy102]; exact H) | exact H
     have Ny102 := Aside0.mk hy102
     clear hy102
     have H' := Aside0.mk H
     clear H
     obtain ⟨Ao7, co7, eo7⟩ := Kd.R_slice HO_0.out
     subst eo7
     go_wp2_with (first | ((with_reducible refine gate_callee (f := 42) rfl ?_); refine goesL_ (some 15) rfl rfl Try.func42 (by kernel_rfl) rfl #[.int .i64 x1_1] rfl (by (try simp only [List.map_toArray, List.map_cons, List.map_nil]); first | done | rfl | (simp only [List.length_drop, List.length_take]; rfl)) ?_; (with_reducible refine (laws_markText.calls k1 x1_1 t101 _ A4.out).mono ?_); rintro e w8 ⟨rfl, hb⟩; refine ⟨_, rfl, ?_⟩; have n0_ := Aside0.mk (Kd.R_below (by (with_reducible repeat (first | apply Kd.R_alloc | apply Kd.R_drewN | apply Kd.R_drew)); exact HO_0.out) hb); have n1_ := Aside0.mk (Kept.below (S := (fun k_ => P0_ k_)) (by repeat (first | (with_reducible first | exact HK.out | apply Kept.alloc | apply Kept.drewN | apply Kept.drew) | exact HK.out)) hb); have n2_ := Aside0.mk (below_step (by repeat (first | (with_reducible first | exact HB.out | apply below_alloc | apply pw_below_drewN | apply below_drew1) | exact HB.out)) hb); clear HO_0; clear HK; clear HB; have HO_0 := n0_; have HK := n1_; have HB := n2_; clear n0_ n1_ n2_; (try clear hb); (try clear hb2); (try clear hk); (try clear hi); have p6 : 0 ≤ (x5_1 : Int) := of_decide_eq_true (by first | (with_reducible assumption) | assumption); have q6 : (x5_1 : Int) < ((x0_1.length : Int) : Int) := of_decide_eq_true (by first | (with_reducible assumption) | assumption); obtain ⟨go6, co6, eo6, gb6, gl6, cl6, HG6⟩ := Kd.R_form HO_0.out (by omega); (first | cases eo6 | (injection eo6 with ea_ en_ ec_; (first | subst ea_ | (injection ea_ with ea_; subst ea_)); subst ec_; clear en_)); have GB6 := Aside0.mk gb6; have GG6 := Aside0.mk HG6; clear gb6 gl6 HG6; have HMgo6 := Aside0.mk (show (P0_ go6 ∨ w.heap.size ≤ go6) from (HO_0.out.1 _ rfl)); obtain ⟨hx6_0, hf6_0⟩ := Kd.R_celln (⟨#[]⟩ : ByteArray) HO_0.out (x5_1 : Int) p6 q6; replace p6 := eq_true p6; replace q6 := eq_true q6; obtain ⟨hy9_, hz9_⟩ := Kd.R_celln (⟨#[]⟩ : ByteArray) HO_0.out (x5_1 : Int) (of_decide_eq_true (by first | (with_reducible assumption) | assumption)) (of_decide_eq_true (by first | (with_reducible assumption) | assumption)); have HP9 := Kd.R_putg HO_0.out (x5_1 : Int) t101) | ((with_reducible refine gate_store (t := 9) (p := 16) rfl ?_); refine store_event (t := 9) (p := 16) (v := ?vo_w10) (w1 := (w8.setCell ⟨go6, (x5_1 : Int).toNat, none⟩ (.string t101))) ?hg ?ho ?hn ?hr ?_; (case ho => rfl); (case hg => rfl); (case hn => rfl); (case hr => first | (go_simp; done) | (go_simp; rfl)); intro w10 hw; have hg : w8.grownBy w10 (some go6) := (by rw [hw]; exact HP9.2); have hp_ : Kd.R Kd.string 9 w10 w0.heap.size (fun k_ => (P0_ k_ ∨ w.heap.size ≤ k_)) (.slice (some ⟨go6, 0, none⟩) x0_1.length co7) y102 := (by rw [hw, Ny102.out]; exact HP9.1); clear HP9; have n0_ := Aside0.mk (hp_); have n1_ := Aside0.mk ((by rw [hw]; exact below_set (HB.out) GB6.out : Below w0.heap.size w0 w10)); have n2_ := Aside0.mk (Kept.of_grown (S := (fun k_ => P0_ k_)) hg (by repeat (first | (with_reducible first | exact HK.out | apply Kept.alloc | apply Kept.drewN | apply Kept.drew) | exact HK.out)) (fun k_ e_ => (HO_0.out.1 k_ e_))); clear HO_0; clear HB; clear HK; have HO_0 := n0_; have HB := n1_; have HK := n2_; clear n0_ n1_ n2_; clear hg hw hp_))
     go_roundg k1
     case measure => have := HK1.out; omega
     case rel => exact ⟨(y102), (wrap64 (x1_1 + 1)), (wrap64 (x5_1 + 1)), (by first | rfl | (simp; done) | (simp [*]; done)), (by first | rfl | (simp; done) | (simp [*]; done)), H', ⟨by have := HK1.out; omega⟩, ⟨by (with_reducible repeat (first | apply Kd.R_alloc | apply Kd.R_drewN | apply Kd.R_drew)); exact HO_0.out⟩, ⟨by repeat (first | (with_reducible first | exact HK.out | apply Kept.alloc | apply Kept.drewN | apply Kept.drew) | exact HK.out)⟩, ⟨by repeat (first | (with_reducible first | exact HB.out | apply below_alloc | apply pw_below_drewN | apply below_drew1) | exact HB.out)⟩⟩
    ·rw [if_neg c5] at H
     exact absurd H (by simp)
   ·rw [if_neg c3] at H
    have c3b0 : decide (x5_1 < (x0_1.length : Int)) = false := decide_eq_false c3
    clear c3
    simp only [Option.some.injEq, Prod.mk.injEq] at H
    obtain ⟨rfl, rfl⟩ := H
    obtain ⟨Ao11, co11, eo11⟩ := Kd.R_slice HO_0.out
    subst eo11
    go_wp2
    go_ret
    exact ⟨by first | rfl | (simp [errW_none, errW_some] <;> rfl) | (simp [*, errW_none, errW_some] <;> rfl), by (with_reducible repeat (first | apply Kd.R_alloc | apply Kd.R_drewN | apply Kd.R_drew)); exact HO_0.out, by repeat (first | (with_reducible first | exact HB.out | apply below_alloc | apply pw_below_drewN | apply below_drew1) | exact HB.out), by repeat (first | (with_reducible first | exact HK.out | apply Kept.alloc | apply Kept.drewN | apply Kept.drew) | exact HK.out)⟩


/-! ### laws_heldStringS: function 46 -/
def laws_heldStringS.l0 : Nat → List ByteArray → Int → Int → Option (Int)
 | 0, _, _, _ => none
 | k + 1, x0, x1, x5 => if x5 < (x0.length : Int) then (if 0 ≤ x5 then ((laws_markText.f k x1).bind fun t102 => (if (rdOf ByteArray.empty x0 x5).toList = t102.toList then (laws_heldStringS.l0 k x0 (wrap64 (x1 + 1)) (wrap64 (x5 + 1))) else (some (-1)))) else (none)) else (some x1)
def laws_heldStringS.f (k : Nat) (l0 : List ByteArray) (a1 : Int) : Option (Int) := laws_heldStringS.l0 k l0 a1 0
theorem laws_heldStringS.mono_l : ∀ k, (∀ y0 y1 y2, LeO (laws_heldStringS.l0 k y0 y1 y2) (laws_heldStringS.l0 (k + 1) y0 y1 y2))
 | 0 => fun _ _ _ r h => by simp [laws_heldStringS.l0] at h
 | k + 1 => by
  have ih0 := laws_heldStringS.mono_l k
  ·intro y0 y1 y2
   unfold laws_heldStringS.l0
   repeat' first
   | (with_reducible exact ih0 _ _ _)
   | (with_reducible exact laws_markText.mono _ _)
   | (with_reducible exact LeO.refl _)
   | (with_reducible exact LeO.none _)
   | (with_reducible refine LeO.ite ?_ ?_)
   | (with_reducible refine LeO.bind ?_ (fun _ => ?_))
   | exact ih0 _ _ _
   | exact laws_markText.mono _ _
   | exact LeO.none _
   | refine LeO.ite ?_ ?_
   | refine LeO.bind ?_ (fun _ => ?_)
theorem laws_heldStringS.mono : ∀ a0 a1 k, LeO (laws_heldStringS.f k a0 a1) (laws_heldStringS.f (k + 1) a0 a1) := by
 intro a0 a1 k
 have ih0 := laws_heldStringS.mono_l k
 unfold laws_heldStringS.f
 repeat' first
   | (with_reducible exact ih0 _ _ _)
   | (with_reducible exact laws_markText.mono _ _)
   | (with_reducible exact LeO.refl _)
   | (with_reducible exact LeO.none _)
   | (with_reducible refine LeO.ite ?_ ?_)
   | (with_reducible refine LeO.bind ?_ (fun _ => ?_))
   | exact ih0 _ _ _
   | exact laws_markText.mono _ _
   | exact LeO.none _
   | refine LeO.ite ?_ ?_
   | refine LeO.bind ?_ (fun _ => ?_)
set_option maxHeartbeats 8000000 in
set_option maxRecDepth 100000 in
theorem laws_heldStringS.calls (k : Nat) (A0 : Option Addr) (c0 : Nat) (l0 : List ByteArray) (a1 : Int) (r : Int) (w : World) (hr0 : Kd.C Kd.string w A0 l0.length l0) (hc0 : l0.length ≤ c0) (h : laws_heldStringS.f k l0 a1 = some r) :
  Calls Try.prog 46 #[.slice A0 l0.length c0, .int .i64 a1] w fun e w' => e = .returned (.int .i64 r) ∧ Below w.heap.size w w' := by
 have HR0 := Aside0.mk hr0
 have HC0 := Aside0.mk hc0
 clear hr0 hc0
 have HB := Aside0.mk (Below.refl w.heap.size w)
 have H : (laws_heldStringS.l0 k l0 a1 0) = some r := h
 clear h
 have H' := Aside0.mk H
 clear H
 go_enter Try.func46, Try.ntmps46
 go_wp2
 go_loopg [1, 5] k (fun kq v1 v5 w' => ∃ (x1_1 : Int) (x5_1 : Int), v1 = .int .i64 x1_1 ∧ v5 = .int .i64 x5_1 ∧ Aside0 (laws_heldStringS.l0 kq l0 x1_1 x5_1 = some r) ∧ Aside0 (kq ≤ k) ∧ Aside0 (Below w.heap.size w w'))
 case atStart => exact ⟨(a1), (0), (by first | rfl | (simp; done) | (simp [*]; done)), (by first | rfl | (simp; done) | (simp [*]; done)), H', ⟨Nat.le_refl _⟩, ⟨by repeat (first | (with_reducible first | exact HB.out | apply below_alloc | apply pw_below_drewN | apply below_drew1) | exact HB.out)⟩⟩
 case round =>
  clear H'
  try clear p2
  obtain ⟨x1_1, x5_1, rfl, rfl, HA, HK1, HB⟩ := hrel
  cases gk with
  | zero => exact absurd HA.out (by simp [laws_heldStringS.l0])
  | succ k1 =>
   have H := HA.out
   clear HA
   simp only [laws_heldStringS.l0] at H
   by_cases c3 : x5_1 < (l0.length : Int)
   ·rw [if_pos c3] at H
    have c3b0 : decide (x5_1 < (l0.length : Int)) = true := decide_eq_true c3
    clear c3
    by_cases c4 : 0 ≤ x5_1
    ·rw [if_pos c4] at H
     have c4b0 : decide (0 ≤ x5_1) = true := decide_eq_true c4
     clear c4
     replace H := Option.bind_eq_some_iff.mp H
     obtain ⟨t102, A50, H⟩ := H
     replace H : (if (rdOf ByteArray.empty l0 x5_1).toList = t102.toList then (laws_heldStringS.l0 k1 l0 (wrap64 (x1_1 + 1)) (wrap64 (x5_1 + 1))) else (some (-1))) = some r := H
     have A5 := Aside0.mk A50
     clear A50
     by_cases c6 : (rdOf ByteArray.empty l0 x5_1).toList = t102.toList
     ·rw [if_pos c6] at H
      have c6b0 : ((rdOf ByteArray.empty l0 x5_1).toList == t102.toList) = true := beq_iff_eq.mpr c6
      have c6b1 : ((rdOf ByteArray.empty l0 x5_1).toList != t102.toList) = false := bne_eq_false_iff_eq.mpr c6
      clear c6
      have H' := Aside0.mk H
      clear H
      try go_wp2
      have n0_ := Aside0.mk (below_drew1 HB.out)
      clear HB
      have HB := n0_
      clear n0_
      have p101 : 0 ≤ (x5_1 : Int) := of_decide_eq_true (by first | (with_reducible assumption) | assumption)
      have q101 : x5_1 < (l0.length : Int) := of_decide_eq_true (by first | (with_reducible assumption) | assumption)
      obtain ⟨ad101, e101, hx101_0⟩ := Kd.at_string HR0.out x5_1 p101 q101
      have hw101_0 := hx101_0
      cases e101
      replace hx101_0 := (HB.out.cell (World.block_lt_of_cell? w _ hx101_0)).trans hx101_0
      replace p101 := eq_true p101
      replace q101 := eq_true q101
      refine start_ (n := 7) (S := fun w' => w'.cell? (ad101.add (x5_1).toNat) = some (.string (rdOf ByteArray.empty l0 x5_1))) (ds := []) #[false, false, false, false, false, false, false] (by kernel_rfl) rfl rfl (((HB.out.cell (World.block_lt_of_cell? w _ hw101_0)).trans hw101_0)) (fun hHeld => ?_)
      generalize wr.drew = w7 at HB hx101_0 hHeld ⊢
      refine pure_ (i := 0) (N := some 12) (v := ?_) (a' := ?_) #[true, false, false, false, false, false, false] rfl rfl (by kernel_rfl) (fun _ _ _ h => h) (Or.inl ⟨by rfl, ?_⟩) ?_ ?_
      rotate_left
      ·intro w'
       go_simp
       with_reducible rfl
      rotate_left
      ·simp only [Act.put, List.setIfInBounds_toArray, List.set_cons_zero, List.set_cons_succ, i64_w, i32_w]
       rfl
      refine pure_ (i := 1) (N := some 13) (v := ?_) (a' := ?_) #[true, true, false, false, false, false, false] rfl rfl (by kernel_rfl) (fun _ _ _ h => h) (Or.inl ⟨by rfl, ?_⟩) ?_ ?_
      rotate_left
      ·intro w'
       go_simp
       with_reducible rfl
      rotate_left
      ·simp only [Act.put, List.setIfInBounds_toArray, List.set_cons_zero, List.set_cons_succ, i64_w, i32_w]
       rfl
      refine pure_ (i := 2) (N := some 14) (v := ?_) (a' := ?_) #[true, true, true, false, false, false, false] rfl rfl (by kernel_rfl) (fun _ _ _ h => h) (Or.inl ⟨by rfl, ?_⟩) ?_ ?_
      rotate_left
      ·intro w'
       go_simp
       with_reducible rfl
      rotate_left
      ·simp only [Act.put, List.setIfInBounds_toArray, List.set_cons_zero, List.set_cons_succ, i64_w, i32_w]
       rfl
      refine pure_ (i := 4) (N := some 16) (v := ?_) (a' := ?_) #[true, true, true, false, true, false, false] rfl rfl (by kernel_rfl) (fun _ _ _ h => h) (Or.inl ⟨by rfl, ?_⟩) ?_ ?_
      rotate_left
      ·intro w'
       go_simp
       with_reducible rfl
      rotate_left
      ·simp only [Act.put, List.setIfInBounds_toArray, List.set_cons_zero, List.set_cons_succ, i64_w, i32_w]
       rfl
      refine take_ (i := 3) (N := some 15) (v := ?_) (a' := ?_) #[true, true, true, true, true, false, false] rfl rfl (by kernel_rfl) (fun _ _ _ h => h) (Or.inl ⟨by rfl, ?_⟩) hHeld ?_ ?_
      rotate_left
      ·intro w' s0
       go_simp
       with_reducible rfl
      rotate_left
      ·simp only [Act.put, List.setIfInBounds_toArray, List.set_cons_zero, List.set_cons_succ, i64_w, i32_w]
       rfl
      refine one_ (i := 5) (N := some 17) #[true, true, true, true, true, true, false] rfl rfl (by kernel_rfl) (by decide) (fun K hK => ?_)
      refine goes_ Try.func42 (by kernel_rfl) rfl #[.int .i64 x1_1] (by rfl) rfl rfl (by (try simp only [List.map_toArray, List.map_cons, List.map_nil]); first | done | rfl | (simp only [List.length_drop, List.length_take]; rfl)) ?_
      with_reducible refine (laws_markText.calls k1 x1_1 t102 _ A5.out).mono ?_
      rintro e w8 ⟨rfl, hb⟩
      refine ⟨_, rfl, ?_⟩
      have n0_ := Aside0.mk (below_step (by repeat (first | (with_reducible first | exact HB.out | apply below_alloc | apply pw_below_drewN | apply below_drew1) | exact HB.out)) hb)
      clear HB
      have HB := n0_
      clear n0_
      (try clear hb)
      (try clear hb2)
      (try clear hk)
      (try clear hi)
      refine hK.out _ _ (((HB.out.cell (World.block_lt_of_cell? w _ hw101_0)).trans hw101_0)) (fun hHeld => ?_)
      clear hK K
      refine norm_ (a' := ?_) ?_ ?_
      rotate_left
      ·show Act.put _ (some 17) _ = _
       simp only [Act.put, List.setIfInBounds_toArray, List.set_cons_zero, List.set_cons_succ, i64_w, i32_w]
       rfl
      refine pure_ (i := 6) (N := some 18) (v := ?_) (a' := ?_) #[true, true, true, true, true, true, true] rfl rfl (by kernel_rfl) (fun _ _ _ h => h) (Or.inl ⟨by rfl, ?_⟩) ?_ ?_
      rotate_left
      ·intro w'
       go_simp
       with_reducible rfl
      rotate_left
      ·simp only [Act.put, List.setIfInBounds_toArray, List.set_cons_zero, List.set_cons_succ, i64_w, i32_w]
       rfl
      refine done_ (by kernel_rfl) ?_
      try go_wp2
      go_roundg k1
      case measure => have := HK1.out; omega
      case rel => exact ⟨(wrap64 (x1_1 + 1)), (wrap64 (x5_1 + 1)), (by first | rfl | (simp; done) | (simp [*]; done)), (by first | rfl | (simp; done) | (simp [*]; done)), H', ⟨by have := HK1.out; omega⟩, ⟨by repeat (first | (with_reducible first | exact HB.out | apply below_alloc | apply pw_below_drewN | apply below_drew1) | exact HB.out)⟩⟩
     ·rw [if_neg c6] at H
      have c6b0 : ((rdOf ByteArray.empty l0 x5_1).toList == t102.toList) = false := beq_eq_false_iff_ne.mpr c6
      have c6b1 : ((rdOf ByteArray.empty l0 x5_1).toList != t102.toList) = true := bne_iff_ne.mpr c6
      obtain rfl := Option.some.inj H
      try go_wp2
      have n0_ := Aside0.mk (below_drew1 HB.out)
      clear HB
      have HB := n0_
      clear n0_
      have p101 : 0 ≤ (x5_1 : Int) := of_decide_eq_true (by first | (with_reducible assumption) | assumption)
      have q101 : x5_1 < (l0.length : Int) := of_decide_eq_true (by first | (with_reducible assumption) | assumption)
      obtain ⟨ad101, e101, hx101_0⟩ := Kd.at_string HR0.out x5_1 p101 q101
      have hw101_0 := hx101_0
      cases e101
      replace hx101_0 := (HB.out.cell (World.block_lt_of_cell? w _ hx101_0)).trans hx101_0
      replace p101 := eq_true p101
      replace q101 := eq_true q101
      refine start_ (n := 7) (S := fun w' => w'.cell? (ad101.add (x5_1).toNat) = some (.string (rdOf ByteArray.empty l0 x5_1))) (ds := []) #[false, false, false, false, false, false, false] (by kernel_rfl) rfl rfl (((HB.out.cell (World.block_lt_of_cell? w _ hw101_0)).trans hw101_0)) (fun hHeld => ?_)
      generalize wr.drew = w9 at HB hx101_0 hHeld ⊢
      refine pure_ (i := 0) (N := some 12) (v := ?_) (a' := ?_) #[true, false, false, false, false, false, false] rfl rfl (by kernel_rfl) (fun _ _ _ h => h) (Or.inl ⟨by rfl, ?_⟩) ?_ ?_
      rotate_left
      ·intro w'
       go_simp
       with_reducible rfl
      rotate_left
      ·simp only [Act.put, List.setIfInBounds_toArray, List.set_cons_zero, List.set_cons_succ, i64_w, i32_w]
       rfl
      refine pure_ (i := 1) (N := some 13) (v := ?_) (a' := ?_) #[true, true, false, false, false, false, false] rfl rfl (by kernel_rfl) (fun _ _ _ h => h) (Or.inl ⟨by rfl, ?_⟩) ?_ ?_
      rotate_left
      ·intro w'
       go_simp
       with_reducible rfl
      rotate_left
      ·simp only [Act.put, List.setIfInBounds_toArray, List.set_cons_zero, List.set_cons_succ, i64_w, i32_w]
       rfl
      refine pure_ (i := 2) (N := some 14) (v := ?_) (a' := ?_) #[true, true, true, false, false, false, false] rfl rfl (by kernel_rfl) (fun _ _ _ h => h) (Or.inl ⟨by rfl, ?_⟩) ?_ ?_
      rotate_left
      ·intro w'
       go_simp
       with_reducible rfl
      rotate_left
      ·simp only [Act.put, List.setIfInBounds_toArray, List.set_cons_zero, List.set_cons_succ, i64_w, i32_w]
       rfl
      refine pure_ (i := 4) (N := some 16) (v := ?_) (a' := ?_) #[true, true, true, false, true, false, false] rfl rfl (by kernel_rfl) (fun _ _ _ h => h) (Or.inl ⟨by rfl, ?_⟩) ?_ ?_
      rotate_left
      ·intro w'
       go_simp
       with_reducible rfl
      rotate_left
      ·simp only [Act.put, List.setIfInBounds_toArray, List.set_cons_zero, List.set_cons_succ, i64_w, i32_w]
       rfl
      refine take_ (i := 3) (N := some 15) (v := ?_) (a' := ?_) #[true, true, true, true, true, false, false] rfl rfl (by kernel_rfl) (fun _ _ _ h => h) (Or.inl ⟨by rfl, ?_⟩) hHeld ?_ ?_
      rotate_left
      ·intro w' s0
       go_simp
       with_reducible rfl
      rotate_left
      ·simp only [Act.put, List.setIfInBounds_toArray, List.set_cons_zero, List.set_cons_succ, i64_w, i32_w]
       rfl
      refine one_ (i := 5) (N := some 17) #[true, true, true, true, true, true, false] rfl rfl (by kernel_rfl) (by decide) (fun K hK => ?_)
      refine goes_ Try.func42 (by kernel_rfl) rfl #[.int .i64 x1_1] (by rfl) rfl rfl (by (try simp only [List.map_toArray, List.map_cons, List.map_nil]); first | done | rfl | (simp only [List.length_drop, List.length_take]; rfl)) ?_
      with_reducible refine (laws_markText.calls k1 x1_1 t102 _ A5.out).mono ?_
      rintro e w10 ⟨rfl, hb⟩
      refine ⟨_, rfl, ?_⟩
      have n0_ := Aside0.mk (below_step (by repeat (first | (with_reducible first | exact HB.out | apply below_alloc | apply pw_below_drewN | apply below_drew1) | exact HB.out)) hb)
      clear HB
      have HB := n0_
      clear n0_
      (try clear hb)
      (try clear hb2)
      (try clear hk)
      (try clear hi)
      refine hK.out _ _ (((HB.out.cell (World.block_lt_of_cell? w _ hw101_0)).trans hw101_0)) (fun hHeld => ?_)
      clear hK K
      refine norm_ (a' := ?_) ?_ ?_
      rotate_left
      ·show Act.put _ (some 17) _ = _
       simp only [Act.put, List.setIfInBounds_toArray, List.set_cons_zero, List.set_cons_succ, i64_w, i32_w]
       rfl
      refine pure_ (i := 6) (N := some 18) (v := ?_) (a' := ?_) #[true, true, true, true, true, true, true] rfl rfl (by kernel_rfl) (fun _ _ _ h => h) (Or.inl ⟨by rfl, ?_⟩) ?_ ?_
      rotate_left
      ·intro w'
       go_simp
       with_reducible rfl
      rotate_left
      ·simp only [Act.put, List.setIfInBounds_toArray, List.set_cons_zero, List.set_cons_succ, i64_w, i32_w]
       rfl
      refine done_ (by kernel_rfl) ?_
      try go_wp2
      go_ret
      exact ⟨by first | rfl | (simp [errW_none, errW_some] <;> rfl) | (simp [*, errW_none, errW_some] <;> rfl), by repeat (first | (with_reducible first | exact HB.out | apply below_alloc | apply pw_below_drewN | apply below_drew1) | exact HB.out)⟩
    ·rw [if_neg c4] at H
     exact absurd H (by simp)
   ·rw [if_neg c3] at H
    have c3b0 : decide (x5_1 < (l0.length : Int)) = false := decide_eq_false c3
    clear c3
    obtain rfl := Option.some.inj H
    go_wp2
    go_ret
    exact ⟨by first | rfl | (simp [errW_none, errW_some] <;> rfl) | (simp [*, errW_none, errW_some] <;> rfl), by repeat (first | (with_reducible first | exact HB.out | apply below_alloc | apply pw_below_drewN | apply below_drew1) | exact HB.out)⟩

end Go.Proofs.Ytjaedjcdgeikpaa.P
/- Lemmas of mine: the laws' marks on lists of texts: they are told, and found again. Plain. -/
set_option linter.unusedVariables false
set_option linter.unusedSimpArgs false
namespace Go.Proofs.Ytjaedjcdgeikpaa.P
open Go.RowKit Go.Proofs.YtjaedjcdgeikpaaW.PrintWords
theorem markText_l0 : ∀ (d n : Nat) (x : ByteArray), n < 10 ^ d → n ≤ 9223372036854775807 → x.size + d ≤ 1000 → ∃ t, Ev (fun k => laws_markText.l0 k (n : Int) x) t := by
 intro d
 induction d with
 | zero =>
  intro n x hn hn9 hx
  have : n = 0 := by simpa using hn
  subst this
  refine ⟨(⟨#[109]⟩ : ByteArray) ++ x, Ev.step (f := fun _ => some ((⟨#[109]⟩ : ByteArray) ++ x)) (fun k => ?_) (Ev.now _)⟩
  simp only [laws_markText.l0]
  rw [if_neg (by omega), if_pos (by omega)]
 | succ d ih =>
  intro n x hn hn9 hx
  by_cases h0 : n = 0
  ·subst h0
   refine ⟨(⟨#[109]⟩ : ByteArray) ++ x, Ev.step (f := fun _ => some ((⟨#[109]⟩ : ByteArray) ++ x)) (fun k => ?_) (Ev.now _)⟩
   simp only [laws_markText.l0]
   rw [if_neg (by omega), if_pos (by omega)]
  ·have hp : 10 ^ (d + 1) = 10 ^ d * 10 := rfl
   have hs : (strOfNums [(wrap64 (48 + (Int.tmod (n : Int) 10))) % 256]).size = 1 := by rw [strOfNums_size]; rfl
   obtain ⟨t, ht⟩ := ih (n / 10) (strOfNums [(wrap64 (48 + (Int.tmod (n : Int) 10))) % 256] ++ x) (by omega) (by omega) (by rw [ByteArray.size_append, hs]; omega)
   refine ⟨t, Ev.step (f := fun k => laws_markText.l0 k ((n / 10 : Nat) : Int) (strOfNums [(wrap64 (48 + (Int.tmod (n : Int) 10))) % 256] ++ x)) (fun k => ?_) ht⟩
   have hw : ∀ m : Int, 0 ≤ m → m ≤ n → wrap64 m = m ∨ True := fun _ _ _ => .inr trivial
   simp only [laws_markText.l0, Option.bind_some]
   rw [if_pos (by omega), if_pos (by rw [hs]; omega)]
   have hq : Int.tdiv (n : Int) 10 = ((n / 10 : Nat) : Int) := rfl
   rw [hq]
   rw [w64n _ (by omega)]
theorem markText_some (n : Nat) (hn : n < 10 ^ 18) : ∃ t, Ev (fun k => laws_markText.f k (n : Int)) t := by
 by_cases h0 : (n : Int) ≤ 0
 ·refine ⟨(⟨#[109, 48]⟩ : ByteArray), ⟨0, fun k _ => ?_⟩⟩
  simp only [laws_markText.f]
  rw [if_pos h0]
 ·obtain ⟨t, ht⟩ := markText_l0 18 n ⟨#[]⟩ hn (Nat.le_trans (Nat.le_of_lt hn) (by decide)) (by decide)
  refine ⟨t, Ev.congr (fun k => ?_) ht⟩
  simp only [laws_markText.f]
  rw [if_neg h0]
open Classical in
/-- The mark of a number. -/
noncomputable def mt (n : Nat) : ByteArray := if h : ∃ t, Ev (fun k => laws_markText.f k (n : Int)) t then h.choose else ⟨#[]⟩
theorem mt_ev (n : Nat) (hn : n < 10 ^ 18) : Ev (fun k => laws_markText.f k (n : Int)) (mt n) := by
 unfold mt
 rw [dif_pos (markText_some n hn)]
 exact (markText_some n hn).choose_spec
/-- Marks from a number on. -/
noncomputable def marks (n m : Nat) : List ByteArray := (List.range m).map fun i => mt (n + i)
theorem marks_length (n m : Nat) : (marks n m).length = m := by simp [marks]
theorem marks_get (n m i : Nat) (h : i < m) : (marks n m)[i]? = some (mt (n + i)) := by simp [marks, h]
theorem markS_l0 : ∀ (d i n : Nat) (xs : List ByteArray), i + d = xs.length → xs.length ≤ 4611686018427387904 → n + d < 10 ^ 18 →
  Ev (fun k => laws_markStringS.l0 k xs (n : Int) (i : Int)) (((n + d : Nat) : Int), xs.take i ++ marks n d) := by
 intro d
 induction d with
 | zero =>
  intro i n xs hi hx hn
  refine Ev.step (f := fun _ => some _) (fun k => ?_) (Ev.now _)
  simp only [laws_markStringS.l0]
  rw [if_neg (by omega), List.take_of_length_le (by omega)]
  simp [marks]
 | succ d ih =>
  intro i n xs hi hx hn
  obtain ⟨K1, h1⟩ := mt_ev n (by omega)
  have h2 := ih (i + 1) (n + 1) (xs.set i (mt n)) (by rw [List.length_set]; omega) (by rw [List.length_set]; omega) (by omega)
  obtain ⟨K2, h2⟩ := h2
  replace h1 : ∀ k, K1 ≤ k → laws_markText.f k (n : Int) = some (mt n) := h1
  replace h2 : ∀ k, K2 ≤ k → laws_markStringS.l0 k (xs.set i (mt n)) ((n + 1 : Nat) : Int) ((i + 1 : Nat) : Int) = _ := h2
  refine ⟨K1 + K2 + 1, fun k hk => ?_⟩
  obtain ⟨m, rfl⟩ : ∃ m, k = m + 1 := ⟨k - 1, by omega⟩
  simp only [laws_markStringS.l0, h1 m (by omega), Option.bind_some, Int.toNat_natCast]
  have hp : (10 : Nat) ^ 18 = 1000000000000000000 := by decide
  rw [if_pos (by omega), if_pos (by omega), w64s n (by omega), w64s i (by omega), h2 m (by omega)]
  have e : (xs.set i (mt n)).take (i + 1) ++ marks (n + 1) d = xs.take i ++ marks n (d + 1) := by
   rw [List.take_set, List.take_add_one, List.getElem?_eq_getElem (by omega)]
   have hl : (xs.take i).length = i := by rw [List.length_take]; omega
   rw [List.set_append_right _ _ (by omega), hl, Nat.sub_self]
   simp only [Option.toList, List.set_cons_zero, List.append_assoc, List.cons_append, List.nil_append]
   congr 1
   apply List.ext_getElem?
   intro j
   cases j with
   | zero => rw [marks_get n (d + 1) 0 (by omega)]; simp
   | succ j =>
    rw [List.getElem?_cons_succ]
    by_cases hj : j < d
    ·rw [marks_get _ _ _ hj, marks_get _ _ _ (by omega)]
     congr 2
     omega
    ·rw [List.getElem?_eq_none (by rw [marks_length]; omega), List.getElem?_eq_none (by rw [marks_length]; omega)]
  rw [e]
  congr 2
  omega
theorem markS_ev (xs : List ByteArray) (n : Nat) (hx : xs.length ≤ 4611686018427387904) (hn : n + xs.length < 10 ^ 18) : Ev (fun k => laws_markStringS.f k xs (n : Int)) (((n + xs.length : Nat) : Int), marks n xs.length) := by
 have h := markS_l0 xs.length 0 n xs (by omega) hx hn
 rw [List.take_zero, List.nil_append] at h
 exact h
theorem rdOf_get (xs : List ByteArray) (i : Nat) (x : ByteArray) (h : xs[i]? = some x) : rdOf ByteArray.empty xs (i : Int) = x := by
 simp [rdOf, List.getD_eq_getElem?_getD, h]
theorem heldS_l0 (n m : Nat) (hm : m ≤ 4611686018427387904) (hn : n + m < 10 ^ 18) : ∀ (d i : Nat), i + d = m →
  Ev (fun k => laws_heldStringS.l0 k (marks n m) ((n + i : Nat) : Int) (i : Int)) ((n + m : Nat) : Int) := by
 intro d
 induction d with
 | zero =>
  intro i hi
  refine Ev.step (f := fun _ => some _) (fun k => ?_) (Ev.now _)
  simp only [laws_heldStringS.l0, marks_length]
  rw [if_neg (by omega)]
  congr 2
  omega
 | succ d ih =>
  intro i hi
  obtain ⟨K1, h1⟩ := mt_ev (n + i) (by omega)
  obtain ⟨K2, h2⟩ := ih (i + 1) (by omega)
  refine ⟨K1 + K2 + 1, fun k hk => ?_⟩
  replace h1 : ∀ k, K1 ≤ k → laws_markText.f k ((n + i : Nat) : Int) = some (mt (n + i)) := h1
  obtain ⟨j, rfl⟩ : ∃ j, k = j + 1 := ⟨k - 1, by omega⟩
  have hp : (10 : Nat) ^ 18 = 1000000000000000000 := by decide
  simp only [laws_heldStringS.l0, h1 j (by omega), Option.bind_some, marks_length]
  rw [if_pos (by omega), if_pos (by omega), rdOf_get _ _ _ (marks_get n m i (by omega)), if_pos rfl, w64s (n + i) (by omega), w64s i (by omega)]
  exact h2 j (by omega)
theorem heldS_ev (n m : Nat) (hm : m ≤ 4611686018427387904) (hn : n + m < 10 ^ 18) : Ev (fun k => laws_heldStringS.f k (marks n m) (n : Int)) ((n + m : Nat) : Int) :=
 heldS_l0 n m hm hn m 0 (by omega)
theorem eqS_l0 (xs : List ByteArray) (hx : xs.length ≤ 4611686018427387904) : ∀ (d i : Nat), i + d = xs.length → Ev (fun k => laws_eqStringS.l0 k xs xs (i : Int)) true := by
 intro d
 induction d with
 | zero =>
  intro i hi
  refine Ev.step (f := fun _ => some _) (fun k => ?_) (Ev.now _)
  simp only [laws_eqStringS.l0]
  rw [if_neg (by omega)]
 | succ d ih =>
  intro i hi
  refine Ev.step (f := fun k => laws_eqStringS.l0 k xs xs ((i + 1 : Nat) : Int)) (fun k => ?_) (ih (i + 1) (by omega))
  simp only [laws_eqStringS.l0]
  rw [if_pos (by omega), if_pos (by omega), if_pos (by omega), if_pos trivial, w64s i (by omega)]
theorem eqS_self (xs : List ByteArray) (hx : xs.length ≤ 4611686018427387904) : Ev (fun k => laws_eqStringS.f k xs xs) true := by
 obtain ⟨K, h⟩ := eqS_l0 xs hx xs.length 0 (by omega)
 refine ⟨K, fun k hk => ?_⟩
 simp only [laws_eqStringS.f]
 rw [if_pos trivial]
 exact h k hk
end Go.Proofs.Ytjaedjcdgeikpaa.P
/- Lemmas of mine: the laws' copies of mails, keys and boxes: copied, the same, counted. Plain. -/
set_option linter.unusedVariables false
set_option linter.unusedSimpArgs false
namespace Go.Proofs.Ytjaedjcdgeikpaa.P
open Go.RowKit Go.Proofs.YtjaedjcdgeikpaaW.PrintWords
def stM (x : S67) : S28 := ⟨x.f0, x.f1, x.f2⟩
theorem toStoredS_ev (xs : List S67) (h : xs.length ≤ 8796093022208) : Ev (fun k => laws_toStoredS.f k xs) (xs.map stM) := by
 refine Ev.congr (f := fun k => laws_toStoredS.l0 k xs (List.replicate xs.length z28) ((0 : Nat) : Int)) (fun k => ?_)
  (copy_loop (fun k ys i => laws_toStoredS.l0 k xs ys i) xs stM ?_ ?_ xs.length 0 _ (by omega) (by simp) (by simp))
 ·simp only [laws_toStoredS.f, Int.toNat_natCast]
  rw [if_pos (by omega), if_pos h]
  rfl
 ·intro i ys hi hl
  refine ⟨0, fun k _ => ?_⟩
  simp only [laws_toStoredS.l0, laws_toStored.f, rd_T67, getD_nat xs _ i hi, bS]
  rw [if_pos (by omega), if_pos (by omega), if_pos (by omega), w64s i (by omega), Int.toNat_natCast]
  rfl
 ·intro ys hl
  refine ⟨0, fun k _ => ?_⟩
  simp only [laws_toStoredS.l0]
  rw [if_neg (by omega)]
theorem toStringS_ev (xs : List ByteArray) (h : xs.length ≤ 17592186044416) : Ev (fun k => laws_toStringS.f k xs) xs := by
 have hm : xs.map (fun x => x) = xs := by simp
 have := copy_loop (fun k ys i => laws_toStringS.l0 k xs ys i) xs (fun x => x) (fun i ys hi hl => ⟨0, fun k _ => by
   simp only [laws_toStringS.l0, rdOf, getD_nat xs _ i hi]
   rw [if_pos (by omega), if_pos (by omega), if_pos (by omega), w64s i (by omega), Int.toNat_natCast]⟩)
  (fun ys hl => ⟨0, fun k _ => by
   simp only [laws_toStringS.l0]
   rw [if_neg (by omega)]⟩) xs.length 0 (List.replicate xs.length (⟨#[]⟩ : ByteArray)) (by omega) (by simp) (by simp)
 rw [hm] at this
 refine Ev.congr (fun k => ?_) this
 simp only [laws_toStringS.f, Int.toNat_natCast]
 rw [if_pos (by omega), if_pos h]
 rfl
theorem eqStoredS_self (ys : List S28) (h : ys.length ≤ 4611686018427387904) : Ev (fun k => laws_eqStoredS.f k ys ys) true := by
 refine Ev.congr (f := fun k => laws_eqStoredS.l0 k ys ys ((0 : Nat) : Int)) (fun k => ?_)
  (up_loop (fun k i => laws_eqStoredS.l0 k ys ys i) ys.length true ?_ ⟨0, fun k _ => ?_⟩ ys.length 0 (by omega))
 ·unfold laws_eqStoredS.f
  exact if_pos rfl
 ·intro i hi
  refine ⟨0, fun k _ => ?_⟩
  simp only [laws_eqStoredS.l0, laws_eqStored.f, if_true, bS]
  rw [if_pos (by omega), if_pos (by omega), if_pos (by omega), w64s i (by omega)]
 ·simp only [laws_eqStoredS.l0]
  rw [if_neg (by omega)]
theorem szStored_some (a b : Int) (s : ByteArray) (n : Int) : ∃ z, laws_szStored.f a b s n = some z := by
 unfold laws_szStored.f
 split <;> exact ⟨_, rfl⟩
theorem szStoredS_some (xs : List S67) (h : xs.length ≤ 4611686018427387904) (n : Int) : ∃ z, Ev (fun k => laws_szStoredS.f k xs n) z := by
 by_cases h0 : wrap64 (n - (xs.length : Int)) < 0
 ·exact ⟨-1, 0, fun k _ => by simp only [laws_szStoredS.f]; rw [if_pos h0]⟩
 ·obtain ⟨z, hz, _⟩ := st_loop (fun k s i => laws_szStoredS.l0 k xs s i) xs.length (fun _ _ _ => True) (fun i s hi => by
    obtain ⟨z, hz⟩ := szStored_some (xs[i]'hi).f0 (xs[i]'hi).f1 (xs[i]'hi).f2 s
    have e : ∀ k, laws_szStoredS.l0 (k + 1) xs s (i : Int) = if z < 0 then some (-1) else laws_szStoredS.l0 k xs z ((i + 1 : Nat) : Int) := fun k => by
     simp only [laws_szStoredS.l0, rd_T67, getD_nat xs _ i hi, hz, bS]
     rw [if_pos (by omega), if_pos (by omega), w64s i (by omega)]
    by_cases hn : z < 0
    ·exact .inl ⟨-1, ⟨0, fun k _ => by rw [e, if_pos hn]⟩, trivial⟩
    ·exact .inr ⟨z, ⟨0, fun k _ => by rw [e, if_neg hn]⟩, fun _ _ => trivial⟩)
   (fun s => ⟨s, ⟨0, fun k _ => by simp only [laws_szStoredS.l0]; rw [if_neg (by omega)]⟩, trivial⟩) xs.length 0 (wrap64 (n - (xs.length : Int))) (by omega)
  exact ⟨z, Ev.congr (fun k => by simp only [laws_szStoredS.f]; rw [if_neg h0]; rfl) hz⟩
theorem szStringS_some (xs : List ByteArray) (h : xs.length ≤ 4611686018427387904) (n : Int) : ∃ z, Ev (fun k => laws_szStringS.f k xs n) z := by
 by_cases h0 : wrap64 (n - (xs.length : Int)) < 0
 ·exact ⟨-1, 0, fun k _ => by simp only [laws_szStringS.f]; rw [if_pos h0]⟩
 ·obtain ⟨z, hz, _⟩ := st_loop (fun k s i => laws_szStringS.l0 k xs s i) xs.length (fun _ _ _ => True) (fun i s hi => by
    obtain ⟨z, hz⟩ : ∃ z, wrap64 (s - ((xs[i]'hi).size : Int)) = z := ⟨_, rfl⟩
    have e : ∀ k, laws_szStringS.l0 (k + 1) xs s (i : Int) = if z < 0 then some (-1) else laws_szStringS.l0 k xs z ((i + 1 : Nat) : Int) := fun k => by
     simp only [laws_szStringS.l0, rdOf, getD_nat xs _ i hi, hz]
     rw [if_pos (by omega), if_pos (by omega), w64s i (by omega)]
    clear hz
    by_cases hn : z < 0
    ·exact .inl ⟨-1, ⟨0, fun k _ => by rw [e, if_pos hn]⟩, trivial⟩
    ·exact .inr ⟨z, ⟨0, fun k _ => by rw [e, if_neg hn]⟩, fun _ _ => trivial⟩)
   (fun s => ⟨s, ⟨0, fun k _ => by simp only [laws_szStringS.l0]; rw [if_neg (by omega)]⟩, trivial⟩) xs.length 0 (wrap64 (n - (xs.length : Int))) (by omega)
  exact ⟨z, Ev.congr (fun k => by simp only [laws_szStringS.f]; rw [if_neg h0]; rfl) hz⟩
theorem szBox_some (s : ByteArray) (a b : Int) (xs : List S67) (ks : List ByteArray) (h : xs.length ≤ 4611686018427387904) (h2 : ks.length ≤ 4611686018427387904) (n : Int) : ∃ z, Ev (fun k => laws_szBox.f k s a b xs ks n) z := by
 by_cases h0 : wrap64 (n - (s.size : Int)) < 0
 ·exact ⟨-1, 0, fun k _ => by simp only [laws_szBox.f]; rw [if_pos h0]⟩
 ·obtain ⟨z, K, hz⟩ := szStoredS_some xs h (wrap64 (n - (s.size : Int)))
  by_cases hn : z < 0
  ·exact ⟨-1, K, fun k hk => by simp only [laws_szBox.f, hz k hk, bS]; rw [if_neg h0, if_pos hn]⟩
  ·obtain ⟨y, K2, hy⟩ := szStringS_some ks h2 z
   by_cases hm : y < 0
   ·exact ⟨-1, K + K2, fun k hk => by simp only [laws_szBox.f, hz k (by omega), hy k (by omega), bS]; rw [if_neg h0, if_neg hn, if_pos hm]⟩
   ·exact ⟨y, K + K2, fun k hk => by simp only [laws_szBox.f, hz k (by omega), hy k (by omega), bS]; rw [if_neg h0, if_neg hn, if_neg hm]⟩
theorem toBox_ev (s : ByteArray) (a b : Int) (xs : List S67) (ks : List ByteArray) (h : xs.length ≤ 8796093022208) (h2 : ks.length ≤ 17592186044416) : Ev (fun k => laws_toBox.f k s a b xs ks) (s, a, b, xs.map stM, ks) := by
 obtain ⟨K, hK⟩ := toStoredS_ev xs h
 obtain ⟨K2, hK2⟩ := toStringS_ev ks h2
 exact ⟨K + K2, fun k hk => by simp only [laws_toBox.f, hK k (by omega), hK2 k (by omega), bS]⟩
theorem eqBox_self (s : ByteArray) (a b : Int) (ys : List S28) (ks : List ByteArray) (h : ys.length ≤ 4611686018427387904) (h2 : ks.length ≤ 4611686018427387904) : Ev (fun k => laws_eqBox.f k s a b ys ks s a b ys ks) true := by
 obtain ⟨K, hK⟩ := eqStoredS_self ys h
 obtain ⟨K2, hK2⟩ := eqS_self ks h2
 exact ⟨K + K2, fun k hk => by simp only [laws_eqBox.f, hK k (by omega), hK2 k (by omega), bS, if_true]⟩
end Go.Proofs.Ytjaedjcdgeikpaa.P
/- Lemmas of mine: the two StoredAt tell the same. Plain. -/
set_option linter.unusedVariables false
set_option linter.unusedSimpArgs false
namespace Go.Proofs.Ytjaedjcdgeikpaa.P
open Go.RowKit Go.Proofs.YtjaedjcdgeikpaaW.PrintWords
/-- A mail has a uid. -/
def uidM (u : Int) (y : S28) : Bool := y.f0 == u
theorem uidM_iff (u : Int) (y : S28) : uidM u y = true ↔ y.f0 = u := by
 unfold uidM
 rw [beq_iff_eq]
theorem mail_l0 (u : Int) (s : ByteArray) (v nx : Int) (l : List S28) (ks : List ByteArray) (hl : l.length ≤ 4611686018427387904) : ∀ (d i : Nat), i + d = l.length → (∀ j, j < i → uidM u (l.getD j z28) = false) → Ev (fun k => spec_l09Mail.l0 k u (i : Int) s v nx l ks) (idxOf (uidM u) l) := by
 intro d
 induction d with
 | zero =>
  intro i hi hn
  rw [idxOf_miss (uidM u) l z28 (fun j hj => hn j (by omega))]
  refine Ev.step (f := fun _ => some _) (fun k => ?_) (Ev.now _)
  simp only [spec_l09Mail.l0]
  rw [if_neg (by omega)]
 | succ d ih =>
  intro i hi hn
  have hlt : i < l.length := by omega
  have hg : l.getD i z28 = l[i]'hlt := by rw [List.getD_eq_getElem?_getD, List.getElem?_eq_getElem hlt]; rfl
  have e : ∀ k, spec_l09Mail.l0 (k + 1) u (i : Int) s v nx l ks = if (l[i]'hlt).f0 = u then some (i : Int) else spec_l09Mail.l0 k u ((i + 1 : Nat) : Int) s v nx l ks := fun k => by
   simp only [spec_l09Mail.l0, rd_T28, getD_nat l _ i hlt]
   rw [if_pos (by omega), if_pos (by omega), w64s i (by omega)]
  by_cases hx : (l[i]'hlt).f0 = u
  ·rw [idxOf_hit (uidM u) l z28 i hlt (by rw [hg, uidM_iff]; exact hx) hn]
   exact Ev.step (f := fun _ => some _) (fun k => by rw [e, if_pos hx]) (Ev.now _)
  ·refine Ev.step (f := fun k => spec_l09Mail.l0 k u ((i + 1 : Nat) : Int) s v nx l ks) (fun k => by rw [e, if_neg hx]) (ih (i + 1) (by omega) (fun j hj => ?_))
   by_cases hji : j = i
   ·subst hji
    rw [hg]
    cases hb : uidM u (l[j]'hlt) with
    | false => rfl
    | true => exact absurd ((uidM_iff _ _).1 hb) hx
   ·exact hn j (by omega)
theorem mail_ev (u : Int) (s : ByteArray) (v nx : Int) (l : List S28) (ks : List ByteArray) (hl : l.length ≤ 4611686018427387904) : Ev (fun k => spec_l09Mail.f k s v nx l ks u) (idxOf (uidM u) l) := mail_l0 u s v nx l ks hl l.length 0 (by omega) (fun j hj => absurd hj (Nat.not_lt_zero _))
theorem idxOf_lt {α : Type} (p : α → Bool) (l : List α) : idxOf p l < (l.length : Int) ∧ -1 ≤ idxOf p l := by
 unfold idxOf
 cases h : l.findIdx? p with
 | none => simp only; omega
 | some i =>
  have := (List.findIdx?_eq_some_iff_getElem.1 h).1
  simp only
  omega
theorem stored_both (s : ByteArray) (v nx : Int) (ms : List S28) (ks : List ByteArray) (u : Int) (hm : ms.length ≤ 4611686018427387904) :
  ∃ r, Ev (fun k => spec_StoredAt.f k s v nx ms ks u) r ∧ Ev (fun k => impl_StoredAt.f k s v nx ms ks u) r := by
 obtain ⟨K1, h1⟩ := specBox_ev s v nx ms ks
 obtain ⟨K2, h2⟩ := implBox_ev s v nx ms ks
 obtain ⟨K3, h3⟩ := mail_ev u s v nx ms ks hm
 have hm2 : impl_Box_mailIndex.f s v nx ms ks u = some (idxOf (uidM u) ms, s, v, nx) := by
  unfold impl_Box_mailIndex.f
  rw [if_pos (by omega)]
  rfl
 obtain ⟨hi1, hi2⟩ := idxOf_lt (uidM u) ms
 generalize idxOf (uidM u) ms = q at *
 refine ⟨if boxR s v nx ms ks = true then (if q < 0 then (0, 0, (⟨#[]⟩ : ByteArray), 5) else ((rd_T28 ms q).f0, (rd_T28 ms q).f1, (rd_T28 ms q).f2, 0)) else (0, 0, (⟨#[]⟩ : ByteArray), 1), ⟨K1 + K2 + K3, fun k hk => ?_⟩, ⟨K1 + K2 + K3, fun k hk => ?_⟩⟩
 ·have e1 := h1 k (by omega)
  have e3 := h3 k (by omega)
  simp only at e1 e3
  simp only [spec_StoredAt.f, e1, e3, bS]
  split
  ·split
   ·rfl
   ·first | (rw [if_pos (show 0 ≤ q by omega), if_pos hi1]; done) | (rw [if_pos (show 0 ≤ q by omega)]; done) | (rw [if_pos hi1]; done)
  ·rfl
 ·have e2 := h2 k (by omega)
  simp only at e2
  simp only [impl_StoredAt.f, e2, hm2, bS]
  split
  ·split
   ·rfl
   ·first | (rw [if_pos (show 0 ≤ q by omega), if_pos hi1]; done) | (rw [if_pos (show 0 ≤ q by omega)]; done) | (rw [if_pos hi1]; done)
  ·rfl
end Go.Proofs.Ytjaedjcdgeikpaa.P
/- The pure statement of the law FnExactStoredAt: the two StoredAt tell the same. No condition. -/
set_option linter.unusedVariables false
set_option linter.unusedSimpArgs false
namespace Go.Proofs.Ytjaedjcdgeikpaa.Pure
open Go.RowKit Go.Proofs.Ytjaedjcdgeikpaa.P Go.Proofs.YtjaedjcdgeikpaaW.PrintWords
theorem FnExactStoredAt : laws_FnExactStoredAt.Pure := by
 intro x f hx _
 obtain ⟨_, _, _, ⟨_, hl, _⟩, _, hl2, _⟩ := hx
 obtain ⟨z, K0, h0⟩ := szBox_some x.f0 x.f1 x.f2 x.f3 x.f4 (by omega) (by omega) 1048576
 obtain ⟨K1, h1⟩ := toBox_ev x.f0 x.f1 x.f2 x.f3 x.f4 (by omega) (by omega)
 obtain ⟨⟨a, b, c, d⟩, ⟨K2, h2⟩, ⟨K3, h3⟩⟩ := stored_both x.f0 x.f1 x.f2 (x.f3.map stM) x.f4 f (by rw [List.length_map]; omega)
 obtain ⟨K4, h4⟩ := eqBox_self x.f0 x.f1 x.f2 (x.f3.map stM) x.f4 (by rw [List.length_map]; omega) (by omega)
 obtain ⟨K, hK⟩ : ∃ K, K0 + K1 + K2 + K3 + K4 = K := ⟨_, rfl⟩
 refine ⟨K + 1, ?_⟩
 have e0 := h0 (K + 1) (by omega)
 have e1 := h1 (K + 1) (by omega)
 have e2 := h2 (K + 1) (by omega)
 have e3 := h3 (K + 1) (by omega)
 have f1 := h1 K (by omega)
 have f4 := h4 K (by omega)
 simp only at e0 e1 e2 e3 f1 f4
 have ej : laws_FnExactStoredAt.j0 (K + 1) false x.f0 x.f1 x.f2 x.f3 x.f4 x.f0 x.f1 x.f2 (x.f3.map stM) x.f4 = some true := by
  simp only [laws_FnExactStoredAt.j0, f1, f4, bS, if_true]
  rw [if_neg (by decide)]
 have hq : laws_eqStored.f a b c a b c = some true := by
  unfold laws_eqStored.f
  rw [if_pos rfl, if_pos rfl, if_pos rfl]
 have hb : (d != d) = false := by simp
 simp only [laws_FnExactStoredAt.f, e0, e1, e2, e3, bS, if_true, hq, hb, ej]
 split <;> rfl
end Go.Proofs.Ytjaedjcdgeikpaa.Pure
/- The row of the law FnExactStoredAt: for every input the call returns true and each argument reads behind the call as it read before. No condition of mine. -/
namespace Go.Proofs.Ytjaedjcdgeikpaa.fnExactStoredAt
open Go.ChangeShapes Go.WideShapes Go.ChangeAt Go.RowKit Go.Proofs.Ytjaedjcdgeikpaa.P Go.Proofs.YtjaedjcdgeikpaaW.PrintWords
open Go.ChangeMaps (open_string shut_string)
set_option linter.unusedVariables false
theorem own : ownKnob Try.prog.godebug = none := by kernel_rfl
theorem laidOut : laidOutB Try.prog = true := by kernel_rfl
set_option maxRecDepth 100000 in
theorem lifted (os : Os) (started : os.Started) (H : Type) (enc : TypeId × Value → H) :
    ReturnsInHanded {} Try.checked os 3 .any (Rows.fnExactStoredAtSpec.pre6 enc Try.prog Try.f3 Rows.fnExactStoredAtRow.domain false) (Rows.fnExactStoredAtSpec.post enc Try.prog Try.f3 false true false false) := by
  refine returnsInHanded_of_change_sized (C := Try.checked) own started (by kernel_rfl) Try.func3
    (ChangeSpec.witness6 (enc := enc) (C := Try.checked) false ⟨#[], #[.agg #[.string ByteArray.empty, .int .i64 0, .int .i64 0, .slice none 0 0, .slice none 0 0], .int .i64 0], []⟩ 8 (by kernel_rfl) (by kernel_rfl) (by kernel_rfl) (by kernel_rfl)) ?_
  intro W base args ds gs before hval0 hW hcnd hsz0 _
  have hsz : (DataW.weightsEach Try.prog (Try.f3.params.toList ++ Rows.fnExactStoredAtSpec.plain.varTypes Try.prog) (ds ++ gs)).all (· ≤ reachBytes) = true := hsz0
  have hval : ∀ (j : Nat) t v, Try.f3.params[j]? = some t → args[j]? = some v → Value.okWide Try.prog W .any base t v := hval0
  have hW' := hW
  obtain ⟨p, q, hA0, hV, rfl, hfz, hnd⟩ := hW
  have hA : DataW.TrodAll enc Try.prog W 0 (fun _ => true) true Try.f3.params.toList args.toList ds p := hA0
  rw [Try.params3] at hA hval hsz
  obtain ⟨v0, vs0, d0, ds0, p0, q0, hargs, rfl, rfl, h0, r0⟩ := trodAll_cons hA
  obtain ⟨v1, vs1, d1, ds1, p1, q1, rfl, rfl, rfl, h1, r1⟩ := trodAll_cons r0
  obtain ⟨rfl, rfl, rfl⟩ := trodAll_nil r1
  obtain rfl : args = #[v0, v1] := by cases args; simp_all
  obtain ⟨rfl, rfl⟩ := trodVars_none hV
  have kk0 := h0
  have lt0 : ∀ x ∈ p0, x.block < W.heap.size := by obtain ⟨m, hm⟩ := kk0; exact DataW.trod_lt m _ _ _ hm
  obtain ⟨x0, hK0, hS0⟩ := Tells.arg tells25 h0 hsz (j := 0) (t := 25) rfl rfl
  obtain ⟨cs0, rfl, _⟩ := okWide_struct Try.underlying25 (hval 0 25 v0 rfl rfl)
  obtain ⟨A0_3, c0_3, A0_4, c0_4, hq0, hl0_3, hC0_3, hl0_4, hC0_4⟩ := k25_open hK0
  obtain rfl : cs0 = #[.string x0.f0, .int .i64 x0.f1, .int .i64 x0.f2, .slice A0_3 x0.f3.length c0_3, .slice A0_4 x0.f4.length c0_4] := Array.toList_inj.1 (by simpa [Value.cells] using hq0)
  have kk1 := h1
  have lt1 : ∀ x ∈ p1, x.block < W.heap.size := by obtain ⟨m, hm⟩ := kk1; exact DataW.trod_lt m _ _ _ hm
  obtain ⟨x1, hK1, hS1⟩ := Tells.arg (Tells.int Try.underlying3) h1 hsz (j := 1) (t := 3) rfl rfl
  obtain ⟨a1, rfl⟩ := okWide_int Try.underlying3 (hval 1 3 v1 rfl rfl)
  have hq1 : [Value.int .i64 a1] = [Value.int .i64 x1] := hK1
  obtain rfl : a1 = x1 := by simpa using hq1
  clear hA0 hval0 hsz0 hsz
  obtain ⟨k, h⟩ := Pure.FnExactStoredAt x0 a1 hS0 hS1
  refine (laws_FnExactStoredAt.calls k x0.f0 x0.f1 x0.f2 _ _ x0.f3 _ _ x0.f4 a1 true W hC0_3 hl0_3 hC0_4 hl0_4 h).mono fun e W' ⟨he, bel0⟩ => ?_
  have bel : Below W.heap.size W W' := bel0
  subst he
  exact ⟨_, rfl, _, _, _, [], _, [], hW', trodAll_mk1 (shut_bool Try.underlying4 _), (trodAll_cons_mk (Below.trod laidOut (by kernel_rfl) (of_decide_eq_true (by kernel_rfl)) kk0 bel lt0) (trodAll_cons_mk (Below.trod laidOut (by kernel_rfl) (of_decide_eq_true (by kernel_rfl)) kk1 bel lt1) trodAll_mk0)), rfl, bel.frame _, fun h => by cases h⟩
theorem over : Rows.fnExactStoredAtRow.holds Try.pinned (OpenSpec.ofChange Rows.fnExactStoredAtSpec) :=
  OpenClaim.holds_of_wide 3 Try.f3 rfl rfl rfl rfl rfl rfl rfl ⟨rfl, rfl, rfl, rfl, rfl⟩ rfl rfl rfl rfl rfl (by kernel_rfl) Try.func3 (by kernel_rfl)
    (of_decide_eq_true (by kernel_rfl)) (by unfold Func.isWrapper; first | (rw [if_pos (by decide +kernel)]; kernel_rfl) | (rw [if_neg (by decide +kernel)]; exact ⟨rfl, rfl⟩))
    (fun os started H enc _ => lifted os started H enc)
theorem proved : Rows.FnExactStoredAtSaid := over
#print axioms proved
end Go.Proofs.Ytjaedjcdgeikpaa.fnExactStoredAt
namespace Go.Proofs.Ytjaedjcdgeikpaa
/-- The row, under a short name, for the claim. -/
theorem fnExactStoredAt_holds : Rows.FnExactStoredAtSaid := fnExactStoredAt.proved
end Go.Proofs.Ytjaedjcdgeikpaa
