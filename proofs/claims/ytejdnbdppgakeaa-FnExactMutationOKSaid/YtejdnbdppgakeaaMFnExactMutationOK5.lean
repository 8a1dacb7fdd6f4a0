/- Part 5 of what the law FnExactMutationOK stands on; the last part ends with the law's row. No condition of mine. -/
import Derived.Test.YtejdnbdppgakeaaMFnExactMutationOK4
import Derived.Test.YtejdnbdppgakeaaMFnExactMutationOK0
import Derived.Test.YtejdnbdppgakeaaMFnExactMutationOK2
import Derived.Test.YtejdnbdppgakeaaMFnExactMutationOK1
import Derived.Test.YtejdnbdppgakeaaMFnExactMutationOK3
import Derived.Test.YtejdnbdppgakeaaRows
import Derived.WalkKit
import Derived.ProofKit
import Derived.OpenShut
import Derived.ShutString
import Derived.ChangeOld
import Derived.Below
import Derived.SizedLaws
import Derived.Carry
/- Lemmas of mine: the two NameOK tell the same. Plain. -/
set_option linter.unusedVariables false
set_option linter.unusedSimpArgs false
namespace Go.Proofs.Ytejdnbdppgakeaa.P
open Go.RowKit Go.Proofs.YtejdnbdppgakeaaW.PrintWords
def isLet (c : Int) : Bool := decide (97 ≤ c ∧ c ≤ 122 ∨ 65 ≤ c ∧ c ≤ 90)
def isDig (c : Int) : Bool := decide (48 ≤ c ∧ c ≤ 57)
theorem implDigit_eq (c : Int) : impl_isDigit.f c = some (isDig c) := by
  unfold impl_isDigit.f isDig
  by_cases h : c ≥ 48 <;> simp [h] <;> omega
theorem specDigit_eq (c : Int) : spec_l00Digit.f c = some (isDig c) := implDigit_eq c
theorem implLetter_eq (c : Int) : impl_isLetter.f c = some (isLet c) := by
  unfold impl_isLetter.f isLet
  by_cases h1 : c ≥ 97 <;> by_cases h2 : c ≤ 122 <;> by_cases h3 : c ≥ 65 <;> by_cases h4 : c ≤ 90 <;> simp [h1, h2, h3, h4] <;> omega
theorem specLetter_eq (c : Int) : spec_l00Letter.f c = some (isLet c || c == 95) := by
  unfold spec_l00Letter.f isLet
  by_cases h1 : c ≥ 97 <;> by_cases h2 : c ≤ 122 <;> by_cases h3 : c ≥ 65 <;> by_cases h4 : c ≤ 90 <;> simp [h1, h2, h3, h4] <;> omega
/-- A byte of a name. -/
def nameB (b : UInt8) : Bool := isLet b.toNat || isDig b.toNat || b.toNat == 95
/-- A name. -/
def nameR (l : List UInt8) : Bool := decide (1 ≤ l.length ∧ l.length ≤ 40) && !(l.head?.any fun b => isDig b.toNat) && l.all nameB
theorem implName_l0 (s : ByteArray) (hs : (bl s).length ≤ 40) : ∀ (d i : Nat), i + d = (bl s).length →
    Ev (fun k => impl_NameOK.l0 k s (s.size : Int) (i : Int)) (((bl s).drop i).all nameB) := by
  intro d
  induction d with
  | zero =>
    intro i hi
    rw [List.drop_eq_nil_of_le (by omega)]
    refine Ev.step (f := fun _ => some _) (fun k => ?_) (Ev.now _)
    simp only [impl_NameOK.l0]
    rw [if_neg (by rw [bl_size]; omega)]
    rfl
  | succ d ih =>
    intro i hi
    have hlt : i < (bl s).length := by omega
    have hz : i < s.size := by rw [bl_size]; exact hlt
    have hbt := bt_eq s i hlt
    rw [List.drop_eq_getElem_cons hlt, List.all_cons]
    generalize (bl s)[i]'hlt = b at hbt ⊢
    by_cases hc : nameB b = true
    · rw [hc, Bool.true_and]
      refine Ev.step (f := fun k => impl_NameOK.l0 k s (s.size : Int) ((i + 1 : Nat) : Int)) (fun k => ?_) (ih (i + 1) (by omega))
      simp only [impl_NameOK.l0]
      rw [if_pos (by omega), if_pos (by omega), if_pos (by omega), hbt, w64s i (by omega)]
      simp only [implLetter_eq, implDigit_eq, Option.bind_some]
      unfold nameB at hc
      cases h1 : isLet b.toNat with
      | true => rfl
      | false =>
        cases h2 : isDig b.toNat with
        | true => rfl
        | false =>
          have h3 : b.toNat = 95 := by simpa [h1, h2] using hc
          simp [h3]
    · have hc' : nameB b = false := by simpa using hc
      rw [hc', Bool.false_and]
      refine Ev.step (f := fun _ => some _) (fun k => ?_) (Ev.now _)
      simp only [impl_NameOK.l0]
      rw [if_pos (by omega), if_pos (by omega), if_pos (by omega), hbt]
      simp only [implLetter_eq, implDigit_eq, Option.bind_some]
      unfold nameB at hc'
      simp only [Bool.or_eq_false_iff] at hc'
      obtain ⟨⟨h1, h2⟩, h3⟩ := hc'
      have h4 : ¬ (b.toNat : Int) = 95 := by
        intro h
        have : b.toNat = 95 := by omega
        simp [this] at h3
      simp [h1, h2, h4]
theorem implName_ev (s : ByteArray) : Ev (fun k => impl_NameOK.f k s) (nameR (bl s)) := by
  by_cases h : 1 ≤ s.size ∧ s.size ≤ 40
  · have hlt : 0 < (bl s).length := by rw [← bl_size]; omega
    have hhd : (bl s).head? = some (bl s)[0] := by rw [List.head?_eq_getElem?, List.getElem?_eq_getElem hlt]
    have e : nameR (bl s) = (!(isDig ((bl s)[0]).toNat) && (bl s).all nameB) := by
      unfold nameR
      rw [hhd, ← bl_size]
      simp [h]
    have hf : ∀ k, impl_NameOK.f k s = impl_NameOK.j0 k s (isDig ((bl s)[0]).toNat) := fun k => by
      simp only [impl_NameOK.f, within_eq, Option.bind_some]
      rw [if_pos (by simp; omega), if_pos (by omega)]
      have := bt_eq s 0 hlt
      rw [show ((0 : Nat) : Int) = 0 from rfl] at this
      rw [this, implDigit_eq]
      rfl
    refine Ev.congr hf ?_
    rw [e]
    cases hd : isDig ((bl s)[0]).toNat with
    | true =>
      refine Ev.step (f := fun _ => some _) (fun k => ?_) (Ev.now _)
      simp [impl_NameOK.j0]
    | false =>
      refine Ev.step (f := fun k => impl_NameOK.l0 k s (s.size : Int) ((0 : Nat) : Int)) (fun k => ?_) (implName_l0 s (by rw [← bl_size]; exact h.2) (bl s).length 0 (by omega))
      simp [impl_NameOK.j0]
  · have e : nameR (bl s) = false := by
      unfold nameR
      rw [← bl_size]
      simp only [decide_eq_false h, Bool.false_and]
    rw [e]
    refine Ev.congr (f := fun k => impl_NameOK.j0 k s true) (fun k => ?_) ?_
    · simp only [impl_NameOK.f, within_eq, Option.bind_some]
      rw [if_neg (by simp; omega)]
    · refine Ev.step (f := fun _ => some _) (fun k => ?_) (Ev.now _)
      simp [impl_NameOK.j0]
theorem specName_l0 (s : ByteArray) (hs : (bl s).length ≤ 40) : ∀ (d i : Nat), i + d = (bl s).length →
    Ev (fun k => spec_l00Word.l0 k s (i : Int)) (((bl s).drop i).all nameB) := by
  intro d
  induction d with
  | zero =>
    intro i hi
    rw [List.drop_eq_nil_of_le (by omega)]
    refine Ev.step (f := fun _ => some _) (fun k => ?_) (Ev.now _)
    simp only [spec_l00Word.l0]
    rw [if_neg (by rw [bl_size]; omega)]
    rfl
  | succ d ih =>
    intro i hi
    have hlt : i < (bl s).length := by omega
    have hz : i < s.size := by rw [bl_size]; exact hlt
    have hbt := bt_eq s i hlt
    rw [List.drop_eq_getElem_cons hlt, List.all_cons]
    generalize (bl s)[i]'hlt = b at hbt ⊢
    have hn : nameB b = ((isLet b.toNat || (b.toNat : Int) == 95) || isDig b.toNat) := by
      unfold nameB
      have : ((b.toNat : Int) == 95) = (b.toNat == 95) := by
        rw [Bool.eq_iff_iff]; simp; omega
      rw [this]
      cases isLet b.toNat <;> cases isDig b.toNat <;> simp
    rw [hn]
    cases h1 : (isLet b.toNat || (b.toNat : Int) == 95) with
    | true =>
      rw [Bool.true_or, Bool.true_and]
      refine Ev.step (f := fun k => spec_l00Word.l0 k s ((i + 1 : Nat) : Int)) (fun k => ?_) (ih (i + 1) (by omega))
      simp only [spec_l00Word.l0]
      rw [if_pos (by omega), if_pos (by omega), hbt, w64s i (by omega)]
      simp only [specLetter_eq, Option.bind_some, h1, if_true]
    | false =>
      rw [Bool.false_or]
      cases h2 : isDig b.toNat with
      | true =>
        rw [Bool.true_and]
        refine Ev.step (f := fun k => spec_l00Word.l0 k s ((i + 1 : Nat) : Int)) (fun k => ?_) (ih (i + 1) (by omega))
        simp only [spec_l00Word.l0]
        rw [if_pos (by omega), if_pos (by omega), hbt, w64s i (by omega)]
        simp only [specLetter_eq, specDigit_eq, Option.bind_some, h1, h2, if_true]
        rfl
      | false =>
        rw [Bool.false_and]
        refine Ev.step (f := fun _ => some _) (fun k => ?_) (Ev.now _)
        simp only [spec_l00Word.l0]
        rw [if_pos (by omega), if_pos (by omega), hbt]
        simp only [specLetter_eq, specDigit_eq, Option.bind_some, h1, h2]
        rfl
theorem specName_ev (s : ByteArray) : Ev (fun k => spec_NameOK.f k s) (nameR (bl s)) := by
  suffices h : Ev (fun k => spec_l00Word.f k s) (nameR (bl s)) by
    obtain ⟨K, h⟩ := h
    exact ⟨K, fun k hk => by simp only [spec_NameOK.f, h k hk]; rfl⟩
  by_cases h : 1 ≤ s.size ∧ s.size ≤ 40
  · have hlt : 0 < (bl s).length := by rw [← bl_size]; omega
    have hhd : (bl s).head? = some (bl s)[0] := by rw [List.head?_eq_getElem?, List.getElem?_eq_getElem hlt]
    have e : nameR (bl s) = (!(isDig ((bl s)[0]).toNat) && (bl s).all nameB) := by
      unfold nameR
      rw [hhd, ← bl_size]
      simp [h]
    have hf : ∀ k, spec_l00Word.f k s = spec_l00Word.j0 k s (!(isLet ((bl s)[0]).toNat || (((bl s)[0]).toNat : Int) == 95)) := fun k => by
      simp only [spec_l00Word.f]
      rw [if_neg (by omega), if_neg (by omega), if_pos (by omega)]
      have := bt_eq s 0 hlt
      rw [show ((0 : Nat) : Int) = 0 from rfl] at this
      rw [this, specLetter_eq]
      rfl
    refine Ev.congr hf ?_
    have hall : (bl s).all nameB = (nameB (bl s)[0] && ((bl s).drop 1).all nameB) := by
      have := List.drop_eq_getElem_cons hlt
      rw [List.drop_zero] at this
      conv => lhs; rw [this]
      rfl
    rw [e, hall]
    have h95 : ((((bl s)[0]).toNat : Int) == 95) = (((bl s)[0]).toNat == 95) := by
      rw [Bool.eq_iff_iff]; simp; omega
    have hx : isDig ((bl s)[0]).toNat = true → (isLet ((bl s)[0]).toNat || (((bl s)[0]).toNat : Int) == 95) = false := by
      unfold isDig isLet
      simp
      omega
    cases hl : (isLet ((bl s)[0]).toNat || (((bl s)[0]).toNat : Int) == 95) with
    | true =>
      have hd : isDig ((bl s)[0]).toNat = false := by
        cases hd : isDig ((bl s)[0]).toNat with
        | true => rw [hx hd] at hl; cases hl
        | false => rfl
      have hn : nameB (bl s)[0] = true := by
        unfold nameB
        rw [← h95]
        revert hl
        cases isLet ((bl s)[0]).toNat <;> simp [hd]
      rw [hd, hn]
      simp only [Bool.not_false, Bool.true_and]
      refine Ev.step (f := fun k => spec_l00Word.l0 k s ((1 : Nat) : Int)) (fun k => ?_) (specName_l0 s (by rw [← bl_size]; exact h.2) ((bl s).length - 1) 1 (by omega))
      simp [spec_l00Word.j0]
    | false =>
      have hn : (!(isDig ((bl s)[0]).toNat) && (nameB (bl s)[0] && ((bl s).drop 1).all nameB)) = false := by
        cases hd : isDig ((bl s)[0]).toNat with
        | true => rfl
        | false =>
          have : nameB (bl s)[0] = false := by
            unfold nameB
            rw [← h95]
            revert hl
            cases isLet ((bl s)[0]).toNat <;> simp [hd]
          rw [this]
          rfl
      rw [hn]
      refine Ev.step (f := fun _ => some _) (fun k => ?_) (Ev.now _)
      simp [spec_l00Word.j0]
  · have e : nameR (bl s) = false := by
      unfold nameR
      rw [← bl_size]
      simp only [decide_eq_false h, Bool.false_and]
    rw [e]
    refine Ev.congr (f := fun k => spec_l00Word.j0 k s true) (fun k => ?_) ?_
    · simp only [spec_l00Word.f]
      by_cases h1 : (s.size : Int) < 1
      · rw [if_pos h1]
      · rw [if_neg h1, if_pos (by omega)]
    · refine Ev.step (f := fun _ => some _) (fun k => ?_) (Ev.now _)
      simp [spec_l00Word.j0]
end Go.Proofs.Ytejdnbdppgakeaa.P
/- Lemmas of mine: the two MutationOK tell the same. Plain. -/
set_option linter.unusedVariables false
set_option linter.unusedSimpArgs false
namespace Go.Proofs.Ytejdnbdppgakeaa.P
open Go.RowKit Go.Proofs.YtejdnbdppgakeaaW.PrintWords
/-- A right item. -/
def itemR (x : S96) : Bool := decide (1 ≤ x.f0.size ∧ x.f0.size ≤ 200 ∧ x.f1.size ≤ 4000)
/-- What a mutation of a kind has. -/
def mutKind (kind uid mode flags : Int) (n : Nat) : Bool :=
  if kind = 1 ∨ kind = 4 then decide (uid = 0 ∧ mode = 0 ∧ flags = 0 ∧ n = 0)
  else if kind = 2 then decide (uid = 0 ∧ mode = 0 ∧ flags = 0 ∧ 0 < n)
  else if kind = 3 then decide (n = 0 ∧ (1 ≤ uid ∧ uid ≤ 1000) ∧ (1 ≤ mode ∧ mode ≤ 3) ∧ (0 ≤ flags ∧ flags ≤ 31))
  else false
/-- A right mutation. -/
def mutR (kind uid mode flags : Int) (box : ByteArray) (items : List S96) : Bool := nameR (bl box) && decide (items.length ≤ 20) && items.all itemR && mutKind kind uid mode flags items.length
theorem specMut_j2 (k : Nat) (kind uid mode flags : Int) (box : ByteArray) (items : List S96) (b : Bool) (hb : b = decide (kind = 1 ∨ kind = 4)) :
    spec_MutationOK.j2 (k + 1) kind b kind uid mode flags box items = some (mutKind kind uid mode flags items.length) := by
  subst hb
  obtain ⟨n, hn⟩ : ∃ n, items.length = n := ⟨_, rfl⟩
  have e0 : ((n : Int) == 0) = decide (n = 0) := by rw [Bool.eq_iff_iff]; simp
  have e1 : decide ((n : Int) > 0) = decide (0 < n) := by rw [Bool.eq_iff_iff]; simp
  simp only [spec_MutationOK.j2, l01In_eq, bS, decide_eq_true_eq, mutKind, hn, e0, e1]
  by_cases h1 : kind = 1 ∨ kind = 4
  · rw [if_pos h1, if_pos h1]
    by_cases a : uid = 0 <;> by_cases b : mode = 0 <;> by_cases c : flags = 0 <;> simp [a, b, c, e0]
  · rw [if_neg h1, if_neg h1]
    by_cases h2 : kind = 2
    · rw [if_pos h2, if_pos h2]
      by_cases a : uid = 0 <;> by_cases b : mode = 0 <;> by_cases c : flags = 0 <;> simp [a, b, c, e1]
    · rw [if_neg h2, if_neg h2]
      by_cases h3 : kind = 3
      · rw [if_pos h3, if_pos h3]
        by_cases a : 1 ≤ uid ∧ uid ≤ 1000 <;> by_cases b : 1 ≤ mode ∧ mode ≤ 3 <;> by_cases c : 0 ≤ flags ∧ flags ≤ 31 <;> simp [a, b, c, e0]
      · rw [if_neg h3, if_neg h3]
theorem implMut_j2 (k : Nat) (kind uid mode flags : Int) (box : ByteArray) (items : List S96) (b : Bool) (hb : b = decide (kind = 1 ∨ kind = 4)) (z : Bool) (hz : z = decide (uid = 0 ∧ mode = 0 ∧ flags = 0)) :
    impl_MutationOK.j2 (k + 1) z kind b kind uid mode flags box items = some (mutKind kind uid mode flags items.length) := by
  subst hb
  subst hz
  obtain ⟨n, hn⟩ : ∃ n, items.length = n := ⟨_, rfl⟩
  have e0 : ((n : Int) == 0) = decide (n = 0) := by rw [Bool.eq_iff_iff]; simp
  have e1 : decide ((n : Int) > 0) = decide (0 < n) := by rw [Bool.eq_iff_iff]; simp
  have e2 : ((n : Int) = 0) = (n = 0) := by simp
  simp only [impl_MutationOK.j2, within_eq, bS, decide_eq_true_eq, mutKind, hn, e0, e1, e2]
  by_cases h1 : kind = 1 ∨ kind = 4
  · rw [if_pos h1, if_pos h1]
    by_cases a : uid = 0 <;> by_cases b : mode = 0 <;> by_cases c : flags = 0 <;> simp [a, b, c, e0]
  · rw [if_neg h1, if_neg h1]
    by_cases h2 : kind = 2
    · rw [if_pos h2, if_pos h2]
      by_cases a : uid = 0 <;> by_cases b : mode = 0 <;> by_cases c : flags = 0 <;> simp [a, b, c, e1]
    · rw [if_neg h2, if_neg h2]
      by_cases h3 : kind = 3
      · rw [if_pos h3, if_pos h3]
        by_cases d : n = 0 <;> by_cases a : 1 ≤ uid ∧ uid ≤ 1000 <;> by_cases b : 1 ≤ mode ∧ mode ≤ 3 <;> by_cases c : 0 ≤ flags ∧ flags ≤ 31 <;> simp [a, b, c, d]
      · rw [if_neg h3, if_neg h3]
theorem specMut_tail (kind uid mode flags : Int) (box : ByteArray) (items : List S96) (hn : items.length ≤ 20) :
    ∀ (d i : Nat), i + d = items.length → Ev (fun k => spec_MutationOK.l0 k (i : Int) kind uid mode flags box items) ((items.drop i).all itemR && mutKind kind uid mode flags items.length) := by
  intro d
  induction d with
  | zero =>
    intro i hi
    rw [List.drop_eq_nil_of_le (by omega)]
    refine ⟨2, fun k hk => ?_⟩
    obtain ⟨m, rfl⟩ : ∃ m, k = m + 1 + 1 := ⟨k - 2, by omega⟩
    simp only [spec_MutationOK.l0, List.all_nil, Bool.true_and]
    rw [if_neg (by omega)]
    by_cases h1 : kind = 1
    · rw [if_pos h1]
      exact specMut_j2 m kind uid mode flags box items _ (by rw [Bool.eq_iff_iff]; simp [h1])
    · rw [if_neg h1]
      exact specMut_j2 m kind uid mode flags box items _ (by rw [Bool.eq_iff_iff]; simp [h1])
  | succ d ih =>
    intro i hi
    have hlt : i < items.length := by omega
    rw [List.drop_eq_getElem_cons hlt, List.all_cons]
    have e : ∀ k, spec_MutationOK.l0 (k + 1) (i : Int) kind uid mode flags box items = if itemR (items[i]'hlt) = true then spec_MutationOK.l0 k ((i + 1 : Nat) : Int) kind uid mode flags box items else some false := fun k => by
      simp only [spec_MutationOK.l0, rd_T96, getD_nat items _ i hlt, l01In_eq, bS, decide_eq_true_eq]
      rw [if_pos (by omega), if_pos (by omega), w64s i (by omega)]
      generalize items[i]'hlt = x
      unfold itemR
      by_cases h1 : 1 ≤ (x.f0.size : Int) ∧ (x.f0.size : Int) ≤ 200
      · rw [if_pos h1]
        by_cases h2 : (x.f1.size : Int) > 4000
        · rw [if_pos h2, if_neg (by simp; omega)]
        · rw [if_neg h2, if_pos (by simp; omega)]
      · rw [if_neg h1, if_neg (by simp; omega)]
    cases hx : itemR (items[i]'hlt) with
    | true =>
      rw [Bool.true_and]
      exact Ev.step (f := fun k => spec_MutationOK.l0 k ((i + 1 : Nat) : Int) kind uid mode flags box items) (fun k => by rw [e, if_pos hx]) (ih (i + 1) (by omega))
    | false =>
      simp only [Bool.false_and]
      exact Ev.step (f := fun _ => some _) (fun k => by rw [e, if_neg (by rw [hx]; decide)]) (Ev.now _)
theorem specMut_ev (kind uid mode flags : Int) (box : ByteArray) (items : List S96) : Ev (fun k => spec_MutationOK.f k kind uid mode flags box items) (mutR kind uid mode flags box items) := by
  obtain ⟨K, hK⟩ := specName_ev box
  unfold mutR
  cases hb : nameR (bl box) with
  | false =>
    refine ⟨K + 1, fun k hk => ?_⟩
    obtain ⟨m, rfl⟩ : ∃ m, k = m + 1 := ⟨k - 1, by omega⟩
    simp only [spec_MutationOK.f, hK (m + 1) (by omega), hb, bS, Bool.false_and]
    rw [if_neg (by decide)]
    simp only [spec_MutationOK.j0, if_true]
  | true =>
    by_cases hn : items.length ≤ 20
    · obtain ⟨K2, h2⟩ := specMut_tail kind uid mode flags box items hn items.length 0 (by omega)
      rw [List.drop_zero] at h2
      refine ⟨K + K2 + 1, fun k hk => ?_⟩
      obtain ⟨m, rfl⟩ : ∃ m, k = m + 1 := ⟨k - 1, by omega⟩
      simp only [spec_MutationOK.f, hK (m + 1) (by omega), hb, bS, decide_eq_true hn, Bool.true_and]
      rw [if_pos trivial, decide_eq_false (by omega)]
      simp only [spec_MutationOK.j0]
      rw [if_neg (by decide)]
      exact h2 m (by omega)
    · refine ⟨K + 1, fun k hk => ?_⟩
      obtain ⟨m, rfl⟩ : ∃ m, k = m + 1 := ⟨k - 1, by omega⟩
      simp only [spec_MutationOK.f, hK (m + 1) (by omega), hb, bS, decide_eq_false hn, Bool.true_and, Bool.false_and]
      rw [if_pos trivial, decide_eq_true (by omega)]
      simp only [spec_MutationOK.j0, if_true]
theorem implItem_L (x : S96) : impl_MutationOK_L1.f x.f0 x.f1 = some (!itemR x) := by
  simp only [impl_MutationOK_L1.f, impl_itemOK.f, impl_keyOK.f, within_eq, bS, decide_eq_true_eq, itemR]
  by_cases h1 : 1 ≤ (x.f0.size : Int) ∧ (x.f0.size : Int) ≤ 200
  · rw [if_pos h1, bS]
    congr 2
    rw [decide_eq_decide]
    omega
  · rw [if_neg h1, bS]
    congr 2
    exact (decide_eq_false (by omega)).symm
theorem implItems_eq (items : List S96) (h : items.length ≤ 20) : slices_ContainsFunc_Item_at_impl_MutationOK_L1.f items = some (!items.all itemR) := by
  have e : (fun x : S96 => (impl_MutationOK_L1.f x.f0 x.f1) == some true) = fun x => !itemR x := by
    funext x
    rw [implItem_L]
    cases itemR x <;> rfl
  unfold slices_ContainsFunc_Item_at_impl_MutationOK_L1.f
  rw [if_pos ⟨by omega, by rw [List.all_eq_true]; intro x _; rw [implItem_L]; rfl⟩, e, List.not_all_eq_any_not]
theorem implMut_ev (kind uid mode flags : Int) (box : ByteArray) (items : List S96) : Ev (fun k => impl_MutationOK.f k kind uid mode flags box items) (mutR kind uid mode flags box items) := by
  obtain ⟨K, hK⟩ := implName_ev box
  unfold mutR
  cases hb : nameR (bl box) with
  | false =>
    refine ⟨K + 1, fun k hk => ?_⟩
    obtain ⟨m, rfl⟩ : ∃ m, k = m + 1 := ⟨k - 1, by omega⟩
    simp only [impl_MutationOK.f, hK (m + 1) (by omega), hb, bS, Bool.false_and]
    rw [if_neg (by decide)]
    simp only [impl_MutationOK.j0, if_true]
  | true =>
    by_cases hn : items.length ≤ 20
    · refine ⟨K + 4, fun k hk => ?_⟩
      obtain ⟨m, rfl⟩ : ∃ m, k = m + 1 + 1 + 1 := ⟨k - 3, by omega⟩
      simp only [impl_MutationOK.f, hK (m + 1 + 1 + 1) (by omega), hb, bS, decide_eq_true hn, Bool.true_and, implItems_eq items hn]
      rw [if_pos trivial, if_neg (by omega)]
      simp only [impl_MutationOK.j0]
      cases ha : items.all itemR with
      | false =>
        rw [if_pos (by decide)]
        rfl
      | true =>
        rw [if_neg (by decide), Bool.true_and]
        have hj : ∀ z : Bool, z = decide (uid = 0 ∧ mode = 0 ∧ flags = 0) → impl_MutationOK.j1 (m + 1 + 1) z kind uid mode flags box items = some (mutKind kind uid mode flags items.length) := fun z hz => by
          simp only [impl_MutationOK.j1]
          by_cases h1 : kind = 1
          · rw [if_pos h1]
            exact implMut_j2 m kind uid mode flags box items _ (by rw [Bool.eq_iff_iff]; simp [h1]) z hz
          · rw [if_neg h1]
            exact implMut_j2 m kind uid mode flags box items _ (by rw [Bool.eq_iff_iff]; simp [h1]) z hz
        by_cases hu : uid = 0
        · rw [if_pos hu]
          by_cases hm : mode = 0
          · rw [if_pos hm]
            exact hj _ (by rw [Bool.eq_iff_iff]; simp [hu, hm])
          · rw [if_neg hm]
            exact hj _ (by rw [Bool.eq_iff_iff]; simp [hu, hm])
        · rw [if_neg hu]
          exact hj _ (by rw [Bool.eq_iff_iff]; simp [hu])
    · refine ⟨K + 1, fun k hk => ?_⟩
      obtain ⟨m, rfl⟩ : ∃ m, k = m + 1 := ⟨k - 1, by omega⟩
      simp only [impl_MutationOK.f, hK (m + 1) (by omega), hb, bS, decide_eq_false hn, Bool.true_and, Bool.false_and]
      rw [if_pos trivial, if_pos (by omega)]
      simp only [impl_MutationOK.j0, if_true]
end Go.Proofs.Ytejdnbdppgakeaa.P
/- Lemmas of mine: the laws' copies of items and mutations: copied, the same, counted. Plain. -/
set_option linter.unusedVariables false
set_option linter.unusedSimpArgs false
namespace Go.Proofs.Ytejdnbdppgakeaa.P
open Go.RowKit Go.Proofs.YtejdnbdppgakeaaW.PrintWords
def itM (x : S115) : S96 := ⟨x.f0, x.f1⟩
theorem toItemS_ev (xs : List S115) (h : xs.length ≤ 8796093022208) : Ev (fun k => laws_toItemS.f k xs) (xs.map itM) := by
  refine Ev.congr (f := fun k => laws_toItemS.l0 k xs (List.replicate xs.length z96) ((0 : Nat) : Int)) (fun k => ?_)
    (copy_loop (fun k ys i => laws_toItemS.l0 k xs ys i) xs itM ?_ ?_ xs.length 0 _ (by omega) (by simp) (by simp))
  · simp only [laws_toItemS.f, Int.toNat_natCast]
    rw [if_pos (by omega), if_pos h]
    rfl
  · intro i ys hi hl
    refine ⟨0, fun k _ => ?_⟩
    simp only [laws_toItemS.l0, laws_toItem.f, rd_T115, getD_nat xs _ i hi, bS]
    rw [if_pos (by omega), if_pos (by omega), if_pos (by omega), w64s i (by omega), Int.toNat_natCast]
    rfl
  · intro ys hl
    refine ⟨0, fun k _ => ?_⟩
    simp only [laws_toItemS.l0]
    rw [if_neg (by omega)]
theorem eqItemS_self (ys : List S96) (h : ys.length ≤ 4611686018427387904) : Ev (fun k => laws_eqItemS.f k ys ys) true := by
  refine Ev.congr (f := fun k => laws_eqItemS.l0 k ys ys ((0 : Nat) : Int)) (fun k => ?_)
    (up_loop (fun k i => laws_eqItemS.l0 k ys ys i) ys.length true ?_ ⟨0, fun k _ => ?_⟩ ys.length 0 (by omega))
  · unfold laws_eqItemS.f
    exact if_pos rfl
  · intro i hi
    refine ⟨0, fun k _ => ?_⟩
    simp only [laws_eqItemS.l0, laws_eqItem.f, if_true, bS]
    rw [if_pos (by omega), if_pos (by omega), if_pos (by omega), w64s i (by omega)]
  · simp only [laws_eqItemS.l0]
    rw [if_neg (by omega)]
theorem szItem_some (a b : ByteArray) (n : Int) : ∃ z, laws_szItem.f a b n = some z := by
  unfold laws_szItem.f
  split
  · exact ⟨_, rfl⟩
  · split <;> exact ⟨_, rfl⟩
theorem szItemS_some (xs : List S115) (h : xs.length ≤ 4611686018427387904) (n : Int) : ∃ z, Ev (fun k => laws_szItemS.f k xs n) z := by
  by_cases h0 : wrap64 (n - (xs.length : Int)) < 0
  · exact ⟨-1, 0, fun k _ => by simp only [laws_szItemS.f]; rw [if_pos h0]⟩
  · obtain ⟨z, hz, _⟩ := st_loop (fun k s i => laws_szItemS.l0 k xs s i) xs.length (fun _ _ _ => True) (fun i s hi => by
        obtain ⟨z, hz⟩ := szItem_some (xs[i]'hi).f0 (xs[i]'hi).f1 s
        have e : ∀ k, laws_szItemS.l0 (k + 1) xs s (i : Int) = if z < 0 then some (-1) else laws_szItemS.l0 k xs z ((i + 1 : Nat) : Int) := fun k => by
          simp only [laws_szItemS.l0, rd_T115, getD_nat xs _ i hi, hz, bS]
          rw [if_pos (by omega), if_pos (by omega), w64s i (by omega)]
        by_cases hn : z < 0
        · exact .inl ⟨-1, ⟨0, fun k _ => by rw [e, if_pos hn]⟩, trivial⟩
        · exact .inr ⟨z, ⟨0, fun k _ => by rw [e, if_neg hn]⟩, fun _ _ => trivial⟩)
      (fun s => ⟨s, ⟨0, fun k _ => by simp only [laws_szItemS.l0]; rw [if_neg (by omega)]⟩, trivial⟩) xs.length 0 (wrap64 (n - (xs.length : Int))) (by omega)
    exact ⟨z, Ev.congr (fun k => by simp only [laws_szItemS.f]; rw [if_neg h0]; rfl) hz⟩
theorem szMut_some (a b c d : Int) (s : ByteArray) (xs : List S115) (h : xs.length ≤ 4611686018427387904) (n : Int) : ∃ z, Ev (fun k => laws_szMutation.f k a b c d s xs n) z := by
  by_cases h0 : wrap64 (n - (s.size : Int)) < 0
  · exact ⟨-1, 0, fun k _ => by simp only [laws_szMutation.f]; rw [if_pos h0]⟩
  · obtain ⟨z, K, hz⟩ := szItemS_some xs h (wrap64 (n - (s.size : Int)))
    by_cases hn : z < 0
    · exact ⟨-1, K, fun k hk => by simp only [laws_szMutation.f, hz k hk, bS]; rw [if_neg h0, if_pos hn]⟩
    · exact ⟨z, K, fun k hk => by simp only [laws_szMutation.f, hz k hk, bS]; rw [if_neg h0, if_neg hn]⟩
theorem toMut_ev (a b c d : Int) (s : ByteArray) (xs : List S115) (h : xs.length ≤ 8796093022208) : Ev (fun k => laws_toMutation.f k a b c d s xs) (a, b, c, d, s, xs.map itM) := by
  obtain ⟨K, hK⟩ := toItemS_ev xs h
  exact ⟨K, fun k hk => by simp only [laws_toMutation.f, hK k hk, bS]⟩
theorem eqMut_self (a b c d : Int) (s : ByteArray) (ys : List S96) (h : ys.length ≤ 4611686018427387904) : Ev (fun k => laws_eqMutation.f k a b c d s ys a b c d s ys) true := by
  obtain ⟨K, hK⟩ := eqItemS_self ys h
  exact ⟨K, fun k hk => by simp only [laws_eqMutation.f, hK k hk, bS, if_true]⟩
end Go.Proofs.Ytejdnbdppgakeaa.P
/- The pure statement of the law FnExactMutationOK: the two MutationOK tell the same. No condition. -/
set_option linter.unusedVariables false
set_option linter.unusedSimpArgs false
namespace Go.Proofs.Ytejdnbdppgakeaa.Pure
open Go.RowKit Go.Proofs.Ytejdnbdppgakeaa.P Go.Proofs.YtejdnbdppgakeaaW.PrintWords
theorem FnExactMutationOK : laws_FnExactMutationOK.Pure := by
  intro x hx
  obtain ⟨_, _, _, _, _, _, hl, _⟩ := hx
  obtain ⟨z, K0, h0⟩ := szMut_some x.f0 x.f1 x.f2 x.f3 x.f4 x.f5 (by omega) 1048576
  obtain ⟨K1, h1⟩ := toMut_ev x.f0 x.f1 x.f2 x.f3 x.f4 x.f5 (by omega)
  obtain ⟨K2, h2⟩ := specMut_ev x.f0 x.f1 x.f2 x.f3 x.f4 (x.f5.map itM)
  obtain ⟨K3, h3⟩ := implMut_ev x.f0 x.f1 x.f2 x.f3 x.f4 (x.f5.map itM)
  obtain ⟨K4, h4⟩ := eqMut_self x.f0 x.f1 x.f2 x.f3 x.f4 (x.f5.map itM) (by rw [List.length_map]; omega)
  refine ⟨K0 + K1 + K2 + K3 + K4, ?_⟩
  have e0 := h0 (K0 + K1 + K2 + K3 + K4) (by omega)
  have e1 := h1 (K0 + K1 + K2 + K3 + K4) (by omega)
  have e2 := h2 (K0 + K1 + K2 + K3 + K4) (by omega)
  have e3 := h3 (K0 + K1 + K2 + K3 + K4) (by omega)
  have e4 := h4 (K0 + K1 + K2 + K3 + K4) (by omega)
  simp only at e0 e1 e2 e3 e4
  simp only [laws_FnExactMutationOK.f, e0, e1, e2, e3, e4, bS, if_true]
  split
  · rfl
  · simp
end Go.Proofs.Ytejdnbdppgakeaa.Pure
/- The row of the law FnExactMutationOK: for every input the call returns true and each argument reads behind the call as it read before. No condition of mine. -/
namespace Go.Proofs.Ytejdnbdppgakeaa.fnExactMutationOK
open Go.ChangeShapes Go.WideShapes Go.ChangeAt Go.RowKit Go.Proofs.Ytejdnbdppgakeaa.P Go.Proofs.YtejdnbdppgakeaaW.PrintWords
open Go.ChangeMaps (open_string shut_string)
set_option linter.unusedVariables false
theorem own : ownKnob Try.prog.godebug = none := by kernel_rfl
theorem laidOut : laidOutB Try.prog = true := by kernel_rfl
set_option maxRecDepth 100000 in
theorem lifted (os : Os) (started : os.Started) (H : Type) (enc : TypeId × Value → H) :
    ReturnsInHanded {} Try.checked os 11 .any (Rows.fnExactMutationOKSpec.pre6 enc Try.prog Try.f11 Rows.fnExactMutationOKRow.domain false) (Rows.fnExactMutationOKSpec.post enc Try.prog Try.f11 false true false false) := by
  refine returnsInHanded_of_change_sized (C := Try.checked) own started (by kernel_rfl) Try.func11
    (ChangeSpec.witness6 (enc := enc) (C := Try.checked) false ⟨#[], #[.agg #[.int .i64 0, .int .i64 0, .int .i64 0, .int .i64 0, .string ByteArray.empty, .slice none 0 0]], []⟩ 8 (by kernel_rfl) (by kernel_rfl) (by kernel_rfl) (by kernel_rfl)) ?_
  intro W base args ds gs before hval0 hW hcnd hsz0 _
  have hsz : (DataW.weightsEach Try.prog (Try.f11.params.toList ++ Rows.fnExactMutationOKSpec.plain.varTypes Try.prog) (ds ++ gs)).all (· ≤ reachBytes) = true := hsz0
  have hval : ∀ (j : Nat) t v, Try.f11.params[j]? = some t → args[j]? = some v → Value.okWide Try.prog W .any base t v := hval0
  have hW' := hW
  obtain ⟨p, q, hA0, hV, rfl, hfz, hnd⟩ := hW
  have hA : DataW.TrodAll enc Try.prog W 0 (fun _ => true) true Try.f11.params.toList args.toList ds p := hA0
  rw [Try.params11] at hA hval hsz
  obtain ⟨v0, vs0, d0, ds0, p0, q0, hargs, rfl, rfl, h0, r0⟩ := trodAll_cons hA
  obtain ⟨rfl, rfl, rfl⟩ := trodAll_nil r0
  obtain rfl : args = #[v0] := by cases args; simp_all
  obtain ⟨rfl, rfl⟩ := trodVars_none hV
  have kk0 := h0
  have lt0 : ∀ x ∈ p0, x.block < W.heap.size := by obtain ⟨m, hm⟩ := kk0; exact DataW.trod_lt m _ _ _ hm
  obtain ⟨x0, hK0, hS0⟩ := Tells.arg tells60 h0 hsz (j := 0) (t := 60) rfl rfl
  obtain ⟨cs0, rfl, _⟩ := okWide_struct Try.underlying60 (hval 0 60 v0 rfl rfl)
  obtain ⟨A0_5, c0_5, hq0, hl0_5, hC0_5⟩ := k60_open hK0
  obtain rfl : cs0 = #[.int .i64 x0.f0, .int .i64 x0.f1, .int .i64 x0.f2, .int .i64 x0.f3, .string x0.f4, .slice A0_5 x0.f5.length c0_5] := Array.toList_inj.1 (by simpa [Value.cells] using hq0)
  clear hA0 hval0 hsz0 hsz
  obtain ⟨k, h⟩ := Pure.FnExactMutationOK x0 hS0
  refine (laws_FnExactMutationOK.calls k x0.f0 x0.f1 x0.f2 x0.f3 x0.f4 _ _ x0.f5 true W hC0_5 hl0_5 h).mono fun e W' ⟨he, bel0⟩ => ?_
  have bel : Below W.heap.size W W' := bel0
  subst he
  exact ⟨_, rfl, _, _, _, [], _, [], hW', trodAll_mk1 (shut_bool Try.underlying4 _), (trodAll_cons_mk (Below.trod laidOut (by kernel_rfl) (of_decide_eq_true (by kernel_rfl)) kk0 bel lt0) trodAll_mk0), rfl, bel.frame _, fun h => by cases h⟩
theorem over : Rows.fnExactMutationOKRow.holds Try.pinned (OpenSpec.ofChange Rows.fnExactMutationOKSpec) :=
  OpenClaim.holds_of_wide 11 Try.f11 rfl rfl rfl rfl rfl rfl rfl ⟨rfl, rfl, rfl, rfl, rfl⟩ rfl rfl rfl rfl rfl (by kernel_rfl) Try.func11 (by kernel_rfl)
    (of_decide_eq_true (by kernel_rfl)) (by unfold Func.isWrapper; first | (rw [if_pos (by decide +kernel)]; kernel_rfl) | (rw [if_neg (by decide +kernel)]; exact ⟨rfl, rfl⟩))
    (fun os started H enc _ => lifted os started H enc)
theorem proved : Rows.FnExactMutationOKSaid := over
#print axioms proved
end Go.Proofs.Ytejdnbdppgakeaa.fnExactMutationOK
namespace Go.Proofs.Ytejdnbdppgakeaa
/-- The row, under a short name, for the claim. -/
theorem fnExactMutationOK_holds : Rows.FnExactMutationOKSaid := fnExactMutationOK.proved
end Go.Proofs.Ytejdnbdppgakeaa
