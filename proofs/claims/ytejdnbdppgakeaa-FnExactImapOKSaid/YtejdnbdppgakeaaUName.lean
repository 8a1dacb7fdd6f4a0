/- Lemmas of mine: the two NameOK tell the same. Plain. -/
import Derived.Test.YtejdnbdppgakeaaUBytes
import Derived.Test.YtejdnbdppgakeaaUBase
import Derived.Test.YtejdnbdppgakeaaF76
import Derived.Test.YtejdnbdppgakeaaF78
set_option linter.unusedVariables false
set_option linter.unusedSimpArgs false
namespace Go.Proofs.Ytejdnbdppgakeaa.P
open Go.RowKit Go.Proofs.YtejdnbdppgakeaaW.PrintWords
def isLet (c : Int) : Bool := decide (97 ≤ c ∧ c ≤ 122 ∨ 65 ≤ c ∧ c ≤ 90)
def isDig (c : Int) : Bool := decide (48 ≤ c ∧ c ≤ 57)
theorem implDigit_eq (c : Int) : impl_isDigit.f c = some (isDig c) := by
  unfold impl_isDigit.f isDig
  by_cases h : c ≥ 48 <;> simp [h] <;> omega
theorem specDigit_eq (c : Int) : spec_l00Digit.f c = some (isDig c) := implDigit_eq c
theorem implLetter_eq (c : Int) : impl_isLetter.f c = some (isLet c) := by
  unfold impl_isLetter.f isLet
  by_cases h1 : c ≥ 97 <;> by_cases h2 : c ≤ 122 <;> by_cases h3 : c ≥ 65 <;> by_cases h4 : c ≤ 90 <;> simp [h1, h2, h3, h4] <;> omega
theorem specLetter_eq (c : Int) : spec_l00Letter.f c = some (isLet c || c == 95) := by
  unfold spec_l00Letter.f isLet
  by_cases h1 : c ≥ 97 <;> by_cases h2 : c ≤ 122 <;> by_cases h3 : c ≥ 65 <;> by_cases h4 : c ≤ 90 <;> simp [h1, h2, h3, h4] <;> omega
/-- A byte of a name. -/
def nameB (b : UInt8) : Bool := isLet b.toNat || isDig b.toNat || b.toNat == 95
/-- A name. -/
def nameR (l : List UInt8) : Bool := decide (1 ≤ l.length ∧ l.length ≤ 40) && !(l.head?.any fun b => isDig b.toNat) && l.all nameB
theorem implName_l0 (s : ByteArray) (hs : (bl s).length ≤ 40) : ∀ (d i : Nat), i + d = (bl s).length →
    Ev (fun k => impl_NameOK.l0 k s (s.size : Int) (i : Int)) (((bl s).drop i).all nameB) := by
  intro d
  induction d with
  | zero =>
    intro i hi
    rw [List.drop_eq_nil_of_le (by omega)]
    refine Ev.step (f := fun _ => some _) (fun k => ?_) (Ev.now _)
    simp only [impl_NameOK.l0]
    rw [if_neg (by rw [bl_size]; omega)]
    rfl
  | succ d ih =>
    intro i hi
    have hlt : i < (bl s).length := by omega
    have hz : i < s.size := by rw [bl_size]; exact hlt
    have hbt := bt_eq s i hlt
    rw [List.drop_eq_getElem_cons hlt, List.all_cons]
    generalize (bl s)[i]'hlt = b at hbt ⊢
    by_cases hc : nameB b = true
    · rw [hc, Bool.true_and]
      refine Ev.step (f := fun k => impl_NameOK.l0 k s (s.size : Int) ((i + 1 : Nat) : Int)) (fun k => ?_) (ih (i + 1) (by omega))
      simp only [impl_NameOK.l0]
      rw [if_pos (by omega), if_pos (by omega), if_pos (by omega), hbt, w64s i (by omega)]
      simp only [implLetter_eq, implDigit_eq, Option.bind_some]
      unfold nameB at hc
      cases h1 : isLet b.toNat with
      | true => rfl
      | false =>
        cases h2 : isDig b.toNat with
        | true => rfl
        | false =>
          have h3 : b.toNat = 95 := by simpa [h1, h2] using hc
          simp [h3]
    · have hc' : nameB b = false := by simpa using hc
      rw [hc', Bool.false_and]
      refine Ev.step (f := fun _ => some _) (fun k => ?_) (Ev.now _)
      simp only [impl_NameOK.l0]
      rw [if_pos (by omega), if_pos (by omega), if_pos (by omega), hbt]
      simp only [implLetter_eq, implDigit_eq, Option.bind_some]
      unfold nameB at hc'
      simp only [Bool.or_eq_false_iff] at hc'
      obtain ⟨⟨h1, h2⟩, h3⟩ := hc'
      have h4 : ¬ (b.toNat : Int) = 95 := by
        intro h
        have : b.toNat = 95 := by omega
        simp [this] at h3
      simp [h1, h2, h4]
theorem implName_ev (s : ByteArray) : Ev (fun k => impl_NameOK.f k s) (nameR (bl s)) := by
  by_cases h : 1 ≤ s.size ∧ s.size ≤ 40
  · have hlt : 0 < (bl s).length := by rw [← bl_size]; omega
    have hhd : (bl s).head? = some (bl s)[0] := by rw [List.head?_eq_getElem?, List.getElem?_eq_getElem hlt]
    have e : nameR (bl s) = (!(isDig ((bl s)[0]).toNat) && (bl s).all nameB) := by
      unfold nameR
      rw [hhd, ← bl_size]
      simp [h]
    have hf : ∀ k, impl_NameOK.f k s = impl_NameOK.j0 k s (isDig ((bl s)[0]).toNat) := fun k => by
      simp only [impl_NameOK.f, within_eq, Option.bind_some]
      rw [if_pos (by simp; omega), if_pos (by omega)]
      have := bt_eq s 0 hlt
      rw [show ((0 : Nat) : Int) = 0 from rfl] at this
      rw [this, implDigit_eq]
      rfl
    refine Ev.congr hf ?_
    rw [e]
    cases hd : isDig ((bl s)[0]).toNat with
    | true =>
      refine Ev.step (f := fun _ => some _) (fun k => ?_) (Ev.now _)
      simp [impl_NameOK.j0]
    | false =>
      refine Ev.step (f := fun k => impl_NameOK.l0 k s (s.size : Int) ((0 : Nat) : Int)) (fun k => ?_) (implName_l0 s (by rw [← bl_size]; exact h.2) (bl s).length 0 (by omega))
      simp [impl_NameOK.j0]
  · have e : nameR (bl s) = false := by
      unfold nameR
      rw [← bl_size]
      simp only [decide_eq_false h, Bool.false_and]
    rw [e]
    refine Ev.congr (f := fun k => impl_NameOK.j0 k s true) (fun k => ?_) ?_
    · simp only [impl_NameOK.f, within_eq, Option.bind_some]
      rw [if_neg (by simp; omega)]
    · refine Ev.step (f := fun _ => some _) (fun k => ?_) (Ev.now _)
      simp [impl_NameOK.j0]
theorem specName_l0 (s : ByteArray) (hs : (bl s).length ≤ 40) : ∀ (d i : Nat), i + d = (bl s).length →
    Ev (fun k => spec_l00Word.l0 k s (i : Int)) (((bl s).drop i).all nameB) := by
  intro d
  induction d with
  | zero =>
    intro i hi
    rw [List.drop_eq_nil_of_le (by omega)]
    refine Ev.step (f := fun _ => some _) (fun k => ?_) (Ev.now _)
    simp only [spec_l00Word.l0]
    rw [if_neg (by rw [bl_size]; omega)]
    rfl
  | succ d ih =>
    intro i hi
    have hlt : i < (bl s).length := by omega
    have hz : i < s.size := by rw [bl_size]; exact hlt
    have hbt := bt_eq s i hlt
    rw [List.drop_eq_getElem_cons hlt, List.all_cons]
    generalize (bl s)[i]'hlt = b at hbt ⊢
    have hn : nameB b = ((isLet b.toNat || (b.toNat : Int) == 95) || isDig b.toNat) := by
      unfold nameB
      have : ((b.toNat : Int) == 95) = (b.toNat == 95) := by
        rw [Bool.eq_iff_iff]; simp; omega
      rw [this]
      cases isLet b.toNat <;> cases isDig b.toNat <;> simp
    rw [hn]
    cases h1 : (isLet b.toNat || (b.toNat : Int) == 95) with
    | true =>
      rw [Bool.true_or, Bool.true_and]
      refine Ev.step (f := fun k => spec_l00Word.l0 k s ((i + 1 : Nat) : Int)) (fun k => ?_) (ih (i + 1) (by omega))
      simp only [spec_l00Word.l0]
      rw [if_pos (by omega), if_pos (by omega), hbt, w64s i (by omega)]
      simp only [specLetter_eq, Option.bind_some, h1, if_true]
    | false =>
      rw [Bool.false_or]
      cases h2 : isDig b.toNat with
      | true =>
        rw [Bool.true_and]
        refine Ev.step (f := fun k => spec_l00Word.l0 k s ((i + 1 : Nat) : Int)) (fun k => ?_) (ih (i + 1) (by omega))
        simp only [spec_l00Word.l0]
        rw [if_pos (by omega), if_pos (by omega), hbt, w64s i (by omega)]
        simp only [specLetter_eq, specDigit_eq, Option.bind_some, h1, h2, if_true]
        rfl
      | false =>
        rw [Bool.false_and]
        refine Ev.step (f := fun _ => some _) (fun k => ?_) (Ev.now _)
        simp only [spec_l00Word.l0]
        rw [if_pos (by omega), if_pos (by omega), hbt]
        simp only [specLetter_eq, specDigit_eq, Option.bind_some, h1, h2]
        rfl
theorem specName_ev (s : ByteArray) : Ev (fun k => spec_NameOK.f k s) (nameR (bl s)) := by
  suffices h : Ev (fun k => spec_l00Word.f k s) (nameR (bl s)) by
    obtain ⟨K, h⟩ := h
    exact ⟨K, fun k hk => by simp only [spec_NameOK.f, h k hk]; rfl⟩
  by_cases h : 1 ≤ s.size ∧ s.size ≤ 40
  · have hlt : 0 < (bl s).length := by rw [← bl_size]; omega
    have hhd : (bl s).head? = some (bl s)[0] := by rw [List.head?_eq_getElem?, List.getElem?_eq_getElem hlt]
    have e : nameR (bl s) = (!(isDig ((bl s)[0]).toNat) && (bl s).all nameB) := by
      unfold nameR
      rw [hhd, ← bl_size]
      simp [h]
    have hf : ∀ k, spec_l00Word.f k s = spec_l00Word.j0 k s (!(isLet ((bl s)[0]).toNat || (((bl s)[0]).toNat : Int) == 95)) := fun k => by
      simp only [spec_l00Word.f]
      rw [if_neg (by omega), if_neg (by omega), if_pos (by omega)]
      have := bt_eq s 0 hlt
      rw [show ((0 : Nat) : Int) = 0 from rfl] at this
      rw [this, specLetter_eq]
      rfl
    refine Ev.congr hf ?_
    have hall : (bl s).all nameB = (nameB (bl s)[0] && ((bl s).drop 1).all nameB) := by
      have := List.drop_eq_getElem_cons hlt
      rw [List.drop_zero] at this
      conv => lhs; rw [this]
      rfl
    rw [e, hall]
    have h95 : ((((bl s)[0]).toNat : Int) == 95) = (((bl s)[0]).toNat == 95) := by
      rw [Bool.eq_iff_iff]; simp; omega
    have hx : isDig ((bl s)[0]).toNat = true → (isLet ((bl s)[0]).toNat || (((bl s)[0]).toNat : Int) == 95) = false := by
      unfold isDig isLet
      simp
      omega
    cases hl : (isLet ((bl s)[0]).toNat || (((bl s)[0]).toNat : Int) == 95) with
    | true =>
      have hd : isDig ((bl s)[0]).toNat = false := by
        cases hd : isDig ((bl s)[0]).toNat with
        | true => rw [hx hd] at hl; cases hl
        | false => rfl
      have hn : nameB (bl s)[0] = true := by
        unfold nameB
        rw [← h95]
        revert hl
        cases isLet ((bl s)[0]).toNat <;> simp [hd]
      rw [hd, hn]
      simp only [Bool.not_false, Bool.true_and]
      refine Ev.step (f := fun k => spec_l00Word.l0 k s ((1 : Nat) : Int)) (fun k => ?_) (specName_l0 s (by rw [← bl_size]; exact h.2) ((bl s).length - 1) 1 (by omega))
      simp [spec_l00Word.j0]
    | false =>
      have hn : (!(isDig ((bl s)[0]).toNat) && (nameB (bl s)[0] && ((bl s).drop 1).all nameB)) = false := by
        cases hd : isDig ((bl s)[0]).toNat with
        | true => rfl
        | false =>
          have : nameB (bl s)[0] = false := by
            unfold nameB
            rw [← h95]
            revert hl
            cases isLet ((bl s)[0]).toNat <;> simp [hd]
          rw [this]
          rfl
      rw [hn]
      refine Ev.step (f := fun _ => some _) (fun k => ?_) (Ev.now _)
      simp [spec_l00Word.j0]
  · have e : nameR (bl s) = false := by
      unfold nameR
      rw [← bl_size]
      simp only [decide_eq_false h, Bool.false_and]
    rw [e]
    refine Ev.congr (f := fun k => spec_l00Word.j0 k s true) (fun k => ?_) ?_
    · simp only [spec_l00Word.f]
      by_cases h1 : (s.size : Int) < 1
      · rw [if_pos h1]
      · rw [if_neg h1, if_pos (by omega)]
    · refine Ev.step (f := fun _ => some _) (fun k => ?_) (Ev.now _)
      simp [spec_l00Word.j0]
end Go.Proofs.Ytejdnbdppgakeaa.P
