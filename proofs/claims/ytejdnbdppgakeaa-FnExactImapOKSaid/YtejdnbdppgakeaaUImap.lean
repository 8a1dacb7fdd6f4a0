/- Lemmas of mine: the two ImapOK tell the same; lists of numbers copied and held against each other. Plain. -/
import Derived.Test.YtejdnbdppgakeaaUName
import Derived.Test.YtejdnbdppgakeaaF39
import Derived.Test.YtejdnbdppgakeaaF41
import Derived.Test.YtejdnbdppgakeaaF40
import Derived.Test.YtejdnbdppgakeaaF26
import Derived.Test.YtejdnbdppgakeaaF38
set_option linter.unusedVariables false
set_option linter.unusedSimpArgs false
namespace Go.Proofs.Ytejdnbdppgakeaa.P
open Go.RowKit Go.Proofs.YtejdnbdppgakeaaW.PrintWords
/-- A view behind a uid: rising, up to 1000. -/
def chk (b : Int) : List Int → Bool
  | [] => true
  | x :: l => decide (b + 1 ≤ x ∧ x ≤ 1000) && chk x l
theorem chk_len : ∀ (l : List Int) (b : Int), b ≤ 1000 → chk b l = true → (l.length : Int) ≤ 1000 - b
  | [], b, hb, _ => by simp; omega
  | x :: l, b, hb, h => by
    simp only [chk, Bool.and_eq_true, decide_eq_true_eq] at h
    have := chk_len l x h.1.2 h.2
    simp only [List.length_cons]
    omega
theorem rd_get (xs : List Int) (i : Nat) (h : i < xs.length) : rd xs (i : Int) = xs[i] := by
  simp [rd, List.getD_eq_getElem?_getD, List.getElem?_eq_getElem h]
theorem implView_l0 (xs : List Int) (hx : xs.length ≤ 4611686018427387904) : ∀ (d i : Nat) (b : Int), i + d = xs.length → 0 ≤ b → b ≤ 1000 →
    Ev (fun k => impl_viewOK.l0 k b xs (xs.length : Int) (i : Int)) (chk b (xs.drop i)) := by
  intro d
  induction d with
  | zero =>
    intro i b hi h0 h1
    rw [List.drop_eq_nil_of_le (by omega)]
    refine Ev.step (f := fun _ => some _) (fun k => ?_) (Ev.now _)
    simp only [impl_viewOK.l0]
    rw [if_neg (by omega)]
    rfl
  | succ d ih =>
    intro i b hi h0 h1
    have hlt : i < xs.length := by omega
    rw [List.drop_eq_getElem_cons hlt]
    have e : ∀ k, impl_viewOK.l0 (k + 1) b xs (xs.length : Int) (i : Int) = if decide (b + 1 ≤ xs[i] ∧ xs[i] ≤ 1000) = true then impl_viewOK.l0 k xs[i] xs (xs.length : Int) ((i + 1 : Nat) : Int) else some false := fun k => by
      simp only [impl_viewOK.l0]
      rw [if_pos (by omega), if_pos (by omega), if_pos (by omega), rd_get xs i hlt, w64 (n := b + 1) (by omega) (by omega), within_eq, w64s i (by omega)]
      rfl
    by_cases hc : b + 1 ≤ xs[i] ∧ xs[i] ≤ 1000
    · simp only [chk, hc, decide_true, Bool.true_and, and_self]
      refine Ev.step (f := fun k => impl_viewOK.l0 k xs[i] xs (xs.length : Int) ((i + 1 : Nat) : Int)) (fun k => ?_) (ih (i + 1) xs[i] (by omega) (by omega) hc.2)
      rw [e, if_pos (by simpa using hc)]
    · simp only [chk, decide_eq_false hc, Bool.false_and]
      refine Ev.step (f := fun _ => some _) (fun k => ?_) (Ev.now _)
      rw [e, if_neg (by simpa using hc)]
theorem specView_l0 (xs : List Int) (hx : xs.length ≤ 4611686018427387904) : ∀ (d i : Nat) (b : Int), i + d = xs.length → 0 ≤ b → b ≤ 1000 → (i = 0 → b = 0) → (∀ j, i = j + 1 → rd xs (j : Int) = b) →
    Ev (fun k => spec_l13View.l0 k xs (i : Int)) (chk b (xs.drop i)) := by
  intro d
  induction d with
  | zero =>
    intro i b hi h0 h1 _ _
    rw [List.drop_eq_nil_of_le (by omega)]
    refine Ev.step (f := fun _ => some _) (fun k => ?_) (Ev.now _)
    simp only [spec_l13View.l0]
    rw [if_neg (by omega)]
    rfl
  | succ d ih =>
    intro i b hi h0 h1 hz hs
    have hlt : i < xs.length := by omega
    rw [List.drop_eq_getElem_cons hlt]
    have e : ∀ k, spec_l13View.l0 (k + 1) xs (i : Int) = if b + 1 ≤ xs[i] ∧ xs[i] ≤ 1000 then spec_l13View.l0 k xs ((i + 1 : Nat) : Int) else some false := fun k => by
      simp only [spec_l13View.l0]
      rw [if_pos (by omega), if_pos (by omega), rd_get xs i hlt, l01In_eq, w64s i (by omega)]
      simp only [Option.bind_some]
      by_cases h2 : 1 ≤ xs[i] ∧ xs[i] ≤ 1000
      · rw [if_pos (by simpa using h2)]
        cases i with
        | zero =>
          have := hz rfl
          rw [if_neg (by omega), if_pos (by omega)]
        | succ j =>
          have hj := hs j rfl
          have w : wrap64 (((j + 1 : Nat) : Int) - 1) = (j : Int) := by rw [w64 (by omega) (by omega)]; omega
          rw [if_pos (by omega), w, if_pos (by omega), if_pos (by omega), hj]
          by_cases h3 : b ≥ xs[j + 1]
          · rw [if_pos h3, if_neg (by omega)]
          · rw [if_neg h3, if_pos (by omega)]
      · rw [if_neg (by simpa using h2), if_neg (by omega)]
    by_cases hc : b + 1 ≤ xs[i] ∧ xs[i] ≤ 1000
    · simp only [chk, hc, decide_true, Bool.true_and, and_self]
      refine Ev.step (f := fun k => spec_l13View.l0 k xs ((i + 1 : Nat) : Int)) (fun k => ?_) (ih (i + 1) xs[i] (by omega) (by omega) hc.2 (by omega) (fun j hj => ?_))
      · rw [e, if_pos hc]
      · have : i = j := by omega
        subst this
        exact rd_get xs i hlt
    · simp only [chk, decide_eq_false hc, Bool.false_and]
      refine Ev.step (f := fun _ => some _) (fun k => ?_) (Ev.now _)
      rw [e, if_neg hc]
theorem implView_ev (xs : List Int) (hx : xs.length ≤ 4611686018427387904) : Ev (fun k => impl_viewOK.f k xs) (chk 0 xs) :=
  implView_l0 xs hx xs.length 0 0 (by omega) (by decide) (by decide)
theorem specView_ev (xs : List Int) (hx : xs.length ≤ 4611686018427387904) : Ev (fun k => spec_l13View.f k xs) (chk 0 xs) := by
  by_cases h : (xs.length : Int) > 4096
  · have : chk 0 xs = false := by
      cases hc : chk 0 xs with
      | false => rfl
      | true => have := chk_len xs 0 (by decide) hc; omega
    rw [this]
    refine ⟨0, fun k _ => ?_⟩
    simp only [spec_l13View.f]
    rw [if_pos h]
  · refine Ev.congr (fun k => ?_) (specView_l0 xs hx xs.length 0 0 (by omega) (by decide) (by decide) (fun _ => rfl) (fun j hj => by omega))
    simp only [spec_l13View.f]
    rw [if_neg h]
    rfl
/-- A right session. -/
def imapR (st : Int) (box : ByteArray) (ro : Bool) (v : List Int) : Bool :=
  if st = 3 then nameR (bl box) && chk 0 v else decide (0 ≤ st ∧ st ≤ 2) && (decide (bl box = []) && (!ro && decide (v.length = 0)))
theorem implImap_ev (st : Int) (box : ByteArray) (ro : Bool) (v : List Int) (hv : v.length ≤ 4611686018427387904) : Ev (fun k => impl_ImapOK.f k st box ro v) (imapR st box ro v) := by
  obtain ⟨K1, h1⟩ := implName_ev box
  obtain ⟨K2, h2⟩ := implView_ev v hv
  refine ⟨K1 + K2, fun k hk => ?_⟩
  unfold imapR
  simp only [impl_ImapOK.f, h1 k (by omega), h2 k (by omega), Option.bind_some, within_eq, toList_bl]
  by_cases h3 : st = 3
  · rw [if_pos h3, if_pos h3]
    cases nameR (bl box) <;> rfl
  · rw [if_neg h3, if_neg h3]
    by_cases h4 : 0 ≤ st ∧ st ≤ 2
    · simp only [h4, and_self, decide_true, if_true, Bool.true_and]
      by_cases h5 : bl box = []
      · simp only [h5, if_true, decide_true, Bool.true_and]
        cases ro
        · simp
          rw [Bool.eq_iff_iff]
          simp
        · simp
      · simp [h5]
    · simp [h4]
theorem specImap_ev (st : Int) (box : ByteArray) (ro : Bool) (v : List Int) (hv : v.length ≤ 4611686018427387904) : Ev (fun k => spec_ImapOK.f k st box ro v) (imapR st box ro v) := by
  obtain ⟨K1, h1⟩ := specName_ev box
  obtain ⟨K2, h2⟩ := specView_ev v hv
  refine ⟨K1 + K2 + 1, fun k hk => ?_⟩
  obtain ⟨m, rfl⟩ : ∃ m, k = m + 1 := ⟨k - 1, by omega⟩
  unfold imapR
  simp only [spec_ImapOK.f, h2 (m + 1) (by omega), Option.bind_some, l01In_eq, spec_ImapOK.j0, h1 m (by omega), toList_bl]
  by_cases h3 : st = 3
  · subst h3
    simp only [decide_true, if_true]
    rw [if_pos (by decide)]
    cases nameR (bl box) <;> cases chk 0 v <;> rfl
  · rw [if_neg h3]
    by_cases h4 : 0 ≤ st ∧ st ≤ 2
    · have h4' : 0 ≤ st ∧ st ≤ 3 := by omega
      simp only [h4, h4', and_self, decide_true, if_true, Bool.true_and]
      rw [if_neg h3]
      by_cases hl : v.length = 0
      · have : v = [] := List.eq_nil_of_length_eq_zero hl
        subst this
        by_cases h5 : bl box = []
        · cases ro <;> simp [h5, chk]
        · simp [h5, chk]
      · by_cases h5 : bl box = []
        · cases ro <;> cases chk 0 v <;> simp [h5, hl]
        · cases chk 0 v <;> simp [h5]
    · by_cases h5 : 0 ≤ st ∧ st ≤ 3
      · exact absurd h5 (by omega)
      · simp [h3, h4, h5]
theorem toIntS_l0 (xs : List Int) (hx : xs.length ≤ 35184372088832) : ∀ (d i : Nat) (ys : List Int), i + d = xs.length → ys.length = xs.length → ys.take i = xs.take i →
    Ev (fun k => laws_toIntS.l0 k xs ys (i : Int)) xs := by
  intro d
  induction d with
  | zero =>
    intro i ys hi hy ht
    have : ys = xs := by rw [List.take_of_length_le (by omega), List.take_of_length_le (by omega)] at ht; exact ht
    subst this
    refine Ev.step (f := fun _ => some _) (fun k => ?_) (Ev.now _)
    simp only [laws_toIntS.l0]
    rw [if_neg (by omega)]
  | succ d ih =>
    intro i ys hi hy ht
    have hlt : i < xs.length := by omega
    refine Ev.step (f := fun k => laws_toIntS.l0 k xs (ys.set i (rd xs (i : Int))) ((i + 1 : Nat) : Int)) (fun k => ?_) (ih (i + 1) _ (by omega) (by rw [List.length_set]; exact hy) ?_)
    · simp only [laws_toIntS.l0, Int.toNat_natCast]
      rw [if_pos (by omega), if_pos (by omega), if_pos (by omega), w64s i (by omega)]
    · rw [rd_get xs i hlt, List.take_add_one, List.take_add_one, List.getElem?_eq_getElem hlt, List.getElem?_set_self (by omega), List.take_set_of_le (Nat.le_refl _), ht]
theorem toIntS_ev (xs : List Int) (hx : xs.length ≤ 35184372088832) : Ev (fun k => laws_toIntS.f k xs) xs := by
  obtain ⟨K, h⟩ := toIntS_l0 xs hx xs.length 0 (List.replicate xs.length 0) (by omega) (by simp) (by simp)
  refine ⟨K, fun k hk => ?_⟩
  simp only [laws_toIntS.f, Int.toNat_natCast]
  rw [if_pos (by omega), if_pos (by omega)]
  exact h k hk
theorem eqIntS_l0 (xs : List Int) (hx : xs.length ≤ 4611686018427387904) : ∀ (d i : Nat), i + d = xs.length → Ev (fun k => laws_eqIntS.l0 k xs xs (i : Int)) true := by
  intro d
  induction d with
  | zero =>
    intro i hi
    refine Ev.step (f := fun _ => some _) (fun k => ?_) (Ev.now _)
    simp only [laws_eqIntS.l0]
    rw [if_neg (by omega)]
  | succ d ih =>
    intro i hi
    refine Ev.step (f := fun k => laws_eqIntS.l0 k xs xs ((i + 1 : Nat) : Int)) (fun k => ?_) (ih (i + 1) (by omega))
    simp only [laws_eqIntS.l0]
    rw [if_pos (by omega), if_pos (by omega), if_pos (by omega), if_pos trivial, w64s i (by omega)]
theorem eqIntS_self (xs : List Int) (hx : xs.length ≤ 4611686018427387904) : Ev (fun k => laws_eqIntS.f k xs xs) true := by
  obtain ⟨K, h⟩ := eqIntS_l0 xs hx xs.length 0 (by omega)
  refine ⟨K, fun k hk => ?_⟩
  simp only [laws_eqIntS.f]
  rw [if_pos trivial]
  exact h k hk
end Go.Proofs.Ytejdnbdppgakeaa.P
