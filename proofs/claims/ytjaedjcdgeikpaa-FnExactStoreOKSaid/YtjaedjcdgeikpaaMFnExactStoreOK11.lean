/- Part 11 of what the law FnExactStoreOK stands on; the last part ends with the law's row. No condition of mine. -/
import Derived.Test.YtjaedjcdgeikpaaMFnExactStoreOK10
import Derived.Test.YtjaedjcdgeikpaaMFnExactStoreOK8
import Derived.Test.YtjaedjcdgeikpaaMFnExactStoreOK6
import Derived.Test.YtjaedjcdgeikpaaMFnExactStoreOK9
import Derived.Test.YtjaedjcdgeikpaaMFnExactStoreOK2
import Derived.Test.YtjaedjcdgeikpaaMFnExactStoreOK5
import Derived.Test.YtjaedjcdgeikpaaRows
import Derived.WalkKit
import Derived.ProofKit
import Derived.OpenShut
import Derived.ShutString
import Derived.ChangeOld
import Derived.Below
import Derived.SizedLaws
import Derived.Carry
/- Lemmas of mine: the laws' marks on lists of texts: they are told, and found again. Plain. -/
set_option linter.unusedVariables false
set_option linter.unusedSimpArgs false
namespace Go.Proofs.Ytjaedjcdgeikpaa.P
open Go.RowKit Go.Proofs.YtjaedjcdgeikpaaW.PrintWords
theorem markText_l0 : ∀ (d n : Nat) (x : ByteArray), n < 10 ^ d → n ≤ 9223372036854775807 → x.size + d ≤ 1000 → ∃ t, Ev (fun k => laws_markText.l0 k (n : Int) x) t := by
 intro d
 induction d with
 | zero =>
  intro n x hn hn9 hx
  have : n = 0 := by simpa using hn
  subst this
  refine ⟨(⟨#[109]⟩ : ByteArray) ++ x, Ev.step (f := fun _ => some ((⟨#[109]⟩ : ByteArray) ++ x)) (fun k => ?_) (Ev.now _)⟩
  simp only [laws_markText.l0]
  rw [if_neg (by omega), if_pos (by omega)]
 | succ d ih =>
  intro n x hn hn9 hx
  by_cases h0 : n = 0
  ·subst h0
   refine ⟨(⟨#[109]⟩ : ByteArray) ++ x, Ev.step (f := fun _ => some ((⟨#[109]⟩ : ByteArray) ++ x)) (fun k => ?_) (Ev.now _)⟩
   simp only [laws_markText.l0]
   rw [if_neg (by omega), if_pos (by omega)]
  ·have hp : 10 ^ (d + 1) = 10 ^ d * 10 := rfl
   have hs : (strOfNums [(wrap64 (48 + (Int.tmod (n : Int) 10))) % 256]).size = 1 := by rw [strOfNums_size]; rfl
   obtain ⟨t, ht⟩ := ih (n / 10) (strOfNums [(wrap64 (48 + (Int.tmod (n : Int) 10))) % 256] ++ x) (by omega) (by omega) (by rw [ByteArray.size_append, hs]; omega)
   refine ⟨t, Ev.step (f := fun k => laws_markText.l0 k ((n / 10 : Nat) : Int) (strOfNums [(wrap64 (48 + (Int.tmod (n : Int) 10))) % 256] ++ x)) (fun k => ?_) ht⟩
   have hw : ∀ m : Int, 0 ≤ m → m ≤ n → wrap64 m = m ∨ True := fun _ _ _ => .inr trivial
   simp only [laws_markText.l0, Option.bind_some]
   rw [if_pos (by omega), if_pos (by rw [hs]; omega)]
   have hq : Int.tdiv (n : Int) 10 = ((n / 10 : Nat) : Int) := rfl
   rw [hq]
   rw [w64n _ (by omega)]
theorem markText_some (n : Nat) (hn : n < 10 ^ 18) : ∃ t, Ev (fun k => laws_markText.f k (n : Int)) t := by
 by_cases h0 : (n : Int) ≤ 0
 ·refine ⟨(⟨#[109, 48]⟩ : ByteArray), ⟨0, fun k _ => ?_⟩⟩
  simp only [laws_markText.f]
  rw [if_pos h0]
 ·obtain ⟨t, ht⟩ := markText_l0 18 n ⟨#[]⟩ hn (Nat.le_trans (Nat.le_of_lt hn) (by decide)) (by decide)
  refine ⟨t, Ev.congr (fun k => ?_) ht⟩
  simp only [laws_markText.f]
  rw [if_neg h0]
open Classical in
/-- The mark of a number. -/
noncomputable def mt (n : Nat) : ByteArray := if h : ∃ t, Ev (fun k => laws_markText.f k (n : Int)) t then h.choose else ⟨#[]⟩
theorem mt_ev (n : Nat) (hn : n < 10 ^ 18) : Ev (fun k => laws_markText.f k (n : Int)) (mt n) := by
 unfold mt
 rw [dif_pos (markText_some n hn)]
 exact (markText_some n hn).choose_spec
/-- Marks from a number on. -/
noncomputable def marks (n m : Nat) : List ByteArray := (List.range m).map fun i => mt (n + i)
theorem marks_length (n m : Nat) : (marks n m).length = m := by simp [marks]
theorem marks_get (n m i : Nat) (h : i < m) : (marks n m)[i]? = some (mt (n + i)) := by simp [marks, h]
theorem markS_l0 : ∀ (d i n : Nat) (xs : List ByteArray), i + d = xs.length → xs.length ≤ 4611686018427387904 → n + d < 10 ^ 18 →
  Ev (fun k => laws_markStringS.l0 k xs (n : Int) (i : Int)) (((n + d : Nat) : Int), xs.take i ++ marks n d) := by
 intro d
 induction d with
 | zero =>
  intro i n xs hi hx hn
  refine Ev.step (f := fun _ => some _) (fun k => ?_) (Ev.now _)
  simp only [laws_markStringS.l0]
  rw [if_neg (by omega), List.take_of_length_le (by omega)]
  simp [marks]
 | succ d ih =>
  intro i n xs hi hx hn
  obtain ⟨K1, h1⟩ := mt_ev n (by omega)
  have h2 := ih (i + 1) (n + 1) (xs.set i (mt n)) (by rw [List.length_set]; omega) (by rw [List.length_set]; omega) (by omega)
  obtain ⟨K2, h2⟩ := h2
  replace h1 : ∀ k, K1 ≤ k → laws_markText.f k (n : Int) = some (mt n) := h1
  replace h2 : ∀ k, K2 ≤ k → laws_markStringS.l0 k (xs.set i (mt n)) ((n + 1 : Nat) : Int) ((i + 1 : Nat) : Int) = _ := h2
  refine ⟨K1 + K2 + 1, fun k hk => ?_⟩
  obtain ⟨m, rfl⟩ : ∃ m, k = m + 1 := ⟨k - 1, by omega⟩
  simp only [laws_markStringS.l0, h1 m (by omega), Option.bind_some, Int.toNat_natCast]
  have hp : (10 : Nat) ^ 18 = 1000000000000000000 := by decide
  rw [if_pos (by omega), if_pos (by omega), w64s n (by omega), w64s i (by omega), h2 m (by omega)]
  have e : (xs.set i (mt n)).take (i + 1) ++ marks (n + 1) d = xs.take i ++ marks n (d + 1) := by
   rw [List.take_set, List.take_add_one, List.getElem?_eq_getElem (by omega)]
   have hl : (xs.take i).length = i := by rw [List.length_take]; omega
   rw [List.set_append_right _ _ (by omega), hl, Nat.sub_self]
   simp only [Option.toList, List.set_cons_zero, List.append_assoc, List.cons_append, List.nil_append]
   congr 1
   apply List.ext_getElem?
   intro j
   cases j with
   | zero => rw [marks_get n (d + 1) 0 (by omega)]; simp
   | succ j =>
    rw [List.getElem?_cons_succ]
    by_cases hj : j < d
    ·rw [marks_get _ _ _ hj, marks_get _ _ _ (by omega)]
     congr 2
     omega
    ·rw [List.getElem?_eq_none (by rw [marks_length]; omega), List.getElem?_eq_none (by rw [marks_length]; omega)]
  rw [e]
  congr 2
  omega
theorem markS_ev (xs : List ByteArray) (n : Nat) (hx : xs.length ≤ 4611686018427387904) (hn : n + xs.length < 10 ^ 18) : Ev (fun k => laws_markStringS.f k xs (n : Int)) (((n + xs.length : Nat) : Int), marks n xs.length) := by
 have h := markS_l0 xs.length 0 n xs (by omega) hx hn
 rw [List.take_zero, List.nil_append] at h
 exact h
theorem rdOf_get (xs : List ByteArray) (i : Nat) (x : ByteArray) (h : xs[i]? = some x) : rdOf ByteArray.empty xs (i : Int) = x := by
 simp [rdOf, List.getD_eq_getElem?_getD, h]
theorem heldS_l0 (n m : Nat) (hm : m ≤ 4611686018427387904) (hn : n + m < 10 ^ 18) : ∀ (d i : Nat), i + d = m →
  Ev (fun k => laws_heldStringS.l0 k (marks n m) ((n + i : Nat) : Int) (i : Int)) ((n + m : Nat) : Int) := by
 intro d
 induction d with
 | zero =>
  intro i hi
  refine Ev.step (f := fun _ => some _) (fun k => ?_) (Ev.now _)
  simp only [laws_heldStringS.l0, marks_length]
  rw [if_neg (by omega)]
  congr 2
  omega
 | succ d ih =>
  intro i hi
  obtain ⟨K1, h1⟩ := mt_ev (n + i) (by omega)
  obtain ⟨K2, h2⟩ := ih (i + 1) (by omega)
  refine ⟨K1 + K2 + 1, fun k hk => ?_⟩
  replace h1 : ∀ k, K1 ≤ k → laws_markText.f k ((n + i : Nat) : Int) = some (mt (n + i)) := h1
  obtain ⟨j, rfl⟩ : ∃ j, k = j + 1 := ⟨k - 1, by omega⟩
  have hp : (10 : Nat) ^ 18 = 1000000000000000000 := by decide
  simp only [laws_heldStringS.l0, h1 j (by omega), Option.bind_some, marks_length]
  rw [if_pos (by omega), if_pos (by omega), rdOf_get _ _ _ (marks_get n m i (by omega)), if_pos rfl, w64s (n + i) (by omega), w64s i (by omega)]
  exact h2 j (by omega)
theorem heldS_ev (n m : Nat) (hm : m ≤ 4611686018427387904) (hn : n + m < 10 ^ 18) : Ev (fun k => laws_heldStringS.f k (marks n m) (n : Int)) ((n + m : Nat) : Int) :=
 heldS_l0 n m hm hn m 0 (by omega)
theorem eqS_l0 (xs : List ByteArray) (hx : xs.length ≤ 4611686018427387904) : ∀ (d i : Nat), i + d = xs.length → Ev (fun k => laws_eqStringS.l0 k xs xs (i : Int)) true := by
 intro d
 induction d with
 | zero =>
  intro i hi
  refine Ev.step (f := fun _ => some _) (fun k => ?_) (Ev.now _)
  simp only [laws_eqStringS.l0]
  rw [if_neg (by omega)]
 | succ d ih =>
  intro i hi
  refine Ev.step (f := fun k => laws_eqStringS.l0 k xs xs ((i + 1 : Nat) : Int)) (fun k => ?_) (ih (i + 1) (by omega))
  simp only [laws_eqStringS.l0]
  rw [if_pos (by omega), if_pos (by omega), if_pos (by omega), if_pos trivial, w64s i (by omega)]
theorem eqS_self (xs : List ByteArray) (hx : xs.length ≤ 4611686018427387904) : Ev (fun k => laws_eqStringS.f k xs xs) true := by
 obtain ⟨K, h⟩ := eqS_l0 xs hx xs.length 0 (by omega)
 refine ⟨K, fun k hk => ?_⟩
 simp only [laws_eqStringS.f]
 rw [if_pos trivial]
 exact h k hk
end Go.Proofs.Ytjaedjcdgeikpaa.P
/- Lemmas of mine: the laws' copies of mails, keys and boxes: copied, the same, counted. Plain. -/
set_option linter.unusedVariables false
set_option linter.unusedSimpArgs false
namespace Go.Proofs.Ytjaedjcdgeikpaa.P
open Go.RowKit Go.Proofs.YtjaedjcdgeikpaaW.PrintWords
def stM (x : S67) : S28 := ⟨x.f0, x.f1, x.f2⟩
theorem toStoredS_ev (xs : List S67) (h : xs.length ≤ 8796093022208) : Ev (fun k => laws_toStoredS.f k xs) (xs.map stM) := by
 refine Ev.congr (f := fun k => laws_toStoredS.l0 k xs (List.replicate xs.length z28) ((0 : Nat) : Int)) (fun k => ?_)
  (copy_loop (fun k ys i => laws_toStoredS.l0 k xs ys i) xs stM ?_ ?_ xs.length 0 _ (by omega) (by simp) (by simp))
 ·simp only [laws_toStoredS.f, Int.toNat_natCast]
  rw [if_pos (by omega), if_pos h]
  rfl
 ·intro i ys hi hl
  refine ⟨0, fun k _ => ?_⟩
  simp only [laws_toStoredS.l0, laws_toStored.f, rd_T67, getD_nat xs _ i hi, bS]
  rw [if_pos (by omega), if_pos (by omega), if_pos (by omega), w64s i (by omega), Int.toNat_natCast]
  rfl
 ·intro ys hl
  refine ⟨0, fun k _ => ?_⟩
  simp only [laws_toStoredS.l0]
  rw [if_neg (by omega)]
theorem toStringS_ev (xs : List ByteArray) (h : xs.length ≤ 17592186044416) : Ev (fun k => laws_toStringS.f k xs) xs := by
 have hm : xs.map (fun x => x) = xs := by simp
 have := copy_loop (fun k ys i => laws_toStringS.l0 k xs ys i) xs (fun x => x) (fun i ys hi hl => ⟨0, fun k _ => by
   simp only [laws_toStringS.l0, rdOf, getD_nat xs _ i hi]
   rw [if_pos (by omega), if_pos (by omega), if_pos (by omega), w64s i (by omega), Int.toNat_natCast]⟩)
  (fun ys hl => ⟨0, fun k _ => by
   simp only [laws_toStringS.l0]
   rw [if_neg (by omega)]⟩) xs.length 0 (List.replicate xs.length (⟨#[]⟩ : ByteArray)) (by omega) (by simp) (by simp)
 rw [hm] at this
 refine Ev.congr (fun k => ?_) this
 simp only [laws_toStringS.f, Int.toNat_natCast]
 rw [if_pos (by omega), if_pos h]
 rfl
theorem eqStoredS_self (ys : List S28) (h : ys.length ≤ 4611686018427387904) : Ev (fun k => laws_eqStoredS.f k ys ys) true := by
 refine Ev.congr (f := fun k => laws_eqStoredS.l0 k ys ys ((0 : Nat) : Int)) (fun k => ?_)
  (up_loop (fun k i => laws_eqStoredS.l0 k ys ys i) ys.length true ?_ ⟨0, fun k _ => ?_⟩ ys.length 0 (by omega))
 ·unfold laws_eqStoredS.f
  exact if_pos rfl
 ·intro i hi
  refine ⟨0, fun k _ => ?_⟩
  simp only [laws_eqStoredS.l0, laws_eqStored.f, if_true, bS]
  rw [if_pos (by omega), if_pos (by omega), if_pos (by omega), w64s i (by omega)]
 ·simp only [laws_eqStoredS.l0]
  rw [if_neg (by omega)]
theorem szStored_some (a b : Int) (s : ByteArray) (n : Int) : ∃ z, laws_szStored.f a b s n = some z := by
 unfold laws_szStored.f
 split <;> exact ⟨_, rfl⟩
theorem szStoredS_some (xs : List S67) (h : xs.length ≤ 4611686018427387904) (n : Int) : ∃ z, Ev (fun k => laws_szStoredS.f k xs n) z := by
 by_cases h0 : wrap64 (n - (xs.length : Int)) < 0
 ·exact ⟨-1, 0, fun k _ => by simp only [laws_szStoredS.f]; rw [if_pos h0]⟩
 ·obtain ⟨z, hz, _⟩ := st_loop (fun k s i => laws_szStoredS.l0 k xs s i) xs.length (fun _ _ _ => True) (fun i s hi => by
    obtain ⟨z, hz⟩ := szStored_some (xs[i]'hi).f0 (xs[i]'hi).f1 (xs[i]'hi).f2 s
    have e : ∀ k, laws_szStoredS.l0 (k + 1) xs s (i : Int) = if z < 0 then some (-1) else laws_szStoredS.l0 k xs z ((i + 1 : Nat) : Int) := fun k => by
     simp only [laws_szStoredS.l0, rd_T67, getD_nat xs _ i hi, hz, bS]
     rw [if_pos (by omega), if_pos (by omega), w64s i (by omega)]
    by_cases hn : z < 0
    ·exact .inl ⟨-1, ⟨0, fun k _ => by rw [e, if_pos hn]⟩, trivial⟩
    ·exact .inr ⟨z, ⟨0, fun k _ => by rw [e, if_neg hn]⟩, fun _ _ => trivial⟩)
   (fun s => ⟨s, ⟨0, fun k _ => by simp only [laws_szStoredS.l0]; rw [if_neg (by omega)]⟩, trivial⟩) xs.length 0 (wrap64 (n - (xs.length : Int))) (by omega)
  exact ⟨z, Ev.congr (fun k => by simp only [laws_szStoredS.f]; rw [if_neg h0]; rfl) hz⟩
theorem szStringS_some (xs : List ByteArray) (h : xs.length ≤ 4611686018427387904) (n : Int) : ∃ z, Ev (fun k => laws_szStringS.f k xs n) z := by
 by_cases h0 : wrap64 (n - (xs.length : Int)) < 0
 ·exact ⟨-1, 0, fun k _ => by simp only [laws_szStringS.f]; rw [if_pos h0]⟩
 ·obtain ⟨z, hz, _⟩ := st_loop (fun k s i => laws_szStringS.l0 k xs s i) xs.length (fun _ _ _ => True) (fun i s hi => by
    obtain ⟨z, hz⟩ : ∃ z, wrap64 (s - ((xs[i]'hi).size : Int)) = z := ⟨_, rfl⟩
    have e : ∀ k, laws_szStringS.l0 (k + 1) xs s (i : Int) = if z < 0 then some (-1) else laws_szStringS.l0 k xs z ((i + 1 : Nat) : Int) := fun k => by
     simp only [laws_szStringS.l0, rdOf, getD_nat xs _ i hi, hz]
     rw [if_pos (by omega), if_pos (by omega), w64s i (by omega)]
    clear hz
    by_cases hn : z < 0
    ·exact .inl ⟨-1, ⟨0, fun k _ => by rw [e, if_pos hn]⟩, trivial⟩
    ·exact .inr ⟨z, ⟨0, fun k _ => by rw [e, if_neg hn]⟩, fun _ _ => trivial⟩)
   (fun s => ⟨s, ⟨0, fun k _ => by simp only [laws_szStringS.l0]; rw [if_neg (by omega)]⟩, trivial⟩) xs.length 0 (wrap64 (n - (xs.length : Int))) (by omega)
  exact ⟨z, Ev.congr (fun k => by simp only [laws_szStringS.f]; rw [if_neg h0]; rfl) hz⟩
theorem szBox_some (s : ByteArray) (a b : Int) (xs : List S67) (ks : List ByteArray) (h : xs.length ≤ 4611686018427387904) (h2 : ks.length ≤ 4611686018427387904) (n : Int) : ∃ z, Ev (fun k => laws_szBox.f k s a b xs ks n) z := by
 by_cases h0 : wrap64 (n - (s.size : Int)) < 0
 ·exact ⟨-1, 0, fun k _ => by simp only [laws_szBox.f]; rw [if_pos h0]⟩
 ·obtain ⟨z, K, hz⟩ := szStoredS_some xs h (wrap64 (n - (s.size : Int)))
  by_cases hn : z < 0
  ·exact ⟨-1, K, fun k hk => by simp only [laws_szBox.f, hz k hk, bS]; rw [if_neg h0, if_pos hn]⟩
  ·obtain ⟨y, K2, hy⟩ := szStringS_some ks h2 z
   by_cases hm : y < 0
   ·exact ⟨-1, K + K2, fun k hk => by simp only [laws_szBox.f, hz k (by omega), hy k (by omega), bS]; rw [if_neg h0, if_neg hn, if_pos hm]⟩
   ·exact ⟨y, K + K2, fun k hk => by simp only [laws_szBox.f, hz k (by omega), hy k (by omega), bS]; rw [if_neg h0, if_neg hn, if_neg hm]⟩
theorem toBox_ev (s : ByteArray) (a b : Int) (xs : List S67) (ks : List ByteArray) (h : xs.length ≤ 8796093022208) (h2 : ks.length ≤ 17592186044416) : Ev (fun k => laws_toBox.f k s a b xs ks) (s, a, b, xs.map stM, ks) := by
 obtain ⟨K, hK⟩ := toStoredS_ev xs h
 obtain ⟨K2, hK2⟩ := toStringS_ev ks h2
 exact ⟨K + K2, fun k hk => by simp only [laws_toBox.f, hK k (by omega), hK2 k (by omega), bS]⟩
theorem eqBox_self (s : ByteArray) (a b : Int) (ys : List S28) (ks : List ByteArray) (h : ys.length ≤ 4611686018427387904) (h2 : ks.length ≤ 4611686018427387904) : Ev (fun k => laws_eqBox.f k s a b ys ks s a b ys ks) true := by
 obtain ⟨K, hK⟩ := eqStoredS_self ys h
 obtain ⟨K2, hK2⟩ := eqS_self ks h2
 exact ⟨K + K2, fun k hk => by simp only [laws_eqBox.f, hK k (by omega), hK2 k (by omega), bS, if_true]⟩
end Go.Proofs.Ytjaedjcdgeikpaa.P
/- Lemmas of mine: lists of boxes: copied, the same, counted; the two StoreOK tell the same. Plain. -/
set_option linter.unusedVariables false
set_option linter.unusedSimpArgs false
namespace Go.Proofs.Ytjaedjcdgeikpaa.P
open Go.RowKit Go.Proofs.YtjaedjcdgeikpaaW.PrintWords
def bxM (x : S25) : S33 := ⟨x.f0, x.f1, x.f2, x.f3.map stM, x.f4⟩
/-- A box whose lists are within the bounds. -/
def boxB (x : S25) : Prop := x.f3.length ≤ 8796093022208 ∧ x.f4.length ≤ 17592186044416
def boxB2 (x : S33) : Prop := x.f3.length ≤ 8796093022208 ∧ x.f4.length ≤ 17592186044416
theorem boxB_map {xs : List S25} (h : ∀ x ∈ xs, boxB x) : ∀ y ∈ xs.map bxM, boxB2 y := by
 intro y hy
 obtain ⟨x, hx, rfl⟩ := List.mem_map.1 hy
 have := h x hx
 exact ⟨by show (x.f3.map stM).length ≤ _; rw [List.length_map]; exact this.1, this.2⟩
theorem toBoxS_ev (xs : List S25) (h : xs.length ≤ 3518437208883) (hb : ∀ x ∈ xs, boxB x) : Ev (fun k => laws_toBoxS.f k xs) (xs.map bxM) := by
 refine Ev.congr (f := fun k => laws_toBoxS.l0 k xs (List.replicate xs.length z33) ((0 : Nat) : Int)) (fun k => ?_)
  (copy_loop (fun k ys i => laws_toBoxS.l0 k xs ys i) xs bxM ?_ ?_ xs.length 0 _ (by omega) (by simp) (by simp))
 ·simp only [laws_toBoxS.f, Int.toNat_natCast]
  rw [if_pos (by omega), if_pos h]
  rfl
 ·intro i ys hi hl
  have hx := hb _ (List.getElem_mem hi)
  obtain ⟨K, hK⟩ := toBox_ev (xs[i]'hi).f0 (xs[i]'hi).f1 (xs[i]'hi).f2 (xs[i]'hi).f3 (xs[i]'hi).f4 hx.1 hx.2
  refine ⟨K, fun k hk => ?_⟩
  have e := hK k hk
  simp only at e
  simp only [laws_toBoxS.l0, rd_T25, getD_nat xs _ i hi, e, bS]
  rw [if_pos (by omega), if_pos (by omega), if_pos (by omega), w64s i (by omega), Int.toNat_natCast]
  rfl
 ·intro ys hl
  refine ⟨0, fun k _ => ?_⟩
  simp only [laws_toBoxS.l0]
  rw [if_neg (by omega)]
theorem eqBoxS_self (ys : List S33) (h : ys.length ≤ 4611686018427387904) (hb : ∀ y ∈ ys, boxB2 y) : Ev (fun k => laws_eqBoxS.f k ys ys) true := by
 refine Ev.congr (f := fun k => laws_eqBoxS.l0 k ys ys ((0 : Nat) : Int)) (fun k => ?_)
  (up_loop (fun k i => laws_eqBoxS.l0 k ys ys i) ys.length true ?_ ⟨0, fun k _ => ?_⟩ ys.length 0 (by omega))
 ·unfold laws_eqBoxS.f
  exact if_pos rfl
 ·intro i hi
  have hx := hb _ (List.getElem_mem hi)
  obtain ⟨K, hK⟩ := eqBox_self (ys[i]'hi).f0 (ys[i]'hi).f1 (ys[i]'hi).f2 (ys[i]'hi).f3 (ys[i]'hi).f4 (by have := hx.1; omega) (by have := hx.2; omega)
  refine ⟨K, fun k hk => ?_⟩
  have e := hK k hk
  simp only at e
  simp only [laws_eqBoxS.l0, rd_T33, getD_nat ys _ i hi, e, if_true, bS]
  rw [if_pos (by omega), if_pos (by omega), if_pos (by omega), w64s i (by omega)]
 ·simp only [laws_eqBoxS.l0]
  rw [if_neg (by omega)]
theorem szBoxS_some (xs : List S25) (h : xs.length ≤ 4611686018427387904) (hb : ∀ x ∈ xs, boxB x) (n : Int) : ∃ z, Ev (fun k => laws_szBoxS.f k xs n) z := by
 by_cases h0 : wrap64 (n - (xs.length : Int)) < 0
 ·exact ⟨-1, 0, fun k _ => by simp only [laws_szBoxS.f]; rw [if_pos h0]⟩
 ·obtain ⟨z, hz, _⟩ := st_loop (fun k s i => laws_szBoxS.l0 k xs s i) xs.length (fun _ _ _ => True) (fun i s hi => by
    have hx := hb _ (List.getElem_mem hi)
    obtain ⟨z, K, hK⟩ := szBox_some (xs[i]'hi).f0 (xs[i]'hi).f1 (xs[i]'hi).f2 (xs[i]'hi).f3 (xs[i]'hi).f4 (by have := hx.1; omega) (by have := hx.2; omega) s
    have e : ∀ k, K ≤ k → laws_szBoxS.l0 (k + 1) xs s (i : Int) = if z < 0 then some (-1) else laws_szBoxS.l0 k xs z ((i + 1 : Nat) : Int) := fun k hk => by
     have e := hK k hk
     simp only at e
     simp only [laws_szBoxS.l0, rd_T25, getD_nat xs _ i hi, e, bS]
     rw [if_pos (by omega), if_pos (by omega), w64s i (by omega)]
    by_cases hn : z < 0
    ·exact .inl ⟨-1, ⟨K, fun k hk => by rw [e k hk, if_pos hn]⟩, trivial⟩
    ·exact .inr ⟨z, ⟨K, fun k hk => by rw [e k hk, if_neg hn]⟩, fun _ _ => trivial⟩)
   (fun s => ⟨s, ⟨0, fun k _ => by simp only [laws_szBoxS.l0]; rw [if_neg (by omega)]⟩, trivial⟩) xs.length 0 (wrap64 (n - (xs.length : Int))) (by omega)
  exact ⟨z, Ev.congr (fun k => by simp only [laws_szBoxS.f]; rw [if_neg h0]; rfl) hz⟩
/-- A box has a name. -/
def nmB (s : ByteArray) (y : S33) : Bool := y.f0.toList == s.toList
theorem nmB_iff (s : ByteArray) (y : S33) : nmB s y = true ↔ y.f0 = s := by
 unfold nmB
 rw [beq_iff_eq, toList_iff]
/-- Right boxes behind others. -/
def storesR : List S33 → List S33 → Bool
 | _, [] => true
 | p, b :: l => boxR b.f0 b.f1 b.f2 b.f3 b.f4 && decide (b.f1 = (p.length : Int) + 1) && !(p.any (nmB b.f0)) && storesR (p ++ [b]) l
/-- A right store. -/
def storeR (l : List S33) : Bool := decide (l.length ≤ 4) && storesR [] l
theorem find_l0 (l : List S33) (s : ByteArray) (hl : l.length ≤ 4611686018427387904) : ∀ (d i : Nat), i + d = l.length → (∀ j, j < i → nmB s (l.getD j z33) = false) → Ev (fun k => spec_l09Find.l0 k l s (i : Int)) (idxOf (nmB s) l) := by
 intro d
 induction d with
 | zero =>
  intro i hi hn
  rw [idxOf_miss (nmB s) l z33 (fun j hj => hn j (by omega))]
  refine Ev.step (f := fun _ => some _) (fun k => ?_) (Ev.now _)
  simp only [spec_l09Find.l0]
  rw [if_neg (by omega)]
 | succ d ih =>
  intro i hi hn
  have hlt : i < l.length := by omega
  have hg : l.getD i z33 = l[i]'hlt := by rw [List.getD_eq_getElem?_getD, List.getElem?_eq_getElem hlt]; rfl
  have e : ∀ k, spec_l09Find.l0 (k + 1) l s (i : Int) = if (l[i]'hlt).f0 = s then some (i : Int) else spec_l09Find.l0 k l s ((i + 1 : Nat) : Int) := fun k => by
   simp only [spec_l09Find.l0, rd_T33, getD_nat l _ i hlt, toList_iff]
   rw [if_pos (by omega), if_pos (by omega), w64s i (by omega)]
  by_cases hx : (l[i]'hlt).f0 = s
  ·rw [idxOf_hit (nmB s) l z33 i hlt (by rw [hg, nmB_iff]; exact hx) hn]
   exact Ev.step (f := fun _ => some _) (fun k => by rw [e, if_pos hx]) (Ev.now _)
  ·refine Ev.step (f := fun k => spec_l09Find.l0 k l s ((i + 1 : Nat) : Int)) (fun k => by rw [e, if_neg hx]) (ih (i + 1) (by omega) (fun j hj => ?_))
   by_cases hji : j = i
   ·subst hji
    rw [hg]
    cases hb : nmB s (l[j]'hlt) with
    | false => rfl
    | true => exact absurd ((nmB_iff _ _).1 hb) hx
   ·exact hn j (by omega)
theorem find_ev (l : List S33) (s : ByteArray) (hl : l.length ≤ 4611686018427387904) : Ev (fun k => spec_l09Find.f k l s) (idxOf (nmB s) l) := find_l0 l s hl l.length 0 (by omega) (fun j hj => absurd hj (Nat.not_lt_zero _))
theorem boxIndex_eq (l : List S33) (s : ByteArray) (hl : l.length ≤ 4611686018427387904) : impl_boxIndex.f l s = some (idxOf (nmB s) l) := by
 unfold impl_boxIndex.f
 rw [if_pos (by omega)]
 rfl
theorem idx_first {α : Type} (p : α → Bool) (l : List α) (i : Nat) (hi : i < l.length) (hp : p (l[i]'hi) = true) : decide (idxOf p l = (i : Int)) = !((l.take i).any p) := by
 cases ha : (l.take i).any p with
 | false =>
  have hn : ∀ j (hj : j < i), p (l[j]'(by omega)) = false := fun j hj => by
   have := List.any_eq_false.1 ha (l[j]'(by omega)) (by
    rw [List.mem_take_iff_getElem]
    exact ⟨j, by omega, rfl⟩)
   simpa using this
  have h2 : l.findIdx? p = some i := by
   rw [List.findIdx?_eq_some_iff_getElem]
   exact ⟨hi, hp, fun j hj => by simp [hn j hj]⟩
  simp [idxOf, h2]
 | true =>
  obtain ⟨x, hx, hpx⟩ := List.any_eq_true.1 ha
  obtain ⟨j, hj, rfl⟩ := List.mem_take_iff_getElem.1 hx
  have : ¬ idxOf p l = (i : Int) := by
   intro h
   unfold idxOf at h
   cases hf : l.findIdx? p with
   | none => rw [hf] at h; simp only at h; omega
   | some m =>
    rw [hf] at h
    simp only at h
    obtain rfl : m = i := by omega
    rw [List.findIdx?_eq_some_iff_getElem] at hf
    obtain ⟨_, _, h3⟩ := hf
    exact absurd hpx (by simpa using h3 j (by omega))
  simp [this]
theorem specStore_l0 (l : List S33) (hl : l.length ≤ 4) : ∀ (d i : Nat), i + d = l.length → Ev (fun k => spec_StoreOK.l0 k l (i : Int)) (storesR (l.take i) (l.drop i)) := by
 intro d
 induction d with
 | zero =>
  intro i hi
  rw [List.drop_eq_nil_of_le (by omega)]
  refine Ev.step (f := fun _ => some _) (fun k => ?_) (Ev.now _)
  simp only [spec_StoreOK.l0]
  rw [if_neg (by omega)]
  rfl
 | succ d ih =>
  intro i hi
  have hlt : i < l.length := by omega
  have hti : (l.take i).length = i := by rw [List.length_take]; omega
  obtain ⟨K1, h1⟩ := specBox_ev (l[i]'hlt).f0 (l[i]'hlt).f1 (l[i]'hlt).f2 (l[i]'hlt).f3 (l[i]'hlt).f4
  obtain ⟨K2, h2⟩ := find_ev (l.take i) (l[i]'hlt).f0 (by omega)
  obtain ⟨K3, h3⟩ := ih (i + 1) (by omega)
  have ht : l.take (i + 1) = l.take i ++ [l[i]'hlt] := by rw [List.take_add_one, List.getElem?_eq_getElem hlt]; rfl
  rw [ht] at h3
  rw [List.drop_eq_getElem_cons hlt]
  simp only [storesR, hti, ← idxOf_any]
  refine ⟨K1 + K2 + K3 + 1, fun k hk => ?_⟩
  obtain ⟨m, rfl⟩ : ∃ m, k = m + 1 := ⟨k - 1, by omega⟩
  have e1 := h1 m (by omega)
  have e2 := h2 m (by omega)
  have e3 := h3 m (by omega)
  simp only at e1 e2 e3
  simp only [spec_StoreOK.l0, rd_T33, getD_nat l _ i hlt, e1, bS]
  simp only [Int.toNat_natCast, e2, bS]
  rw [if_pos (by omega), if_pos (by omega), w64s i (by omega), e3]
  cases boxR (l[i]'hlt).f0 (l[i]'hlt).f1 (l[i]'hlt).f2 (l[i]'hlt).f3 (l[i]'hlt).f4 with
  | false => rfl
  | true =>
   rw [if_pos rfl]
   by_cases c1 : (l[i]'hlt).f1 = (i : Int) + 1
   ·rw [if_pos (by rw [c1]; rfl), if_pos (by omega), decide_eq_true c1]
    by_cases c2 : 0 ≤ idxOf (nmB (l[i]'hlt).f0) (l.take i)
    ·rw [if_pos c2, decide_eq_true c2]; rfl
    ·rw [if_neg c2, decide_eq_false c2]; rfl
   ·rw [if_neg (fun h => c1 (by rw [h]; rfl)), decide_eq_false c1]; rfl
theorem implStore_l0 (l : List S33) (hl : l.length ≤ 4) : ∀ (d i : Nat), i + d = l.length → Ev (fun k => impl_StoreOK.l0 k l l (l.length : Int) (i : Int)) (storesR (l.take i) (l.drop i)) := by
 intro d
 induction d with
 | zero =>
  intro i hi
  rw [List.drop_eq_nil_of_le (by omega)]
  refine Ev.step (f := fun _ => some _) (fun k => ?_) (Ev.now _)
  simp only [impl_StoreOK.l0]
  rw [if_neg (by omega)]
  rfl
 | succ d ih =>
  intro i hi
  have hlt : i < l.length := by omega
  have hti : (l.take i).length = i := by rw [List.length_take]; omega
  obtain ⟨K1, h1⟩ := implBox_ev (l[i]'hlt).f0 (l[i]'hlt).f1 (l[i]'hlt).f2 (l[i]'hlt).f3 (l[i]'hlt).f4
  obtain ⟨K3, h3⟩ := ih (i + 1) (by omega)
  have ht : l.take (i + 1) = l.take i ++ [l[i]'hlt] := by rw [List.take_add_one, List.getElem?_eq_getElem hlt]; rfl
  rw [ht] at h3
  rw [List.drop_eq_getElem_cons hlt]
  have hf := idx_first (nmB (l[i]'hlt).f0) l i hlt ((nmB_iff _ _).2 rfl)
  simp only [storesR, hti, ← hf]
  refine ⟨K1 + K3 + 1, fun k hk => ?_⟩
  obtain ⟨m, rfl⟩ : ∃ m, k = m + 1 := ⟨k - 1, by omega⟩
  have e1 := h1 m (by omega)
  have e3 := h3 m (by omega)
  simp only at e1 e3
  simp only [impl_StoreOK.l0, rd_T33, getD_nat l _ i hlt, e1, boxIndex_eq l _ (show l.length ≤ 4611686018427387904 by omega), bS]
  rw [if_pos (by omega), if_pos (by omega), if_pos (by omega), w64s i (by omega), e3]
  cases boxR (l[i]'hlt).f0 (l[i]'hlt).f1 (l[i]'hlt).f2 (l[i]'hlt).f3 (l[i]'hlt).f4 with
  | false => rfl
  | true =>
   rw [if_pos rfl]
   by_cases c1 : (l[i]'hlt).f1 = (i : Int) + 1
   ·rw [if_pos (by rw [c1]; rfl), decide_eq_true c1]
    by_cases c2 : idxOf (nmB (l[i]'hlt).f0) l = (i : Int)
    ·rw [if_pos c2, decide_eq_true c2]; rfl
    ·rw [if_neg c2, decide_eq_false c2]; rfl
   ·rw [if_neg (fun h => c1 (by rw [h]; rfl)), decide_eq_false c1]; rfl
theorem specStore_ev (l : List S33) : Ev (fun k => spec_StoreOK.f k l) (storeR l) := by
 unfold storeR
 by_cases h : l.length ≤ 4
 ·rw [decide_eq_true h, Bool.true_and]
  refine Ev.congr (fun k => ?_) (specStore_l0 l h l.length 0 (by omega))
  simp only [spec_StoreOK.f]
  rw [if_neg (by omega), if_neg (by omega)]
  rfl
 ·rw [decide_eq_false h, Bool.false_and]
  refine ⟨0, fun k _ => ?_⟩
  simp only [spec_StoreOK.f]
  by_cases h2 : (l.length : Int) > 4096
  ·rw [if_pos h2]
  ·rw [if_neg h2, if_pos (by omega)]
theorem implStore_ev (l : List S33) : Ev (fun k => impl_StoreOK.f k l) (storeR l) := by
 unfold storeR
 by_cases h : l.length ≤ 4
 ·rw [decide_eq_true h, Bool.true_and]
  refine Ev.congr (fun k => ?_) (implStore_l0 l h l.length 0 (by omega))
  simp only [impl_StoreOK.f]
  rw [if_neg (by omega)]
  rfl
 ·rw [decide_eq_false h, Bool.false_and]
  refine ⟨0, fun k _ => ?_⟩
  simp only [impl_StoreOK.f]
  rw [if_pos (by omega)]
end Go.Proofs.Ytjaedjcdgeikpaa.P
/- The pure statement of the law FnExactStoreOK: the two StoreOK tell the same. No condition. -/
set_option linter.unusedVariables false
set_option linter.unusedSimpArgs false
namespace Go.Proofs.Ytjaedjcdgeikpaa.P
open Go.RowKit Go.Proofs.YtjaedjcdgeikpaaW.PrintWords
theorem boxB_ok {x : S25} (h : ok25 x) : boxB x := by
 obtain ⟨_, _, _, ⟨_, hl, _⟩, _, hl2, _⟩ := h
 exact ⟨by omega, by omega⟩
end Go.Proofs.Ytjaedjcdgeikpaa.P
namespace Go.Proofs.Ytjaedjcdgeikpaa.Pure
open Go.RowKit Go.Proofs.Ytjaedjcdgeikpaa.P Go.Proofs.YtjaedjcdgeikpaaW.PrintWords
theorem FnExactStoreOK : laws_FnExactStoreOK.Pure := by
 intro l hl
 obtain ⟨_, hlen, hy⟩ := hl
 have hb : ∀ x ∈ l, boxB x := fun x hx => boxB_ok (hy x hx)
 obtain ⟨z, K0, h0⟩ := szBoxS_some l (by omega) hb 1048576
 obtain ⟨K1, h1⟩ := toBoxS_ev l (by omega) hb
 obtain ⟨K2, h2⟩ := specStore_ev (l.map bxM)
 obtain ⟨K3, h3⟩ := implStore_ev (l.map bxM)
 obtain ⟨K4, h4⟩ := eqBoxS_self (l.map bxM) (by rw [List.length_map]; omega) (boxB_map hb)
 refine ⟨K0 + K1 + K2 + K3 + K4, ?_⟩
 have e0 := h0 (K0 + K1 + K2 + K3 + K4) (by omega)
 have e1 := h1 (K0 + K1 + K2 + K3 + K4) (by omega)
 have e2 := h2 (K0 + K1 + K2 + K3 + K4) (by omega)
 have e3 := h3 (K0 + K1 + K2 + K3 + K4) (by omega)
 have e4 := h4 (K0 + K1 + K2 + K3 + K4) (by omega)
 simp only at e0 e1 e2 e3 e4
 simp only [laws_FnExactStoreOK.f, e0, e1, e2, e3, e4, bS, if_true]
 split
 ·rfl
 ·simp
end Go.Proofs.Ytjaedjcdgeikpaa.Pure
/- The row of the law FnExactStoreOK: for every input the call returns true and each argument reads behind the call as it read before. No condition of mine. -/
namespace Go.Proofs.Ytjaedjcdgeikpaa.fnExactStoreOK
open Go.ChangeShapes Go.WideShapes Go.ChangeAt Go.RowKit Go.Proofs.Ytjaedjcdgeikpaa.P Go.Proofs.YtjaedjcdgeikpaaW.PrintWords
open Go.ChangeMaps (open_string shut_string)
set_option linter.unusedVariables false
theorem own : ownKnob Try.prog.godebug = none := by kernel_rfl
theorem laidOut : laidOutB Try.prog = true := by kernel_rfl
set_option maxRecDepth 100000 in
theorem lifted (os : Os) (started : os.Started) (H : Type) (enc : TypeId × Value → H) :
    ReturnsInHanded {} Try.checked os 4 .any (Rows.fnExactStoreOKSpec.pre6 enc Try.prog Try.f4 Rows.fnExactStoreOKRow.domain false) (Rows.fnExactStoreOKSpec.post enc Try.prog Try.f4 false true false false) := by
  refine returnsInHanded_of_change_sized (C := Try.checked) own started (by kernel_rfl) Try.func4
    (ChangeSpec.witness6 (enc := enc) (C := Try.checked) false ⟨#[], #[.slice none 0 0], []⟩ 8 (by kernel_rfl) (by kernel_rfl) (by kernel_rfl) (by kernel_rfl)) ?_
  intro W base args ds gs before hval0 hW hcnd hsz0 _
  have hsz : (DataW.weightsEach Try.prog (Try.f4.params.toList ++ Rows.fnExactStoreOKSpec.plain.varTypes Try.prog) (ds ++ gs)).all (· ≤ reachBytes) = true := hsz0
  have hval : ∀ (j : Nat) t v, Try.f4.params[j]? = some t → args[j]? = some v → Value.okWide Try.prog W .any base t v := hval0
  have hW' := hW
  obtain ⟨p, q, hA0, hV, rfl, hfz, hnd⟩ := hW
  have hA : DataW.TrodAll enc Try.prog W 0 (fun _ => true) true Try.f4.params.toList args.toList ds p := hA0
  rw [Try.params4] at hA hval hsz
  obtain ⟨v0, vs0, d0, ds0, p0, q0, hargs, rfl, rfl, h0, r0⟩ := trodAll_cons hA
  obtain ⟨rfl, rfl, rfl⟩ := trodAll_nil r0
  obtain rfl : args = #[v0] := by cases args; simp_all
  obtain ⟨rfl, rfl⟩ := trodVars_none hV
  have kk0 := h0
  have lt0 : ∀ x ∈ p0, x.block < W.heap.size := by obtain ⟨m, hm⟩ := kk0; exact DataW.trod_lt m _ _ _ hm
  obtain ⟨x0, hK0, hS0⟩ := Tells.arg (Tells.slice (b := 80) Try.underlying38 (by kernel_rfl) (by kernel_rfl) tells25) h0 hsz (j := 0) (t := 38) rfl rfl
  obtain ⟨a0, len0, cap0, rfl⟩ := okWide_slice Try.underlying38 (hval 0 38 v0 rfl rfl)
  obtain ⟨A0, c0, hq0, hl0, hC0⟩ := hK0
  obtain ⟨rfl, rfl, rfl⟩ : a0 = A0 ∧ len0 = x0.length ∧ cap0 = c0 := by simpa [Value.cells] using hq0
  clear hA0 hval0 hsz0 hsz
  obtain ⟨k, h⟩ := Pure.FnExactStoreOK x0 hS0
  refine (laws_FnExactStoreOK.calls k _ _ x0 true W hC0 hl0 h).mono fun e W' ⟨he, bel0⟩ => ?_
  have bel : Below W.heap.size W W' := bel0
  subst he
  exact ⟨_, rfl, _, _, _, [], _, [], hW', trodAll_mk1 (shut_bool Try.underlying4 _), (trodAll_cons_mk (Below.trod laidOut (by kernel_rfl) (of_decide_eq_true (by kernel_rfl)) kk0 bel lt0) trodAll_mk0), rfl, bel.frame _, fun h => by cases h⟩
theorem over : Rows.fnExactStoreOKRow.holds Try.pinned (OpenSpec.ofChange Rows.fnExactStoreOKSpec) :=
  OpenClaim.holds_of_wide 4 Try.f4 rfl rfl rfl rfl rfl rfl rfl ⟨rfl, rfl, rfl, rfl, rfl⟩ rfl rfl rfl rfl rfl (by kernel_rfl) Try.func4 (by kernel_rfl)
    (of_decide_eq_true (by kernel_rfl)) (by unfold Func.isWrapper; first | (rw [if_pos (by decide +kernel)]; kernel_rfl) | (rw [if_neg (by decide +kernel)]; exact ⟨rfl, rfl⟩))
    (fun os started H enc _ => lifted os started H enc)
theorem proved : Rows.FnExactStoreOKSaid := over
#print axioms proved
end Go.Proofs.Ytjaedjcdgeikpaa.fnExactStoreOK
namespace Go.Proofs.Ytjaedjcdgeikpaa
/-- The row, under a short name, for the claim. -/
theorem fnExactStoreOK_holds : Rows.FnExactStoreOKSaid := fnExactStoreOK.proved
end Go.Proofs.Ytjaedjcdgeikpaa
