/- Part 10 of what the law FnExactBoxAt stands on; the last part ends with the law's row. No condition of mine. -/
import Derived.Lib.Strings
import Derived.Lib.IndexBytes
import Derived.Laws.BitsLemmas
import Derived.IntWalk
import Derived.Test.YtflfbaffapbpiaaMFnExactBoxAt5
import Derived.Test.YtflfbaffapbpiaaMFnExactBoxAt2
import Derived.Test.YtflfbaffapbpiaaMFnExactBoxAt6
import Derived.Test.YtflfbaffapbpiaaMFnExactBoxAt4
import Derived.Test.YtflfbaffapbpiaaMFnExactBoxAt3
import Derived.Test.YtflfbaffapbpiaaMFnExactBoxAt8
import Derived.Test.YtflfbaffapbpiaaMFnExactBoxAt7
import Derived.Test.YtflfbaffapbpiaaMFnExactBoxAt9
import Derived.Test.YtflfbaffapbpiaaRows
import Derived.WalkKit
import Derived.ProofKit
import Derived.OpenShut
import Derived.ShutString
import Derived.ChangeOld
import Derived.Below
import Derived.SizedLaws
import Derived.Carry
/- Lemmas of mine: strings as lists of bytes; whole numbers of 64 bits; rounds. Plain. -/
set_option linter.unusedVariables false
set_option linter.unusedSimpArgs false
namespace Go.Proofs.Ytflfbaffapbpiaa.P
open Go.RowKit Go.Proofs.YtflfbaffapbpiaaW.PrintWords
/-- As Option.bind_some, but no equation by computing: for terms that are not to be computed by the kernel. -/
theorem bS {α β : Type} (a : α) (f : α → Option β) : (some a).bind f = f a := Eq.trans (Option.bind_some a f) (Eq.refl (f a))
/-- A string's bytes. -/
def bl (s : ByteArray) : List UInt8 := s.data.toList
/-- Bytes as numbers. -/
def nb (l : List UInt8) : List Int := l.map fun b => (b.toNat : Int)
theorem bl_inj {a b : ByteArray} (h : bl a = bl b) : a = b := WideShapes.bytes_inj h
theorem toList_bl (s : ByteArray) : s.toList = bl s := Lib.toList_data s
theorem toList_iff {a b : ByteArray} : a.toList = b.toList ↔ a = b := ⟨fun h => bl_inj (by rw [← toList_bl, ← toList_bl, h]), fun h => by rw [h]⟩
theorem bl_size (s : ByteArray) : s.size = (bl s).length := Lib.size_eq s
theorem bl_append (a b : ByteArray) : bl (a ++ b) = bl a ++ bl b := by simp [bl]
theorem bl_extract (s : ByteArray) (i j : Nat) : bl (s.extract i j) = ((bl s).drop i).take (j - i) := Lib.extract_data s i j
theorem bl_mk (l : List UInt8) : bl ⟨l.toArray⟩ = l := by simp [bl]
theorem bl_empty : bl (⟨#[]⟩ : ByteArray) = [] := rfl
theorem mk_bl (s : ByteArray) : (⟨(bl s).toArray⟩ : ByteArray) = s := bl_inj (bl_mk _)
theorem bytesOf_bl (s : ByteArray) : bytesOf s = nb (bl s) := rfl
theorem nb_length (l : List UInt8) : (nb l).length = l.length := by simp [nb]
theorem nb_append (l m : List UInt8) : nb (l ++ m) = nb l ++ nb m := by simp [nb]
theorem strOf_nb (l : List UInt8) : strOfNums (nb l) = ⟨l.toArray⟩ := by
 simp [strOfNums, nb, Function.comp_def]
theorem bl_strOf_nb (l : List UInt8) : bl (strOfNums (nb l)) = l := by rw [strOf_nb, bl_mk]
theorem bt_eq (s : ByteArray) (i : Nat) (h : i < (bl s).length) : bt s (i : Int) = (((bl s)[i]'h).toNat : Int) := by
 have hs : i < s.size := by rw [bl_size]; exact h
 unfold bt
 rw [dif_pos (by simpa using hs)]
 have h1 := Lib.data_getElem? s i hs
 have h2 : (bl s)[i]? = some ((bl s)[i]'h) := List.getElem?_eq_getElem h
 have h3 : s[i]'hs = (bl s)[i]'h := Option.some.inj (h1.symm.trans h2)
 simp only [Int.toNat_natCast]
 rw [← h3]
theorem rd_nb (l : List UInt8) (i : Nat) (h : i < l.length) : rd (nb l) (i : Int) = ((l[i]'h).toNat : Int) := by
 simp [rd, nb, List.getD_eq_getElem?_getD, List.getElem?_map, List.getElem?_eq_getElem h]
theorem byte_lt (b : UInt8) : b.toNat < 256 := b.toNat_lt
/-- No wrap within the bounds. -/
theorem w64 {n : Int} (h0 : -9223372036854775808 ≤ n) (h1 : n ≤ 9223372036854775807) : wrap64 n = n := by unfold wrap64; omega
theorem w64n (n : Nat) (h1 : n ≤ 9223372036854775807) : wrap64 (n : Int) = n := w64 (by omega) (by omega)
theorem w64s (n : Nat) (h1 : n + 1 ≤ 9223372036854775807) : wrap64 ((n : Int) + 1) = ((n + 1 : Nat) : Int) := by rw [w64 (by omega) (by omega)]; rfl
theorem w64add (a b : Nat) (h : a + b ≤ 9223372036854775807) : wrap64 ((a : Int) + (b : Int)) = ((a + b : Nat) : Int) := by rw [w64 (by omega) (by omega)]; rfl
theorem w64lit (a b : Nat) (h : a + b ≤ 9223372036854775807) : wrap64 ((a : Int) + wrap64 ((b : Int))) = ((a + b : Nat) : Int) := by rw [w64n b (by omega), w64add a b h]
theorem w64sub (a b : Nat) (h : b ≤ a) (h2 : a ≤ 9223372036854775807) : wrap64 ((a : Int) - (b : Int)) = ((a - b : Nat) : Int) := by rw [w64 (by omega) (by omega)]; omega
theorem bits_xor_nat (k : IntKind) (j : Nat) (hj : j ≤ k.bits) (hk : ∀ n : Int, 0 ≤ n → n < 2 ^ j → k.wrap n = n) (a b : Nat) (ha : a < 2 ^ j) (hb : b < 2 ^ j) : bits .xor k a b = ((a ^^^ b : Nat) : Int) := by
 have hp : 2 ^ j ≤ 2 ^ k.bits := Nat.pow_le_pow_right (by decide) hj
 have ha' : a % 2 ^ k.bits = a := Nat.mod_eq_of_lt (Nat.lt_of_lt_of_le ha hp)
 have hb' : b % 2 ^ k.bits = b := Nat.mod_eq_of_lt (Nat.lt_of_lt_of_le hb hp)
 simp only [bits, BitVec.ofInt_natCast, BitVec.toNat_xor, BitVec.toNat_ofNat, ha', hb']
 exact hk _ (Int.natCast_nonneg _) (by exact_mod_cast Nat.xor_lt_two_pow ha hb)
theorem u32_in (n : Int) (h0 : 0 ≤ n) (h1 : n < 2 ^ 32) : IntKind.u32.wrap n = n := by rw [IntKind.wrap_u32]; omega
theorem i64_in32 (n : Int) (h0 : 0 ≤ n) (h1 : n < 2 ^ 32) : IntKind.i64.wrap n = n := by rw [IntKind.wrap_i64]; omega
theorem xor_u32 (a b : Nat) (ha : a < 4294967296) (hb : b < 4294967296) : bits .xor .u32 a b = ((a ^^^ b : Nat) : Int) := bits_xor_nat .u32 32 (by decide) u32_in a b ha hb
theorem xor_i64 (a b : Nat) (ha : a < 4294967296) (hb : b < 4294967296) : bits .xor .i64 a b = ((a ^^^ b : Nat) : Int) := bits_xor_nat .i64 32 (by decide) i64_in32 a b ha hb
/-- Rounds: what is told for all numbers of rounds from some on. -/
theorem Ev.k {α : Type} {g : Nat → Option α} {r : α} (h : Ev g r) : ∃ k, g k = some r := h.rounds
theorem Ev.and {α β : Type} {g : Nat → Option α} {f : Nat → Option β} {r : α} {q : β} (h : Ev g r) (h' : Ev f q) : ∃ K, ∀ k, K ≤ k → g k = some r ∧ f k = some q := by
 obtain ⟨K, h⟩ := h
 obtain ⟨K', h'⟩ := h'
 exact ⟨max K K', fun k hk => ⟨h k (by omega), h' k (by omega)⟩⟩
theorem Ev.uniq {α : Type} {g : Nat → Option α} {r q : α} (h : Ev g r) (h' : Ev g q) : r = q := by
 obtain ⟨K, hk⟩ := Ev.and h h'
 have h1 := hk K (Nat.le_refl _)
 exact Option.some.inj (h1.1.symm.trans h1.2)
end Go.Proofs.Ytflfbaffapbpiaa.P
/- Lemmas of mine: loops that count up: over any function of rounds. Plain. -/
set_option linter.unusedVariables false
set_option linter.unusedSimpArgs false
namespace Go.Proofs.Ytflfbaffapbpiaa.P
open Go.RowKit Go.Proofs.YtflfbaffapbpiaaW.PrintWords
/-- A loop whose rounds change the place alone. -/
theorem up_loop {R : Type} (L : Nat → Int → Option R) (n : Nat) (r : R)
  (hstep : ∀ i : Nat, i < n → ∃ K, ∀ k, K ≤ k → L (k + 1) (i : Int) = L k ((i + 1 : Nat) : Int))
  (hend : ∃ K, ∀ k, K ≤ k → L (k + 1) (n : Int) = some r) : ∀ d i : Nat, i + d = n → Ev (fun k => L k (i : Int)) r := by
 intro d
 induction d with
 | zero =>
  intro i hi
  obtain rfl : i = n := by omega
  obtain ⟨K, h⟩ := hend
  exact ⟨K + 1, fun k hk => by obtain ⟨m, rfl⟩ : ∃ m, k = m + 1 := ⟨k - 1, by omega⟩; exact h m (by omega)⟩
 | succ d ih =>
  intro i hi
  obtain ⟨K, h⟩ := hstep i (by omega)
  obtain ⟨K2, h2⟩ := ih (i + 1) (by omega)
  refine ⟨K + K2 + 1, fun k hk => ?_⟩
  obtain ⟨m, rfl⟩ : ∃ m, k = m + 1 := ⟨k - 1, by omega⟩
  show L (m + 1) (i : Int) = some r
  rw [h m (by omega)]
  exact h2 m (by omega)
/-- A loop with a state: what holds of the state says what comes out. -/
theorem st_loop {σ R : Type} (L : Nat → σ → Int → Option R) (n : Nat) (out : Nat → σ → R → Prop)
  (hstep : ∀ (i : Nat) (s : σ), i < n → (∃ r, (∃ K, ∀ k, K ≤ k → L (k + 1) s (i : Int) = some r) ∧ out i s r) ∨ ∃ s', (∃ K, ∀ k, K ≤ k → L (k + 1) s (i : Int) = L k s' ((i + 1 : Nat) : Int)) ∧ ∀ r, out (i + 1) s' r → out i s r)
  (hend : ∀ s, ∃ r, (∃ K, ∀ k, K ≤ k → L (k + 1) s (n : Int) = some r) ∧ out n s r) : ∀ (d i : Nat) (s : σ), i + d = n → ∃ r, Ev (fun k => L k s (i : Int)) r ∧ out i s r := by
 intro d
 induction d with
 | zero =>
  intro i s hi
  obtain rfl : i = n := by omega
  obtain ⟨r, ⟨K, h⟩, ho⟩ := hend s
  exact ⟨r, ⟨K + 1, fun k hk => by obtain ⟨m, rfl⟩ : ∃ m, k = m + 1 := ⟨k - 1, by omega⟩; exact h m (by omega)⟩, ho⟩
 | succ d ih =>
  intro i s hi
  rcases hstep i s (by omega) with ⟨r, ⟨K, h⟩, ho⟩ | ⟨s', ⟨K, h⟩, ho⟩
  ·exact ⟨r, ⟨K + 1, fun k hk => by obtain ⟨m, rfl⟩ : ∃ m, k = m + 1 := ⟨k - 1, by omega⟩; exact h m (by omega)⟩, ho⟩
  ·obtain ⟨r, ⟨K2, h2⟩, ho2⟩ := ih (i + 1) s' (by omega)
   refine ⟨r, ⟨K + K2 + 1, fun k hk => ?_⟩, ho r ho2⟩
   obtain ⟨m, rfl⟩ : ∃ m, k = m + 1 := ⟨k - 1, by omega⟩
   show L (m + 1) s (i : Int) = some r
   rw [h m (by omega)]
   exact h2 m (by omega)
theorem map_set {α β : Type} (xs : List α) (ys : List β) (g : α → β) (i : Nat) (hi : i < xs.length) (hl : ys.length = xs.length) (hy : ys.take i = (xs.take i).map g) :
  (ys.set i (g (xs[i]'hi))).take (i + 1) = (xs.take (i + 1)).map g := by
 have e2 : (xs.take (i + 1)).map g = (xs.take i).map g ++ [g (xs[i]'hi)] := by
  rw [List.take_add_one, List.getElem?_eq_getElem hi, List.map_append]
  rfl
 have e : ((xs.take i).map g).length = i := by rw [List.length_map, List.length_take]; omega
 rw [e2, List.take_set, List.take_add_one, List.getElem?_eq_getElem (by omega), hy, List.set_append_right _ _ (by omega), e, Nat.sub_self]
 rfl
/-- A loop that fills a row of the same length. -/
theorem copy_loop {α β : Type} (L : Nat → List β → Int → Option (List β)) (xs : List α) (g : α → β)
  (hstep : ∀ (i : Nat) (ys : List β) (hi : i < xs.length), ys.length = xs.length → ∃ K, ∀ k, K ≤ k → L (k + 1) ys (i : Int) = L k (ys.set i (g (xs[i]'hi))) ((i + 1 : Nat) : Int))
  (hend : ∀ ys, ys.length = xs.length → ∃ K, ∀ k, K ≤ k → L (k + 1) ys (xs.length : Int) = some ys) :
  ∀ (d i : Nat) (ys : List β), i + d = xs.length → ys.length = xs.length → ys.take i = (xs.take i).map g → Ev (fun k => L k ys (i : Int)) (xs.map g) := by
 intro d
 induction d with
 | zero =>
  intro i ys hi hl hy
  obtain rfl : i = xs.length := by omega
  rw [List.take_of_length_le (by omega), List.take_of_length_le (Nat.le_refl _)] at hy
  subst hy
  obtain ⟨K, h⟩ := hend _ hl
  exact ⟨K + 1, fun k hk => by obtain ⟨m, rfl⟩ : ∃ m, k = m + 1 := ⟨k - 1, by omega⟩; exact h m (by omega)⟩
 | succ d ih =>
  intro i ys hi hl hy
  obtain ⟨K, h⟩ := hstep i ys (by omega) hl
  obtain ⟨K2, h2⟩ := ih (i + 1) (ys.set i (g (xs[i]'(by omega)))) (by omega) (by rw [List.length_set]; exact hl) (map_set xs ys g i (by omega) hl hy)
  refine ⟨K + K2 + 1, fun k hk => ?_⟩
  obtain ⟨m, rfl⟩ : ∃ m, k = m + 1 := ⟨k - 1, by omega⟩
  show L (m + 1) ys (i : Int) = _
  rw [h m (by omega)]
  exact h2 m (by omega)
theorem getD_nat {α : Type} (xs : List α) (z : α) (i : Nat) (h : i < xs.length) : xs.getD ((i : Nat) : Int).toNat z = xs[i]'h := by
 rw [Int.toNat_natCast, List.getD_eq_getElem?_getD, List.getElem?_eq_getElem h]; rfl
end Go.Proofs.Ytflfbaffapbpiaa.P
/- Lemmas of mine: bounds, the fields of a log. Plain. -/
set_option linter.unusedVariables false
set_option linter.unusedSimpArgs false
namespace Go.Proofs.Ytflfbaffapbpiaa.P
open Go.RowKit Go.Proofs.YtflfbaffapbpiaaW.PrintWords
theorem l01In_eq (a b c : Int) : spec_l01In.f a b c = some (decide (b ≤ a ∧ a ≤ c)) := by
 unfold spec_l01In.f
 by_cases h : a ≥ b
 ·rw [if_pos h]; simp [show b ≤ a from h]
 ·rw [if_neg h]; simp; omega
theorem within_eq (a b c : Int) : impl_within.f a b c = some (decide (b ≤ a ∧ a ≤ c)) := l01In_eq a b c
end Go.Proofs.Ytflfbaffapbpiaa.P
/- Lemmas of mine: the two NameOK tell the same. Plain. -/
set_option linter.unusedVariables false
set_option linter.unusedSimpArgs false
namespace Go.Proofs.Ytflfbaffapbpiaa.P
open Go.RowKit Go.Proofs.YtflfbaffapbpiaaW.PrintWords
def isLet (c : Int) : Bool := decide (97 ≤ c ∧ c ≤ 122 ∨ 65 ≤ c ∧ c ≤ 90)
def isDig (c : Int) : Bool := decide (48 ≤ c ∧ c ≤ 57)
theorem implDigit_eq (c : Int) : impl_isDigit.f c = some (isDig c) := by
 unfold impl_isDigit.f isDig
 by_cases h : c ≥ 48 <;> simp [h] <;> omega
theorem specDigit_eq (c : Int) : spec_l00Digit.f c = some (isDig c) := implDigit_eq c
theorem implLetter_eq (c : Int) : impl_isLetter.f c = some (isLet c) := by
 unfold impl_isLetter.f isLet
 by_cases h1 : c ≥ 97 <;> by_cases h2 : c ≤ 122 <;> by_cases h3 : c ≥ 65 <;> by_cases h4 : c ≤ 90 <;> simp [h1, h2, h3, h4] <;> omega
theorem specLetter_eq (c : Int) : spec_l00Letter.f c = some (isLet c || c == 95) := by
 unfold spec_l00Letter.f isLet
 by_cases h1 : c ≥ 97 <;> by_cases h2 : c ≤ 122 <;> by_cases h3 : c ≥ 65 <;> by_cases h4 : c ≤ 90 <;> simp [h1, h2, h3, h4] <;> omega
/-- A byte of a name. -/
def nameB (b : UInt8) : Bool := isLet b.toNat || isDig b.toNat || b.toNat == 95
/-- A name. -/
def nameR (l : List UInt8) : Bool := decide (1 ≤ l.length ∧ l.length ≤ 40) && !(l.head?.any fun b => isDig b.toNat) && l.all nameB
theorem implName_l0 (s : ByteArray) (hs : (bl s).length ≤ 40) : ∀ (d i : Nat), i + d = (bl s).length →
  Ev (fun k => impl_NameOK.l0 k s (s.size : Int) (i : Int)) (((bl s).drop i).all nameB) := by
 intro d
 induction d with
 | zero =>
  intro i hi
  rw [List.drop_eq_nil_of_le (by omega)]
  refine Ev.step (f := fun _ => some _) (fun k => ?_) (Ev.now _)
  simp only [impl_NameOK.l0]
  rw [if_neg (by rw [bl_size]; omega)]
  rfl
 | succ d ih =>
  intro i hi
  have hlt : i < (bl s).length := by omega
  have hz : i < s.size := by rw [bl_size]; exact hlt
  have hbt := bt_eq s i hlt
  rw [List.drop_eq_getElem_cons hlt, List.all_cons]
  generalize (bl s)[i]'hlt = b at hbt ⊢
  by_cases hc : nameB b = true
  ·rw [hc, Bool.true_and]
   refine Ev.step (f := fun k => impl_NameOK.l0 k s (s.size : Int) ((i + 1 : Nat) : Int)) (fun k => ?_) (ih (i + 1) (by omega))
   simp only [impl_NameOK.l0]
   rw [if_pos (by omega), if_pos (by omega), if_pos (by omega), hbt, w64s i (by omega)]
   simp only [implLetter_eq, implDigit_eq, Option.bind_some]
   unfold nameB at hc
   cases h1 : isLet b.toNat with
   | true => rfl
   | false =>
    cases h2 : isDig b.toNat with
    | true => rfl
    | false =>
     have h3 : b.toNat = 95 := by simpa [h1, h2] using hc
     simp [h3]
  ·have hc' : nameB b = false := by simpa using hc
   rw [hc', Bool.false_and]
   refine Ev.step (f := fun _ => some _) (fun k => ?_) (Ev.now _)
   simp only [impl_NameOK.l0]
   rw [if_pos (by omega), if_pos (by omega), if_pos (by omega), hbt]
   simp only [implLetter_eq, implDigit_eq, Option.bind_some]
   unfold nameB at hc'
   simp only [Bool.or_eq_false_iff] at hc'
   obtain ⟨⟨h1, h2⟩, h3⟩ := hc'
   have h4 : ¬ (b.toNat : Int) = 95 := by
    intro h
    have : b.toNat = 95 := by omega
    simp [this] at h3
   simp [h1, h2, h4]
theorem implName_ev (s : ByteArray) : Ev (fun k => impl_NameOK.f k s) (nameR (bl s)) := by
 by_cases h : 1 ≤ s.size ∧ s.size ≤ 40
 ·have hlt : 0 < (bl s).length := by rw [← bl_size]; omega
  have hhd : (bl s).head? = some (bl s)[0] := by rw [List.head?_eq_getElem?, List.getElem?_eq_getElem hlt]
  have e : nameR (bl s) = (!(isDig ((bl s)[0]).toNat) && (bl s).all nameB) := by
   unfold nameR
   rw [hhd, ← bl_size]
   simp [h]
  have hf : ∀ k, impl_NameOK.f k s = impl_NameOK.j0 k s (isDig ((bl s)[0]).toNat) := fun k => by
   simp only [impl_NameOK.f, within_eq, Option.bind_some]
   rw [if_pos (by simp; omega), if_pos (by omega)]
   have := bt_eq s 0 hlt
   rw [show ((0 : Nat) : Int) = 0 from rfl] at this
   rw [this, implDigit_eq]
   rfl
  refine Ev.congr hf ?_
  rw [e]
  cases hd : isDig ((bl s)[0]).toNat with
  | true =>
   refine Ev.step (f := fun _ => some _) (fun k => ?_) (Ev.now _)
   simp [impl_NameOK.j0]
  | false =>
   refine Ev.step (f := fun k => impl_NameOK.l0 k s (s.size : Int) ((0 : Nat) : Int)) (fun k => ?_) (implName_l0 s (by rw [← bl_size]; exact h.2) (bl s).length 0 (by omega))
   simp [impl_NameOK.j0]
 ·have e : nameR (bl s) = false := by
   unfold nameR
   rw [← bl_size]
   simp only [decide_eq_false h, Bool.false_and]
  rw [e]
  refine Ev.congr (f := fun k => impl_NameOK.j0 k s true) (fun k => ?_) ?_
  ·simp only [impl_NameOK.f, within_eq, Option.bind_some]
   rw [if_neg (by simp; omega)]
  ·refine Ev.step (f := fun _ => some _) (fun k => ?_) (Ev.now _)
   simp [impl_NameOK.j0]
theorem specName_l0 (s : ByteArray) (hs : (bl s).length ≤ 40) : ∀ (d i : Nat), i + d = (bl s).length →
  Ev (fun k => spec_l00Word.l0 k s (i : Int)) (((bl s).drop i).all nameB) := by
 intro d
 induction d with
 | zero =>
  intro i hi
  rw [List.drop_eq_nil_of_le (by omega)]
  refine Ev.step (f := fun _ => some _) (fun k => ?_) (Ev.now _)
  simp only [spec_l00Word.l0]
  rw [if_neg (by rw [bl_size]; omega)]
  rfl
 | succ d ih =>
  intro i hi
  have hlt : i < (bl s).length := by omega
  have hz : i < s.size := by rw [bl_size]; exact hlt
  have hbt := bt_eq s i hlt
  rw [List.drop_eq_getElem_cons hlt, List.all_cons]
  generalize (bl s)[i]'hlt = b at hbt ⊢
  have hn : nameB b = ((isLet b.toNat || (b.toNat : Int) == 95) || isDig b.toNat) := by
   unfold nameB
   have : ((b.toNat : Int) == 95) = (b.toNat == 95) := by
    rw [Bool.eq_iff_iff]; simp; omega
   rw [this]
   cases isLet b.toNat <;> cases isDig b.toNat <;> simp
  rw [hn]
  cases h1 : (isLet b.toNat || (b.toNat : Int) == 95) with
  | true =>
   rw [Bool.true_or, Bool.true_and]
   refine Ev.step (f := fun k => spec_l00Word.l0 k s ((i + 1 : Nat) : Int)) (fun k => ?_) (ih (i + 1) (by omega))
   simp only [spec_l00Word.l0]
   rw [if_pos (by omega), if_pos (by omega), hbt, w64s i (by omega)]
   simp only [specLetter_eq, Option.bind_some, h1, if_true]
  | false =>
   rw [Bool.false_or]
   cases h2 : isDig b.toNat with
   | true =>
    rw [Bool.true_and]
    refine Ev.step (f := fun k => spec_l00Word.l0 k s ((i + 1 : Nat) : Int)) (fun k => ?_) (ih (i + 1) (by omega))
    simp only [spec_l00Word.l0]
    rw [if_pos (by omega), if_pos (by omega), hbt, w64s i (by omega)]
    simp only [specLetter_eq, specDigit_eq, Option.bind_some, h1, h2, if_true]
    rfl
   | false =>
    rw [Bool.false_and]
    refine Ev.step (f := fun _ => some _) (fun k => ?_) (Ev.now _)
    simp only [spec_l00Word.l0]
    rw [if_pos (by omega), if_pos (by omega), hbt]
    simp only [specLetter_eq, specDigit_eq, Option.bind_some, h1, h2]
    rfl
theorem specName_ev (s : ByteArray) : Ev (fun k => spec_NameOK.f k s) (nameR (bl s)) := by
 suffices h : Ev (fun k => spec_l00Word.f k s) (nameR (bl s)) by
  obtain ⟨K, h⟩ := h
  exact ⟨K, fun k hk => by simp only [spec_NameOK.f, h k hk]; rfl⟩
 by_cases h : 1 ≤ s.size ∧ s.size ≤ 40
 ·have hlt : 0 < (bl s).length := by rw [← bl_size]; omega
  have hhd : (bl s).head? = some (bl s)[0] := by rw [List.head?_eq_getElem?, List.getElem?_eq_getElem hlt]
  have e : nameR (bl s) = (!(isDig ((bl s)[0]).toNat) && (bl s).all nameB) := by
   unfold nameR
   rw [hhd, ← bl_size]
   simp [h]
  have hf : ∀ k, spec_l00Word.f k s = spec_l00Word.j0 k s (!(isLet ((bl s)[0]).toNat || (((bl s)[0]).toNat : Int) == 95)) := fun k => by
   simp only [spec_l00Word.f]
   rw [if_neg (by omega), if_neg (by omega), if_pos (by omega)]
   have := bt_eq s 0 hlt
   rw [show ((0 : Nat) : Int) = 0 from rfl] at this
   rw [this, specLetter_eq]
   rfl
  refine Ev.congr hf ?_
  have hall : (bl s).all nameB = (nameB (bl s)[0] && ((bl s).drop 1).all nameB) := by
   have := List.drop_eq_getElem_cons hlt
   rw [List.drop_zero] at this
   conv => lhs; rw [this]
   rfl
  rw [e, hall]
  have h95 : ((((bl s)[0]).toNat : Int) == 95) = (((bl s)[0]).toNat == 95) := by
   rw [Bool.eq_iff_iff]; simp; omega
  have hx : isDig ((bl s)[0]).toNat = true → (isLet ((bl s)[0]).toNat || (((bl s)[0]).toNat : Int) == 95) = false := by
   unfold isDig isLet
   simp
   omega
  cases hl : (isLet ((bl s)[0]).toNat || (((bl s)[0]).toNat : Int) == 95) with
  | true =>
   have hd : isDig ((bl s)[0]).toNat = false := by
    cases hd : isDig ((bl s)[0]).toNat with
    | true => rw [hx hd] at hl; cases hl
    | false => rfl
   have hn : nameB (bl s)[0] = true := by
    unfold nameB
    rw [← h95]
    revert hl
    cases isLet ((bl s)[0]).toNat <;> simp [hd]
   rw [hd, hn]
   simp only [Bool.not_false, Bool.true_and]
   refine Ev.step (f := fun k => spec_l00Word.l0 k s ((1 : Nat) : Int)) (fun k => ?_) (specName_l0 s (by rw [← bl_size]; exact h.2) ((bl s).length - 1) 1 (by omega))
   simp [spec_l00Word.j0]
  | false =>
   have hn : (!(isDig ((bl s)[0]).toNat) && (nameB (bl s)[0] && ((bl s).drop 1).all nameB)) = false := by
    cases hd : isDig ((bl s)[0]).toNat with
    | true => rfl
    | false =>
     have : nameB (bl s)[0] = false := by
      unfold nameB
      rw [← h95]
      revert hl
      cases isLet ((bl s)[0]).toNat <;> simp [hd]
     rw [this]
     rfl
   rw [hn]
   refine Ev.step (f := fun _ => some _) (fun k => ?_) (Ev.now _)
   simp [spec_l00Word.j0]
 ·have e : nameR (bl s) = false := by
   unfold nameR
   rw [← bl_size]
   simp only [decide_eq_false h, Bool.false_and]
  rw [e]
  refine Ev.congr (f := fun k => spec_l00Word.j0 k s true) (fun k => ?_) ?_
  ·simp only [spec_l00Word.f]
   by_cases h1 : (s.size : Int) < 1
   ·rw [if_pos h1]
   ·rw [if_neg h1, if_pos (by omega)]
  ·refine Ev.step (f := fun _ => some _) (fun k => ?_) (Ev.now _)
   simp [spec_l00Word.j0]
end Go.Proofs.Ytflfbaffapbpiaa.P
/- Lemmas of mine: the two BoxOK tell the same. Plain. -/
set_option linter.unusedVariables false
set_option linter.unusedSimpArgs false
namespace Go.Proofs.Ytflfbaffapbpiaa.P
open Go.RowKit Go.Proofs.YtflfbaffapbpiaaW.PrintWords
/-- Right mails behind a uid, below a next one. -/
def mailsR (nx : Int) : Int → List S68 → Bool
 | _, [] => true
 | b, x :: l => decide (b + 1 ≤ x.f0 ∧ x.f0 ≤ nx - 1) && decide (0 ≤ x.f1 ∧ x.f1 ≤ 31) && decide (x.f2.size ≤ 4000) && mailsR nx x.f0 l
/-- A text is in a list. -/
def hasT (l : List ByteArray) (x : ByteArray) : Bool := l.any fun y => bl y == bl x
theorem hasT_nil (x : ByteArray) : hasT [] x = false := rfl
theorem hasT_hit (l : List ByteArray) (a x : ByteArray) (h : a = x) : hasT (a :: l) x = true := by simp [hasT, h]
theorem hasT_miss (l : List ByteArray) (a x : ByteArray) (h : ¬ a = x) : hasT (a :: l) x = hasT l x := by
 have : (bl a == bl x) = false := beq_eq_false_iff_ne.mpr fun e => h (bl_inj e)
 simp [hasT, this]
/-- Right keys behind others: each of 1 to 200 bytes, none that stood before. -/
def keysR : List ByteArray → List ByteArray → Bool
 | _, [] => true
 | p, x :: l => decide (1 ≤ x.size ∧ x.size ≤ 200) && !(hasT p x) && keysR (p ++ [x]) l
/-- A right box. -/
def boxR (s : ByteArray) (v nx : Int) (ms : List S68) (ks : List ByteArray) : Bool :=
 nameR (bl s) && decide ((1 ≤ v ∧ v ≤ 1000000) ∧ (1 ≤ nx ∧ nx ≤ 1001) ∧ ms.length ≤ 30 ∧ ks.length ≤ 60 ∧ (ks.length : Int) = nx - 1) && mailsR nx 0 ms && keysR [] ks
theorem rdOf_nat (xs : List ByteArray) (i : Nat) (h : i < xs.length) : rdOf ByteArray.empty xs (i : Int) = xs[i]'h := by
 unfold rdOf
 exact getD_nat xs _ i h
theorem specHasT_l0 (l : List ByteArray) (x : ByteArray) (hl : l.length ≤ 4611686018427387904) : ∀ (d i : Nat), i + d = l.length → Ev (fun k => spec_l06Has.l0 k l x (i : Int)) (hasT (l.drop i) x) := by
 intro d
 induction d with
 | zero =>
  intro i hi
  rw [List.drop_eq_nil_of_le (by omega)]
  refine Ev.step (f := fun _ => some _) (fun k => ?_) (Ev.now _)
  simp only [spec_l06Has.l0]
  rw [if_neg (by omega)]
  rfl
 | succ d ih =>
  intro i hi
  have hlt : i < l.length := by omega
  rw [List.drop_eq_getElem_cons hlt]
  have e : ∀ k, spec_l06Has.l0 (k + 1) l x (i : Int) = if l[i]'hlt = x then some true else spec_l06Has.l0 k l x ((i + 1 : Nat) : Int) := fun k => by
   simp only [spec_l06Has.l0, rdOf_nat l i hlt, toList_iff]
   rw [if_pos (by omega), if_pos (by omega), w64s i (by omega)]
  by_cases hx : l[i]'hlt = x
  ·rw [hasT_hit _ _ _ hx]
   exact Ev.step (f := fun _ => some _) (fun k => by rw [e, if_pos hx]) (Ev.now _)
  ·rw [hasT_miss _ _ _ hx]
   exact Ev.step (f := fun k => spec_l06Has.l0 k l x ((i + 1 : Nat) : Int)) (fun k => by rw [e, if_neg hx]) (ih (i + 1) (by omega))
theorem specHasT_ev (l : List ByteArray) (x : ByteArray) (hl : l.length ≤ 4611686018427387904) : Ev (fun k => spec_l06Has.f k l x) (hasT l x) := specHasT_l0 l x hl l.length 0 (by omega)
theorem index_l0 (l : List ByteArray) (x : ByteArray) (hl : l.length ≤ 4611686018427387904) : ∀ (d i : Nat), i + d = l.length → ∃ r, Ev (fun k => slices_Index_string.l0 k l x (l.length : Int) (i : Int)) r ∧ decide (r ≥ 0) = hasT (l.drop i) x := by
 intro d
 induction d with
 | zero =>
  intro i hi
  rw [List.drop_eq_nil_of_le (by omega)]
  refine ⟨-1, Ev.step (f := fun _ => some _) (fun k => ?_) (Ev.now _), by rw [hasT_nil]; decide⟩
  simp only [slices_Index_string.l0]
  rw [if_neg (by omega)]
 | succ d ih =>
  intro i hi
  have hlt : i < l.length := by omega
  rw [List.drop_eq_getElem_cons hlt]
  have e : ∀ k, slices_Index_string.l0 (k + 1) l x (l.length : Int) (i : Int) = if x = l[i]'hlt then some (i : Int) else slices_Index_string.l0 k l x (l.length : Int) ((i + 1 : Nat) : Int) := fun k => by
   simp only [slices_Index_string.l0, rdOf_nat l i hlt, toList_iff]
   rw [if_pos (by omega), if_pos (by omega), if_pos (by omega), w64s i (by omega)]
  by_cases hx : x = l[i]'hlt
  ·refine ⟨(i : Int), Ev.step (f := fun _ => some _) (fun k => by rw [e, if_pos hx]) (Ev.now _), ?_⟩
   rw [hasT_hit _ _ _ hx.symm]
   exact decide_eq_true (Int.natCast_nonneg i)
  ·obtain ⟨r, h1, h2⟩ := ih (i + 1) (by omega)
   refine ⟨r, Ev.step (f := fun k => slices_Index_string.l0 k l x (l.length : Int) ((i + 1 : Nat) : Int)) (fun k => by rw [e, if_neg hx]) h1, ?_⟩
   rw [h2, hasT_miss _ _ _ (fun h => hx h.symm)]
theorem contains_ev (l : List ByteArray) (x : ByteArray) (hl : l.length ≤ 4611686018427387904) : Ev (fun k => slices_Contains_string.f k l x) (hasT l x) := by
 obtain ⟨r, ⟨K, h1⟩, h2⟩ := index_l0 l x hl l.length 0 (by omega)
 rw [List.drop_zero] at h2
 refine ⟨K, fun k hk => ?_⟩
 have e : slices_Index_string.f k l x = some r := h1 k hk
 simp only [slices_Contains_string.f, e, bS, h2]
theorem specKeys_l1 (s : ByteArray) (v nx : Int) (ms : List S68) (ks : List ByteArray) (hl : ks.length ≤ 60) : ∀ (d i : Nat), i + d = ks.length → Ev (fun k => spec_BoxOK.l1 k (i : Int) s v nx ms ks) (keysR (ks.take i) (ks.drop i)) := by
 intro d
 induction d with
 | zero =>
  intro i hi
  rw [List.drop_eq_nil_of_le (by omega)]
  refine Ev.step (f := fun _ => some _) (fun k => ?_) (Ev.now _)
  simp only [spec_BoxOK.l1]
  rw [if_neg (by omega)]
  rfl
 | succ d ih =>
  intro i hi
  have hlt : i < ks.length := by omega
  obtain ⟨K, hK⟩ := specHasT_ev (ks.take i) (ks[i]'hlt) (by rw [List.length_take]; omega)
  obtain ⟨K2, hK2⟩ := ih (i + 1) (by omega)
  have ht : ks.take (i + 1) = ks.take i ++ [ks[i]'hlt] := by rw [List.take_add_one, List.getElem?_eq_getElem hlt]; rfl
  rw [ht] at hK2
  rw [List.drop_eq_getElem_cons hlt]
  simp only [keysR]
  refine ⟨K + K2 + 1, fun k hk => ?_⟩
  obtain ⟨m, rfl⟩ : ∃ m, k = m + 1 := ⟨k - 1, by omega⟩
  have h1 := hK m (by omega)
  have h2 := hK2 m (by omega)
  simp only at h1 h2
  simp only [spec_BoxOK.l1, rdOf_nat ks i hlt, l01In_eq, Int.toNat_natCast, h1, bS]
  rw [if_pos (by omega), if_pos (by omega), if_pos (show (i : Int) ≤ (ks.length : Int) by omega), w64s i (by omega), h2]
  generalize ks[i]'hlt = x
  by_cases c1 : 1 ≤ x.size ∧ x.size ≤ 200
  ·rw [if_pos (by rw [decide_eq_true_eq]; omega), decide_eq_true c1]
   cases hasT (ks.take i) x <;> rfl
  ·rw [if_neg (by rw [decide_eq_true_eq]; omega), decide_eq_false c1]
   rfl
theorem implKeys_l1 (s : ByteArray) (v nx : Int) (ms : List S68) (ks : List ByteArray) (hl : ks.length ≤ 60) : ∀ (d i : Nat), i + d = ks.length → Ev (fun k => impl_BoxOK.l1 k ks (ks.length : Int) (i : Int) s v nx ms ks) (keysR (ks.take i) (ks.drop i)) := by
 intro d
 induction d with
 | zero =>
  intro i hi
  rw [List.drop_eq_nil_of_le (by omega)]
  refine Ev.step (f := fun _ => some _) (fun k => ?_) (Ev.now _)
  simp only [impl_BoxOK.l1]
  rw [if_neg (by omega)]
  rfl
 | succ d ih =>
  intro i hi
  have hlt : i < ks.length := by omega
  obtain ⟨K, hK⟩ := contains_ev (ks.take i) (ks[i]'hlt) (by rw [List.length_take]; omega)
  obtain ⟨K2, hK2⟩ := ih (i + 1) (by omega)
  have ht : ks.take (i + 1) = ks.take i ++ [ks[i]'hlt] := by rw [List.take_add_one, List.getElem?_eq_getElem hlt]; rfl
  rw [ht] at hK2
  rw [List.drop_eq_getElem_cons hlt]
  simp only [keysR]
  refine ⟨K + K2 + 1, fun k hk => ?_⟩
  obtain ⟨m, rfl⟩ : ∃ m, k = m + 1 := ⟨k - 1, by omega⟩
  have h1 := hK m (by omega)
  have h2 := hK2 m (by omega)
  simp only at h1 h2
  simp only [impl_BoxOK.l1, impl_keyOK.f, rdOf_nat ks i hlt, within_eq, Int.toNat_natCast, h1, bS]
  rw [if_pos (by omega), if_pos (by omega), if_pos (by omega), if_pos (show (i : Int) ≤ (ks.length : Int) by omega), w64s i (by omega), h2]
  generalize ks[i]'hlt = x
  by_cases c1 : 1 ≤ x.size ∧ x.size ≤ 200
  ·rw [if_pos (by rw [decide_eq_true_eq]; omega), decide_eq_true c1]
   cases hasT (ks.take i) x <;> rfl
  ·rw [if_neg (by rw [decide_eq_true_eq]; omega), decide_eq_false c1]
   rfl
/-- The uid before a place. -/
def uidB (ms : List S68) (i : Nat) : Int := if h : 0 < i ∧ i ≤ ms.length then (ms[i - 1]'(by omega)).f0 else 0
theorem specMails_l0 (s : ByteArray) (v nx : Int) (ms : List S68) (ks : List ByteArray) (hm : ms.length ≤ 30) (hl : ks.length ≤ 60) (hn : 1 ≤ nx ∧ nx ≤ 1001) : ∀ (d i : Nat) (b : Int), i + d = ms.length → (i = 0 → b = 0) → (∀ h : 0 < i ∧ i ≤ ms.length, (ms[i - 1]'(by omega)).f0 = b) → 0 ≤ b → b ≤ 1000 →
  Ev (fun k => spec_BoxOK.l0 k (i : Int) s v nx ms ks) (mailsR nx b (ms.drop i) && keysR [] ks) := by
 intro d
 induction d with
 | zero =>
  intro i b hi _ _ _ _
  rw [List.drop_eq_nil_of_le (by omega)]
  have h := specKeys_l1 s v nx ms ks hl ks.length 0 (by omega)
  rw [List.take_zero, List.drop_zero] at h
  simp only [mailsR, Bool.true_and]
  refine Ev.step (f := fun k => spec_BoxOK.l1 k ((0 : Nat) : Int) s v nx ms ks) (fun k => ?_) h
  simp only [spec_BoxOK.l0]
  rw [if_neg (by omega)]
  rfl
 | succ d ih =>
  intro i b hi hz hb h0 h1
  have hlt : i < ms.length := by omega
  rw [List.drop_eq_getElem_cons hlt]
  have e : ∀ k, spec_BoxOK.l0 (k + 1) (i : Int) s v nx ms ks = if (b + 1 ≤ (ms[i]'hlt).f0 ∧ (ms[i]'hlt).f0 ≤ nx - 1) ∧ (0 ≤ (ms[i]'hlt).f1 ∧ (ms[i]'hlt).f1 ≤ 31) ∧ (ms[i]'hlt).f2.size ≤ 4000 then spec_BoxOK.l0 k ((i + 1 : Nat) : Int) s v nx ms ks else some false := fun k => by
   simp only [spec_BoxOK.l0, rd_T68, getD_nat ms _ i hlt, l01In_eq, bS]
   rw [if_pos (by omega), if_pos (by omega), w64s i (by omega), w64 (n := nx - 1) (by omega) (by omega)]
   by_cases hi0 : (i : Int) > 0
   ·have hp := hb ⟨by omega, by omega⟩
    have hw : wrap64 ((i : Int) - 1) = ((i - 1 : Nat) : Int) := by rw [w64 (by omega) (by omega)]; omega
    have hg : ms.getD ((i - 1 : Nat) : Int).toNat z68 = ms[i - 1]'(by omega) := getD_nat ms _ (i - 1) (by omega)
    rw [hw, hg, hp]
    clear hw hg
    generalize ms[i]'hlt = x
    simp only [decide_eq_true_eq]
    by_cases c1 : 1 ≤ x.f0 ∧ x.f0 ≤ nx - 1
    ·rw [if_pos c1, if_pos hi0, if_pos (by omega), if_pos (by omega)]
     by_cases c2 : b ≥ x.f0
     ·rw [if_pos c2, if_neg (by omega)]
     ·rw [if_neg c2]
      by_cases c3 : 0 ≤ x.f1 ∧ x.f1 ≤ 31
      ·rw [if_pos c3]
       by_cases c4 : (x.f2.size : Int) > 4000
       ·rw [if_pos c4, if_neg (by omega)]
       ·rw [if_neg c4, if_pos (by omega)]
      ·rw [if_neg c3, if_neg (by omega)]
    ·rw [if_neg c1, if_neg (by omega)]
   ·have hb0 := hz (by omega)
    generalize ms[i]'hlt = x
    simp only [decide_eq_true_eq]
    by_cases c1 : 1 ≤ x.f0 ∧ x.f0 ≤ nx - 1
    ·rw [if_pos c1, if_neg hi0]
     by_cases c3 : 0 ≤ x.f1 ∧ x.f1 ≤ 31
     ·rw [if_pos c3]
      by_cases c4 : (x.f2.size : Int) > 4000
      ·rw [if_pos c4, if_neg (by omega)]
      ·rw [if_neg c4, if_pos (by omega)]
     ·rw [if_neg c3, if_neg (by omega)]
    ·rw [if_neg c1, if_neg (by omega)]
  by_cases hc : (b + 1 ≤ (ms[i]'hlt).f0 ∧ (ms[i]'hlt).f0 ≤ nx - 1) ∧ (0 ≤ (ms[i]'hlt).f1 ∧ (ms[i]'hlt).f1 ≤ 31) ∧ (ms[i]'hlt).f2.size ≤ 4000
  ·simp only [mailsR, decide_eq_true hc.1, decide_eq_true hc.2.1, decide_eq_true hc.2.2, Bool.true_and]
   refine Ev.step (f := fun k => spec_BoxOK.l0 k ((i + 1 : Nat) : Int) s v nx ms ks) (fun k => by rw [e, if_pos hc]) (ih (i + 1) _ (by omega) (by omega) (fun h => by simp only [Nat.add_sub_cancel]) (by omega) (by omega))
  ·have hf : mailsR nx b (ms[i]'hlt :: ms.drop (i + 1)) = false := by
    simp only [mailsR]
    by_cases c1 : b + 1 ≤ (ms[i]'hlt).f0 ∧ (ms[i]'hlt).f0 ≤ nx - 1
    ·by_cases c2 : 0 ≤ (ms[i]'hlt).f1 ∧ (ms[i]'hlt).f1 ≤ 31
     ·rw [decide_eq_false (show ¬ (ms[i]'hlt).f2.size ≤ 4000 from fun c3 => hc ⟨c1, c2, c3⟩), Bool.and_false, Bool.false_and]
     ·rw [decide_eq_false c2, Bool.and_false, Bool.false_and, Bool.false_and]
    ·rw [decide_eq_false c1, Bool.false_and, Bool.false_and, Bool.false_and]
   rw [hf, Bool.false_and]
   exact Ev.step (f := fun _ => some _) (fun k => by rw [e, if_neg hc]) (Ev.now _)
theorem implMails_l0 (s : ByteArray) (v nx : Int) (ms : List S68) (ks : List ByteArray) (hm : ms.length ≤ 30) (hl : ks.length ≤ 60) (hn : 1 ≤ nx ∧ nx ≤ 1001) : ∀ (d i : Nat) (b : Int), i + d = ms.length → 0 ≤ b → b ≤ 1000 →
  Ev (fun k => impl_BoxOK.l0 k b ms (ms.length : Int) (i : Int) s v nx ms ks) (mailsR nx b (ms.drop i) && keysR [] ks) := by
 intro d
 induction d with
 | zero =>
  intro i b hi _ _
  rw [List.drop_eq_nil_of_le (by omega)]
  have h := implKeys_l1 s v nx ms ks hl ks.length 0 (by omega)
  rw [List.take_zero, List.drop_zero] at h
  simp only [mailsR, Bool.true_and]
  refine Ev.step (f := fun k => impl_BoxOK.l1 k ks (ks.length : Int) ((0 : Nat) : Int) s v nx ms ks) (fun k => ?_) h
  simp only [impl_BoxOK.l0]
  rw [if_neg (by omega)]
  rfl
 | succ d ih =>
  intro i b hi h0 h1
  have hlt : i < ms.length := by omega
  rw [List.drop_eq_getElem_cons hlt]
  have e : ∀ k, impl_BoxOK.l0 (k + 1) b ms (ms.length : Int) (i : Int) s v nx ms ks = if (b + 1 ≤ (ms[i]'hlt).f0 ∧ (ms[i]'hlt).f0 ≤ nx - 1) ∧ (0 ≤ (ms[i]'hlt).f1 ∧ (ms[i]'hlt).f1 ≤ 31) ∧ (ms[i]'hlt).f2.size ≤ 4000 then impl_BoxOK.l0 k (ms[i]'hlt).f0 ms (ms.length : Int) ((i + 1 : Nat) : Int) s v nx ms ks else some false := fun k => by
   simp only [impl_BoxOK.l0, rd_T68, getD_nat ms _ i hlt, within_eq, bS]
   rw [if_pos (by omega), if_pos (by omega), if_pos (by omega), w64s i (by omega), w64 (n := nx - 1) (by omega) (by omega), w64 (n := b + 1) (by omega) (by omega)]
   generalize ms[i]'hlt = x
   simp only [decide_eq_true_eq]
   by_cases c1 : b + 1 ≤ x.f0 ∧ x.f0 ≤ nx - 1
   ·rw [if_pos c1]
    by_cases c3 : 0 ≤ x.f1 ∧ x.f1 ≤ 31
    ·rw [if_pos c3]
     by_cases c4 : (x.f2.size : Int) > 4000
     ·rw [if_pos c4, if_neg (by omega)]
     ·rw [if_neg c4, if_pos (by omega)]
    ·rw [if_neg c3, if_neg (by omega)]
   ·rw [if_neg c1, if_neg (by omega)]
  by_cases hc : (b + 1 ≤ (ms[i]'hlt).f0 ∧ (ms[i]'hlt).f0 ≤ nx - 1) ∧ (0 ≤ (ms[i]'hlt).f1 ∧ (ms[i]'hlt).f1 ≤ 31) ∧ (ms[i]'hlt).f2.size ≤ 4000
  ·simp only [mailsR, decide_eq_true hc.1, decide_eq_true hc.2.1, decide_eq_true hc.2.2, Bool.true_and]
   refine Ev.step (f := fun k => impl_BoxOK.l0 k (ms[i]'hlt).f0 ms (ms.length : Int) ((i + 1 : Nat) : Int) s v nx ms ks) (fun k => by rw [e, if_pos hc]) (ih (i + 1) _ (by omega) (by omega) (by omega))
  ·have hf : mailsR nx b (ms[i]'hlt :: ms.drop (i + 1)) = false := by
    simp only [mailsR]
    by_cases c1 : b + 1 ≤ (ms[i]'hlt).f0 ∧ (ms[i]'hlt).f0 ≤ nx - 1
    ·by_cases c2 : 0 ≤ (ms[i]'hlt).f1 ∧ (ms[i]'hlt).f1 ≤ 31
     ·rw [decide_eq_false (show ¬ (ms[i]'hlt).f2.size ≤ 4000 from fun c3 => hc ⟨c1, c2, c3⟩), Bool.and_false, Bool.false_and]
     ·rw [decide_eq_false c2, Bool.and_false, Bool.false_and, Bool.false_and]
    ·rw [decide_eq_false c1, Bool.false_and, Bool.false_and, Bool.false_and]
   rw [hf, Bool.false_and]
   exact Ev.step (f := fun _ => some _) (fun k => by rw [e, if_neg hc]) (Ev.now _)
theorem specBox_ev (s : ByteArray) (v nx : Int) (ms : List S68) (ks : List ByteArray) : Ev (fun k => spec_BoxOK.f k s v nx ms ks) (boxR s v nx ms ks) := by
 obtain ⟨K, hK⟩ := specName_ev s
 by_cases hA : (1 ≤ v ∧ v ≤ 1000000) ∧ (1 ≤ nx ∧ nx ≤ 1001) ∧ ms.length ≤ 30 ∧ ks.length ≤ 60 ∧ (ks.length : Int) = nx - 1
 ·obtain ⟨a1, a2, a3, a4, a5⟩ := hA
  obtain ⟨K2, h2⟩ := specMails_l0 s v nx ms ks a3 a4 a2 ms.length 0 0 (by omega) (fun _ => rfl) (fun h => absurd h.1 (by omega)) (by omega) (by omega)
  rw [List.drop_zero] at h2
  unfold boxR
  rw [decide_eq_true ⟨a1, a2, a3, a4, a5⟩, Bool.and_true, Bool.and_assoc]
  refine ⟨K + K2 + 1, fun k hk => ?_⟩
  obtain ⟨m, rfl⟩ : ∃ m, k = m + 1 := ⟨k - 1, by omega⟩
  have h1 := hK (m + 1) (by omega)
  have h3 := h2 m (by omega)
  simp only at h1 h3
  have hne : ((ks.length : Int) != wrap64 (nx - 1)) = false := by rw [w64 (by omega) (by omega)]; simp [a5]
  simp only [spec_BoxOK.f, h1, bS, l01In_eq, decide_eq_true a1, decide_eq_true a2, if_true, hne]
  cases nameR (bl s) with
  | false => rw [if_neg (by decide)]; simp only [spec_BoxOK.j0, if_true, Bool.false_and]
  | true =>
   rw [if_pos rfl, if_neg (by omega), if_neg (by omega), Bool.true_and]
   simp only [spec_BoxOK.j0]
   rw [if_neg (by decide)]
   exact h3
 ·have hf : boxR s v nx ms ks = false := by
   unfold boxR
   rw [decide_eq_false hA, Bool.and_false, Bool.false_and, Bool.false_and]
  rw [hf]
  refine ⟨K + 1, fun k hk => ?_⟩
  obtain ⟨m, rfl⟩ : ∃ m, k = m + 1 := ⟨k - 1, by omega⟩
  have h1 := hK (m + 1) (by omega)
  simp only at h1
  have hj : spec_BoxOK.j0 (m + 1) true s v nx ms ks = some false := by simp only [spec_BoxOK.j0, if_true]
  simp only [spec_BoxOK.f, h1, bS, l01In_eq, decide_eq_true_eq, hj]
  cases nameR (bl s) with
  | false => rw [if_neg (by decide)]
  | true =>
   rw [if_pos rfl]
   by_cases b1 : 1 ≤ v ∧ v ≤ 1000000
   ·rw [if_pos b1]
    by_cases b2 : 1 ≤ nx ∧ nx ≤ 1001
    ·rw [if_pos b2]
     by_cases b3 : (ms.length : Int) > 30
     ·rw [if_pos b3]
     ·rw [if_neg b3]
      by_cases b4 : (ks.length : Int) > 60
      ·rw [if_pos b4]
      ·rw [if_neg b4]
       have hne : ((ks.length : Int) != wrap64 (nx - 1)) = true := by
        rw [w64 (by omega) (by omega)]
        exact bne_iff_ne.mpr (fun h => hA ⟨b1, b2, by omega, by omega, h⟩)
       rw [hne, hj]
    ·rw [if_neg b2]
   ·rw [if_neg b1]
theorem implBox_ev (s : ByteArray) (v nx : Int) (ms : List S68) (ks : List ByteArray) : Ev (fun k => impl_BoxOK.f k s v nx ms ks) (boxR s v nx ms ks) := by
 obtain ⟨K, hK⟩ := implName_ev s
 by_cases hA : (1 ≤ v ∧ v ≤ 1000000) ∧ (1 ≤ nx ∧ nx ≤ 1001) ∧ ms.length ≤ 30 ∧ ks.length ≤ 60 ∧ (ks.length : Int) = nx - 1
 ·obtain ⟨a1, a2, a3, a4, a5⟩ := hA
  obtain ⟨K2, h2⟩ := implMails_l0 s v nx ms ks a3 a4 a2 ms.length 0 0 (by omega) (by omega) (by omega)
  rw [List.drop_zero] at h2
  unfold boxR
  rw [decide_eq_true ⟨a1, a2, a3, a4, a5⟩, Bool.and_true, Bool.and_assoc]
  refine ⟨K + K2 + 2, fun k hk => ?_⟩
  obtain ⟨m, rfl⟩ : ∃ m, k = m + 1 + 1 := ⟨k - 2, by omega⟩
  have h1 := hK (m + 1 + 1) (by omega)
  have h3 := h2 m (by omega)
  simp only at h1 h3
  have hne : ((ks.length : Int) != wrap64 (nx - 1)) = false := by rw [w64 (by omega) (by omega)]; simp [a5]
  simp only [impl_BoxOK.f, h1, bS, within_eq, decide_eq_true a1, decide_eq_true a2, if_true]
  cases nameR (bl s) with
  | false => rw [if_neg (by decide)]; simp only [impl_BoxOK.j0, if_true, Bool.false_and]
  | true =>
   rw [if_pos rfl, Bool.true_and]
   simp only [impl_BoxOK.j0, Bool.not_true, hne]
   rw [if_neg (by decide), if_neg (by omega), if_neg (by omega)]
   simp only [impl_BoxOK.j1]
   rw [if_neg (by decide)]
   exact h3
 ·have hf : boxR s v nx ms ks = false := by
   unfold boxR
   rw [decide_eq_false hA, Bool.and_false, Bool.false_and, Bool.false_and]
  rw [hf]
  refine ⟨K + 2, fun k hk => ?_⟩
  obtain ⟨m, rfl⟩ : ∃ m, k = m + 1 + 1 := ⟨k - 2, by omega⟩
  have h1 := hK (m + 1 + 1) (by omega)
  simp only at h1
  have hj : impl_BoxOK.j0 (m + 1 + 1) true s v nx ms ks = some false := by simp only [impl_BoxOK.j0, if_true]
  have hj1 : impl_BoxOK.j1 (m + 1) true s v nx ms ks = some false := by simp only [impl_BoxOK.j1, if_true]
  simp only [impl_BoxOK.f, h1, bS, within_eq, decide_eq_true_eq, hj]
  cases nameR (bl s) with
  | false => rw [if_neg (by decide)]
  | true =>
   rw [if_pos rfl]
   by_cases b1 : 1 ≤ v ∧ v ≤ 1000000
   ·rw [if_pos b1]
    by_cases b2 : 1 ≤ nx ∧ nx ≤ 1001
    ·rw [decide_eq_true b2]
     simp only [impl_BoxOK.j0, Bool.not_true]
     rw [if_neg (by decide)]
     by_cases b3 : (ms.length : Int) > 30
     ·rw [if_pos b3, hj1]
     ·rw [if_neg b3]
      by_cases b4 : (ks.length : Int) > 60
      ·rw [if_pos b4, hj1]
      ·rw [if_neg b4]
       have hne : ((ks.length : Int) != wrap64 (nx - 1)) = true := by
        rw [w64 (by omega) (by omega)]
        exact bne_iff_ne.mpr (fun h => hA ⟨b1, b2, by omega, by omega, h⟩)
       rw [hne, hj1]
    ·rw [decide_eq_false b2]
     exact hj
   ·rw [if_neg b1]
end Go.Proofs.Ytflfbaffapbpiaa.P
/- Lemmas of mine: the mark of a number. Plain. -/
set_option linter.unusedVariables false
set_option linter.unusedSimpArgs false
namespace Go.Proofs.Ytflfbaffapbpiaa.P
open Go.RowKit Go.Proofs.YtflfbaffapbpiaaW.PrintWords
theorem markText_l0 : ∀ (d n : Nat) (x : ByteArray), n < 10 ^ d → n ≤ 9223372036854775807 → x.size + d ≤ 1000 → ∃ t, Ev (fun k => laws_markText.l0 k (n : Int) x) t := by
 intro d
 induction d with
 | zero =>
  intro n x hn hn9 hx
  have : n = 0 := by simpa using hn
  subst this
  refine ⟨(⟨#[109]⟩ : ByteArray) ++ x, Ev.step (f := fun _ => some ((⟨#[109]⟩ : ByteArray) ++ x)) (fun k => ?_) (Ev.now _)⟩
  simp only [laws_markText.l0]
  rw [if_neg (by omega), if_pos (by omega)]
 | succ d ih =>
  intro n x hn hn9 hx
  by_cases h0 : n = 0
  ·subst h0
   refine ⟨(⟨#[109]⟩ : ByteArray) ++ x, Ev.step (f := fun _ => some ((⟨#[109]⟩ : ByteArray) ++ x)) (fun k => ?_) (Ev.now _)⟩
   simp only [laws_markText.l0]
   rw [if_neg (by omega), if_pos (by omega)]
  ·have hp : 10 ^ (d + 1) = 10 ^ d * 10 := rfl
   have hs : (strOfNums [(wrap64 (48 + (Int.tmod (n : Int) 10))) % 256]).size = 1 := by rw [strOfNums_size]; rfl
   obtain ⟨t, ht⟩ := ih (n / 10) (strOfNums [(wrap64 (48 + (Int.tmod (n : Int) 10))) % 256] ++ x) (by omega) (by omega) (by rw [ByteArray.size_append, hs]; omega)
   refine ⟨t, Ev.step (f := fun k => laws_markText.l0 k ((n / 10 : Nat) : Int) (strOfNums [(wrap64 (48 + (Int.tmod (n : Int) 10))) % 256] ++ x)) (fun k => ?_) ht⟩
   have hw : ∀ m : Int, 0 ≤ m → m ≤ n → wrap64 m = m ∨ True := fun _ _ _ => .inr trivial
   simp only [laws_markText.l0, Option.bind_some]
   rw [if_pos (by omega), if_pos (by rw [hs]; omega)]
   have hq : Int.tdiv (n : Int) 10 = ((n / 10 : Nat) : Int) := rfl
   rw [hq]
   rw [w64n _ (by omega)]
theorem markText_some (n : Nat) (hn : n < 10 ^ 18) : ∃ t, Ev (fun k => laws_markText.f k (n : Int)) t := by
 by_cases h0 : (n : Int) ≤ 0
 ·refine ⟨(⟨#[109, 48]⟩ : ByteArray), ⟨0, fun k _ => ?_⟩⟩
  simp only [laws_markText.f]
  rw [if_pos h0]
 ·obtain ⟨t, ht⟩ := markText_l0 18 n ⟨#[]⟩ hn (Nat.le_trans (Nat.le_of_lt hn) (by decide)) (by decide)
  refine ⟨t, Ev.congr (fun k => ?_) ht⟩
  simp only [laws_markText.f]
  rw [if_neg h0]
open Classical in
/-- The mark of a number. -/
noncomputable def mt (n : Nat) : ByteArray := if h : ∃ t, Ev (fun k => laws_markText.f k (n : Int)) t then h.choose else ⟨#[]⟩
theorem mt_ev (n : Nat) (hn : n < 10 ^ 18) : Ev (fun k => laws_markText.f k (n : Int)) (mt n) := by
 unfold mt
 rw [dif_pos (markText_some n hn)]
 exact (markText_some n hn).choose_spec
end Go.Proofs.Ytflfbaffapbpiaa.P
/- Lemmas of mine: the laws' marks on lists of texts: they are told, and found again. Plain. -/
set_option linter.unusedVariables false
set_option linter.unusedSimpArgs false
namespace Go.Proofs.Ytflfbaffapbpiaa.P
open Go.RowKit Go.Proofs.YtflfbaffapbpiaaW.PrintWords
/-- Marks from a number on. -/
noncomputable def marks (n m : Nat) : List ByteArray := (List.range m).map fun i => mt (n + i)
theorem marks_length (n m : Nat) : (marks n m).length = m := by simp [marks]
theorem marks_get (n m i : Nat) (h : i < m) : (marks n m)[i]? = some (mt (n + i)) := by simp [marks, h]
theorem markS_l0 : ∀ (d i n : Nat) (xs : List ByteArray), i + d = xs.length → xs.length ≤ 4611686018427387904 → n + d < 10 ^ 18 →
  Ev (fun k => laws_markStringS.l0 k xs (n : Int) (i : Int)) (((n + d : Nat) : Int), xs.take i ++ marks n d) := by
 intro d
 induction d with
 | zero =>
  intro i n xs hi hx hn
  refine Ev.step (f := fun _ => some _) (fun k => ?_) (Ev.now _)
  simp only [laws_markStringS.l0]
  rw [if_neg (by omega), List.take_of_length_le (by omega)]
  simp [marks]
 | succ d ih =>
  intro i n xs hi hx hn
  obtain ⟨K1, h1⟩ := mt_ev n (by omega)
  have h2 := ih (i + 1) (n + 1) (xs.set i (mt n)) (by rw [List.length_set]; omega) (by rw [List.length_set]; omega) (by omega)
  obtain ⟨K2, h2⟩ := h2
  replace h1 : ∀ k, K1 ≤ k → laws_markText.f k (n : Int) = some (mt n) := h1
  replace h2 : ∀ k, K2 ≤ k → laws_markStringS.l0 k (xs.set i (mt n)) ((n + 1 : Nat) : Int) ((i + 1 : Nat) : Int) = _ := h2
  refine ⟨K1 + K2 + 1, fun k hk => ?_⟩
  obtain ⟨m, rfl⟩ : ∃ m, k = m + 1 := ⟨k - 1, by omega⟩
  simp only [laws_markStringS.l0, h1 m (by omega), Option.bind_some, Int.toNat_natCast]
  have hp : (10 : Nat) ^ 18 = 1000000000000000000 := by decide
  rw [if_pos (by omega), if_pos (by omega), w64s n (by omega), w64s i (by omega), h2 m (by omega)]
  have e : (xs.set i (mt n)).take (i + 1) ++ marks (n + 1) d = xs.take i ++ marks n (d + 1) := by
   rw [List.take_set, List.take_add_one, List.getElem?_eq_getElem (by omega)]
   have hl : (xs.take i).length = i := by rw [List.length_take]; omega
   rw [List.set_append_right _ _ (by omega), hl, Nat.sub_self]
   simp only [Option.toList, List.set_cons_zero, List.append_assoc, List.cons_append, List.nil_append]
   congr 1
   apply List.ext_getElem?
   intro j
   cases j with
   | zero => rw [marks_get n (d + 1) 0 (by omega)]; simp
   | succ j =>
    rw [List.getElem?_cons_succ]
    by_cases hj : j < d
    ·rw [marks_get _ _ _ hj, marks_get _ _ _ (by omega)]
     congr 2
     omega
    ·rw [List.getElem?_eq_none (by rw [marks_length]; omega), List.getElem?_eq_none (by rw [marks_length]; omega)]
  rw [e]
  congr 2
  omega
theorem markS_ev (xs : List ByteArray) (n : Nat) (hx : xs.length ≤ 4611686018427387904) (hn : n + xs.length < 10 ^ 18) : Ev (fun k => laws_markStringS.f k xs (n : Int)) (((n + xs.length : Nat) : Int), marks n xs.length) := by
 have h := markS_l0 xs.length 0 n xs (by omega) hx hn
 rw [List.take_zero, List.nil_append] at h
 exact h
theorem rdOf_get (xs : List ByteArray) (i : Nat) (x : ByteArray) (h : xs[i]? = some x) : rdOf ByteArray.empty xs (i : Int) = x := by
 simp [rdOf, List.getD_eq_getElem?_getD, h]
theorem heldS_l0 (n m : Nat) (hm : m ≤ 4611686018427387904) (hn : n + m < 10 ^ 18) : ∀ (d i : Nat), i + d = m →
  Ev (fun k => laws_heldStringS.l0 k (marks n m) ((n + i : Nat) : Int) (i : Int)) ((n + m : Nat) : Int) := by
 intro d
 induction d with
 | zero =>
  intro i hi
  refine Ev.step (f := fun _ => some _) (fun k => ?_) (Ev.now _)
  simp only [laws_heldStringS.l0, marks_length]
  rw [if_neg (by omega)]
  congr 2
  omega
 | succ d ih =>
  intro i hi
  obtain ⟨K1, h1⟩ := mt_ev (n + i) (by omega)
  obtain ⟨K2, h2⟩ := ih (i + 1) (by omega)
  refine ⟨K1 + K2 + 1, fun k hk => ?_⟩
  replace h1 : ∀ k, K1 ≤ k → laws_markText.f k ((n + i : Nat) : Int) = some (mt (n + i)) := h1
  obtain ⟨j, rfl⟩ : ∃ j, k = j + 1 := ⟨k - 1, by omega⟩
  have hp : (10 : Nat) ^ 18 = 1000000000000000000 := by decide
  simp only [laws_heldStringS.l0, h1 j (by omega), Option.bind_some, marks_length]
  rw [if_pos (by omega), if_pos (by omega), rdOf_get _ _ _ (marks_get n m i (by omega)), if_pos rfl, w64s (n + i) (by omega), w64s i (by omega)]
  exact h2 j (by omega)
theorem heldS_ev (n m : Nat) (hm : m ≤ 4611686018427387904) (hn : n + m < 10 ^ 18) : Ev (fun k => laws_heldStringS.f k (marks n m) (n : Int)) ((n + m : Nat) : Int) :=
 heldS_l0 n m hm hn m 0 (by omega)
theorem eqS_l0 (xs : List ByteArray) (hx : xs.length ≤ 4611686018427387904) : ∀ (d i : Nat), i + d = xs.length → Ev (fun k => laws_eqStringS.l0 k xs xs (i : Int)) true := by
 intro d
 induction d with
 | zero =>
  intro i hi
  refine Ev.step (f := fun _ => some _) (fun k => ?_) (Ev.now _)
  simp only [laws_eqStringS.l0]
  rw [if_neg (by omega)]
 | succ d ih =>
  intro i hi
  refine Ev.step (f := fun k => laws_eqStringS.l0 k xs xs ((i + 1 : Nat) : Int)) (fun k => ?_) (ih (i + 1) (by omega))
  simp only [laws_eqStringS.l0]
  rw [if_pos (by omega), if_pos (by omega), if_pos (by omega), if_pos trivial, w64s i (by omega)]
theorem eqS_self (xs : List ByteArray) (hx : xs.length ≤ 4611686018427387904) : Ev (fun k => laws_eqStringS.f k xs xs) true := by
 obtain ⟨K, h⟩ := eqS_l0 xs hx xs.length 0 (by omega)
 refine ⟨K, fun k hk => ?_⟩
 simp only [laws_eqStringS.f]
 rw [if_pos trivial]
 exact h k hk
end Go.Proofs.Ytflfbaffapbpiaa.P
/- Lemmas of mine: the laws' copies of mails, keys and boxes: copied, the same, counted. Plain. -/
set_option linter.unusedVariables false
set_option linter.unusedSimpArgs false
namespace Go.Proofs.Ytflfbaffapbpiaa.P
open Go.RowKit Go.Proofs.YtflfbaffapbpiaaW.PrintWords
def stM (x : S136) : S68 := ⟨x.f0, x.f1, x.f2⟩
theorem toStoredS_ev (xs : List S136) (h : xs.length ≤ 8796093022208) : Ev (fun k => laws_toStoredS.f k xs) (xs.map stM) := by
 refine Ev.congr (f := fun k => laws_toStoredS.l0 k xs (List.replicate xs.length z68) ((0 : Nat) : Int)) (fun k => ?_)
  (copy_loop (fun k ys i => laws_toStoredS.l0 k xs ys i) xs stM ?_ ?_ xs.length 0 _ (by omega) (by simp) (by simp))
 ·simp only [laws_toStoredS.f, Int.toNat_natCast]
  rw [if_pos (by omega), if_pos h]
  rfl
 ·intro i ys hi hl
  refine ⟨0, fun k _ => ?_⟩
  simp only [laws_toStoredS.l0, laws_toStored.f, rd_T136, getD_nat xs _ i hi, bS]
  rw [if_pos (by omega), if_pos (by omega), if_pos (by omega), w64s i (by omega), Int.toNat_natCast]
  rfl
 ·intro ys hl
  refine ⟨0, fun k _ => ?_⟩
  simp only [laws_toStoredS.l0]
  rw [if_neg (by omega)]
theorem toStringS_ev (xs : List ByteArray) (h : xs.length ≤ 17592186044416) : Ev (fun k => laws_toStringS.f k xs) xs := by
 have hm : xs.map (fun x => x) = xs := by simp
 have := copy_loop (fun k ys i => laws_toStringS.l0 k xs ys i) xs (fun x => x) (fun i ys hi hl => ⟨0, fun k _ => by
   simp only [laws_toStringS.l0, rdOf, getD_nat xs _ i hi]
   rw [if_pos (by omega), if_pos (by omega), if_pos (by omega), w64s i (by omega), Int.toNat_natCast]⟩)
  (fun ys hl => ⟨0, fun k _ => by
   simp only [laws_toStringS.l0]
   rw [if_neg (by omega)]⟩) xs.length 0 (List.replicate xs.length (⟨#[]⟩ : ByteArray)) (by omega) (by simp) (by simp)
 rw [hm] at this
 refine Ev.congr (fun k => ?_) this
 simp only [laws_toStringS.f, Int.toNat_natCast]
 rw [if_pos (by omega), if_pos h]
 rfl
theorem eqStoredS_self (ys : List S68) (h : ys.length ≤ 4611686018427387904) : Ev (fun k => laws_eqStoredS.f k ys ys) true := by
 refine Ev.congr (f := fun k => laws_eqStoredS.l0 k ys ys ((0 : Nat) : Int)) (fun k => ?_)
  (up_loop (fun k i => laws_eqStoredS.l0 k ys ys i) ys.length true ?_ ⟨0, fun k _ => ?_⟩ ys.length 0 (by omega))
 ·unfold laws_eqStoredS.f
  exact if_pos rfl
 ·intro i hi
  refine ⟨0, fun k _ => ?_⟩
  simp only [laws_eqStoredS.l0, laws_eqStored.f, if_true, bS]
  rw [if_pos (by omega), if_pos (by omega), if_pos (by omega), w64s i (by omega)]
 ·simp only [laws_eqStoredS.l0]
  rw [if_neg (by omega)]
theorem szStored_some (a b : Int) (s : ByteArray) (n : Int) : ∃ z, laws_szStored.f a b s n = some z := by
 unfold laws_szStored.f
 split <;> exact ⟨_, rfl⟩
theorem szStoredS_some (xs : List S136) (h : xs.length ≤ 4611686018427387904) (n : Int) : ∃ z, Ev (fun k => laws_szStoredS.f k xs n) z := by
 by_cases h0 : wrap64 (n - (xs.length : Int)) < 0
 ·exact ⟨-1, 0, fun k _ => by simp only [laws_szStoredS.f]; rw [if_pos h0]⟩
 ·obtain ⟨z, hz, _⟩ := st_loop (fun k s i => laws_szStoredS.l0 k xs s i) xs.length (fun _ _ _ => True) (fun i s hi => by
    obtain ⟨z, hz⟩ := szStored_some (xs[i]'hi).f0 (xs[i]'hi).f1 (xs[i]'hi).f2 s
    have e : ∀ k, laws_szStoredS.l0 (k + 1) xs s (i : Int) = if z < 0 then some (-1) else laws_szStoredS.l0 k xs z ((i + 1 : Nat) : Int) := fun k => by
     simp only [laws_szStoredS.l0, rd_T136, getD_nat xs _ i hi, hz, bS]
     rw [if_pos (by omega), if_pos (by omega), w64s i (by omega)]
    by_cases hn : z < 0
    ·exact .inl ⟨-1, ⟨0, fun k _ => by rw [e, if_pos hn]⟩, trivial⟩
    ·exact .inr ⟨z, ⟨0, fun k _ => by rw [e, if_neg hn]⟩, fun _ _ => trivial⟩)
   (fun s => ⟨s, ⟨0, fun k _ => by simp only [laws_szStoredS.l0]; rw [if_neg (by omega)]⟩, trivial⟩) xs.length 0 (wrap64 (n - (xs.length : Int))) (by omega)
  exact ⟨z, Ev.congr (fun k => by simp only [laws_szStoredS.f]; rw [if_neg h0]; rfl) hz⟩
theorem szStringS_some (xs : List ByteArray) (h : xs.length ≤ 4611686018427387904) (n : Int) : ∃ z, Ev (fun k => laws_szStringS.f k xs n) z := by
 by_cases h0 : wrap64 (n - (xs.length : Int)) < 0
 ·exact ⟨-1, 0, fun k _ => by simp only [laws_szStringS.f]; rw [if_pos h0]⟩
 ·obtain ⟨z, hz, _⟩ := st_loop (fun k s i => laws_szStringS.l0 k xs s i) xs.length (fun _ _ _ => True) (fun i s hi => by
    obtain ⟨z, hz⟩ : ∃ z, wrap64 (s - ((xs[i]'hi).size : Int)) = z := ⟨_, rfl⟩
    have e : ∀ k, laws_szStringS.l0 (k + 1) xs s (i : Int) = if z < 0 then some (-1) else laws_szStringS.l0 k xs z ((i + 1 : Nat) : Int) := fun k => by
     simp only [laws_szStringS.l0, rdOf, getD_nat xs _ i hi, hz]
     rw [if_pos (by omega), if_pos (by omega), w64s i (by omega)]
    clear hz
    by_cases hn : z < 0
    ·exact .inl ⟨-1, ⟨0, fun k _ => by rw [e, if_pos hn]⟩, trivial⟩
    ·exact .inr ⟨z, ⟨0, fun k _ => by rw [e, if_neg hn]⟩, fun _ _ => trivial⟩)
   (fun s => ⟨s, ⟨0, fun k _ => by simp only [laws_szStringS.l0]; rw [if_neg (by omega)]⟩, trivial⟩) xs.length 0 (wrap64 (n - (xs.length : Int))) (by omega)
  exact ⟨z, Ev.congr (fun k => by simp only [laws_szStringS.f]; rw [if_neg h0]; rfl) hz⟩
theorem szBox_some (s : ByteArray) (a b : Int) (xs : List S136) (ks : List ByteArray) (h : xs.length ≤ 4611686018427387904) (h2 : ks.length ≤ 4611686018427387904) (n : Int) : ∃ z, Ev (fun k => laws_szBox.f k s a b xs ks n) z := by
 by_cases h0 : wrap64 (n - (s.size : Int)) < 0
 ·exact ⟨-1, 0, fun k _ => by simp only [laws_szBox.f]; rw [if_pos h0]⟩
 ·obtain ⟨z, K, hz⟩ := szStoredS_some xs h (wrap64 (n - (s.size : Int)))
  by_cases hn : z < 0
  ·exact ⟨-1, K, fun k hk => by simp only [laws_szBox.f, hz k hk, bS]; rw [if_neg h0, if_pos hn]⟩
  ·obtain ⟨y, K2, hy⟩ := szStringS_some ks h2 z
   by_cases hm : y < 0
   ·exact ⟨-1, K + K2, fun k hk => by simp only [laws_szBox.f, hz k (by omega), hy k (by omega), bS]; rw [if_neg h0, if_neg hn, if_pos hm]⟩
   ·exact ⟨y, K + K2, fun k hk => by simp only [laws_szBox.f, hz k (by omega), hy k (by omega), bS]; rw [if_neg h0, if_neg hn, if_neg hm]⟩
theorem toBox_ev (s : ByteArray) (a b : Int) (xs : List S136) (ks : List ByteArray) (h : xs.length ≤ 8796093022208) (h2 : ks.length ≤ 17592186044416) : Ev (fun k => laws_toBox.f k s a b xs ks) (s, a, b, xs.map stM, ks) := by
 obtain ⟨K, hK⟩ := toStoredS_ev xs h
 obtain ⟨K2, hK2⟩ := toStringS_ev ks h2
 exact ⟨K + K2, fun k hk => by simp only [laws_toBox.f, hK k (by omega), hK2 k (by omega), bS]⟩
theorem eqBox_self (s : ByteArray) (a b : Int) (ys : List S68) (ks : List ByteArray) (h : ys.length ≤ 4611686018427387904) (h2 : ks.length ≤ 4611686018427387904) : Ev (fun k => laws_eqBox.f k s a b ys ks s a b ys ks) true := by
 obtain ⟨K, hK⟩ := eqStoredS_self ys h
 obtain ⟨K2, hK2⟩ := eqS_self ks h2
 exact ⟨K + K2, fun k hk => by simp only [laws_eqBox.f, hK k (by omega), hK2 k (by omega), bS, if_true]⟩
end Go.Proofs.Ytflfbaffapbpiaa.P
/- Lemmas of mine: lists of boxes: copied, the same, counted; the two StoreOK tell the same. Plain. -/
set_option linter.unusedVariables false
set_option linter.unusedSimpArgs false
namespace Go.Proofs.Ytflfbaffapbpiaa.P
open Go.RowKit Go.Proofs.YtflfbaffapbpiaaW.PrintWords
def bxM (x : S75) : S27 := ⟨x.f0, x.f1, x.f2, x.f3.map stM, x.f4⟩
/-- A box whose lists are within the bounds. -/
def boxB (x : S75) : Prop := x.f3.length ≤ 8796093022208 ∧ x.f4.length ≤ 17592186044416
def boxB2 (x : S27) : Prop := x.f3.length ≤ 8796093022208 ∧ x.f4.length ≤ 17592186044416
theorem boxB_map {xs : List S75} (h : ∀ x ∈ xs, boxB x) : ∀ y ∈ xs.map bxM, boxB2 y := by
 intro y hy
 obtain ⟨x, hx, rfl⟩ := List.mem_map.1 hy
 have := h x hx
 exact ⟨by show (x.f3.map stM).length ≤ _; rw [List.length_map]; exact this.1, this.2⟩
theorem toBoxS_ev (xs : List S75) (h : xs.length ≤ 3518437208883) (hb : ∀ x ∈ xs, boxB x) : Ev (fun k => laws_toBoxS.f k xs) (xs.map bxM) := by
 refine Ev.congr (f := fun k => laws_toBoxS.l0 k xs (List.replicate xs.length z27) ((0 : Nat) : Int)) (fun k => ?_)
  (copy_loop (fun k ys i => laws_toBoxS.l0 k xs ys i) xs bxM ?_ ?_ xs.length 0 _ (by omega) (by simp) (by simp))
 ·simp only [laws_toBoxS.f, Int.toNat_natCast]
  rw [if_pos (by omega), if_pos h]
  rfl
 ·intro i ys hi hl
  have hx := hb _ (List.getElem_mem hi)
  obtain ⟨K, hK⟩ := toBox_ev (xs[i]'hi).f0 (xs[i]'hi).f1 (xs[i]'hi).f2 (xs[i]'hi).f3 (xs[i]'hi).f4 hx.1 hx.2
  refine ⟨K, fun k hk => ?_⟩
  have e := hK k hk
  simp only at e
  simp only [laws_toBoxS.l0, rd_T75, getD_nat xs _ i hi, e, bS]
  rw [if_pos (by omega), if_pos (by omega), if_pos (by omega), w64s i (by omega), Int.toNat_natCast]
  rfl
 ·intro ys hl
  refine ⟨0, fun k _ => ?_⟩
  simp only [laws_toBoxS.l0]
  rw [if_neg (by omega)]
theorem eqBoxS_self (ys : List S27) (h : ys.length ≤ 4611686018427387904) (hb : ∀ y ∈ ys, boxB2 y) : Ev (fun k => laws_eqBoxS.f k ys ys) true := by
 refine Ev.congr (f := fun k => laws_eqBoxS.l0 k ys ys ((0 : Nat) : Int)) (fun k => ?_)
  (up_loop (fun k i => laws_eqBoxS.l0 k ys ys i) ys.length true ?_ ⟨0, fun k _ => ?_⟩ ys.length 0 (by omega))
 ·unfold laws_eqBoxS.f
  exact if_pos rfl
 ·intro i hi
  have hx := hb _ (List.getElem_mem hi)
  obtain ⟨K, hK⟩ := eqBox_self (ys[i]'hi).f0 (ys[i]'hi).f1 (ys[i]'hi).f2 (ys[i]'hi).f3 (ys[i]'hi).f4 (by have := hx.1; omega) (by have := hx.2; omega)
  refine ⟨K, fun k hk => ?_⟩
  have e := hK k hk
  simp only at e
  simp only [laws_eqBoxS.l0, rd_T27, getD_nat ys _ i hi, e, if_true, bS]
  rw [if_pos (by omega), if_pos (by omega), if_pos (by omega), w64s i (by omega)]
 ·simp only [laws_eqBoxS.l0]
  rw [if_neg (by omega)]
theorem szBoxS_some (xs : List S75) (h : xs.length ≤ 4611686018427387904) (hb : ∀ x ∈ xs, boxB x) (n : Int) : ∃ z, Ev (fun k => laws_szBoxS.f k xs n) z := by
 by_cases h0 : wrap64 (n - (xs.length : Int)) < 0
 ·exact ⟨-1, 0, fun k _ => by simp only [laws_szBoxS.f]; rw [if_pos h0]⟩
 ·obtain ⟨z, hz, _⟩ := st_loop (fun k s i => laws_szBoxS.l0 k xs s i) xs.length (fun _ _ _ => True) (fun i s hi => by
    have hx := hb _ (List.getElem_mem hi)
    obtain ⟨z, K, hK⟩ := szBox_some (xs[i]'hi).f0 (xs[i]'hi).f1 (xs[i]'hi).f2 (xs[i]'hi).f3 (xs[i]'hi).f4 (by have := hx.1; omega) (by have := hx.2; omega) s
    have e : ∀ k, K ≤ k → laws_szBoxS.l0 (k + 1) xs s (i : Int) = if z < 0 then some (-1) else laws_szBoxS.l0 k xs z ((i + 1 : Nat) : Int) := fun k hk => by
     have e := hK k hk
     simp only at e
     simp only [laws_szBoxS.l0, rd_T75, getD_nat xs _ i hi, e, bS]
     rw [if_pos (by omega), if_pos (by omega), w64s i (by omega)]
    by_cases hn : z < 0
    ·exact .inl ⟨-1, ⟨K, fun k hk => by rw [e k hk, if_pos hn]⟩, trivial⟩
    ·exact .inr ⟨z, ⟨K, fun k hk => by rw [e k hk, if_neg hn]⟩, fun _ _ => trivial⟩)
   (fun s => ⟨s, ⟨0, fun k _ => by simp only [laws_szBoxS.l0]; rw [if_neg (by omega)]⟩, trivial⟩) xs.length 0 (wrap64 (n - (xs.length : Int))) (by omega)
  exact ⟨z, Ev.congr (fun k => by simp only [laws_szBoxS.f]; rw [if_neg h0]; rfl) hz⟩
/-- A box has a name. -/
def nmB (s : ByteArray) (y : S27) : Bool := y.f0.toList == s.toList
theorem nmB_iff (s : ByteArray) (y : S27) : nmB s y = true ↔ y.f0 = s := by
 unfold nmB
 rw [beq_iff_eq, toList_iff]
/-- Right boxes behind others. -/
def storesR : List S27 → List S27 → Bool
 | _, [] => true
 | p, b :: l => boxR b.f0 b.f1 b.f2 b.f3 b.f4 && decide (b.f1 = (p.length : Int) + 1) && !(p.any (nmB b.f0)) && storesR (p ++ [b]) l
/-- A right store. -/
def storeR (l : List S27) : Bool := decide (l.length ≤ 4) && storesR [] l
theorem find_l0 (l : List S27) (s : ByteArray) (hl : l.length ≤ 4611686018427387904) : ∀ (d i : Nat), i + d = l.length → (∀ j, j < i → nmB s (l.getD j z27) = false) → Ev (fun k => spec_l09Find.l0 k l s (i : Int)) (idxOf (nmB s) l) := by
 intro d
 induction d with
 | zero =>
  intro i hi hn
  rw [idxOf_miss (nmB s) l z27 (fun j hj => hn j (by omega))]
  refine Ev.step (f := fun _ => some _) (fun k => ?_) (Ev.now _)
  simp only [spec_l09Find.l0]
  rw [if_neg (by omega)]
 | succ d ih =>
  intro i hi hn
  have hlt : i < l.length := by omega
  have hg : l.getD i z27 = l[i]'hlt := by rw [List.getD_eq_getElem?_getD, List.getElem?_eq_getElem hlt]; rfl
  have e : ∀ k, spec_l09Find.l0 (k + 1) l s (i : Int) = if (l[i]'hlt).f0 = s then some (i : Int) else spec_l09Find.l0 k l s ((i + 1 : Nat) : Int) := fun k => by
   simp only [spec_l09Find.l0, rd_T27, getD_nat l _ i hlt, toList_iff]
   rw [if_pos (by omega), if_pos (by omega), w64s i (by omega)]
  by_cases hx : (l[i]'hlt).f0 = s
  ·rw [idxOf_hit (nmB s) l z27 i hlt (by rw [hg, nmB_iff]; exact hx) hn]
   exact Ev.step (f := fun _ => some _) (fun k => by rw [e, if_pos hx]) (Ev.now _)
  ·refine Ev.step (f := fun k => spec_l09Find.l0 k l s ((i + 1 : Nat) : Int)) (fun k => by rw [e, if_neg hx]) (ih (i + 1) (by omega) (fun j hj => ?_))
   by_cases hji : j = i
   ·subst hji
    rw [hg]
    cases hb : nmB s (l[j]'hlt) with
    | false => rfl
    | true => exact absurd ((nmB_iff _ _).1 hb) hx
   ·exact hn j (by omega)
theorem find_ev (l : List S27) (s : ByteArray) (hl : l.length ≤ 4611686018427387904) : Ev (fun k => spec_l09Find.f k l s) (idxOf (nmB s) l) := find_l0 l s hl l.length 0 (by omega) (fun j hj => absurd hj (Nat.not_lt_zero _))
theorem boxIndex_eq (l : List S27) (s : ByteArray) (hl : l.length ≤ 4611686018427387904) : impl_boxIndex.f l s = some (idxOf (nmB s) l) := by
 unfold impl_boxIndex.f
 rw [if_pos (by omega)]
 rfl
theorem idx_first {α : Type} (p : α → Bool) (l : List α) (i : Nat) (hi : i < l.length) (hp : p (l[i]'hi) = true) : decide (idxOf p l = (i : Int)) = !((l.take i).any p) := by
 cases ha : (l.take i).any p with
 | false =>
  have hn : ∀ j (hj : j < i), p (l[j]'(by omega)) = false := fun j hj => by
   have := List.any_eq_false.1 ha (l[j]'(by omega)) (by
    rw [List.mem_take_iff_getElem]
    exact ⟨j, by omega, rfl⟩)
   simpa using this
  have h2 : l.findIdx? p = some i := by
   rw [List.findIdx?_eq_some_iff_getElem]
   exact ⟨hi, hp, fun j hj => by simp [hn j hj]⟩
  simp [idxOf, h2]
 | true =>
  obtain ⟨x, hx, hpx⟩ := List.any_eq_true.1 ha
  obtain ⟨j, hj, rfl⟩ := List.mem_take_iff_getElem.1 hx
  have : ¬ idxOf p l = (i : Int) := by
   intro h
   unfold idxOf at h
   cases hf : l.findIdx? p with
   | none => rw [hf] at h; simp only at h; omega
   | some m =>
    rw [hf] at h
    simp only at h
    obtain rfl : m = i := by omega
    rw [List.findIdx?_eq_some_iff_getElem] at hf
    obtain ⟨_, _, h3⟩ := hf
    exact absurd hpx (by simpa using h3 j (by omega))
  simp [this]
theorem specStore_l0 (l : List S27) (hl : l.length ≤ 4) : ∀ (d i : Nat), i + d = l.length → Ev (fun k => spec_StoreOK.l0 k l (i : Int)) (storesR (l.take i) (l.drop i)) := by
 intro d
 induction d with
 | zero =>
  intro i hi
  rw [List.drop_eq_nil_of_le (by omega)]
  refine Ev.step (f := fun _ => some _) (fun k => ?_) (Ev.now _)
  simp only [spec_StoreOK.l0]
  rw [if_neg (by omega)]
  rfl
 | succ d ih =>
  intro i hi
  have hlt : i < l.length := by omega
  have hti : (l.take i).length = i := by rw [List.length_take]; omega
  obtain ⟨K1, h1⟩ := specBox_ev (l[i]'hlt).f0 (l[i]'hlt).f1 (l[i]'hlt).f2 (l[i]'hlt).f3 (l[i]'hlt).f4
  obtain ⟨K2, h2⟩ := find_ev (l.take i) (l[i]'hlt).f0 (by omega)
  obtain ⟨K3, h3⟩ := ih (i + 1) (by omega)
  have ht : l.take (i + 1) = l.take i ++ [l[i]'hlt] := by rw [List.take_add_one, List.getElem?_eq_getElem hlt]; rfl
  rw [ht] at h3
  rw [List.drop_eq_getElem_cons hlt]
  simp only [storesR, hti, ← idxOf_any]
  refine ⟨K1 + K2 + K3 + 1, fun k hk => ?_⟩
  obtain ⟨m, rfl⟩ : ∃ m, k = m + 1 := ⟨k - 1, by omega⟩
  have e1 := h1 m (by omega)
  have e2 := h2 m (by omega)
  have e3 := h3 m (by omega)
  simp only at e1 e2 e3
  simp only [spec_StoreOK.l0, rd_T27, getD_nat l _ i hlt, e1, bS]
  simp only [Int.toNat_natCast, e2, bS]
  rw [if_pos (by omega), if_pos (by omega), w64s i (by omega), e3]
  cases boxR (l[i]'hlt).f0 (l[i]'hlt).f1 (l[i]'hlt).f2 (l[i]'hlt).f3 (l[i]'hlt).f4 with
  | false => rfl
  | true =>
   rw [if_pos rfl]
   by_cases c1 : (l[i]'hlt).f1 = (i : Int) + 1
   ·rw [if_pos (by rw [c1]; rfl), if_pos (by omega), decide_eq_true c1]
    by_cases c2 : 0 ≤ idxOf (nmB (l[i]'hlt).f0) (l.take i)
    ·rw [if_pos c2, decide_eq_true c2]; rfl
    ·rw [if_neg c2, decide_eq_false c2]; rfl
   ·rw [if_neg (fun h => c1 (by rw [h]; rfl)), decide_eq_false c1]; rfl
theorem implStore_l0 (l : List S27) (hl : l.length ≤ 4) : ∀ (d i : Nat), i + d = l.length → Ev (fun k => impl_StoreOK.l0 k l l (l.length : Int) (i : Int)) (storesR (l.take i) (l.drop i)) := by
 intro d
 induction d with
 | zero =>
  intro i hi
  rw [List.drop_eq_nil_of_le (by omega)]
  refine Ev.step (f := fun _ => some _) (fun k => ?_) (Ev.now _)
  simp only [impl_StoreOK.l0]
  rw [if_neg (by omega)]
  rfl
 | succ d ih =>
  intro i hi
  have hlt : i < l.length := by omega
  have hti : (l.take i).length = i := by rw [List.length_take]; omega
  obtain ⟨K1, h1⟩ := implBox_ev (l[i]'hlt).f0 (l[i]'hlt).f1 (l[i]'hlt).f2 (l[i]'hlt).f3 (l[i]'hlt).f4
  obtain ⟨K3, h3⟩ := ih (i + 1) (by omega)
  have ht : l.take (i + 1) = l.take i ++ [l[i]'hlt] := by rw [List.take_add_one, List.getElem?_eq_getElem hlt]; rfl
  rw [ht] at h3
  rw [List.drop_eq_getElem_cons hlt]
  have hf := idx_first (nmB (l[i]'hlt).f0) l i hlt ((nmB_iff _ _).2 rfl)
  simp only [storesR, hti, ← hf]
  refine ⟨K1 + K3 + 1, fun k hk => ?_⟩
  obtain ⟨m, rfl⟩ : ∃ m, k = m + 1 := ⟨k - 1, by omega⟩
  have e1 := h1 m (by omega)
  have e3 := h3 m (by omega)
  simp only at e1 e3
  simp only [impl_StoreOK.l0, rd_T27, getD_nat l _ i hlt, e1, boxIndex_eq l _ (show l.length ≤ 4611686018427387904 by omega), bS]
  rw [if_pos (by omega), if_pos (by omega), if_pos (by omega), w64s i (by omega), e3]
  cases boxR (l[i]'hlt).f0 (l[i]'hlt).f1 (l[i]'hlt).f2 (l[i]'hlt).f3 (l[i]'hlt).f4 with
  | false => rfl
  | true =>
   rw [if_pos rfl]
   by_cases c1 : (l[i]'hlt).f1 = (i : Int) + 1
   ·rw [if_pos (by rw [c1]; rfl), decide_eq_true c1]
    by_cases c2 : idxOf (nmB (l[i]'hlt).f0) l = (i : Int)
    ·rw [if_pos c2, decide_eq_true c2]; rfl
    ·rw [if_neg c2, decide_eq_false c2]; rfl
   ·rw [if_neg (fun h => c1 (by rw [h]; rfl)), decide_eq_false c1]; rfl
theorem specStore_ev (l : List S27) : Ev (fun k => spec_StoreOK.f k l) (storeR l) := by
 unfold storeR
 by_cases h : l.length ≤ 4
 ·rw [decide_eq_true h, Bool.true_and]
  refine Ev.congr (fun k => ?_) (specStore_l0 l h l.length 0 (by omega))
  simp only [spec_StoreOK.f]
  rw [if_neg (by omega), if_neg (by omega)]
  rfl
 ·rw [decide_eq_false h, Bool.false_and]
  refine ⟨0, fun k _ => ?_⟩
  simp only [spec_StoreOK.f]
  by_cases h2 : (l.length : Int) > 4096
  ·rw [if_pos h2]
  ·rw [if_neg h2, if_pos (by omega)]
theorem implStore_ev (l : List S27) : Ev (fun k => impl_StoreOK.f k l) (storeR l) := by
 unfold storeR
 by_cases h : l.length ≤ 4
 ·rw [decide_eq_true h, Bool.true_and]
  refine Ev.congr (fun k => ?_) (implStore_l0 l h l.length 0 (by omega))
  simp only [impl_StoreOK.f]
  rw [if_neg (by omega)]
  rfl
 ·rw [decide_eq_false h, Bool.false_and]
  refine ⟨0, fun k _ => ?_⟩
  simp only [impl_StoreOK.f]
  rw [if_pos (by omega)]
end Go.Proofs.Ytflfbaffapbpiaa.P
/- Lemmas of mine: the two BoxAt tell the same. Plain. -/
set_option linter.unusedVariables false
set_option linter.unusedSimpArgs false
namespace Go.Proofs.Ytflfbaffapbpiaa.P
open Go.RowKit Go.Proofs.YtflfbaffapbpiaaW.PrintWords
theorem idxB_lt (p : S27 → Bool) (l : List S27) : idxOf p l < (l.length : Int) := by
 unfold idxOf
 cases h : l.findIdx? p with
 | none => simp only; omega
 | some i =>
  have := (List.findIdx?_eq_some_iff_getElem.1 h).1
  simp only
  omega
theorem boxAt_both (l : List S27) (a : ByteArray) (hl : l.length ≤ 4611686018427387904) (hb : ∀ x ∈ l, x.f3.length ≤ 1048576 ∧ x.f4.length ≤ 1048576) :
  ∃ r1 r2 r3 r4 r5 r6, Ev (fun k => spec_BoxAt.f k l a) (r1, r2, r3, r4, r5, r6) ∧ Ev (fun k => impl_BoxAt.f k l a) (r1, r2, r3, r4, r5, r6) ∧ r4.length ≤ 1048576 ∧ r5.length ≤ 1048576 := by
 by_cases h1 : (l.length : Int) > 4096
 ·refine ⟨(⟨#[]⟩ : ByteArray), 0, 0, [], [], 2, ⟨1, fun k hk => ?_⟩, ⟨1, fun k hk => ?_⟩, by simp, by simp⟩ <;>
  ·obtain ⟨m, rfl⟩ : ∃ m, k = m + 1 := ⟨k - 1, by omega⟩
   simp only [spec_BoxAt.f, impl_BoxAt.f]
   rw [if_pos h1]
   simp only [spec_BoxAt.j0, impl_BoxAt.j0]
   exact if_pos trivial
 ·by_cases h2 : (a.size : Int) > 65536
  ·refine ⟨(⟨#[]⟩ : ByteArray), 0, 0, [], [], 2, ⟨1, fun k hk => ?_⟩, ⟨1, fun k hk => ?_⟩, by simp, by simp⟩ <;>
   ·obtain ⟨m, rfl⟩ : ∃ m, k = m + 1 := ⟨k - 1, by omega⟩
    simp only [spec_BoxAt.f, impl_BoxAt.f]
    rw [if_neg h1, decide_eq_true h2]
    simp only [spec_BoxAt.j0, impl_BoxAt.j0]
    exact if_pos trivial
  ·obtain ⟨K1, e1⟩ := specStore_ev l
   obtain ⟨K2, e2⟩ := implStore_ev l
   obtain ⟨K3, e3⟩ := find_ev l a hl
   have e4 := boxIndex_eq l a hl
   have hlt := idxB_lt (nmB a) l
   have es : ∀ k, K1 + K2 + K3 + 1 ≤ k → spec_BoxAt.f k l a = (if storeR l = true then (if idxOf (nmB a) l < 0 then (some ((⟨#[]⟩ : ByteArray), 0, 0, ([] : List S68), ([] : List ByteArray), 5)) else (some ((rd_T27 l (idxOf (nmB a) l)).f0, (rd_T27 l (idxOf (nmB a) l)).f1, (rd_T27 l (idxOf (nmB a) l)).f2, (rd_T27 l (idxOf (nmB a) l)).f3, (rd_T27 l (idxOf (nmB a) l)).f4, 0))) else (some ((⟨#[]⟩ : ByteArray), 0, 0, ([] : List S68), ([] : List ByteArray), 1))) ∧ impl_BoxAt.f k l a = spec_BoxAt.f k l a := fun k hk => by
    obtain ⟨m, rfl⟩ : ∃ m, k = m + 1 := ⟨k - 1, by omega⟩
    have e1' := e1 m (by omega)
    have e2' := e2 m (by omega)
    have e3' := e3 m (by omega)
    simp only at e1' e2' e3'
    simp only [spec_BoxAt.f, impl_BoxAt.f]
    rw [if_neg h1, if_neg h1, decide_eq_false h2]
    simp only [spec_BoxAt.j0, impl_BoxAt.j0, spec_l09Code.f, e1', e2', e3', e4, bS, if_neg h1, Bool.false_eq_true, if_false]
    generalize idxOf (nmB a) l = q at *
    cases storeR l with
    | false => simp
    | true =>
     simp only [if_true, bS]
     by_cases hq : q < 0
     ·simp [hq]
     ·have hq0 : 0 ≤ q := by omega
      have hx : rd_T27 l q ∈ l := by
       have hn : q.toNat < l.length := by omega
       unfold rd_T27
       rw [List.getD_eq_getElem?_getD, List.getElem?_eq_getElem hn]
       exact List.getElem_mem hn
      obtain ⟨b1, b2⟩ := hb _ hx
      simp only [if_neg hq, if_pos hq0, if_pos hlt, spec_l09Box.f, impl_cloneBox.f, slices_Clone_Stored.f, slices_Clone_string.f, bS, List.length_nil, List.nil_append]
      rw [if_pos (by omega), if_pos (by omega), if_pos (by omega), if_pos (by omega)]
      simp only [bS, and_self]
   cases hs : storeR l with
   | false =>
    refine ⟨(⟨#[]⟩ : ByteArray), 0, 0, [], [], 1, ⟨K1 + K2 + K3 + 1, fun k hk => ?_⟩, ⟨K1 + K2 + K3 + 1, fun k hk => ?_⟩, by simp, by simp⟩
    ·have := (es k hk).1; rw [hs] at this; simpa using this
    ·have := es k hk; rw [hs] at this; simp only [this.2, this.1]; simp
   | true =>
    by_cases hq : idxOf (nmB a) l < 0
    ·refine ⟨(⟨#[]⟩ : ByteArray), 0, 0, [], [], 5, ⟨K1 + K2 + K3 + 1, fun k hk => ?_⟩, ⟨K1 + K2 + K3 + 1, fun k hk => ?_⟩, by simp, by simp⟩
     ·have := (es k hk).1; rw [hs, if_pos rfl, if_pos hq] at this; exact this
     ·have := es k hk; rw [hs, if_pos rfl, if_pos hq] at this; simp only [this.2, this.1]
    ·have hn : (idxOf (nmB a) l).toNat < l.length := by omega
     have hx : rd_T27 l (idxOf (nmB a) l) ∈ l := by
      unfold rd_T27
      rw [List.getD_eq_getElem?_getD, List.getElem?_eq_getElem hn]
      exact List.getElem_mem hn
     obtain ⟨b1, b2⟩ := hb _ hx
     obtain ⟨b, hbx⟩ : ∃ b, b = rd_T27 l (idxOf (nmB a) l) := ⟨_, rfl⟩
     rw [← hbx] at b1 b2 es
     refine ⟨b.f0, b.f1, b.f2, b.f3, b.f4, 0, ⟨K1 + K2 + K3 + 1, fun k hk => ?_⟩, ⟨K1 + K2 + K3 + 1, fun k hk => ?_⟩, b1, b2⟩
     ·have := (es k hk).1; rw [hs, if_pos rfl, if_neg hq] at this; exact this
     ·have := es k hk; rw [hs, if_pos rfl, if_neg hq] at this; simp only [this.2, this.1]
end Go.Proofs.Ytflfbaffapbpiaa.P
/- Lemmas of mine: the marks of a row of mails, of a box, of boxes. Plain. -/
set_option linter.unusedVariables false
set_option linter.unusedSimpArgs false
namespace Go.Proofs.Ytflfbaffapbpiaa.P
open Go.RowKit Go.Proofs.YtflfbaffapbpiaaW.PrintWords
/-- Mails, marked from a number on. -/
noncomputable def mls : Nat → Nat → List S68
 | _, 0 => []
 | n, m + 1 => ⟨(n : Int), ((n + 1 : Nat) : Int), mt (n + 2)⟩ :: mls (n + 3) m
theorem mls_length : ∀ m n, (mls n m).length = m
 | 0, _ => rfl
 | m + 1, n => by rw [mls, List.length_cons, mls_length m]
theorem rd_setM (xs : List S68) (i : Nat) (y : S68) (h : i < xs.length) : rd_T68 (xs.set i y) (i : Int) = y := by
 simp only [rd_T68, Int.toNat_natCast, List.getD_eq_getElem?_getD]
 rw [List.getElem?_set_self h]
 rfl
theorem markM_l0 : ∀ (d i n : Nat) (xs : List S68), i + d = xs.length → xs.length ≤ 4611686018427387904 → n + 3 * d < 10 ^ 18 →
  Ev (fun k => laws_markStoredS.l0 k xs (n : Int) (i : Int)) (((n + 3 * d : Nat) : Int), xs.take i ++ mls n d) := by
 intro d
 induction d with
 | zero =>
  intro i n xs hi hx hn
  refine Ev.step (f := fun _ => some _) (fun k => ?_) (Ev.now _)
  simp only [laws_markStoredS.l0]
  rw [if_neg (by omega), List.take_of_length_le (by omega)]
  simp [mls]
 | succ d ih =>
  intro i n xs hi hx hn
  have hlt : i < xs.length := by omega
  have hp : (10 : Nat) ^ 18 = 1000000000000000000 := by decide
  obtain ⟨y, hy⟩ : ∃ y : S68, y = ⟨(n : Int), ((n + 1 : Nat) : Int), mt (n + 2)⟩ := ⟨_, rfl⟩
  obtain ⟨K1, h1⟩ := mt_ev (n + 2) (by omega)
  obtain ⟨K2, h2⟩ := ih (i + 1) (n + 3) (xs.set i y) (by rw [List.length_set]; omega) (by rw [List.length_set]; omega) (by omega)
  have e2 : (xs.set i y).take (i + 1) = xs.take i ++ [y] := by
   rw [List.take_set, List.take_add_one, List.getElem?_eq_getElem hlt]
   have hl : (xs.take i).length = i := by rw [List.length_take]; omega
   rw [List.set_append_right _ _ (by omega), hl, Nat.sub_self]
   rfl
  refine ⟨K1 + K2 + 1, fun k hk => ?_⟩
  obtain ⟨m, rfl⟩ : ∃ m, k = m + 1 := ⟨k - 1, by omega⟩
  have h1' : laws_markText.f m ((n + 2 : Nat) : Int) = some (mt (n + 2)) := h1 m (by omega)
  have h2' := h2 m (by omega)
  have w1 : Aside0 (wrap64 ((n : Int) + 1) = ((n + 1 : Nat) : Int)) := ⟨w64s n (by omega)⟩
  have w2 : Aside0 (wrap64 (((n + 1 : Nat) : Int) + 1) = ((n + 2 : Nat) : Int)) := ⟨w64s (n + 1) (by omega)⟩
  have w3 : Aside0 (wrap64 (((n + 2 : Nat) : Int) + 1) = ((n + 3 : Nat) : Int)) := ⟨w64s (n + 2) (by omega)⟩
  simp only at h2'
  rw [e2, show n + 3 + 3 * d = n + 3 * (d + 1) by omega] at h2'
  simp only [laws_markStoredS.l0, bS, Int.toNat_natCast, List.set_set, rd_setM _ _ _ hlt, w1.out, w2.out, w3.out, h1', w64s i (by omega), ← hy]
  rw [if_pos (by omega), if_pos (by omega), h2']
  simp only [mls, ← hy, List.append_assoc, List.cons_append, List.nil_append]
theorem markM_ev (xs : List S68) (n : Nat) (hx : xs.length ≤ 4611686018427387904) (hn : n + 3 * xs.length < 10 ^ 18) : Ev (fun k => laws_markStoredS.f k xs (n : Int)) (((n + 3 * xs.length : Nat) : Int), mls n xs.length) := by
 have h := markM_l0 xs.length 0 n xs (by omega) hx hn
 rw [List.take_zero, List.nil_append] at h
 exact h
theorem heldM_l0 (ys : List S68) (hy : ys.length ≤ 4611686018427387904) : ∀ (d i n : Nat), i + d = ys.length → ys.drop i = mls n d → n + 3 * d < 10 ^ 18 → Ev (fun k => laws_heldStoredS.l0 k ys (n : Int) (i : Int)) ((n + 3 * d : Nat) : Int) := by
 intro d
 induction d with
 | zero =>
  intro i n hi hd hn
  refine Ev.step (f := fun _ => some _) (fun k => ?_) (Ev.now _)
  simp only [laws_heldStoredS.l0]
  rw [if_neg (by omega)]
  rfl
 | succ d ih =>
  intro i n hi hd hn
  have hlt : i < ys.length := by omega
  have hp : (10 : Nat) ^ 18 = 1000000000000000000 := by decide
  rw [List.drop_eq_getElem_cons hlt, mls] at hd
  injection hd with h1 h2
  have hr : rd_T68 ys (i : Int) = ⟨(n : Int), ((n + 1 : Nat) : Int), mt (n + 2)⟩ := by
   simp only [rd_T68, Int.toNat_natCast, List.getD_eq_getElem?_getD]
   rw [List.getElem?_eq_getElem hlt, h1]
   rfl
  obtain ⟨K1, e1⟩ := mt_ev (n + 2) (by omega)
  obtain ⟨K2, e2⟩ := ih (i + 1) (n + 3) (by omega) h2 (by omega)
  refine ⟨K1 + K2 + 1, fun k hk => ?_⟩
  obtain ⟨m, rfl⟩ : ∃ m, k = m + 1 := ⟨k - 1, by omega⟩
  have e1' : laws_markText.f m ((n + 2 : Nat) : Int) = some (mt (n + 2)) := e1 m (by omega)
  have e2' := e2 m (by omega)
  simp only at e2'
  rw [show n + 3 + 3 * d = n + 3 * (d + 1) by omega] at e2'
  have w1 : Aside0 (wrap64 ((n : Int) + 1) = ((n + 1 : Nat) : Int)) := ⟨w64s n (by omega)⟩
  have w2 : Aside0 (wrap64 (((n + 1 : Nat) : Int) + 1) = ((n + 2 : Nat) : Int)) := ⟨w64s (n + 1) (by omega)⟩
  have w3 : Aside0 (wrap64 (((n + 2 : Nat) : Int) + 1) = ((n + 3 : Nat) : Int)) := ⟨w64s (n + 2) (by omega)⟩
  simp only [laws_heldStoredS.l0, hr, w1.out, w2.out, w3.out, e1', bS, w64s i (by omega)]
  rw [if_pos (by omega), if_pos (by omega), if_pos trivial, if_pos trivial, if_pos trivial, e2']
theorem heldM_ev (n m : Nat) (hm : m ≤ 4611686018427387904) (hn : n + 3 * m < 10 ^ 18) : Ev (fun k => laws_heldStoredS.f k (mls n m) (n : Int)) ((n + 3 * m : Nat) : Int) :=
 heldM_l0 (mls n m) (by rw [mls_length]; exact hm) m 0 n (by rw [mls_length]; omega) rfl hn
theorem markBox_ev (s : ByteArray) (v nx : Int) (ms : List S68) (ks : List ByteArray) (n : Nat) (hm : ms.length ≤ 4611686018427387904) (hk : ks.length ≤ 4611686018427387904) (hn : n + 3 * ms.length + ks.length < 10 ^ 18) :
  Ev (fun k => laws_markBox.f k s v nx ms ks (n : Int)) (((n + 3 * ms.length + ks.length : Nat) : Int), mls n ms.length, marks (n + 3 * ms.length) ks.length) := by
 obtain ⟨K1, h1⟩ := markM_ev ms n hm (by omega)
 obtain ⟨K2, h2⟩ := markS_ev ks (n + 3 * ms.length) hk hn
 refine ⟨K1 + K2, fun k hk => ?_⟩
 have e1 := h1 k (by omega)
 have e2 := h2 k (by omega)
 simp only at e1 e2
 simp only [laws_markBox.f, e1, e2, bS]
theorem heldBox_ev (s : ByteArray) (v nx : Int) (n a b : Nat) (ha : a ≤ 4611686018427387904) (hb : b ≤ 4611686018427387904) (hn : n + 3 * a + b < 10 ^ 18) :
  Ev (fun k => laws_heldBox.f k s v nx (mls n a) (marks (n + 3 * a) b) (n : Int)) ((n + 3 * a + b : Nat) : Int) := by
 obtain ⟨K1, h1⟩ := heldM_ev n a ha (by omega)
 obtain ⟨K2, h2⟩ := heldS_ev (n + 3 * a) b hb hn
 refine ⟨K1 + K2, fun k hk => ?_⟩
 have e1 := h1 k (by omega)
 have e2 := h2 k (by omega)
 simp only at e1 e2
 simp only [laws_heldBox.f, e1, e2, bS]
 rw [if_neg (by omega), if_neg (by omega)]
/-- How far the marks of boxes reach. -/
def wtM : List S27 → Nat
 | [] => 0
 | x :: l => 3 + 3 * x.f3.length + x.f4.length + wtM l
theorem markBoxes_l0 : ∀ (d i n : Nat) (xs : List S27), i + d = xs.length → xs.length ≤ 4611686018427387904 → n + wtM (xs.drop i) < 10 ^ 18 →
  ∃ (N : Nat) (ys : List S27), Ev (fun k => laws_markBoxS.l0 k xs (n : Int) (i : Int)) ((N : Int), ys) := by
 intro d
 induction d with
 | zero =>
  intro i n xs hi hx hn
  exact ⟨n, xs, Ev.step (f := fun _ => some _) (fun k => by simp only [laws_markBoxS.l0]; rw [if_neg (by omega)]) (Ev.now _)⟩
 | succ d ih =>
  intro i n xs hi hx hn
  have hlt : i < xs.length := by omega
  have hp : (10 : Nat) ^ 18 = 1000000000000000000 := by decide
  have hrd : rd_T27 xs (i : Int) = xs[i]'hlt := by unfold rd_T27; exact getD_nat xs _ i hlt
  rw [List.drop_eq_getElem_cons hlt, wtM] at hn
  obtain ⟨K1, h1⟩ := mt_ev n (by omega)
  obtain ⟨K2, h2⟩ := markM_ev (xs[i]'hlt).f3 (n + 3) (by omega) (by omega)
  obtain ⟨K3, h3⟩ := markS_ev (xs[i]'hlt).f4 (n + 3 + 3 * (xs[i]'hlt).f3.length) (by omega) (by omega)
  obtain ⟨y, hy⟩ : ∃ y : S27, y = ⟨mt n, ((n + 1 : Nat) : Int), ((n + 2 : Nat) : Int), mls (n + 3) (xs[i]'hlt).f3.length, marks (n + 3 + 3 * (xs[i]'hlt).f3.length) (xs[i]'hlt).f4.length⟩ := ⟨_, rfl⟩
  have ed : (xs.set i y).drop (i + 1) = xs.drop (i + 1) := by rw [List.drop_set_of_lt (by omega)]
  obtain ⟨N, ys, K4, h4⟩ := ih (i + 1) (n + 3 + 3 * (xs[i]'hlt).f3.length + (xs[i]'hlt).f4.length) (xs.set i y) (by rw [List.length_set]; omega) (by rw [List.length_set]; omega) (by rw [ed]; omega)
  refine ⟨N, ys, K1 + K2 + K3 + K4 + 1, fun k hk => ?_⟩
  obtain ⟨m, rfl⟩ : ∃ m, k = m + 1 := ⟨k - 1, by omega⟩
  have h1' := h1 m (by omega)
  have h2' := h2 m (by omega)
  have h3' := h3 m (by omega)
  have h4' := h4 m (by omega)
  simp only at h1' h2' h3' h4'
  have w1 : Aside0 (wrap64 ((n : Int) + 1) = ((n + 1 : Nat) : Int)) := ⟨w64s n (by omega)⟩
  have w2 : Aside0 (wrap64 (((n + 1 : Nat) : Int) + 1) = ((n + 2 : Nat) : Int)) := ⟨w64s (n + 1) (by omega)⟩
  have w3 : Aside0 (wrap64 (((n + 2 : Nat) : Int) + 1) = ((n + 3 : Nat) : Int)) := ⟨w64s (n + 2) (by omega)⟩
  simp only [laws_markBoxS.l0, hrd, w1.out, w2.out, w3.out, h1', h2', h3', bS, Int.toNat_natCast, w64s i (by omega), ← hy]
  rw [if_pos (by omega), if_pos (by omega), h4']
theorem markBoxes_ev (xs : List S27) (hx : xs.length ≤ 4611686018427387904) (hn : 1 + wtM xs < 10 ^ 18) : ∃ (N : Nat) (ys : List S27), Ev (fun k => laws_markBoxS.f k xs 1) ((N : Int), ys) := by
 have := markBoxes_l0 xs.length 0 1 xs (by omega) hx (by rw [List.drop_zero]; exact hn)
 exact this
end Go.Proofs.Ytflfbaffapbpiaa.P
/- Lemmas of mine: what the count of boxes bounds. Plain. -/
set_option linter.unusedVariables false
set_option linter.unusedSimpArgs false
namespace Go.Proofs.Ytflfbaffapbpiaa.P
open Go.RowKit Go.Proofs.YtflfbaffapbpiaaW.PrintWords
theorem szM_b (xs : List S136) (h : xs.length ≤ 4611686018427387904) (hb : ∀ x ∈ xs, x.f2.size ≤ 4611686018427387904) (n : Int) (h0 : 0 ≤ n) (h1 : n ≤ 1048576) :
  ∃ z, Ev (fun k => laws_szStoredS.f k xs n) z ∧ (0 ≤ z → z + (xs.length : Int) ≤ n) := by
 have hw : wrap64 (n - (xs.length : Int)) = n - (xs.length : Int) := w64 (by omega) (by omega)
 by_cases hn : n - (xs.length : Int) < 0
 ·exact ⟨-1, ⟨0, fun k _ => by simp only [laws_szStoredS.f, hw]; rw [if_pos hn]⟩, fun hz => absurd hz (by decide)⟩
 ·obtain ⟨z, hz, hout⟩ := st_loop (fun k s i => laws_szStoredS.l0 k xs s i) xs.length (fun _ s z => 0 ≤ s → s ≤ 1048576 → 0 ≤ z → z ≤ s) (fun i s hi => by
    obtain ⟨z, hz, hzs⟩ : ∃ z, laws_szStored.f (xs[i]'hi).f0 (xs[i]'hi).f1 (xs[i]'hi).f2 s = some z ∧ (0 ≤ s → s ≤ 1048576 → 0 ≤ z → z ≤ s) := by
     have hs := hb _ (List.getElem_mem hi)
     unfold laws_szStored.f
     by_cases hc : wrap64 (s - ((xs[i]'hi).f2.size : Int)) < 0
     ·exact ⟨-1, if_pos hc, fun _ _ h => absurd h (by decide)⟩
     ·exact ⟨_, if_neg hc, fun a b _ => by rw [w64 (by omega) (by omega)]; omega⟩
    have e : ∀ k, laws_szStoredS.l0 (k + 1) xs s (i : Int) = if z < 0 then some (-1) else laws_szStoredS.l0 k xs z ((i + 1 : Nat) : Int) := fun k => by
     simp only [laws_szStoredS.l0, rd_T136, getD_nat xs _ i hi, hz, bS]
     rw [if_pos (by omega), if_pos (by omega), w64s i (by omega)]
    by_cases hn : z < 0
    ·exact .inl ⟨-1, ⟨0, fun k _ => by rw [e, if_pos hn]⟩, fun _ _ h => absurd h (by decide)⟩
    ·exact .inr ⟨z, ⟨0, fun k _ => by rw [e, if_neg hn]⟩, fun r hr a b c => by have := hzs a b (by omega); have := hr (by omega) (by omega) c; omega⟩)
   (fun s => ⟨s, ⟨0, fun k _ => by simp only [laws_szStoredS.l0]; rw [if_neg (by omega)]⟩, fun _ _ _ => by omega⟩) xs.length 0 (n - (xs.length : Int)) (by omega)
  exact ⟨z, Ev.congr (fun k => by simp only [laws_szStoredS.f, hw]; rw [if_neg hn]; rfl) hz, fun hz0 => by have := hout (by omega) (by omega) hz0; omega⟩
theorem szK_b (xs : List ByteArray) (h : xs.length ≤ 4611686018427387904) (hb : ∀ x ∈ xs, x.size ≤ 4611686018427387904) (n : Int) (h0 : 0 ≤ n) (h1 : n ≤ 1048576) :
  ∃ z, Ev (fun k => laws_szStringS.f k xs n) z ∧ (0 ≤ z → z + (xs.length : Int) ≤ n) := by
 have hw : wrap64 (n - (xs.length : Int)) = n - (xs.length : Int) := w64 (by omega) (by omega)
 by_cases hn : n - (xs.length : Int) < 0
 ·exact ⟨-1, ⟨0, fun k _ => by simp only [laws_szStringS.f, hw]; rw [if_pos hn]⟩, fun hz => absurd hz (by decide)⟩
 ·obtain ⟨z, hz, hout⟩ := st_loop (fun k s i => laws_szStringS.l0 k xs s i) xs.length (fun _ s z => 0 ≤ s → s ≤ 1048576 → 0 ≤ z → z ≤ s) (fun i s hi => by
    have hs := hb _ (List.getElem_mem hi)
    obtain ⟨z, hz⟩ : ∃ z, wrap64 (s - ((xs[i]'hi).size : Int)) = z := ⟨_, rfl⟩
    have hzs : 0 ≤ s → s ≤ 1048576 → z ≤ s := fun a b => by rw [← hz, w64 (by omega) (by omega)]; omega
    have e : ∀ k, laws_szStringS.l0 (k + 1) xs s (i : Int) = if z < 0 then some (-1) else laws_szStringS.l0 k xs z ((i + 1 : Nat) : Int) := fun k => by
     simp only [laws_szStringS.l0, rdOf, getD_nat xs _ i hi, hz]
     rw [if_pos (by omega), if_pos (by omega), w64s i (by omega)]
    clear hz
    by_cases hn : z < 0
    ·exact .inl ⟨-1, ⟨0, fun k _ => by rw [e, if_pos hn]⟩, fun _ _ h => absurd h (by decide)⟩
    ·exact .inr ⟨z, ⟨0, fun k _ => by rw [e, if_neg hn]⟩, fun r hr a b c => by have := hzs a b; have := hr (by omega) (by omega) c; omega⟩)
   (fun s => ⟨s, ⟨0, fun k _ => by simp only [laws_szStringS.l0]; rw [if_neg (by omega)]⟩, fun _ _ _ => by omega⟩) xs.length 0 (n - (xs.length : Int)) (by omega)
  exact ⟨z, Ev.congr (fun k => by simp only [laws_szStringS.f, hw]; rw [if_neg hn]; rfl) hz, fun hz0 => by have := hout (by omega) (by omega) hz0; omega⟩
/-- A box whose lists and texts are within the bounds. -/
def boxT (x : S75) : Prop := x.f0.size ≤ 4611686018427387904 ∧ x.f3.length ≤ 4611686018427387904 ∧ x.f4.length ≤ 4611686018427387904 ∧ (∀ y ∈ x.f3, y.f2.size ≤ 4611686018427387904) ∧ ∀ y ∈ x.f4, y.size ≤ 4611686018427387904
theorem szB_b (x : S75) (hx : boxT x) (n : Int) (h0 : 0 ≤ n) (h1 : n ≤ 1048576) :
  ∃ z, Ev (fun k => laws_szBox.f k x.f0 x.f1 x.f2 x.f3 x.f4 n) z ∧ (0 ≤ z → z + (x.f3.length : Int) + (x.f4.length : Int) ≤ n) := by
 obtain ⟨hs, hm, hk, hmt, hkt⟩ := hx
 have hw : wrap64 (n - (x.f0.size : Int)) = n - (x.f0.size : Int) := w64 (by omega) (by omega)
 by_cases hn : n - (x.f0.size : Int) < 0
 ·exact ⟨-1, ⟨0, fun k _ => by simp only [laws_szBox.f, hw]; rw [if_pos hn]⟩, fun hz => absurd hz (by decide)⟩
 ·obtain ⟨z, ⟨K1, hz⟩, hzb⟩ := szM_b x.f3 hm hmt (n - (x.f0.size : Int)) (by omega) (by omega)
  by_cases hz0 : z < 0
  ·exact ⟨-1, ⟨K1, fun k hk => by simp only [laws_szBox.f, hw, hz k hk, bS]; rw [if_neg hn, if_pos hz0]⟩, fun h => absurd h (by decide)⟩
  ·have hz1 := hzb (by omega)
   obtain ⟨y, ⟨K2, hy⟩, hyb⟩ := szK_b x.f4 hk hkt z (by omega) (by omega)
   by_cases hy0 : y < 0
   ·exact ⟨-1, ⟨K1 + K2, fun k hk => by simp only [laws_szBox.f, hw, hz k (by omega), hy k (by omega), bS]; rw [if_neg hn, if_neg hz0, if_pos hy0]⟩, fun h => absurd h (by decide)⟩
   ·exact ⟨y, ⟨K1 + K2, fun k hk => by simp only [laws_szBox.f, hw, hz k (by omega), hy k (by omega), bS]; rw [if_neg hn, if_neg hz0, if_neg hy0]⟩, fun h => by have := hyb h; omega⟩
def wtL : List S75 → Nat
 | [] => 0
 | x :: l => x.f3.length + x.f4.length + wtL l
theorem szBoxes_l0 (xs : List S75) (h : xs.length ≤ 4611686018427387904) (hb : ∀ x ∈ xs, boxT x) : ∀ (d i : Nat) (n : Int), i + d = xs.length → 0 ≤ n → n ≤ 1048576 →
  ∃ z, Ev (fun k => laws_szBoxS.l0 k xs n (i : Int)) z ∧ (0 ≤ z → z + (wtL (xs.drop i) : Int) ≤ n)
 | 0, i, n, hi, h0, h1 => ⟨n, Ev.step (f := fun _ => some _) (fun k => by simp only [laws_szBoxS.l0]; rw [if_neg (by omega)]) (Ev.now _), fun _ => by rw [List.drop_eq_nil_of_le (by omega)]; simp only [wtL]; omega⟩
 | d + 1, i, n, hi, h0, h1 => by
  have hlt : i < xs.length := by omega
  obtain ⟨z, ⟨K, hz⟩, hzb⟩ := szB_b _ (hb _ (List.getElem_mem hlt)) n h0 h1
  have e : ∀ k, K ≤ k → laws_szBoxS.l0 (k + 1) xs n (i : Int) = if z < 0 then some (-1) else laws_szBoxS.l0 k xs z ((i + 1 : Nat) : Int) := fun k hk => by
   have e := hz k hk
   simp only at e
   simp only [laws_szBoxS.l0, rd_T75, getD_nat xs _ i hlt, e, bS]
   rw [if_pos (by omega), if_pos (by omega), w64s i (by omega)]
  by_cases hz0 : z < 0
  ·refine ⟨-1, ⟨K + 1, fun k hk => ?_⟩, fun hz => absurd hz (by decide)⟩
   obtain ⟨m, rfl⟩ : ∃ m, k = m + 1 := ⟨k - 1, by omega⟩
   simp only [e m (by omega)]
   rw [if_pos hz0]
  ·have hz1 := hzb (by omega)
   obtain ⟨y, ⟨K2, hy⟩, hyb⟩ := szBoxes_l0 xs h hb d (i + 1) z (by omega) (by omega) (by omega)
   refine ⟨y, ⟨K + K2 + 1, fun k hk => ?_⟩, fun h => ?_⟩
   ·obtain ⟨m, rfl⟩ : ∃ m, k = m + 1 := ⟨k - 1, by omega⟩
    simp only [e m (by omega)]
    rw [if_neg hz0]
    exact hy m (by omega)
   ·rw [List.drop_eq_getElem_cons hlt]
    simp only [wtL]
    have := hyb h
    omega
theorem szBoxes_b (xs : List S75) (h : xs.length ≤ 4611686018427387904) (hb : ∀ x ∈ xs, boxT x) :
  ∃ z, Ev (fun k => laws_szBoxS.f k xs 1048576) z ∧ (0 ≤ z → xs.length + wtL xs ≤ 1048576) := by
 have hw : wrap64 (1048576 - (xs.length : Int)) = 1048576 - (xs.length : Int) := w64 (by omega) (by omega)
 by_cases h0 : 1048576 - (xs.length : Int) < 0
 ·exact ⟨-1, ⟨0, fun k _ => by simp only [laws_szBoxS.f, hw]; rw [if_pos h0]⟩, fun hz => absurd hz (by decide)⟩
 ·obtain ⟨z, hz, hh⟩ := szBoxes_l0 xs h hb xs.length 0 (1048576 - (xs.length : Int)) (by omega) (by omega) (by omega)
  exact ⟨z, Ev.congr (fun k => by simp only [laws_szBoxS.f, hw]; rw [if_neg h0]; rfl) hz, fun hz0 => by have := hh hz0; rw [List.drop_zero] at this; omega⟩
theorem wtL_mem : ∀ (xs : List S75) (x : S75), x ∈ xs → x.f3.length + x.f4.length ≤ wtL xs
 | [], x, h => by cases h
 | a :: l, x, h => by
  rcases List.mem_cons.1 h with rfl | h
  ·simp only [wtL]; omega
  ·have := wtL_mem l x h
   simp only [wtL]; omega
theorem wtM_map : ∀ xs : List S75, wtM (xs.map bxM) ≤ 3 * xs.length + 3 * wtL xs
 | [] => by simp [wtM]
 | a :: l => by
  have := wtM_map l
  have e : (bxM a).f3.length = a.f3.length := by show (a.f3.map stM).length = _; rw [List.length_map]
  have e2 : (bxM a).f4.length = a.f4.length := rfl
  simp only [List.map_cons, wtM, wtL, List.length_cons, e, e2]
  omega
end Go.Proofs.Ytflfbaffapbpiaa.P
/- The pure statement of the law FnExactBoxAt: the two BoxAt tell the same, over rows of their own. No condition. -/
set_option linter.unusedVariables false
set_option linter.unusedSimpArgs false
namespace Go.Proofs.Ytflfbaffapbpiaa.P
open Go.RowKit Go.Proofs.YtflfbaffapbpiaaW.PrintWords
theorem boxT_ok {x : S75} (h : ok75 x) : boxT x ∧ boxB x := by
 obtain ⟨h0, _, _, ⟨_, hl, hm⟩, _, hl2, hk⟩ := h
 exact ⟨⟨by omega, by omega, by omega, fun y hy => by have := (hm y hy).2.2; omega, fun y hy => by have := hk y hy; omega⟩, by omega, by omega⟩
end Go.Proofs.Ytflfbaffapbpiaa.P
namespace Go.Proofs.Ytflfbaffapbpiaa.Pure
open Go.RowKit Go.Proofs.Ytflfbaffapbpiaa.P Go.Proofs.YtflfbaffapbpiaaW.PrintWords
theorem FnExactBoxAt : laws_FnExactBoxAt.Pure := by
 intro l a hl _
 obtain ⟨_, hlen, hy⟩ := hl
 by_cases ha : (a.size : Int) > 1048576
 ·exact ⟨0, by simp only [laws_FnExactBoxAt.f]; rw [if_pos ha]⟩
 obtain ⟨z, ⟨K0, h0⟩, hz⟩ := szBoxes_b l (by omega) (fun x hx => (boxT_ok (hy x hx)).1)
 by_cases hz0 : z < 0
 ·refine ⟨K0, ?_⟩
  have e0 := h0 K0 (Nat.le_refl _)
  simp only at e0
  simp only [laws_FnExactBoxAt.f, e0, bS]
  rw [if_neg ha, if_pos hz0]
 have hw := hz (by omega)
 have hb : ∀ x ∈ l, boxB x := fun x hx => (boxT_ok (hy x hx)).2
 obtain ⟨K1, h1⟩ := toBoxS_ev l (by omega) hb
 have hb2 := boxB_map hb
 have hlm : (l.map bxM).length ≤ 4611686018427387904 := by rw [List.length_map]; omega
 have hw2 := wtM_map l
 have hb3 : ∀ x ∈ l.map bxM, x.f3.length ≤ 1048576 ∧ x.f4.length ≤ 1048576 := fun y hy => by
  obtain ⟨x, hx, rfl⟩ := List.mem_map.1 hy
  have := wtL_mem l x hx
  exact ⟨by show (x.f3.map stM).length ≤ _; rw [List.length_map]; omega, by show x.f4.length ≤ _; omega⟩
 have hp : (10 : Nat) ^ 18 = 1000000000000000000 := by decide
 generalize l.map bxM = M at *
 obtain ⟨r1, r2, r3, r4, r5, r6, ⟨K2, h2⟩, ⟨K3, h3⟩, hr4, hr5⟩ := boxAt_both M a hlm hb3
 obtain ⟨K4, h4⟩ := eqBox_self r1 r2 r3 r4 r5 (by omega) (by omega)
 obtain ⟨K5, h5⟩ := eqBoxS_self M hlm hb2
 obtain ⟨N, ys, K6, h6⟩ := markBoxes_ev M hlm (by omega)
 obtain ⟨K7, h7⟩ := markBox_ev r1 r2 r3 r4 r5 1 (by omega) (by omega) (by omega)
 obtain ⟨K8, h8⟩ := heldBox_ev r1 r2 r3 1 r4.length r5.length (by omega) (by omega) (by omega)
 have hall : ∀ k, K0 + K1 + K2 + K3 + K4 + K5 + K6 + K7 + K8 ≤ k → laws_szBoxS.f k l 1048576 = some z ∧ laws_toBoxS.f k l = some M ∧ spec_BoxAt.f k M a = some (r1, r2, r3, r4, r5, r6) ∧ impl_BoxAt.f k M a = some (r1, r2, r3, r4, r5, r6) ∧ laws_eqBox.f k r1 r2 r3 r4 r5 r1 r2 r3 r4 r5 = some true ∧ laws_eqBoxS.f k M M = some true ∧ laws_markBoxS.f k M 1 = some ((N : Int), ys) ∧
   laws_markBox.f k r1 r2 r3 r4 r5 1 = some (((1 + 3 * r4.length + r5.length : Nat) : Int), mls 1 r4.length, marks (1 + 3 * r4.length) r5.length) ∧ laws_heldBox.f k r1 r2 r3 (mls 1 r4.length) (marks (1 + 3 * r4.length) r5.length) 1 = some ((1 + 3 * r4.length + r5.length : Nat) : Int) :=
  fun k hk => ⟨h0 k (by omega), h1 k (by omega), h2 k (by omega), h3 k (by omega), h4 k (by omega), h5 k (by omega), h6 k (by omega), h7 k (by omega), h8 k (by omega)⟩
 obtain ⟨K, hK⟩ : ∃ K, K = K0 + K1 + K2 + K3 + K4 + K5 + K6 + K7 + K8 := ⟨_, rfl⟩
 rw [← hK] at hall
 refine ⟨K + 3, ?_⟩
 have hN : ¬ ((N : Int) < 0) := by omega
 obtain ⟨q, hq⟩ : ∃ q : Int, q = ((1 + 3 * r4.length + r5.length : Nat) : Int) := ⟨_, rfl⟩
 have hq0 : ¬ q < 0 := by omega
 rw [← hq] at hall
 clear h0 h1 h2 h3 h4 h5 h6 h7 h8 hq
 obtain ⟨a1, a2, a3, a4, a5, a6, a7, a8, a9⟩ := hall (K + 3) (by omega)
 obtain ⟨b1, b2, b3, b4, b5, b6, b7, b8, b9⟩ := hall (K + 2) (by omega)
 obtain ⟨c1, c2, c3, c4, c5, c6, c7, c8, c9⟩ := hall (K + 1) (by omega)
 obtain ⟨d1, d2, d3, d4, d5, d6, d7, d8, d9⟩ := hall K (by omega)
 have hf : (r6 != r6) = false := by simp
 simp only [laws_FnExactBoxAt.f, a1, a2, a3, a4, a5, bS, if_neg ha, if_neg hz0, if_true, hf]
 unfold laws_FnExactBoxAt.j0
 simp only [b2, b6, b7, b5, bS, if_neg hN, if_true, hf]
 unfold laws_FnExactBoxAt.j1
 simp only [c8, c9, c2, c4, c5, bS, if_neg hq0, if_true, hf]
 unfold laws_FnExactBoxAt.j2
 simp only [d9, bS, if_neg hq0, if_true]
 simp
end Go.Proofs.Ytflfbaffapbpiaa.Pure
/- The row of the law FnExactBoxAt: for every input the call returns true and each argument reads behind the call as it read before. No condition of mine. -/
namespace Go.Proofs.Ytflfbaffapbpiaa.fnExactBoxAt
open Go.ChangeShapes Go.WideShapes Go.ChangeAt Go.RowKit Go.Proofs.Ytflfbaffapbpiaa.P Go.Proofs.YtflfbaffapbpiaaW.PrintWords
open Go.ChangeMaps (open_string shut_string)
set_option linter.unusedVariables false
theorem own : ownKnob Try.prog.godebug = none := by kernel_rfl
theorem laidOut : laidOutB Try.prog = true := by kernel_rfl
set_option maxRecDepth 100000 in
theorem lifted (os : Os) (started : os.Started) (H : Type) (enc : TypeId × Value → H) :
    ReturnsInHanded {} Try.checked os 3 .any (Rows.fnExactBoxAtSpec.pre6 enc Try.prog Try.f3 Rows.fnExactBoxAtRow.domain false) (Rows.fnExactBoxAtSpec.post enc Try.prog Try.f3 false true false false) := by
  refine returnsInHanded_of_change_sized (C := Try.checked) own started (by kernel_rfl) Try.func3
    (ChangeSpec.witness6 (enc := enc) (C := Try.checked) false ⟨#[], #[.slice none 0 0, .string ByteArray.empty], []⟩ 8 (by kernel_rfl) (by kernel_rfl) (by kernel_rfl) (by kernel_rfl)) ?_
  intro W base args ds gs before hval0 hW hcnd hsz0 _
  have hsz : (DataW.weightsEach Try.prog (Try.f3.params.toList ++ Rows.fnExactBoxAtSpec.plain.varTypes Try.prog) (ds ++ gs)).all (· ≤ reachBytes) = true := hsz0
  have hval : ∀ (j : Nat) t v, Try.f3.params[j]? = some t → args[j]? = some v → Value.okWide Try.prog W .any base t v := hval0
  have hW' := hW
  obtain ⟨p, q, hA0, hV, rfl, hfz, hnd⟩ := hW
  have hA : DataW.TrodAll enc Try.prog W 0 (fun _ => true) true Try.f3.params.toList args.toList ds p := hA0
  rw [Try.params3] at hA hval hsz
  obtain ⟨v0, vs0, d0, ds0, p0, q0, hargs, rfl, rfl, h0, r0⟩ := trodAll_cons hA
  obtain ⟨v1, vs1, d1, ds1, p1, q1, rfl, rfl, rfl, h1, r1⟩ := trodAll_cons r0
  obtain ⟨rfl, rfl, rfl⟩ := trodAll_nil r1
  obtain rfl : args = #[v0, v1] := by cases args; simp_all
  obtain ⟨rfl, rfl⟩ := trodVars_none hV
  have kk0 := h0
  have lt0 : ∀ x ∈ p0, x.block < W.heap.size := by obtain ⟨m, hm⟩ := kk0; exact DataW.trod_lt m _ _ _ hm
  obtain ⟨x0, hK0, hS0⟩ := Tells.arg (Tells.slice (b := 80) Try.underlying22 (by kernel_rfl) (by kernel_rfl) tells75) h0 hsz (j := 0) (t := 22) rfl rfl
  obtain ⟨a0, len0, cap0, rfl⟩ := okWide_slice Try.underlying22 (hval 0 22 v0 rfl rfl)
  obtain ⟨A0, c0, hq0, hl0, hC0⟩ := hK0
  obtain ⟨rfl, rfl, rfl⟩ : a0 = A0 ∧ len0 = x0.length ∧ cap0 = c0 := by simpa [Value.cells] using hq0
  have kk1 := h1
  have lt1 : ∀ x ∈ p1, x.block < W.heap.size := by obtain ⟨m, hm⟩ := kk1; exact DataW.trod_lt m _ _ _ hm
  obtain ⟨x1, hK1, hS1⟩ := Tells.arg (Tells.string Try.underlying9) h1 hsz (j := 1) (t := 9) rfl rfl
  obtain ⟨a1, rfl⟩ := okWide_string Try.underlying9 (hval 1 9 v1 rfl rfl)
  have hq1 : [Value.string a1] = [Value.string x1] := hK1
  obtain rfl : a1 = x1 := by simpa using hq1
  clear hA0 hval0 hsz0 hsz
  obtain ⟨k, h⟩ := Pure.FnExactBoxAt x0 a1 hS0 hS1
  refine (laws_FnExactBoxAt.calls k _ _ x0 a1 true W hC0 hl0 h).mono fun e W' ⟨he, bel0⟩ => ?_
  have bel : Below W.heap.size W W' := bel0
  subst he
  exact ⟨_, rfl, _, _, _, [], _, [], hW', trodAll_mk1 (shut_bool Try.underlying4 _), (trodAll_cons_mk (Below.trod laidOut (by kernel_rfl) (of_decide_eq_true (by kernel_rfl)) kk0 bel lt0) (trodAll_cons_mk (Below.trod laidOut (by kernel_rfl) (of_decide_eq_true (by kernel_rfl)) kk1 bel lt1) trodAll_mk0)), rfl, bel.frame _, fun h => by cases h⟩
theorem over : Rows.fnExactBoxAtRow.holds Try.pinned (OpenSpec.ofChange Rows.fnExactBoxAtSpec) :=
  OpenClaim.holds_of_wide 3 Try.f3 rfl rfl rfl rfl rfl rfl rfl ⟨rfl, rfl, rfl, rfl, rfl⟩ rfl rfl rfl rfl rfl (by kernel_rfl) Try.func3 (by kernel_rfl)
    (of_decide_eq_true (by kernel_rfl)) (by unfold Func.isWrapper; first | (rw [if_pos (by decide +kernel)]; kernel_rfl) | (rw [if_neg (by decide +kernel)]; exact ⟨rfl, rfl⟩))
    (fun os started H enc _ => lifted os started H enc)
theorem proved : Rows.FnExactBoxAtSaid := over
#print axioms proved
end Go.Proofs.Ytflfbaffapbpiaa.fnExactBoxAt
namespace Go.Proofs.Ytflfbaffapbpiaa
/-- The statement, under a short name, for the claim. -/
theorem fnExactBoxAt_holds : Rows.FnExactBoxAtSaid := fnExactBoxAt.proved
end Go.Proofs.Ytflfbaffapbpiaa
