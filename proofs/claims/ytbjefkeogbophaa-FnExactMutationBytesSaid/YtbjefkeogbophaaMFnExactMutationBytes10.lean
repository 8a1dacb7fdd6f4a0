/- Part 10 of what the law FnExactMutationBytes stands on; the last part ends with the law's row. No condition of mine. -/
import Derived.Test.YtbjefkeogbophaaMFnExactMutationBytes1
import Derived.Test.YtbjefkeogbophaaMFnExactMutationBytes9
import Derived.Lib.Strings
import Derived.Lib.IndexBytes
import Derived.Laws.BitsLemmas
import Derived.IntWalk
import Derived.Test.YtbjefkeogbophaaMFnExactMutationBytes3
import Derived.Test.YtbjefkeogbophaaMFnExactMutationBytes6
import Derived.Test.YtbjefkeogbophaaMFnExactMutationBytes4
import Derived.Test.YtbjefkeogbophaaMFnExactMutationBytes7
import Derived.Test.YtbjefkeogbophaaMFnExactMutationBytes8
import Derived.Test.YtbjefkeogbophaaMFnExactMutationBytes5
import Derived.Test.YtbjefkeogbophaaMFnExactMutationBytes2
import Derived.Test.YtbjefkeogbophaaRows
import Derived.WalkKit
import Derived.ProofKit
import Derived.OpenShut
import Derived.ShutString
import Derived.ChangeOld
import Derived.Below
import Derived.SizedLaws
import Derived.Carry
namespace Go.Proofs.Ytbjefkeogbophaa.P
open Go.RowKit Go.ChangeShapes Go.WideShapes Go.Proofs.YtbjefkeogbophaaW.PrintWords

def ok60 (x : S60) : Prop := x.f0.size ≤ 140737488351232 ∧ x.f1.size ≤ 140737488351232
theorem tells60 {H : Type} {enc : TypeId × Value → H} {W : World} : Tells enc Try.prog W 60 k60 ok60 := Tells.struct (fun y => ⟨y.1, y.2⟩) (fun _ => rfl) Try.underlying60 (by kernel_rfl) (TellsF.cons (by kernel_rfl) (Tells.string Try.underlying9) rfl (TellsF.one (by kernel_rfl) (Tells.string Try.underlying9)))
def ok24 (x : S24) : Prop := (Lit.int .i64 x.f0).wf = true ∧ (Lit.int .i64 x.f1).wf = true ∧ (Lit.int .i64 x.f2).wf = true ∧ (Lit.int .i64 x.f3).wf = true ∧ x.f4.size ≤ 140737488351232 ∧ (x.f5.length ≤ maxLen ∧ x.f5.length * 32 ≤ 140737488351232 ∧ ∀ y ∈ x.f5, ok60 y)
theorem tells24 {H : Type} {enc : TypeId × Value → H} {W : World} : Tells enc Try.prog W 24 k24 ok24 := Tells.struct (fun y => ⟨y.1, y.2.1, y.2.2.1, y.2.2.2.1, y.2.2.2.2.1, y.2.2.2.2.2⟩) (fun _ => rfl) Try.underlying24 (by kernel_rfl) (TellsF.cons (by kernel_rfl) (Tells.int Try.underlying3) rfl (TellsF.cons (by kernel_rfl) (Tells.int Try.underlying3) rfl (TellsF.cons (by kernel_rfl) (Tells.int Try.underlying3) rfl (TellsF.cons (by kernel_rfl) (Tells.int Try.underlying3) rfl (TellsF.cons (by kernel_rfl) (Tells.string Try.underlying9) rfl (TellsF.one (by kernel_rfl) (Tells.slice (b := 32) Try.underlying22 (by kernel_rfl) (by kernel_rfl) tells60)))))))
end Go.Proofs.Ytbjefkeogbophaa.P
namespace Go.Proofs.Ytbjefkeogbophaa.P
open Go.RowKit Go.ChangeShapes Go.WideShapes Go.Proofs.YtbjefkeogbophaaW.PrintWords

/-- What is to be proved of the law FnExactMutationBytes, over numbers and lists alone. -/
def laws_FnExactMutationBytes.Pure : Prop := ∀ (x0 : S24), ok24 x0 → ∃ k, laws_FnExactMutationBytes.f k x0.f0 x0.f1 x0.f2 x0.f3 x0.f4 x0.f5 = some true
end Go.Proofs.Ytbjefkeogbophaa.P
/- Lemmas of mine: strings as lists of bytes; whole numbers of 64 bits; rounds. Plain. -/
set_option linter.unusedVariables false
set_option linter.unusedSimpArgs false
namespace Go.Proofs.Ytbjefkeogbophaa.P
open Go.RowKit Go.Proofs.YtbjefkeogbophaaW.PrintWords
/-- As Option.bind_some, but no equation by computing: for terms that are not to be computed by the kernel. -/
theorem bS {α β : Type} (a : α) (f : α → Option β) : (some a).bind f = f a := Eq.trans (Option.bind_some a f) (Eq.refl (f a))
/-- A string's bytes. -/
def bl (s : ByteArray) : List UInt8 := s.data.toList
/-- Bytes as numbers. -/
def nb (l : List UInt8) : List Int := l.map fun b => (b.toNat : Int)
theorem bl_inj {a b : ByteArray} (h : bl a = bl b) : a = b := WideShapes.bytes_inj h
theorem toList_bl (s : ByteArray) : s.toList = bl s := Lib.toList_data s
theorem toList_iff {a b : ByteArray} : a.toList = b.toList ↔ a = b := ⟨fun h => bl_inj (by rw [← toList_bl, ← toList_bl, h]), fun h => by rw [h]⟩
theorem bl_size (s : ByteArray) : s.size = (bl s).length := Lib.size_eq s
theorem bl_append (a b : ByteArray) : bl (a ++ b) = bl a ++ bl b := by simp [bl]
theorem bl_extract (s : ByteArray) (i j : Nat) : bl (s.extract i j) = ((bl s).drop i).take (j - i) := Lib.extract_data s i j
theorem bl_mk (l : List UInt8) : bl ⟨l.toArray⟩ = l := by simp [bl]
theorem bl_empty : bl (⟨#[]⟩ : ByteArray) = [] := rfl
theorem mk_bl (s : ByteArray) : (⟨(bl s).toArray⟩ : ByteArray) = s := bl_inj (bl_mk _)
theorem bytesOf_bl (s : ByteArray) : bytesOf s = nb (bl s) := rfl
theorem nb_length (l : List UInt8) : (nb l).length = l.length := by simp [nb]
theorem nb_append (l m : List UInt8) : nb (l ++ m) = nb l ++ nb m := by simp [nb]
theorem strOf_nb (l : List UInt8) : strOfNums (nb l) = ⟨l.toArray⟩ := by
 simp [strOfNums, nb, Function.comp_def]
theorem bl_strOf_nb (l : List UInt8) : bl (strOfNums (nb l)) = l := by rw [strOf_nb, bl_mk]
theorem bt_eq (s : ByteArray) (i : Nat) (h : i < (bl s).length) : bt s (i : Int) = (((bl s)[i]'h).toNat : Int) := by
 have hs : i < s.size := by rw [bl_size]; exact h
 unfold bt
 rw [dif_pos (by simpa using hs)]
 have h1 := Lib.data_getElem? s i hs
 have h2 : (bl s)[i]? = some ((bl s)[i]'h) := List.getElem?_eq_getElem h
 have h3 : s[i]'hs = (bl s)[i]'h := Option.some.inj (h1.symm.trans h2)
 simp only [Int.toNat_natCast]
 rw [← h3]
theorem rd_nb (l : List UInt8) (i : Nat) (h : i < l.length) : rd (nb l) (i : Int) = ((l[i]'h).toNat : Int) := by
 simp [rd, nb, List.getD_eq_getElem?_getD, List.getElem?_map, List.getElem?_eq_getElem h]
theorem byte_lt (b : UInt8) : b.toNat < 256 := b.toNat_lt
/-- No wrap within the bounds. -/
theorem w64 {n : Int} (h0 : -9223372036854775808 ≤ n) (h1 : n ≤ 9223372036854775807) : wrap64 n = n := by unfold wrap64; omega
theorem w64n (n : Nat) (h1 : n ≤ 9223372036854775807) : wrap64 (n : Int) = n := w64 (by omega) (by omega)
theorem w64s (n : Nat) (h1 : n + 1 ≤ 9223372036854775807) : wrap64 ((n : Int) + 1) = ((n + 1 : Nat) : Int) := by rw [w64 (by omega) (by omega)]; rfl
theorem w64add (a b : Nat) (h : a + b ≤ 9223372036854775807) : wrap64 ((a : Int) + (b : Int)) = ((a + b : Nat) : Int) := by rw [w64 (by omega) (by omega)]; rfl
theorem w64lit (a b : Nat) (h : a + b ≤ 9223372036854775807) : wrap64 ((a : Int) + wrap64 ((b : Int))) = ((a + b : Nat) : Int) := by rw [w64n b (by omega), w64add a b h]
theorem w64sub (a b : Nat) (h : b ≤ a) (h2 : a ≤ 9223372036854775807) : wrap64 ((a : Int) - (b : Int)) = ((a - b : Nat) : Int) := by rw [w64 (by omega) (by omega)]; omega
theorem bits_xor_nat (k : IntKind) (j : Nat) (hj : j ≤ k.bits) (hk : ∀ n : Int, 0 ≤ n → n < 2 ^ j → k.wrap n = n) (a b : Nat) (ha : a < 2 ^ j) (hb : b < 2 ^ j) : bits .xor k a b = ((a ^^^ b : Nat) : Int) := by
 have hp : 2 ^ j ≤ 2 ^ k.bits := Nat.pow_le_pow_right (by decide) hj
 have ha' : a % 2 ^ k.bits = a := Nat.mod_eq_of_lt (Nat.lt_of_lt_of_le ha hp)
 have hb' : b % 2 ^ k.bits = b := Nat.mod_eq_of_lt (Nat.lt_of_lt_of_le hb hp)
 simp only [bits, BitVec.ofInt_natCast, BitVec.toNat_xor, BitVec.toNat_ofNat, ha', hb']
 exact hk _ (Int.natCast_nonneg _) (by exact_mod_cast Nat.xor_lt_two_pow ha hb)
theorem u32_in (n : Int) (h0 : 0 ≤ n) (h1 : n < 2 ^ 32) : IntKind.u32.wrap n = n := by rw [IntKind.wrap_u32]; omega
theorem i64_in32 (n : Int) (h0 : 0 ≤ n) (h1 : n < 2 ^ 32) : IntKind.i64.wrap n = n := by rw [IntKind.wrap_i64]; omega
theorem xor_u32 (a b : Nat) (ha : a < 4294967296) (hb : b < 4294967296) : bits .xor .u32 a b = ((a ^^^ b : Nat) : Int) := bits_xor_nat .u32 32 (by decide) u32_in a b ha hb
theorem xor_i64 (a b : Nat) (ha : a < 4294967296) (hb : b < 4294967296) : bits .xor .i64 a b = ((a ^^^ b : Nat) : Int) := bits_xor_nat .i64 32 (by decide) i64_in32 a b ha hb
/-- Rounds: what is told for all numbers of rounds from some on. -/
theorem Ev.k {α : Type} {g : Nat → Option α} {r : α} (h : Ev g r) : ∃ k, g k = some r := h.rounds
theorem Ev.and {α β : Type} {g : Nat → Option α} {f : Nat → Option β} {r : α} {q : β} (h : Ev g r) (h' : Ev f q) : ∃ K, ∀ k, K ≤ k → g k = some r ∧ f k = some q := by
 obtain ⟨K, h⟩ := h
 obtain ⟨K', h'⟩ := h'
 exact ⟨max K K', fun k hk => ⟨h k (by omega), h' k (by omega)⟩⟩
theorem Ev.uniq {α : Type} {g : Nat → Option α} {r q : α} (h : Ev g r) (h' : Ev g q) : r = q := by
 obtain ⟨K, hk⟩ := Ev.and h h'
 have h1 := hk K (Nat.le_refl _)
 exact Option.some.inj (h1.1.symm.trans h1.2)
end Go.Proofs.Ytbjefkeogbophaa.P
/- Lemmas of mine: loops that count up: over any function of rounds. Plain. -/
set_option linter.unusedVariables false
set_option linter.unusedSimpArgs false
namespace Go.Proofs.Ytbjefkeogbophaa.P
open Go.RowKit Go.Proofs.YtbjefkeogbophaaW.PrintWords
/-- A loop whose rounds change the place alone. -/
theorem up_loop {R : Type} (L : Nat → Int → Option R) (n : Nat) (r : R)
  (hstep : ∀ i : Nat, i < n → ∃ K, ∀ k, K ≤ k → L (k + 1) (i : Int) = L k ((i + 1 : Nat) : Int))
  (hend : ∃ K, ∀ k, K ≤ k → L (k + 1) (n : Int) = some r) : ∀ d i : Nat, i + d = n → Ev (fun k => L k (i : Int)) r := by
 intro d
 induction d with
 | zero =>
  intro i hi
  obtain rfl : i = n := by omega
  obtain ⟨K, h⟩ := hend
  exact ⟨K + 1, fun k hk => by obtain ⟨m, rfl⟩ : ∃ m, k = m + 1 := ⟨k - 1, by omega⟩; exact h m (by omega)⟩
 | succ d ih =>
  intro i hi
  obtain ⟨K, h⟩ := hstep i (by omega)
  obtain ⟨K2, h2⟩ := ih (i + 1) (by omega)
  refine ⟨K + K2 + 1, fun k hk => ?_⟩
  obtain ⟨m, rfl⟩ : ∃ m, k = m + 1 := ⟨k - 1, by omega⟩
  show L (m + 1) (i : Int) = some r
  rw [h m (by omega)]
  exact h2 m (by omega)
/-- A loop with a state: what holds of the state says what comes out. -/
theorem st_loop {σ R : Type} (L : Nat → σ → Int → Option R) (n : Nat) (out : Nat → σ → R → Prop)
  (hstep : ∀ (i : Nat) (s : σ), i < n → (∃ r, (∃ K, ∀ k, K ≤ k → L (k + 1) s (i : Int) = some r) ∧ out i s r) ∨ ∃ s', (∃ K, ∀ k, K ≤ k → L (k + 1) s (i : Int) = L k s' ((i + 1 : Nat) : Int)) ∧ ∀ r, out (i + 1) s' r → out i s r)
  (hend : ∀ s, ∃ r, (∃ K, ∀ k, K ≤ k → L (k + 1) s (n : Int) = some r) ∧ out n s r) : ∀ (d i : Nat) (s : σ), i + d = n → ∃ r, Ev (fun k => L k s (i : Int)) r ∧ out i s r := by
 intro d
 induction d with
 | zero =>
  intro i s hi
  obtain rfl : i = n := by omega
  obtain ⟨r, ⟨K, h⟩, ho⟩ := hend s
  exact ⟨r, ⟨K + 1, fun k hk => by obtain ⟨m, rfl⟩ : ∃ m, k = m + 1 := ⟨k - 1, by omega⟩; exact h m (by omega)⟩, ho⟩
 | succ d ih =>
  intro i s hi
  rcases hstep i s (by omega) with ⟨r, ⟨K, h⟩, ho⟩ | ⟨s', ⟨K, h⟩, ho⟩
  ·exact ⟨r, ⟨K + 1, fun k hk => by obtain ⟨m, rfl⟩ : ∃ m, k = m + 1 := ⟨k - 1, by omega⟩; exact h m (by omega)⟩, ho⟩
  ·obtain ⟨r, ⟨K2, h2⟩, ho2⟩ := ih (i + 1) s' (by omega)
   refine ⟨r, ⟨K + K2 + 1, fun k hk => ?_⟩, ho r ho2⟩
   obtain ⟨m, rfl⟩ : ∃ m, k = m + 1 := ⟨k - 1, by omega⟩
   show L (m + 1) s (i : Int) = some r
   rw [h m (by omega)]
   exact h2 m (by omega)
theorem map_set {α β : Type} (xs : List α) (ys : List β) (g : α → β) (i : Nat) (hi : i < xs.length) (hl : ys.length = xs.length) (hy : ys.take i = (xs.take i).map g) :
  (ys.set i (g (xs[i]'hi))).take (i + 1) = (xs.take (i + 1)).map g := by
 have e2 : (xs.take (i + 1)).map g = (xs.take i).map g ++ [g (xs[i]'hi)] := by
  rw [List.take_add_one, List.getElem?_eq_getElem hi, List.map_append]
  rfl
 have e : ((xs.take i).map g).length = i := by rw [List.length_map, List.length_take]; omega
 rw [e2, List.take_set, List.take_add_one, List.getElem?_eq_getElem (by omega), hy, List.set_append_right _ _ (by omega), e, Nat.sub_self]
 rfl
/-- A loop that fills a row of the same length. -/
theorem copy_loop {α β : Type} (L : Nat → List β → Int → Option (List β)) (xs : List α) (g : α → β)
  (hstep : ∀ (i : Nat) (ys : List β) (hi : i < xs.length), ys.length = xs.length → ∃ K, ∀ k, K ≤ k → L (k + 1) ys (i : Int) = L k (ys.set i (g (xs[i]'hi))) ((i + 1 : Nat) : Int))
  (hend : ∀ ys, ys.length = xs.length → ∃ K, ∀ k, K ≤ k → L (k + 1) ys (xs.length : Int) = some ys) :
  ∀ (d i : Nat) (ys : List β), i + d = xs.length → ys.length = xs.length → ys.take i = (xs.take i).map g → Ev (fun k => L k ys (i : Int)) (xs.map g) := by
 intro d
 induction d with
 | zero =>
  intro i ys hi hl hy
  obtain rfl : i = xs.length := by omega
  rw [List.take_of_length_le (by omega), List.take_of_length_le (Nat.le_refl _)] at hy
  subst hy
  obtain ⟨K, h⟩ := hend _ hl
  exact ⟨K + 1, fun k hk => by obtain ⟨m, rfl⟩ : ∃ m, k = m + 1 := ⟨k - 1, by omega⟩; exact h m (by omega)⟩
 | succ d ih =>
  intro i ys hi hl hy
  obtain ⟨K, h⟩ := hstep i ys (by omega) hl
  obtain ⟨K2, h2⟩ := ih (i + 1) (ys.set i (g (xs[i]'(by omega)))) (by omega) (by rw [List.length_set]; exact hl) (map_set xs ys g i (by omega) hl hy)
  refine ⟨K + K2 + 1, fun k hk => ?_⟩
  obtain ⟨m, rfl⟩ : ∃ m, k = m + 1 := ⟨k - 1, by omega⟩
  show L (m + 1) ys (i : Int) = _
  rw [h m (by omega)]
  exact h2 m (by omega)
theorem getD_nat {α : Type} (xs : List α) (z : α) (i : Nat) (h : i < xs.length) : xs.getD ((i : Nat) : Int).toNat z = xs[i]'h := by
 rw [Int.toNat_natCast, List.getD_eq_getElem?_getD, List.getElem?_eq_getElem h]; rfl
end Go.Proofs.Ytbjefkeogbophaa.P
/- Lemmas of mine: bounds, the fields of a log. Plain. -/
set_option linter.unusedVariables false
set_option linter.unusedSimpArgs false
namespace Go.Proofs.Ytbjefkeogbophaa.P
open Go.RowKit Go.Proofs.YtbjefkeogbophaaW.PrintWords
theorem l01In_eq (a b c : Int) : spec_l01In.f a b c = some (decide (b ≤ a ∧ a ≤ c)) := by
 unfold spec_l01In.f
 by_cases h : a ≥ b
 ·rw [if_pos h]; simp [show b ≤ a from h]
 ·rw [if_neg h]; simp; omega
theorem within_eq (a b c : Int) : impl_within.f a b c = some (decide (b ≤ a ∧ a ≤ c)) := l01In_eq a b c
end Go.Proofs.Ytbjefkeogbophaa.P
/- Lemmas of mine: the two NameOK tell the same. Plain. -/
set_option linter.unusedVariables false
set_option linter.unusedSimpArgs false
namespace Go.Proofs.Ytbjefkeogbophaa.P
open Go.RowKit Go.Proofs.YtbjefkeogbophaaW.PrintWords
def isLet (c : Int) : Bool := decide (97 ≤ c ∧ c ≤ 122 ∨ 65 ≤ c ∧ c ≤ 90)
def isDig (c : Int) : Bool := decide (48 ≤ c ∧ c ≤ 57)
theorem implDigit_eq (c : Int) : impl_isDigit.f c = some (isDig c) := by
 unfold impl_isDigit.f isDig
 by_cases h : c ≥ 48 <;> simp [h] <;> omega
theorem specDigit_eq (c : Int) : spec_l00Digit.f c = some (isDig c) := implDigit_eq c
theorem implLetter_eq (c : Int) : impl_isLetter.f c = some (isLet c) := by
 unfold impl_isLetter.f isLet
 by_cases h1 : c ≥ 97 <;> by_cases h2 : c ≤ 122 <;> by_cases h3 : c ≥ 65 <;> by_cases h4 : c ≤ 90 <;> simp [h1, h2, h3, h4] <;> omega
theorem specLetter_eq (c : Int) : spec_l00Letter.f c = some (isLet c || c == 95) := by
 unfold spec_l00Letter.f isLet
 by_cases h1 : c ≥ 97 <;> by_cases h2 : c ≤ 122 <;> by_cases h3 : c ≥ 65 <;> by_cases h4 : c ≤ 90 <;> simp [h1, h2, h3, h4] <;> omega
/-- A byte of a name. -/
def nameB (b : UInt8) : Bool := isLet b.toNat || isDig b.toNat || b.toNat == 95
/-- A name. -/
def nameR (l : List UInt8) : Bool := decide (1 ≤ l.length ∧ l.length ≤ 40) && !(l.head?.any fun b => isDig b.toNat) && l.all nameB
theorem implName_l0 (s : ByteArray) (hs : (bl s).length ≤ 40) : ∀ (d i : Nat), i + d = (bl s).length →
  Ev (fun k => impl_NameOK.l0 k s (s.size : Int) (i : Int)) (((bl s).drop i).all nameB) := by
 intro d
 induction d with
 | zero =>
  intro i hi
  rw [List.drop_eq_nil_of_le (by omega)]
  refine Ev.step (f := fun _ => some _) (fun k => ?_) (Ev.now _)
  simp only [impl_NameOK.l0]
  rw [if_neg (by rw [bl_size]; omega)]
  rfl
 | succ d ih =>
  intro i hi
  have hlt : i < (bl s).length := by omega
  have hz : i < s.size := by rw [bl_size]; exact hlt
  have hbt := bt_eq s i hlt
  rw [List.drop_eq_getElem_cons hlt, List.all_cons]
  generalize (bl s)[i]'hlt = b at hbt ⊢
  by_cases hc : nameB b = true
  ·rw [hc, Bool.true_and]
   refine Ev.step (f := fun k => impl_NameOK.l0 k s (s.size : Int) ((i + 1 : Nat) : Int)) (fun k => ?_) (ih (i + 1) (by omega))
   simp only [impl_NameOK.l0]
   rw [if_pos (by omega), if_pos (by omega), if_pos (by omega), hbt, w64s i (by omega)]
   simp only [implLetter_eq, implDigit_eq, Option.bind_some]
   unfold nameB at hc
   cases h1 : isLet b.toNat with
   | true => rfl
   | false =>
    cases h2 : isDig b.toNat with
    | true => rfl
    | false =>
     have h3 : b.toNat = 95 := by simpa [h1, h2] using hc
     simp [h3]
  ·have hc' : nameB b = false := by simpa using hc
   rw [hc', Bool.false_and]
   refine Ev.step (f := fun _ => some _) (fun k => ?_) (Ev.now _)
   simp only [impl_NameOK.l0]
   rw [if_pos (by omega), if_pos (by omega), if_pos (by omega), hbt]
   simp only [implLetter_eq, implDigit_eq, Option.bind_some]
   unfold nameB at hc'
   simp only [Bool.or_eq_false_iff] at hc'
   obtain ⟨⟨h1, h2⟩, h3⟩ := hc'
   have h4 : ¬ (b.toNat : Int) = 95 := by
    intro h
    have : b.toNat = 95 := by omega
    simp [this] at h3
   simp [h1, h2, h4]
theorem implName_ev (s : ByteArray) : Ev (fun k => impl_NameOK.f k s) (nameR (bl s)) := by
 by_cases h : 1 ≤ s.size ∧ s.size ≤ 40
 ·have hlt : 0 < (bl s).length := by rw [← bl_size]; omega
  have hhd : (bl s).head? = some (bl s)[0] := by rw [List.head?_eq_getElem?, List.getElem?_eq_getElem hlt]
  have e : nameR (bl s) = (!(isDig ((bl s)[0]).toNat) && (bl s).all nameB) := by
   unfold nameR
   rw [hhd, ← bl_size]
   simp [h]
  have hf : ∀ k, impl_NameOK.f k s = impl_NameOK.j0 k s (isDig ((bl s)[0]).toNat) := fun k => by
   simp only [impl_NameOK.f, within_eq, Option.bind_some]
   rw [if_pos (by simp; omega), if_pos (by omega)]
   have := bt_eq s 0 hlt
   rw [show ((0 : Nat) : Int) = 0 from rfl] at this
   rw [this, implDigit_eq]
   rfl
  refine Ev.congr hf ?_
  rw [e]
  cases hd : isDig ((bl s)[0]).toNat with
  | true =>
   refine Ev.step (f := fun _ => some _) (fun k => ?_) (Ev.now _)
   simp [impl_NameOK.j0]
  | false =>
   refine Ev.step (f := fun k => impl_NameOK.l0 k s (s.size : Int) ((0 : Nat) : Int)) (fun k => ?_) (implName_l0 s (by rw [← bl_size]; exact h.2) (bl s).length 0 (by omega))
   simp [impl_NameOK.j0]
 ·have e : nameR (bl s) = false := by
   unfold nameR
   rw [← bl_size]
   simp only [decide_eq_false h, Bool.false_and]
  rw [e]
  refine Ev.congr (f := fun k => impl_NameOK.j0 k s true) (fun k => ?_) ?_
  ·simp only [impl_NameOK.f, within_eq, Option.bind_some]
   rw [if_neg (by simp; omega)]
  ·refine Ev.step (f := fun _ => some _) (fun k => ?_) (Ev.now _)
   simp [impl_NameOK.j0]
theorem specName_l0 (s : ByteArray) (hs : (bl s).length ≤ 40) : ∀ (d i : Nat), i + d = (bl s).length →
  Ev (fun k => spec_l00Word.l0 k s (i : Int)) (((bl s).drop i).all nameB) := by
 intro d
 induction d with
 | zero =>
  intro i hi
  rw [List.drop_eq_nil_of_le (by omega)]
  refine Ev.step (f := fun _ => some _) (fun k => ?_) (Ev.now _)
  simp only [spec_l00Word.l0]
  rw [if_neg (by rw [bl_size]; omega)]
  rfl
 | succ d ih =>
  intro i hi
  have hlt : i < (bl s).length := by omega
  have hz : i < s.size := by rw [bl_size]; exact hlt
  have hbt := bt_eq s i hlt
  rw [List.drop_eq_getElem_cons hlt, List.all_cons]
  generalize (bl s)[i]'hlt = b at hbt ⊢
  have hn : nameB b = ((isLet b.toNat || (b.toNat : Int) == 95) || isDig b.toNat) := by
   unfold nameB
   have : ((b.toNat : Int) == 95) = (b.toNat == 95) := by
    rw [Bool.eq_iff_iff]; simp; omega
   rw [this]
   cases isLet b.toNat <;> cases isDig b.toNat <;> simp
  rw [hn]
  cases h1 : (isLet b.toNat || (b.toNat : Int) == 95) with
  | true =>
   rw [Bool.true_or, Bool.true_and]
   refine Ev.step (f := fun k => spec_l00Word.l0 k s ((i + 1 : Nat) : Int)) (fun k => ?_) (ih (i + 1) (by omega))
   simp only [spec_l00Word.l0]
   rw [if_pos (by omega), if_pos (by omega), hbt, w64s i (by omega)]
   simp only [specLetter_eq, Option.bind_some, h1, if_true]
  | false =>
   rw [Bool.false_or]
   cases h2 : isDig b.toNat with
   | true =>
    rw [Bool.true_and]
    refine Ev.step (f := fun k => spec_l00Word.l0 k s ((i + 1 : Nat) : Int)) (fun k => ?_) (ih (i + 1) (by omega))
    simp only [spec_l00Word.l0]
    rw [if_pos (by omega), if_pos (by omega), hbt, w64s i (by omega)]
    simp only [specLetter_eq, specDigit_eq, Option.bind_some, h1, h2, if_true]
    rfl
   | false =>
    rw [Bool.false_and]
    refine Ev.step (f := fun _ => some _) (fun k => ?_) (Ev.now _)
    simp only [spec_l00Word.l0]
    rw [if_pos (by omega), if_pos (by omega), hbt]
    simp only [specLetter_eq, specDigit_eq, Option.bind_some, h1, h2]
    rfl
theorem specName_ev (s : ByteArray) : Ev (fun k => spec_NameOK.f k s) (nameR (bl s)) := by
 suffices h : Ev (fun k => spec_l00Word.f k s) (nameR (bl s)) by
  obtain ⟨K, h⟩ := h
  exact ⟨K, fun k hk => by simp only [spec_NameOK.f, h k hk]; rfl⟩
 by_cases h : 1 ≤ s.size ∧ s.size ≤ 40
 ·have hlt : 0 < (bl s).length := by rw [← bl_size]; omega
  have hhd : (bl s).head? = some (bl s)[0] := by rw [List.head?_eq_getElem?, List.getElem?_eq_getElem hlt]
  have e : nameR (bl s) = (!(isDig ((bl s)[0]).toNat) && (bl s).all nameB) := by
   unfold nameR
   rw [hhd, ← bl_size]
   simp [h]
  have hf : ∀ k, spec_l00Word.f k s = spec_l00Word.j0 k s (!(isLet ((bl s)[0]).toNat || (((bl s)[0]).toNat : Int) == 95)) := fun k => by
   simp only [spec_l00Word.f]
   rw [if_neg (by omega), if_neg (by omega), if_pos (by omega)]
   have := bt_eq s 0 hlt
   rw [show ((0 : Nat) : Int) = 0 from rfl] at this
   rw [this, specLetter_eq]
   rfl
  refine Ev.congr hf ?_
  have hall : (bl s).all nameB = (nameB (bl s)[0] && ((bl s).drop 1).all nameB) := by
   have := List.drop_eq_getElem_cons hlt
   rw [List.drop_zero] at this
   conv => lhs; rw [this]
   rfl
  rw [e, hall]
  have h95 : ((((bl s)[0]).toNat : Int) == 95) = (((bl s)[0]).toNat == 95) := by
   rw [Bool.eq_iff_iff]; simp; omega
  have hx : isDig ((bl s)[0]).toNat = true → (isLet ((bl s)[0]).toNat || (((bl s)[0]).toNat : Int) == 95) = false := by
   unfold isDig isLet
   simp
   omega
  cases hl : (isLet ((bl s)[0]).toNat || (((bl s)[0]).toNat : Int) == 95) with
  | true =>
   have hd : isDig ((bl s)[0]).toNat = false := by
    cases hd : isDig ((bl s)[0]).toNat with
    | true => rw [hx hd] at hl; cases hl
    | false => rfl
   have hn : nameB (bl s)[0] = true := by
    unfold nameB
    rw [← h95]
    revert hl
    cases isLet ((bl s)[0]).toNat <;> simp [hd]
   rw [hd, hn]
   simp only [Bool.not_false, Bool.true_and]
   refine Ev.step (f := fun k => spec_l00Word.l0 k s ((1 : Nat) : Int)) (fun k => ?_) (specName_l0 s (by rw [← bl_size]; exact h.2) ((bl s).length - 1) 1 (by omega))
   simp [spec_l00Word.j0]
  | false =>
   have hn : (!(isDig ((bl s)[0]).toNat) && (nameB (bl s)[0] && ((bl s).drop 1).all nameB)) = false := by
    cases hd : isDig ((bl s)[0]).toNat with
    | true => rfl
    | false =>
     have : nameB (bl s)[0] = false := by
      unfold nameB
      rw [← h95]
      revert hl
      cases isLet ((bl s)[0]).toNat <;> simp [hd]
     rw [this]
     rfl
   rw [hn]
   refine Ev.step (f := fun _ => some _) (fun k => ?_) (Ev.now _)
   simp [spec_l00Word.j0]
 ·have e : nameR (bl s) = false := by
   unfold nameR
   rw [← bl_size]
   simp only [decide_eq_false h, Bool.false_and]
  rw [e]
  refine Ev.congr (f := fun k => spec_l00Word.j0 k s true) (fun k => ?_) ?_
  ·simp only [spec_l00Word.f]
   by_cases h1 : (s.size : Int) < 1
   ·rw [if_pos h1]
   ·rw [if_neg h1, if_pos (by omega)]
  ·refine Ev.step (f := fun _ => some _) (fun k => ?_) (Ev.now _)
   simp [spec_l00Word.j0]
end Go.Proofs.Ytbjefkeogbophaa.P
/- Lemmas of mine: the two MutationOK tell the same. Plain. -/
set_option linter.unusedVariables false
set_option linter.unusedSimpArgs false
namespace Go.Proofs.Ytbjefkeogbophaa.P
open Go.RowKit Go.Proofs.YtbjefkeogbophaaW.PrintWords
/-- A right item. -/
def itemR (x : S54) : Bool := decide (1 ≤ x.f0.size ∧ x.f0.size ≤ 200 ∧ x.f1.size ≤ 4000)
/-- What a mutation of a kind has. -/
def mutKind (kind uid mode flags : Int) (n : Nat) : Bool :=
 if kind = 1 ∨ kind = 4 then decide (uid = 0 ∧ mode = 0 ∧ flags = 0 ∧ n = 0)
 else if kind = 2 then decide (uid = 0 ∧ mode = 0 ∧ flags = 0 ∧ 0 < n)
 else if kind = 3 then decide (n = 0 ∧ (1 ≤ uid ∧ uid ≤ 1000) ∧ (1 ≤ mode ∧ mode ≤ 3) ∧ (0 ≤ flags ∧ flags ≤ 31))
 else false
/-- A right mutation. -/
def mutR (kind uid mode flags : Int) (box : ByteArray) (items : List S54) : Bool := nameR (bl box) && decide (items.length ≤ 20) && items.all itemR && mutKind kind uid mode flags items.length
theorem specMut_j2 (k : Nat) (kind uid mode flags : Int) (box : ByteArray) (items : List S54) (b : Bool) (hb : b = decide (kind = 1 ∨ kind = 4)) :
  spec_MutationOK.j2 (k + 1) kind b kind uid mode flags box items = some (mutKind kind uid mode flags items.length) := by
 subst hb
 obtain ⟨n, hn⟩ : ∃ n, items.length = n := ⟨_, rfl⟩
 have e0 : ((n : Int) == 0) = decide (n = 0) := by rw [Bool.eq_iff_iff]; simp
 have e1 : decide ((n : Int) > 0) = decide (0 < n) := by rw [Bool.eq_iff_iff]; simp
 simp only [spec_MutationOK.j2, l01In_eq, bS, decide_eq_true_eq, mutKind, hn, e0, e1]
 by_cases h1 : kind = 1 ∨ kind = 4
 ·rw [if_pos h1, if_pos h1]
  by_cases a : uid = 0 <;> by_cases b : mode = 0 <;> by_cases c : flags = 0 <;> simp [a, b, c, e0]
 ·rw [if_neg h1, if_neg h1]
  by_cases h2 : kind = 2
  ·rw [if_pos h2, if_pos h2]
   by_cases a : uid = 0 <;> by_cases b : mode = 0 <;> by_cases c : flags = 0 <;> simp [a, b, c, e1]
  ·rw [if_neg h2, if_neg h2]
   by_cases h3 : kind = 3
   ·rw [if_pos h3, if_pos h3]
    by_cases a : 1 ≤ uid ∧ uid ≤ 1000 <;> by_cases b : 1 ≤ mode ∧ mode ≤ 3 <;> by_cases c : 0 ≤ flags ∧ flags ≤ 31 <;> simp [a, b, c, e0]
   ·rw [if_neg h3, if_neg h3]
theorem implMut_j2 (k : Nat) (kind uid mode flags : Int) (box : ByteArray) (items : List S54) (b : Bool) (hb : b = decide (kind = 1 ∨ kind = 4)) (z : Bool) (hz : z = decide (uid = 0 ∧ mode = 0 ∧ flags = 0)) :
  impl_MutationOK.j2 (k + 1) z kind b kind uid mode flags box items = some (mutKind kind uid mode flags items.length) := by
 subst hb
 subst hz
 obtain ⟨n, hn⟩ : ∃ n, items.length = n := ⟨_, rfl⟩
 have e0 : ((n : Int) == 0) = decide (n = 0) := by rw [Bool.eq_iff_iff]; simp
 have e1 : decide ((n : Int) > 0) = decide (0 < n) := by rw [Bool.eq_iff_iff]; simp
 have e2 : ((n : Int) = 0) = (n = 0) := by simp
 simp only [impl_MutationOK.j2, within_eq, bS, decide_eq_true_eq, mutKind, hn, e0, e1, e2]
 by_cases h1 : kind = 1 ∨ kind = 4
 ·rw [if_pos h1, if_pos h1]
  by_cases a : uid = 0 <;> by_cases b : mode = 0 <;> by_cases c : flags = 0 <;> simp [a, b, c, e0]
 ·rw [if_neg h1, if_neg h1]
  by_cases h2 : kind = 2
  ·rw [if_pos h2, if_pos h2]
   by_cases a : uid = 0 <;> by_cases b : mode = 0 <;> by_cases c : flags = 0 <;> simp [a, b, c, e1]
  ·rw [if_neg h2, if_neg h2]
   by_cases h3 : kind = 3
   ·rw [if_pos h3, if_pos h3]
    by_cases d : n = 0 <;> by_cases a : 1 ≤ uid ∧ uid ≤ 1000 <;> by_cases b : 1 ≤ mode ∧ mode ≤ 3 <;> by_cases c : 0 ≤ flags ∧ flags ≤ 31 <;> simp [a, b, c, d]
   ·rw [if_neg h3, if_neg h3]
theorem specMut_tail (kind uid mode flags : Int) (box : ByteArray) (items : List S54) (hn : items.length ≤ 20) :
  ∀ (d i : Nat), i + d = items.length → Ev (fun k => spec_MutationOK.l0 k (i : Int) kind uid mode flags box items) ((items.drop i).all itemR && mutKind kind uid mode flags items.length) := by
 intro d
 induction d with
 | zero =>
  intro i hi
  rw [List.drop_eq_nil_of_le (by omega)]
  refine ⟨2, fun k hk => ?_⟩
  obtain ⟨m, rfl⟩ : ∃ m, k = m + 1 + 1 := ⟨k - 2, by omega⟩
  simp only [spec_MutationOK.l0, List.all_nil, Bool.true_and]
  rw [if_neg (by omega)]
  by_cases h1 : kind = 1
  ·rw [if_pos h1]
   exact specMut_j2 m kind uid mode flags box items _ (by rw [Bool.eq_iff_iff]; simp [h1])
  ·rw [if_neg h1]
   exact specMut_j2 m kind uid mode flags box items _ (by rw [Bool.eq_iff_iff]; simp [h1])
 | succ d ih =>
  intro i hi
  have hlt : i < items.length := by omega
  rw [List.drop_eq_getElem_cons hlt, List.all_cons]
  have e : ∀ k, spec_MutationOK.l0 (k + 1) (i : Int) kind uid mode flags box items = if itemR (items[i]'hlt) = true then spec_MutationOK.l0 k ((i + 1 : Nat) : Int) kind uid mode flags box items else some false := fun k => by
   simp only [spec_MutationOK.l0, rd_T54, getD_nat items _ i hlt, l01In_eq, bS, decide_eq_true_eq]
   rw [if_pos (by omega), if_pos (by omega), w64s i (by omega)]
   generalize items[i]'hlt = x
   unfold itemR
   by_cases h1 : 1 ≤ (x.f0.size : Int) ∧ (x.f0.size : Int) ≤ 200
   ·rw [if_pos h1]
    by_cases h2 : (x.f1.size : Int) > 4000
    ·rw [if_pos h2, if_neg (by simp; omega)]
    ·rw [if_neg h2, if_pos (by simp; omega)]
   ·rw [if_neg h1, if_neg (by simp; omega)]
  cases hx : itemR (items[i]'hlt) with
  | true =>
   rw [Bool.true_and]
   exact Ev.step (f := fun k => spec_MutationOK.l0 k ((i + 1 : Nat) : Int) kind uid mode flags box items) (fun k => by rw [e, if_pos hx]) (ih (i + 1) (by omega))
  | false =>
   simp only [Bool.false_and]
   exact Ev.step (f := fun _ => some _) (fun k => by rw [e, if_neg (by rw [hx]; decide)]) (Ev.now _)
theorem specMut_ev (kind uid mode flags : Int) (box : ByteArray) (items : List S54) : Ev (fun k => spec_MutationOK.f k kind uid mode flags box items) (mutR kind uid mode flags box items) := by
 obtain ⟨K, hK⟩ := specName_ev box
 unfold mutR
 cases hb : nameR (bl box) with
 | false =>
  refine ⟨K + 1, fun k hk => ?_⟩
  obtain ⟨m, rfl⟩ : ∃ m, k = m + 1 := ⟨k - 1, by omega⟩
  simp only [spec_MutationOK.f, hK (m + 1) (by omega), hb, bS, Bool.false_and]
  rw [if_neg (by decide)]
  simp only [spec_MutationOK.j0, if_true]
 | true =>
  by_cases hn : items.length ≤ 20
  ·obtain ⟨K2, h2⟩ := specMut_tail kind uid mode flags box items hn items.length 0 (by omega)
   rw [List.drop_zero] at h2
   refine ⟨K + K2 + 1, fun k hk => ?_⟩
   obtain ⟨m, rfl⟩ : ∃ m, k = m + 1 := ⟨k - 1, by omega⟩
   simp only [spec_MutationOK.f, hK (m + 1) (by omega), hb, bS, decide_eq_true hn, Bool.true_and]
   rw [if_pos trivial, decide_eq_false (by omega)]
   simp only [spec_MutationOK.j0]
   rw [if_neg (by decide)]
   exact h2 m (by omega)
  ·refine ⟨K + 1, fun k hk => ?_⟩
   obtain ⟨m, rfl⟩ : ∃ m, k = m + 1 := ⟨k - 1, by omega⟩
   simp only [spec_MutationOK.f, hK (m + 1) (by omega), hb, bS, decide_eq_false hn, Bool.true_and, Bool.false_and]
   rw [if_pos trivial, decide_eq_true (by omega)]
   simp only [spec_MutationOK.j0, if_true]
theorem implItem_L (x : S54) : impl_MutationOK_L1.f x.f0 x.f1 = some (!itemR x) := by
 simp only [impl_MutationOK_L1.f, impl_itemOK.f, impl_keyOK.f, within_eq, bS, decide_eq_true_eq, itemR]
 by_cases h1 : 1 ≤ (x.f0.size : Int) ∧ (x.f0.size : Int) ≤ 200
 ·rw [if_pos h1, bS]
  congr 2
  rw [decide_eq_decide]
  omega
 ·rw [if_neg h1, bS]
  congr 2
  exact (decide_eq_false (by omega)).symm
theorem implItems_eq (items : List S54) (h : items.length ≤ 20) : slices_ContainsFunc_Item_at_impl_MutationOK_L1.f items = some (!items.all itemR) := by
 have e : (fun x : S54 => (impl_MutationOK_L1.f x.f0 x.f1) == some true) = fun x => !itemR x := by
  funext x
  rw [implItem_L]
  cases itemR x <;> rfl
 unfold slices_ContainsFunc_Item_at_impl_MutationOK_L1.f
 rw [if_pos ⟨by omega, by rw [List.all_eq_true]; intro x _; rw [implItem_L]; rfl⟩, e, List.not_all_eq_any_not]
theorem implMut_ev (kind uid mode flags : Int) (box : ByteArray) (items : List S54) : Ev (fun k => impl_MutationOK.f k kind uid mode flags box items) (mutR kind uid mode flags box items) := by
 obtain ⟨K, hK⟩ := implName_ev box
 unfold mutR
 cases hb : nameR (bl box) with
 | false =>
  refine ⟨K + 1, fun k hk => ?_⟩
  obtain ⟨m, rfl⟩ : ∃ m, k = m + 1 := ⟨k - 1, by omega⟩
  simp only [impl_MutationOK.f, hK (m + 1) (by omega), hb, bS, Bool.false_and]
  rw [if_neg (by decide)]
  simp only [impl_MutationOK.j0, if_true]
 | true =>
  by_cases hn : items.length ≤ 20
  ·refine ⟨K + 4, fun k hk => ?_⟩
   obtain ⟨m, rfl⟩ : ∃ m, k = m + 1 + 1 + 1 := ⟨k - 3, by omega⟩
   simp only [impl_MutationOK.f, hK (m + 1 + 1 + 1) (by omega), hb, bS, decide_eq_true hn, Bool.true_and, implItems_eq items hn]
   rw [if_pos trivial, if_neg (by omega)]
   simp only [impl_MutationOK.j0]
   cases ha : items.all itemR with
   | false =>
    rw [if_pos (by decide)]
    rfl
   | true =>
    rw [if_neg (by decide), Bool.true_and]
    have hj : ∀ z : Bool, z = decide (uid = 0 ∧ mode = 0 ∧ flags = 0) → impl_MutationOK.j1 (m + 1 + 1) z kind uid mode flags box items = some (mutKind kind uid mode flags items.length) := fun z hz => by
     simp only [impl_MutationOK.j1]
     by_cases h1 : kind = 1
     ·rw [if_pos h1]
      exact implMut_j2 m kind uid mode flags box items _ (by rw [Bool.eq_iff_iff]; simp [h1]) z hz
     ·rw [if_neg h1]
      exact implMut_j2 m kind uid mode flags box items _ (by rw [Bool.eq_iff_iff]; simp [h1]) z hz
    by_cases hu : uid = 0
    ·rw [if_pos hu]
     by_cases hm : mode = 0
     ·rw [if_pos hm]
      exact hj _ (by rw [Bool.eq_iff_iff]; simp [hu, hm])
     ·rw [if_neg hm]
      exact hj _ (by rw [Bool.eq_iff_iff]; simp [hu, hm])
    ·rw [if_neg hu]
     exact hj _ (by rw [Bool.eq_iff_iff]; simp [hu])
  ·refine ⟨K + 1, fun k hk => ?_⟩
   obtain ⟨m, rfl⟩ : ∃ m, k = m + 1 := ⟨k - 1, by omega⟩
   simp only [impl_MutationOK.f, hK (m + 1) (by omega), hb, bS, decide_eq_false hn, Bool.true_and, Bool.false_and]
   rw [if_pos trivial, if_pos (by omega)]
   simp only [impl_MutationOK.j0, if_true]
end Go.Proofs.Ytbjefkeogbophaa.P
/- Lemmas of mine: a mutation's bytes in both programs; bytes marked and held. Plain. -/
set_option linter.unusedVariables false
set_option linter.unusedSimpArgs false
namespace Go.Proofs.Ytbjefkeogbophaa.P
open Go.RowKit Go.Proofs.YtbjefkeogbophaaW.PrintWords
def bem (n : Nat) : List UInt8 := [UInt8.ofNat (n / 256), UInt8.ofNat n]
theorem nb_bem (n : Nat) : nb (bem n) = [(n : Int) / 256 % 256, (n : Int) % 256] := by simp [nb, bem]
theorem bem_length (n : Nat) : (bem n).length = 2 := rfl
theorem specBem (n k : Nat) : spec_l08Bytes.f (k + 3) (n : Int) 2 = some (nb (bem n)) := by
 rw [nb_bem]
 simp [spec_l08Bytes.f, spec_l08Bytes.l0, wrap64, shr, IntKind.wrap, IntKind.bits, IntKind.signed]
theorem bl_b2M (n : Nat) : bl (b2M (n : Int)) = bem n := by
 have h : b2M (n : Int) = strOfNums (nb (bem n)) := by rw [nb_bem]; rfl
 rw [h, bl_strOf_nb]
theorem bl_itemM (x : S54) : (itemM x).data.toList = bem x.f0.size ++ bem x.f1.size ++ bl x.f0 ++ bl x.f1 := by
 show bl (itemM x) = _
 unfold itemM
 rw [bl_append, bl_append, bl_append, bl_b2M, bl_b2M]
theorem specB_loop (kind uid mode flags : Int) (box : ByteArray) (its : List S54) (hi : ∀ x ∈ its, x.f0.size ≤ 200 ∧ x.f1.size ≤ 4000) (hn : its.length ≤ 20) : ∀ (d i : Nat) (A : List UInt8), i + d = its.length → A.length + 5000 * d ≤ 1000000 →
  Ev (fun k => spec_l09Bytes.l0 k (nb A) (i : Int) kind uid mode flags box its) (nb (A ++ (its.drop i).flatMap fun y => (itemM y).data.toList)) := by
 intro d
 induction d with
 | zero =>
  intro i A hi2 hA
  rw [List.drop_eq_nil_of_le (by omega)]
  refine Ev.step (f := fun _ => some _) (fun k => ?_) (Ev.now _)
  simp only [spec_l09Bytes.l0]
  rw [if_neg (by omega)]
  simp
 | succ d ih =>
  intro i A hi2 hA
  have hlt : i < its.length := by omega
  have hr : rd_T54 its (i : Int) = its[i]'hlt := getD_nat its _ i hlt
  have hx := hi _ (List.getElem_mem hlt)
  rw [List.drop_eq_getElem_cons hlt, List.flatMap_cons]
  generalize its[i]'hlt = y at hr hx ⊢
  rw [bl_itemM]
  have h0 := bl_size y.f0
  have h1 := bl_size y.f1
  obtain ⟨K, h⟩ := ih (i + 1) (A ++ (bem y.f0.size ++ bem y.f1.size ++ bl y.f0 ++ bl y.f1)) (by omega) (by simp only [List.length_append, bem_length]; omega)
  refine ⟨K + 4, fun k hk => ?_⟩
  obtain ⟨m, rfl⟩ : ∃ m, k = m + 1 := ⟨k - 1, by omega⟩
  have f := h m (by omega)
  have hs : ∀ n : Nat, spec_l08Bytes.f m (n : Int) 2 = some (nb (bem n)) := fun n => by
   obtain ⟨j, rfl⟩ : ∃ j, m = j + 3 := ⟨m - 3, by omega⟩
   exact specBem n j
  simp only [spec_l09Bytes.l0, hr, hs, bS, bytesOf_bl]
  rw [if_pos (by omega), if_pos (by omega), if_pos (by simp only [nb_length, bem_length]; omega), if_pos (by simp only [List.length_append, nb_length, bem_length]; omega), if_pos (by simp only [List.length_append, nb_length, bem_length]; omega), if_pos (by simp only [List.length_append, nb_length, bem_length]; omega), w64s i (by omega)]
  simp only [← nb_append, List.append_assoc] at f ⊢
  exact f
theorem nb_hb (l : List Int) : nb (l.map hbM) = l.map (· % 256) := by
 unfold nb
 rw [List.map_map]
 exact List.map_congr_left fun x _ => hbM_val x
theorem specB_ev (kind mode flags : Int) (uid : Nat) (box : ByteArray) (its : List S54) (hi : ∀ x ∈ its, x.f0.size ≤ 200 ∧ x.f1.size ≤ 4000) (hn : its.length ≤ 20) (hb : box.size ≤ 40) :
  Ev (fun k => spec_l09Bytes.f k kind (uid : Int) mode flags box its) (nb (totM kind uid mode flags box its)) := by
 have h0 := bl_size box
 obtain ⟨K, h⟩ := specB_loop kind uid mode flags box its hi hn its.length 0 ([hbM kind, hbM mode, hbM flags, hbM its.length, hbM box.size] ++ (bem uid ++ bl box)) (by omega) (by simp only [List.length_append, bem_length, List.length_cons, List.length_nil]; omega)
 refine ⟨K + 3, fun k hk => ?_⟩
 obtain ⟨j, rfl⟩ : ∃ j, k = j + 3 := ⟨k - 3, by omega⟩
 have f := h (j + 3) (by omega)
 have e : nb [hbM kind, hbM mode, hbM flags, hbM its.length, hbM box.size] = [kind % 256, mode % 256, flags % 256, (its.length : Int) % 256, (box.size : Int) % 256] := nb_hb [kind, mode, flags, its.length, box.size]
 simp only [spec_l09Bytes.f, bS, specBem, bytesOf_bl]
 rw [if_pos (by simp only [nb_length, bem_length, List.length_cons, List.length_nil]; omega), if_pos (by simp only [List.length_append, nb_length, bem_length, List.length_cons, List.length_nil]; omega)]
 rw [List.drop_zero] at f
 unfold totM
 have hbx : (b2M (uid : Int) ++ box).data.toList = bem uid ++ bl box := by
  show bl _ = _
  rw [bl_append, bl_b2M]
 rw [hbx]
 simp only [← e, ← nb_append, List.append_assoc] at f ⊢
 exact f
theorem mutR_parts {kind uid mode flags : Int} {box : ByteArray} {its : List S54} (h : mutR kind uid mode flags box its = true) :
  (0 ≤ uid ∧ uid ≤ 1000) ∧ box.size ≤ 40 ∧ its.length ≤ 20 ∧ ∀ x ∈ its, x.f0.size ≤ 200 ∧ x.f1.size ≤ 4000 := by
 unfold mutR at h
 simp only [Bool.and_eq_true, decide_eq_true_eq] at h
 obtain ⟨⟨⟨h1, h2⟩, h3⟩, h4⟩ := h
 refine ⟨?_, ?_, h2, fun x hx => ?_⟩
 ·unfold mutKind at h4
  repeat' split at h4
  all_goals (try simp only [decide_eq_true_eq] at h4)
  all_goals (first | omega | cases h4)
 ·unfold nameR at h1
  simp only [Bool.and_eq_true, decide_eq_true_eq] at h1
  rw [bl_size]
  exact h1.1.1.2
 ·have := List.all_eq_true.1 h3 x hx
  unfold itemR at this
  rw [decide_eq_true_eq] at this
  exact ⟨this.2.1, this.2.2⟩
theorem totM_len (kind uid mode flags : Int) (box : ByteArray) (its : List S54) (hc : condM uid box its) : (totM kind uid mode flags box its).length ≤ 3000000000 := by
 have := totX_len [hbM kind, hbM mode, hbM flags, hbM its.length, hbM box.size] uid box its its.length rfl hc
 rwa [totX_end] at this
/-- What both programs tell of a mutation's bytes. -/
theorem mutBytes_both (kind uid mode flags : Int) (box : ByteArray) (its : List S54) : ∃ (out : List Int) (code : Int), out.length ≤ 20000 ∧ Ev (fun k => spec_MutationBytes.f k kind uid mode flags box its) (out, code) ∧ Ev (fun k => impl_MutationBytes.f k kind uid mode flags box its) (out, code) := by
 obtain ⟨K1, h1⟩ := specMut_ev kind uid mode flags box its
 obtain ⟨K2, h2⟩ := implMut_ev kind uid mode flags box its
 by_cases hm : mutR kind uid mode flags box its = true
 ·obtain ⟨hu, hb, hn, hi⟩ := mutR_parts hm
  rw [hm] at h1 h2
  obtain ⟨u, rfl⟩ : ∃ u : Nat, uid = (u : Int) := ⟨uid.toNat, (Int.toNat_of_nonneg hu.1).symm⟩
  obtain ⟨K3, h3⟩ := specB_ev kind mode flags u box its hi hn hb
  have hc : condM (u : Int) box its := ⟨⟨by omega, by omega⟩, by omega, by omega, List.all_eq_true.2 fun x hx => by
   have := hi x hx
   simp only [Bool.and_eq_true, decide_eq_true_eq]
   omega⟩
  have hl := totM_len kind (u : Int) mode flags box its hc
  have h4 : impl_mutationBytes.f kind (u : Int) mode flags box its = some ⟨(totM kind u mode flags box its).toArray⟩ := if_pos hc
  have hsz : (⟨(totM kind u mode flags box its).toArray⟩ : ByteArray).size = (totM kind u mode flags box its).length := by rw [bl_size, bl_mk]
  have hnl := nb_length (totM kind u mode flags box its)
  generalize totM kind (u : Int) mode flags box its = T at h3 h4 hl hsz hnl
  by_cases hg : T.length > 20000
  ·refine ⟨[], 7, by simp, ⟨K1 + K3, fun k hk => ?_⟩, ⟨K2, fun k hk => ?_⟩⟩
   ·simp only [spec_MutationBytes.f, h1 k (by omega), h3 k (by omega), bS, if_true]
    rw [if_pos (by omega)]
   ·simp only [impl_MutationBytes.f, h2 k (by omega), h4, bS, if_true]
    rw [if_pos (by omega)]
  ·refine ⟨nb T, 0, by omega, ⟨K1 + K3, fun k hk => ?_⟩, ⟨K2, fun k hk => ?_⟩⟩
   ·simp only [spec_MutationBytes.f, h1 k (by omega), h3 k (by omega), bS, if_true]
    rw [if_neg (by omega)]
   ·simp only [impl_MutationBytes.f, h2 k (by omega), h4, bS, if_true]
    rw [if_neg (by omega), if_pos (by omega), bytesOf_bl, bl_mk]
 ·rw [Bool.not_eq_true] at hm
  rw [hm] at h1 h2
  refine ⟨[], 1, by simp, ⟨K1, fun k hk => ?_⟩, ⟨K2, fun k hk => ?_⟩⟩
  ·simp only [spec_MutationBytes.f, h1 k hk, bS]
   rfl
  ·simp only [impl_MutationBytes.f, h2 k hk, bS]
   rfl
end Go.Proofs.Ytbjefkeogbophaa.P
/- Lemmas of mine: bytes marked and held. Plain. -/
set_option linter.unusedVariables false
set_option linter.unusedSimpArgs false
namespace Go.Proofs.Ytbjefkeogbophaa.P
open Go.RowKit Go.Proofs.YtbjefkeogbophaaW.PrintWords
theorem rd_natb (xs : List Int) (i : Nat) (h : i < xs.length) : rd xs (i : Int) = xs[i]'h := getD_nat xs _ i h
theorem eqBs_self (ys : List Int) (h : ys.length ≤ 4611686018427387904) : Ev (fun k => laws_eqByteS.f k ys ys) true := by
 refine Ev.congr (f := fun k => laws_eqByteS.l0 k ys ys ((0 : Nat) : Int)) (fun k => ?_)
  (up_loop (fun k i => laws_eqByteS.l0 k ys ys i) ys.length true ?_ ⟨0, fun k _ => ?_⟩ ys.length 0 (by omega))
 ·unfold laws_eqByteS.f
  exact if_pos rfl
 ·intro i hi
  refine ⟨0, fun k _ => ?_⟩
  simp only [laws_eqByteS.l0, if_true]
  rw [if_pos (by omega), if_pos (by omega), if_pos (by omega), w64s i (by omega)]
 ·simp only [laws_eqByteS.l0]
  rw [if_neg (by omega)]
def mbs : Nat → Nat → List Int
 | _, 0 => []
 | n, m + 1 => ((n : Int) % 256) :: mbs (n + 1) m
theorem mbs_length : ∀ m n, (mbs n m).length = m
 | 0, _ => rfl
 | m + 1, n => by rw [mbs, List.length_cons, mbs_length m]
theorem markBs_l0 : ∀ (d i n : Nat) (xs : List Int), i + d = xs.length → xs.length ≤ 4611686018427387904 → n + d ≤ 4611686018427387904 → Ev (fun k => laws_markByteS.l0 k xs (n : Int) (i : Int)) (((n + d : Nat) : Int), xs.take i ++ mbs n d)
 | 0, i, n, xs, hi, hx, hn => Ev.step (f := fun _ => some _) (fun k => by simp only [laws_markByteS.l0]; rw [if_neg (by omega), List.take_of_length_le (by omega)]; simp [mbs]) (Ev.now _)
 | d + 1, i, n, xs, hi, hx, hn => by
  have h := markBs_l0 d (i + 1) (n + 1) (xs.set i ((n : Int) % 256)) (by rw [List.length_set]; omega) (by rw [List.length_set]; omega) (by omega)
  have e : (xs.set i ((n : Int) % 256)).take (i + 1) ++ mbs (n + 1) d = xs.take i ++ mbs n (d + 1) := by
   rw [List.take_set, List.take_add_one, List.getElem?_eq_getElem (by omega)]
   have hl : (xs.take i).length = i := by rw [List.length_take]; omega
   rw [List.set_append_right _ _ (by omega), hl, Nat.sub_self]
   simp only [Option.toList, List.set_cons_zero, List.append_assoc, List.cons_append, List.nil_append, mbs]
  rw [e, show n + 1 + d = n + (d + 1) by omega] at h
  refine Ev.step (fun k => ?_) h
  have w1 : Aside0 (wrap64 ((n : Int) + 1) = ((n + 1 : Nat) : Int)) := ⟨w64s n (by omega)⟩
  simp only [laws_markByteS.l0, w1.out, Int.toNat_natCast]
  rw [if_pos (by omega), if_pos (by omega), w64s i (by omega)]
theorem markBs_ev (xs : List Int) (n : Nat) (hx : xs.length ≤ 4611686018427387904) (hn : n + xs.length ≤ 4611686018427387904) : Ev (fun k => laws_markByteS.f k xs (n : Int)) (((n + xs.length : Nat) : Int), mbs n xs.length) := by
 have h := markBs_l0 xs.length 0 n xs (by omega) hx hn
 rw [List.take_zero, List.nil_append] at h
 exact h
theorem heldBs_l0 (ys : List Int) (hy : ys.length ≤ 4611686018427387904) : ∀ (d i n : Nat), i + d = ys.length → ys.drop i = mbs n d → n + d ≤ 4611686018427387904 → Ev (fun k => laws_heldByteS.l0 k ys (n : Int) (i : Int)) ((n + d : Nat) : Int) := by
 intro d
 induction d with
 | zero =>
  intro i n hi hd hn
  refine Ev.step (f := fun _ => some _) (fun k => ?_) (Ev.now _)
  simp only [laws_heldByteS.l0]
  rw [if_neg (by omega)]
  rfl
 | succ d ih =>
  intro i n hi hd hn
  have hlt : i < ys.length := by omega
  rw [List.drop_eq_getElem_cons hlt, mbs] at hd
  injection hd with h1 h2
  have hr := rd_natb ys i hlt
  rw [h1] at hr
  have h := ih (i + 1) (n + 1) (by omega) h2 (by omega)
  rw [show n + 1 + d = n + (d + 1) by omega] at h
  refine Ev.step (fun k => ?_) h
  have w1 : Aside0 (wrap64 ((n : Int) + 1) = ((n + 1 : Nat) : Int)) := ⟨w64s n (by omega)⟩
  have w3 : Aside0 (wrap64 ((i : Int) + 1) = ((i + 1 : Nat) : Int)) := ⟨w64s i (by omega)⟩
  simp only [laws_heldByteS.l0, hr, w1.out, w3.out]
  rw [if_pos (by omega), if_pos (by omega), if_pos trivial]
theorem heldBs_ev (n m : Nat) (hm : m ≤ 4611686018427387904) (hn : n + m ≤ 4611686018427387904) : Ev (fun k => laws_heldByteS.f k (mbs n m) (n : Int)) ((n + m : Nat) : Int) :=
 heldBs_l0 (mbs n m) (by rw [mbs_length]; exact hm) m 0 n (by rw [mbs_length]; omega) rfl hn
end Go.Proofs.Ytbjefkeogbophaa.P
/- Lemmas of mine: the mark of a number. Plain. -/
set_option linter.unusedVariables false
set_option linter.unusedSimpArgs false
namespace Go.Proofs.Ytbjefkeogbophaa.P
open Go.RowKit Go.Proofs.YtbjefkeogbophaaW.PrintWords
theorem markText_l0 : ∀ (d n : Nat) (x : ByteArray), n < 10 ^ d → n ≤ 9223372036854775807 → x.size + d ≤ 1000 → ∃ t, Ev (fun k => laws_markText.l0 k (n : Int) x) t := by
 intro d
 induction d with
 | zero =>
  intro n x hn hn9 hx
  have : n = 0 := by simpa using hn
  subst this
  refine ⟨(⟨#[109]⟩ : ByteArray) ++ x, Ev.step (f := fun _ => some ((⟨#[109]⟩ : ByteArray) ++ x)) (fun k => ?_) (Ev.now _)⟩
  simp only [laws_markText.l0]
  rw [if_neg (by omega), if_pos (by omega)]
 | succ d ih =>
  intro n x hn hn9 hx
  by_cases h0 : n = 0
  ·subst h0
   refine ⟨(⟨#[109]⟩ : ByteArray) ++ x, Ev.step (f := fun _ => some ((⟨#[109]⟩ : ByteArray) ++ x)) (fun k => ?_) (Ev.now _)⟩
   simp only [laws_markText.l0]
   rw [if_neg (by omega), if_pos (by omega)]
  ·have hp : 10 ^ (d + 1) = 10 ^ d * 10 := rfl
   have hs : (strOfNums [(wrap64 (48 + (Int.tmod (n : Int) 10))) % 256]).size = 1 := by rw [strOfNums_size]; rfl
   obtain ⟨t, ht⟩ := ih (n / 10) (strOfNums [(wrap64 (48 + (Int.tmod (n : Int) 10))) % 256] ++ x) (by omega) (by omega) (by rw [ByteArray.size_append, hs]; omega)
   refine ⟨t, Ev.step (f := fun k => laws_markText.l0 k ((n / 10 : Nat) : Int) (strOfNums [(wrap64 (48 + (Int.tmod (n : Int) 10))) % 256] ++ x)) (fun k => ?_) ht⟩
   have hw : ∀ m : Int, 0 ≤ m → m ≤ n → wrap64 m = m ∨ True := fun _ _ _ => .inr trivial
   simp only [laws_markText.l0, Option.bind_some]
   rw [if_pos (by omega), if_pos (by rw [hs]; omega)]
   have hq : Int.tdiv (n : Int) 10 = ((n / 10 : Nat) : Int) := rfl
   rw [hq]
   rw [w64n _ (by omega)]
theorem markText_some (n : Nat) (hn : n < 10 ^ 18) : ∃ t, Ev (fun k => laws_markText.f k (n : Int)) t := by
 by_cases h0 : (n : Int) ≤ 0
 ·refine ⟨(⟨#[109, 48]⟩ : ByteArray), ⟨0, fun k _ => ?_⟩⟩
  simp only [laws_markText.f]
  rw [if_pos h0]
 ·obtain ⟨t, ht⟩ := markText_l0 18 n ⟨#[]⟩ hn (Nat.le_trans (Nat.le_of_lt hn) (by decide)) (by decide)
  refine ⟨t, Ev.congr (fun k => ?_) ht⟩
  simp only [laws_markText.f]
  rw [if_neg h0]
open Classical in
/-- The mark of a number. -/
noncomputable def mt (n : Nat) : ByteArray := if h : ∃ t, Ev (fun k => laws_markText.f k (n : Int)) t then h.choose else ⟨#[]⟩
theorem mt_ev (n : Nat) (hn : n < 10 ^ 18) : Ev (fun k => laws_markText.f k (n : Int)) (mt n) := by
 unfold mt
 rw [dif_pos (markText_some n hn)]
 exact (markText_some n hn).choose_spec
end Go.Proofs.Ytbjefkeogbophaa.P
/- Lemmas of mine: the marks of a row of items (in a law that doesn't hold them). Plain. -/
set_option linter.unusedVariables false
set_option linter.unusedSimpArgs false
namespace Go.Proofs.Ytbjefkeogbophaa.P
open Go.RowKit Go.Proofs.YtbjefkeogbophaaW.PrintWords
noncomputable def its : Nat → Nat → List S54
 | _, 0 => []
 | n, m + 1 => ⟨mt n, mt (n + 1)⟩ :: its (n + 2) m
theorem its_length : ∀ m n, (its n m).length = m
 | 0, _ => rfl
 | m + 1, n => by rw [its, List.length_cons, its_length m]
theorem markI_l0 : ∀ (d i n : Nat) (xs : List S54), i + d = xs.length → xs.length ≤ 4611686018427387904 → n + 2 * d < 10 ^ 18 →
  Ev (fun k => laws_markItemS.l0 k xs (n : Int) (i : Int)) (((n + 2 * d : Nat) : Int), xs.take i ++ its n d) := by
 have hp : (10 : Nat) ^ 18 = 1000000000000000000 := by decide
 intro d
 induction d with
 | zero =>
  intro i n xs hi hx hn
  refine Ev.step (f := fun _ => some _) (fun k => ?_) (Ev.now _)
  simp only [laws_markItemS.l0]
  rw [if_neg (by omega), List.take_of_length_le (by omega)]
  simp [its]
 | succ d ih =>
  intro i n xs hi hx hn
  obtain ⟨K1, m1⟩ := mt_ev n (by omega)
  obtain ⟨K2, m2⟩ := mt_ev (n + 1) (by omega)
  obtain ⟨K, h⟩ := ih (i + 1) (n + 2) (xs.set i ⟨mt n, mt (n + 1)⟩) (by rw [List.length_set]; omega) (by rw [List.length_set]; omega) (by omega)
  have e : (xs.set i (⟨mt n, mt (n + 1)⟩ : S54)).take (i + 1) ++ its (n + 2) d = xs.take i ++ its n (d + 1) := by
   rw [List.take_set, List.take_add_one, List.getElem?_eq_getElem (by omega)]
   have hl : (xs.take i).length = i := by rw [List.length_take]; omega
   rw [List.set_append_right _ _ (by omega), hl, Nat.sub_self]
   simp only [Option.toList, List.set_cons_zero, List.append_assoc, List.cons_append, List.nil_append, its]
  rw [e, show n + 2 + 2 * d = n + 2 * (d + 1) by omega] at h
  refine ⟨K1 + K2 + K + 1, fun k hk => ?_⟩
  obtain ⟨j, rfl⟩ : ∃ j, k = j + 1 := ⟨k - 1, by omega⟩
  have f1 := m1 j (by omega)
  have f2 := m2 j (by omega)
  have f := h j (by omega)
  simp only at f1 f2 f
  have w1 : Aside0 (wrap64 ((n : Int) + 1) = ((n + 1 : Nat) : Int)) := ⟨w64s n (by omega)⟩
  have w2 : Aside0 (wrap64 (((n + 1 : Nat) : Int) + 1) = ((n + 2 : Nat) : Int)) := ⟨w64s (n + 1) (by omega)⟩
  have w3 : Aside0 (wrap64 ((i : Int) + 1) = ((i + 1 : Nat) : Int)) := ⟨w64s i (by omega)⟩
  have hrd : rd_T54 (xs.set i (⟨mt n, (rd_T54 xs (i : Int)).f1⟩ : S54)) (i : Int) = ⟨mt n, (rd_T54 xs (i : Int)).f1⟩ := by
   simp only [rd_T54, Int.toNat_natCast, List.getD_eq_getElem?_getD]
   rw [List.getElem?_set_self (by omega)]
   rfl
  simp only [laws_markItemS.l0, f1, bS, w1.out, w2.out, w3.out, f2, Int.toNat_natCast, hrd, List.set_set]
  rw [if_pos (by omega), if_pos (by omega)]
  exact f
theorem markI_ev (xs : List S54) (n : Nat) (hx : xs.length ≤ 4611686018427387904) (hn : n + 2 * xs.length < 10 ^ 18) : Ev (fun k => laws_markItemS.f k xs (n : Int)) (((n + 2 * xs.length : Nat) : Int), its n xs.length) := by
 have h := markI_l0 xs.length 0 n xs (by omega) hx hn
 rw [List.take_zero, List.nil_append] at h
 exact h
end Go.Proofs.Ytbjefkeogbophaa.P
/- Lemmas of mine: the laws' copies of items and mutations: copied, the same, counted. Plain. -/
set_option linter.unusedVariables false
set_option linter.unusedSimpArgs false
namespace Go.Proofs.Ytbjefkeogbophaa.P
open Go.RowKit Go.Proofs.YtbjefkeogbophaaW.PrintWords
def itM (x : S60) : S54 := ⟨x.f0, x.f1⟩
theorem toItemS_ev (xs : List S60) (h : xs.length ≤ 8796093022208) : Ev (fun k => laws_toItemS.f k xs) (xs.map itM) := by
 refine Ev.congr (f := fun k => laws_toItemS.l0 k xs (List.replicate xs.length z54) ((0 : Nat) : Int)) (fun k => ?_)
  (copy_loop (fun k ys i => laws_toItemS.l0 k xs ys i) xs itM ?_ ?_ xs.length 0 _ (by omega) (by simp) (by simp))
 ·simp only [laws_toItemS.f, Int.toNat_natCast]
  rw [if_pos (by omega), if_pos h]
  rfl
 ·intro i ys hi hl
  refine ⟨0, fun k _ => ?_⟩
  simp only [laws_toItemS.l0, laws_toItem.f, rd_T60, getD_nat xs _ i hi, bS]
  rw [if_pos (by omega), if_pos (by omega), if_pos (by omega), w64s i (by omega), Int.toNat_natCast]
  rfl
 ·intro ys hl
  refine ⟨0, fun k _ => ?_⟩
  simp only [laws_toItemS.l0]
  rw [if_neg (by omega)]
theorem eqItemS_self (ys : List S54) (h : ys.length ≤ 4611686018427387904) : Ev (fun k => laws_eqItemS.f k ys ys) true := by
 refine Ev.congr (f := fun k => laws_eqItemS.l0 k ys ys ((0 : Nat) : Int)) (fun k => ?_)
  (up_loop (fun k i => laws_eqItemS.l0 k ys ys i) ys.length true ?_ ⟨0, fun k _ => ?_⟩ ys.length 0 (by omega))
 ·unfold laws_eqItemS.f
  exact if_pos rfl
 ·intro i hi
  refine ⟨0, fun k _ => ?_⟩
  simp only [laws_eqItemS.l0, laws_eqItem.f, if_true, bS]
  rw [if_pos (by omega), if_pos (by omega), if_pos (by omega), w64s i (by omega)]
 ·simp only [laws_eqItemS.l0]
  rw [if_neg (by omega)]
theorem szItem_some (a b : ByteArray) (n : Int) : ∃ z, laws_szItem.f a b n = some z := by
 unfold laws_szItem.f
 split
 ·exact ⟨_, rfl⟩
 ·split <;> exact ⟨_, rfl⟩
theorem szItemS_some (xs : List S60) (h : xs.length ≤ 4611686018427387904) (n : Int) : ∃ z, Ev (fun k => laws_szItemS.f k xs n) z := by
 by_cases h0 : wrap64 (n - (xs.length : Int)) < 0
 ·exact ⟨-1, 0, fun k _ => by simp only [laws_szItemS.f]; rw [if_pos h0]⟩
 ·obtain ⟨z, hz, _⟩ := st_loop (fun k s i => laws_szItemS.l0 k xs s i) xs.length (fun _ _ _ => True) (fun i s hi => by
    obtain ⟨z, hz⟩ := szItem_some (xs[i]'hi).f0 (xs[i]'hi).f1 s
    have e : ∀ k, laws_szItemS.l0 (k + 1) xs s (i : Int) = if z < 0 then some (-1) else laws_szItemS.l0 k xs z ((i + 1 : Nat) : Int) := fun k => by
     simp only [laws_szItemS.l0, rd_T60, getD_nat xs _ i hi, hz, bS]
     rw [if_pos (by omega), if_pos (by omega), w64s i (by omega)]
    by_cases hn : z < 0
    ·exact .inl ⟨-1, ⟨0, fun k _ => by rw [e, if_pos hn]⟩, trivial⟩
    ·exact .inr ⟨z, ⟨0, fun k _ => by rw [e, if_neg hn]⟩, fun _ _ => trivial⟩)
   (fun s => ⟨s, ⟨0, fun k _ => by simp only [laws_szItemS.l0]; rw [if_neg (by omega)]⟩, trivial⟩) xs.length 0 (wrap64 (n - (xs.length : Int))) (by omega)
  exact ⟨z, Ev.congr (fun k => by simp only [laws_szItemS.f]; rw [if_neg h0]; rfl) hz⟩
theorem szMut_some (a b c d : Int) (s : ByteArray) (xs : List S60) (h : xs.length ≤ 4611686018427387904) (n : Int) : ∃ z, Ev (fun k => laws_szMutation.f k a b c d s xs n) z := by
 by_cases h0 : wrap64 (n - (s.size : Int)) < 0
 ·exact ⟨-1, 0, fun k _ => by simp only [laws_szMutation.f]; rw [if_pos h0]⟩
 ·obtain ⟨z, K, hz⟩ := szItemS_some xs h (wrap64 (n - (s.size : Int)))
  by_cases hn : z < 0
  ·exact ⟨-1, K, fun k hk => by simp only [laws_szMutation.f, hz k hk, bS]; rw [if_neg h0, if_pos hn]⟩
  ·exact ⟨z, K, fun k hk => by simp only [laws_szMutation.f, hz k hk, bS]; rw [if_neg h0, if_neg hn]⟩
theorem toMut_ev (a b c d : Int) (s : ByteArray) (xs : List S60) (h : xs.length ≤ 8796093022208) : Ev (fun k => laws_toMutation.f k a b c d s xs) (a, b, c, d, s, xs.map itM) := by
 obtain ⟨K, hK⟩ := toItemS_ev xs h
 exact ⟨K, fun k hk => by simp only [laws_toMutation.f, hK k hk, bS]⟩
theorem eqMut_self (a b c d : Int) (s : ByteArray) (ys : List S54) (h : ys.length ≤ 4611686018427387904) : Ev (fun k => laws_eqMutation.f k a b c d s ys a b c d s ys) true := by
 obtain ⟨K, hK⟩ := eqItemS_self ys h
 exact ⟨K, fun k hk => by simp only [laws_eqMutation.f, hK k hk, bS, if_true]⟩
end Go.Proofs.Ytbjefkeogbophaa.P
/- The pure statement of the law FnExactMutationBytes: the two MutationBytes tell the same, in memory of their own. No condition. -/
set_option linter.unusedVariables false
set_option linter.unusedSimpArgs false
namespace Go.Proofs.Ytbjefkeogbophaa.Pure
open Go.RowKit Go.Proofs.Ytbjefkeogbophaa.P Go.Proofs.YtbjefkeogbophaaW.PrintWords
theorem FnExactMutationBytes : laws_FnExactMutationBytes.Pure := by
 rintro ⟨a, b, c, d, t, xs⟩ hx
 refine Ev.k (?_ : Ev (fun k => laws_FnExactMutationBytes.f k a b c d t xs) true)
 have hp : (10 : Nat) ^ 18 = 1000000000000000000 := by decide
 have hxl : xs.length ≤ 8796093022208 := by
  obtain ⟨_, _, _, _, _, _, hl, _⟩ := hx
  simp only at hl
  omega
 obtain ⟨z, K0, hz⟩ := szMut_some a b c d t xs (by omega) 1048576
 by_cases hn : z < 0
 ·exact ⟨K0, fun k hk => by simp only [laws_FnExactMutationBytes.f, hz k hk, bS]; rw [if_pos hn]⟩
 obtain ⟨K1, toM⟩ := toMut_ev a b c d t xs hxl
 have hml : (xs.map itM).length ≤ 8796093022208 := by rw [List.length_map]; exact hxl
 generalize xs.map itM = ys at toM hml
 obtain ⟨out, code, hol, ⟨K2, sp⟩, ⟨K3, im⟩⟩ := mutBytes_both a b c d t ys
 obtain ⟨K4, eqM⟩ := eqMut_self a b c d t ys (by omega)
 obtain ⟨K5, eqB⟩ := eqBs_self out (by omega)
 obtain ⟨K6, mkI⟩ := markI_ev ys 1 (by omega) (by omega)
 obtain ⟨K7, mkB⟩ := markBs_ev out 1 (by omega) (by omega)
 obtain ⟨K8, hdB⟩ := heldBs_ev 1 out.length (by omega) (by omega)
 have hb : (code != code) = false := by simp
 refine ⟨K0 + K1 + K2 + K3 + K4 + K5 + K6 + K7 + K8 + 10, fun k hk => ?_⟩
 obtain ⟨S, hS⟩ : ∃ S, S = K0 + K1 + K2 + K3 + K4 + K5 + K6 + K7 + K8 := ⟨_, rfl⟩
 have F : ∀ j, S ≤ j → (laws_szMutation.f j a b c d t xs 1048576 = some z ∧ laws_toMutation.f j a b c d t xs = some (a, b, c, d, t, ys) ∧ spec_MutationBytes.f j a b c d t ys = some (out, code) ∧ impl_MutationBytesF.f j a b c d t ys = some (out, code)) ∧
   laws_eqMutation.f j a b c d t ys a b c d t ys = some true ∧ laws_eqByteS.f j out out = some true ∧ laws_markMutation.f j a b c d t ys 1 = some (((1 + 2 * ys.length : Nat) : Int), its 1 ys.length) ∧ laws_markByteS.f j out 1 = some (((1 + out.length : Nat) : Int), mbs 1 out.length) ∧
   laws_heldByteS.f j (mbs 1 out.length) 1 = some ((1 + out.length : Nat) : Int) := fun j hj =>
  ⟨⟨hz j (by omega), toM j (by omega), sp j (by omega), im j (by omega)⟩, eqM j (by omega), eqB j (by omega), by
   have m := mkI j (by omega)
   simp only at m
   show (laws_markItemS.f j ys ((1 : Nat) : Int)).bind _ = _
   rw [m, bS], mkB j (by omega), hdB j (by omega)⟩
 clear hz toM sp im eqM eqB mkI mkB hdB
 have j2 : ∀ j, S ≤ j → laws_FnExactMutationBytes.j2 (j + 1) (mbs 1 out.length) ((1 + out.length : Nat) : Int) false = some true := fun j hj => by
  simp only [laws_FnExactMutationBytes.j2, (F j hj).2.2.2.2.2, bS]
  rw [if_neg (by decide), if_neg (by omega), if_pos trivial]
 have j1 : ∀ j, S ≤ j → laws_FnExactMutationBytes.j1 (j + 1 + 1) out code out false a b c d t xs = some true := fun j hj => by
  obtain ⟨⟨f0, f1, f2, f3⟩, f4, f5, f6, f7, f8⟩ := F (j + 1) (by omega)
  simp only [laws_FnExactMutationBytes.j1, f1, f3, f5, f7, f8, bS, hb]
  rw [if_neg (by decide), if_neg (by omega), if_pos trivial, if_pos trivial]
  exact j2 j hj
 have j0 : ∀ j, S ≤ j → laws_FnExactMutationBytes.j0 (j + 1 + 1 + 1) out code out code false a b c d t xs a b c d t ys = some true := fun j hj => by
  obtain ⟨⟨f0, f1, f2, f3⟩, f4, f5, f6, f7, f8⟩ := F (j + 1 + 1) (by omega)
  simp only [laws_FnExactMutationBytes.j0, f1, f4, f5, f6, bS, hb]
  rw [if_neg (by decide), if_pos trivial, if_neg (by omega), if_pos trivial]
  exact j1 j hj
 obtain ⟨j, rfl⟩ : ∃ j, k = j + 1 + 1 + 1 := ⟨k - 3, by omega⟩
 obtain ⟨⟨f0, f1, f2, f3⟩, f4, f5, f6, f7, f8⟩ := F (j + 1 + 1 + 1) (by omega)
 show laws_FnExactMutationBytes.f (j + 1 + 1 + 1) a b c d t xs = some true
 simp only [laws_FnExactMutationBytes.f, f0, f1, f2, f3, f5, bS, hb]
 rw [if_neg hn, if_pos trivial]
 exact j0 j (by omega)
end Go.Proofs.Ytbjefkeogbophaa.Pure
/- The row of the law FnExactMutationBytes: for every input the call returns true and each argument reads behind the call as it read before. No condition of mine. -/
namespace Go.Proofs.Ytbjefkeogbophaa.fnExactMutationBytes
open Go.ChangeShapes Go.WideShapes Go.ChangeAt Go.RowKit Go.Proofs.Ytbjefkeogbophaa.P Go.Proofs.YtbjefkeogbophaaW.PrintWords
open Go.ChangeMaps (open_string shut_string)
set_option linter.unusedVariables false
theorem own : ownKnob Try.prog.godebug = none := by kernel_rfl
theorem laidOut : laidOutB Try.prog = true := by kernel_rfl
set_option maxRecDepth 100000 in
theorem lifted (os : Os) (started : os.Started) (H : Type) (enc : TypeId × Value → H) :
    ReturnsInHanded {} Try.checked os 3 .any (Rows.fnExactMutationBytesSpec.pre6 enc Try.prog Try.f3 Rows.fnExactMutationBytesRow.domain false) (Rows.fnExactMutationBytesSpec.post enc Try.prog Try.f3 false true false false) := by
  refine returnsInHanded_of_change_sized (C := Try.checked) own started (by kernel_rfl) Try.func3
    (ChangeSpec.witness6 (enc := enc) (C := Try.checked) false ⟨#[], #[.agg #[.int .i64 0, .int .i64 0, .int .i64 0, .int .i64 0, .string ByteArray.empty, .slice none 0 0]], []⟩ 8 (by kernel_rfl) (by kernel_rfl) (by kernel_rfl) (by kernel_rfl)) ?_
  intro W base args ds gs before hval0 hW hcnd hsz0 _
  have hsz : (DataW.weightsEach Try.prog (Try.f3.params.toList ++ Rows.fnExactMutationBytesSpec.plain.varTypes Try.prog) (ds ++ gs)).all (· ≤ reachBytes) = true := hsz0
  have hval : ∀ (j : Nat) t v, Try.f3.params[j]? = some t → args[j]? = some v → Value.okWide Try.prog W .any base t v := hval0
  have hW' := hW
  obtain ⟨p, q, hA0, hV, rfl, hfz, hnd⟩ := hW
  have hA : DataW.TrodAll enc Try.prog W 0 (fun _ => true) true Try.f3.params.toList args.toList ds p := hA0
  rw [Try.params3] at hA hval hsz
  obtain ⟨v0, vs0, d0, ds0, p0, q0, hargs, rfl, rfl, h0, r0⟩ := trodAll_cons hA
  obtain ⟨rfl, rfl, rfl⟩ := trodAll_nil r0
  obtain rfl : args = #[v0] := by cases args; simp_all
  obtain ⟨rfl, rfl⟩ := trodVars_none hV
  have kk0 := h0
  have lt0 : ∀ x ∈ p0, x.block < W.heap.size := by obtain ⟨m, hm⟩ := kk0; exact DataW.trod_lt m _ _ _ hm
  obtain ⟨x0, hK0, hS0⟩ := Tells.arg tells24 h0 hsz (j := 0) (t := 24) rfl rfl
  obtain ⟨cs0, rfl, _⟩ := okWide_struct Try.underlying24 (hval 0 24 v0 rfl rfl)
  obtain ⟨A0_5, c0_5, hq0, hl0_5, hC0_5⟩ := k24_open hK0
  obtain rfl : cs0 = #[.int .i64 x0.f0, .int .i64 x0.f1, .int .i64 x0.f2, .int .i64 x0.f3, .string x0.f4, .slice A0_5 x0.f5.length c0_5] := Array.toList_inj.1 (by simpa [Value.cells] using hq0)
  clear hA0 hval0 hsz0 hsz
  obtain ⟨k, h⟩ := Pure.FnExactMutationBytes x0 hS0
  refine (laws_FnExactMutationBytes.calls k x0.f0 x0.f1 x0.f2 x0.f3 x0.f4 _ _ x0.f5 true W hC0_5 hl0_5 h).mono fun e W' ⟨he, bel0⟩ => ?_
  have bel : Below W.heap.size W W' := bel0
  subst he
  exact ⟨_, rfl, _, _, _, [], _, [], hW', trodAll_mk1 (shut_bool Try.underlying4 _), (trodAll_cons_mk (Below.trod laidOut (by kernel_rfl) (of_decide_eq_true (by kernel_rfl)) kk0 bel lt0) trodAll_mk0), rfl, bel.frame _, fun h => by cases h⟩
theorem over : Rows.fnExactMutationBytesRow.holds Try.pinned (OpenSpec.ofChange Rows.fnExactMutationBytesSpec) :=
  OpenClaim.holds_of_wide 3 Try.f3 rfl rfl rfl rfl rfl rfl rfl ⟨rfl, rfl, rfl, rfl, rfl⟩ rfl rfl rfl rfl rfl (by kernel_rfl) Try.func3 (by kernel_rfl)
    (of_decide_eq_true (by kernel_rfl)) (by unfold Func.isWrapper; first | (rw [if_pos (by decide +kernel)]; kernel_rfl) | (rw [if_neg (by decide +kernel)]; exact ⟨rfl, rfl⟩))
    (fun os started H enc _ => lifted os started H enc)
theorem proved : Rows.FnExactMutationBytesSaid := over
#print axioms proved
end Go.Proofs.Ytbjefkeogbophaa.fnExactMutationBytes
namespace Go.Proofs.Ytbjefkeogbophaa
/-- The statement, under a short name, for the claim. -/
theorem fnExactMutationBytes_holds : Rows.FnExactMutationBytesSaid := fnExactMutationBytes.proved
end Go.Proofs.Ytbjefkeogbophaa
