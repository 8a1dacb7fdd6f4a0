/- Part 12 of what the law FnExactReadMutation stands on; the last part ends with the law's row. No condition of mine. -/
import Derived.Test.YtdmkijkmeoinoaaMFnExactReadMutation1
import Derived.Test.YtdmkijkmeoinoaaMFnExactReadMutation11
import Derived.Test.YtdmkijkmeoinoaaMFnExactReadMutation7
import Derived.Test.YtdmkijkmeoinoaaMFnExactReadMutation2
import Derived.Lib.Strings
import Derived.Lib.IndexBytes
import Derived.Laws.BitsLemmas
import Derived.IntWalk
import Derived.Test.YtdmkijkmeoinoaaMFnExactReadMutation8
import Derived.Test.YtdmkijkmeoinoaaMFnExactReadMutation5
import Derived.Test.YtdmkijkmeoinoaaMFnExactReadMutation10
import Derived.Test.YtdmkijkmeoinoaaMFnExactReadMutation6
import Derived.Test.YtdmkijkmeoinoaaRows
import Derived.WalkKit
import Derived.ProofKit
import Derived.OpenShut
import Derived.ShutString
import Derived.ChangeOld
import Derived.Below
import Derived.SizedLaws
import Derived.Carry
namespace Go.Proofs.Ytdmkijkmeoinoaa.P
open Go.RowKit Go.ChangeShapes Go.WideShapes Go.Proofs.YtdmkijkmeoinoaaW.PrintWords

end Go.Proofs.Ytdmkijkmeoinoaa.P
namespace Go.Proofs.Ytdmkijkmeoinoaa.P
open Go.RowKit Go.ChangeShapes Go.WideShapes Go.Proofs.YtdmkijkmeoinoaaW.PrintWords

/-- What is to be proved of the law FnExactReadMutation, over numbers and lists alone. -/
def laws_FnExactReadMutation.Pure : Prop := ∀ (x0 : List Int), (x0.length ≤ maxLen ∧ x0.length * 1 ≤ 140737488351232 ∧ ∀ y ∈ x0, (Lit.int .u8 y).wf = true) → ∃ k, laws_FnExactReadMutation.f k x0 = some true
end Go.Proofs.Ytdmkijkmeoinoaa.P
/- Lemmas of mine: bounds, the fields of a log. Plain. -/
set_option linter.unusedVariables false
set_option linter.unusedSimpArgs false
namespace Go.Proofs.Ytdmkijkmeoinoaa.P
open Go.RowKit Go.Proofs.YtdmkijkmeoinoaaW.PrintWords
theorem l01In_eq (a b c : Int) : spec_l01In.f a b c = some (decide (b ≤ a ∧ a ≤ c)) := by
 unfold spec_l01In.f
 by_cases h : a ≥ b
 ·rw [if_pos h]; simp [show b ≤ a from h]
 ·rw [if_neg h]; simp; omega
theorem within_eq (a b c : Int) : impl_within.f a b c = some (decide (b ≤ a ∧ a ≤ c)) := l01In_eq a b c
end Go.Proofs.Ytdmkijkmeoinoaa.P
/- Lemmas of mine: strings as lists of bytes; whole numbers of 64 bits; rounds. Plain. -/
set_option linter.unusedVariables false
set_option linter.unusedSimpArgs false
namespace Go.Proofs.Ytdmkijkmeoinoaa.P
open Go.RowKit Go.Proofs.YtdmkijkmeoinoaaW.PrintWords
/-- As Option.bind_some, but no equation by computing: for terms that are not to be computed by the kernel. -/
theorem bS {α β : Type} (a : α) (f : α → Option β) : (some a).bind f = f a := Eq.trans (Option.bind_some a f) (Eq.refl (f a))
/-- A string's bytes. -/
def bl (s : ByteArray) : List UInt8 := s.data.toList
/-- Bytes as numbers. -/
def nb (l : List UInt8) : List Int := l.map fun b => (b.toNat : Int)
theorem bl_inj {a b : ByteArray} (h : bl a = bl b) : a = b := WideShapes.bytes_inj h
theorem toList_bl (s : ByteArray) : s.toList = bl s := Lib.toList_data s
theorem toList_iff {a b : ByteArray} : a.toList = b.toList ↔ a = b := ⟨fun h => bl_inj (by rw [← toList_bl, ← toList_bl, h]), fun h => by rw [h]⟩
theorem bl_size (s : ByteArray) : s.size = (bl s).length := Lib.size_eq s
theorem bl_append (a b : ByteArray) : bl (a ++ b) = bl a ++ bl b := by simp [bl]
theorem bl_extract (s : ByteArray) (i j : Nat) : bl (s.extract i j) = ((bl s).drop i).take (j - i) := Lib.extract_data s i j
theorem bl_mk (l : List UInt8) : bl ⟨l.toArray⟩ = l := by simp [bl]
theorem bl_empty : bl (⟨#[]⟩ : ByteArray) = [] := rfl
theorem mk_bl (s : ByteArray) : (⟨(bl s).toArray⟩ : ByteArray) = s := bl_inj (bl_mk _)
theorem bytesOf_bl (s : ByteArray) : bytesOf s = nb (bl s) := rfl
theorem nb_length (l : List UInt8) : (nb l).length = l.length := by simp [nb]
theorem nb_append (l m : List UInt8) : nb (l ++ m) = nb l ++ nb m := by simp [nb]
theorem strOf_nb (l : List UInt8) : strOfNums (nb l) = ⟨l.toArray⟩ := by
 simp [strOfNums, nb, Function.comp_def]
theorem bl_strOf_nb (l : List UInt8) : bl (strOfNums (nb l)) = l := by rw [strOf_nb, bl_mk]
theorem bt_eq (s : ByteArray) (i : Nat) (h : i < (bl s).length) : bt s (i : Int) = (((bl s)[i]'h).toNat : Int) := by
 have hs : i < s.size := by rw [bl_size]; exact h
 unfold bt
 rw [dif_pos (by simpa using hs)]
 have h1 := Lib.data_getElem? s i hs
 have h2 : (bl s)[i]? = some ((bl s)[i]'h) := List.getElem?_eq_getElem h
 have h3 : s[i]'hs = (bl s)[i]'h := Option.some.inj (h1.symm.trans h2)
 simp only [Int.toNat_natCast]
 rw [← h3]
theorem rd_nb (l : List UInt8) (i : Nat) (h : i < l.length) : rd (nb l) (i : Int) = ((l[i]'h).toNat : Int) := by
 simp [rd, nb, List.getD_eq_getElem?_getD, List.getElem?_map, List.getElem?_eq_getElem h]
theorem byte_lt (b : UInt8) : b.toNat < 256 := b.toNat_lt
/-- No wrap within the bounds. -/
theorem w64 {n : Int} (h0 : -9223372036854775808 ≤ n) (h1 : n ≤ 9223372036854775807) : wrap64 n = n := by unfold wrap64; omega
theorem w64n (n : Nat) (h1 : n ≤ 9223372036854775807) : wrap64 (n : Int) = n := w64 (by omega) (by omega)
theorem w64s (n : Nat) (h1 : n + 1 ≤ 9223372036854775807) : wrap64 ((n : Int) + 1) = ((n + 1 : Nat) : Int) := by rw [w64 (by omega) (by omega)]; rfl
theorem w64add (a b : Nat) (h : a + b ≤ 9223372036854775807) : wrap64 ((a : Int) + (b : Int)) = ((a + b : Nat) : Int) := by rw [w64 (by omega) (by omega)]; rfl
theorem w64lit (a b : Nat) (h : a + b ≤ 9223372036854775807) : wrap64 ((a : Int) + wrap64 ((b : Int))) = ((a + b : Nat) : Int) := by rw [w64n b (by omega), w64add a b h]
theorem w64sub (a b : Nat) (h : b ≤ a) (h2 : a ≤ 9223372036854775807) : wrap64 ((a : Int) - (b : Int)) = ((a - b : Nat) : Int) := by rw [w64 (by omega) (by omega)]; omega
theorem bits_xor_nat (k : IntKind) (j : Nat) (hj : j ≤ k.bits) (hk : ∀ n : Int, 0 ≤ n → n < 2 ^ j → k.wrap n = n) (a b : Nat) (ha : a < 2 ^ j) (hb : b < 2 ^ j) : bits .xor k a b = ((a ^^^ b : Nat) : Int) := by
 have hp : 2 ^ j ≤ 2 ^ k.bits := Nat.pow_le_pow_right (by decide) hj
 have ha' : a % 2 ^ k.bits = a := Nat.mod_eq_of_lt (Nat.lt_of_lt_of_le ha hp)
 have hb' : b % 2 ^ k.bits = b := Nat.mod_eq_of_lt (Nat.lt_of_lt_of_le hb hp)
 simp only [bits, BitVec.ofInt_natCast, BitVec.toNat_xor, BitVec.toNat_ofNat, ha', hb']
 exact hk _ (Int.natCast_nonneg _) (by exact_mod_cast Nat.xor_lt_two_pow ha hb)
theorem u32_in (n : Int) (h0 : 0 ≤ n) (h1 : n < 2 ^ 32) : IntKind.u32.wrap n = n := by rw [IntKind.wrap_u32]; omega
theorem i64_in32 (n : Int) (h0 : 0 ≤ n) (h1 : n < 2 ^ 32) : IntKind.i64.wrap n = n := by rw [IntKind.wrap_i64]; omega
theorem xor_u32 (a b : Nat) (ha : a < 4294967296) (hb : b < 4294967296) : bits .xor .u32 a b = ((a ^^^ b : Nat) : Int) := bits_xor_nat .u32 32 (by decide) u32_in a b ha hb
theorem xor_i64 (a b : Nat) (ha : a < 4294967296) (hb : b < 4294967296) : bits .xor .i64 a b = ((a ^^^ b : Nat) : Int) := bits_xor_nat .i64 32 (by decide) i64_in32 a b ha hb
/-- Rounds: what is told for all numbers of rounds from some on. -/
theorem Ev.k {α : Type} {g : Nat → Option α} {r : α} (h : Ev g r) : ∃ k, g k = some r := h.rounds
theorem Ev.and {α β : Type} {g : Nat → Option α} {f : Nat → Option β} {r : α} {q : β} (h : Ev g r) (h' : Ev f q) : ∃ K, ∀ k, K ≤ k → g k = some r ∧ f k = some q := by
 obtain ⟨K, h⟩ := h
 obtain ⟨K', h'⟩ := h'
 exact ⟨max K K', fun k hk => ⟨h k (by omega), h' k (by omega)⟩⟩
theorem Ev.uniq {α : Type} {g : Nat → Option α} {r q : α} (h : Ev g r) (h' : Ev g q) : r = q := by
 obtain ⟨K, hk⟩ := Ev.and h h'
 have h1 := hk K (Nat.le_refl _)
 exact Option.some.inj (h1.1.symm.trans h1.2)
end Go.Proofs.Ytdmkijkmeoinoaa.P
/- Lemmas of mine: big-endian numbers in both programs. Plain. -/
set_option linter.unusedVariables false
set_option linter.unusedSimpArgs false
namespace Go.Proofs.Ytdmkijkmeoinoaa.P
open Go.RowKit Go.Proofs.YtdmkijkmeoinoaaW.PrintWords
def sm (l : List UInt8) : ByteArray := ⟨l.toArray⟩
theorem bl_sm (l : List UInt8) : bl (sm l) = l := bl_mk l
theorem sm_size (l : List UInt8) : (sm l).size = l.length := by rw [bl_size, bl_sm]
def numOf (l : List UInt8) : Nat := l.foldl (fun n b => n * 256 + b.toNat) 0
theorem i64_in63 (n : Int) (h0 : 0 ≤ n) (h1 : n < 2 ^ 63) : IntKind.i64.wrap n = n := by rw [IntKind.wrap_i64]; omega
theorem implNum_l0 (s : ByteArray) (hs : (bl s).length ≤ 6) : ∀ (d i n : Nat), i + d = (bl s).length → n < 256 ^ i →
  Ev (fun k => impl_numberOf.l0 k s (n : Int) (s.size : Int) (i : Int)) ((((bl s).drop i).foldl (fun n b => n * 256 + b.toNat) n : Nat) : Int) := by
 intro d
 induction d with
 | zero =>
  intro i n hi hn
  rw [List.drop_eq_nil_of_le (by omega)]
  refine Ev.step (f := fun _ => some _) (fun k => ?_) (Ev.now _)
  simp only [impl_numberOf.l0, List.foldl_nil]
  rw [if_neg (by rw [bl_size]; omega)]
 | succ d ih =>
  intro i n hi hn
  have hlt : i < (bl s).length := by omega
  have hb := ((bl s)[i]).toNat_lt
  have hpow : 256 ^ i ≤ 256 ^ 5 := Nat.pow_le_pow_right (by decide) (by omega)
  have hp5 : (256 : Nat) ^ 5 = 1099511627776 := by decide
  have hsucc : (256 : Nat) ^ (i + 1) = 256 ^ i * 256 := rfl
  rw [List.drop_eq_getElem_cons hlt, List.foldl_cons]
  refine Ev.step (f := fun k => impl_numberOf.l0 k s ((n * 256 + ((bl s)[i]).toNat : Nat) : Int) (s.size : Int) ((i + 1 : Nat) : Int)) (fun k => ?_) (ih (i + 1) (n * 256 + ((bl s)[i]).toNat) (by omega) (by omega))
  simp only [impl_numberOf.l0]
  have hz : i < s.size := by rw [bl_size]; exact hlt
  rw [if_pos (by omega), if_pos (by omega), if_pos (by omega), bt_eq s i hlt, w64n _ (by omega), w64 (n := (n : Int) * 256) (by omega) (by omega), w64s i (by omega)]
  rw [bits_join .i64 63 (by decide) i64_in63 8 _ _ (by omega) (by omega) (by omega) (by omega) (by omega) (by omega)]
  rfl
theorem implNum_ev (s : ByteArray) (hs : (bl s).length ≤ 6) : Ev (fun k => impl_numberOf.f k s) (numOf (bl s) : Int) :=
 implNum_l0 s hs (bl s).length 0 0 (by omega) (by decide)
theorem specNum_l0 (s : ByteArray) (hs : (bl s).length ≤ 6) : ∀ (d i n : Nat), i + d = (bl s).length → n < 256 ^ i →
  Ev (fun k => spec_l08Number.l0 k s (n : Int) (i : Int)) ((((bl s).drop i).foldl (fun n b => n * 256 + b.toNat) n : Nat) : Int) := by
 intro d
 induction d with
 | zero =>
  intro i n hi hn
  rw [List.drop_eq_nil_of_le (by omega)]
  refine Ev.step (f := fun _ => some _) (fun k => ?_) (Ev.now _)
  simp only [spec_l08Number.l0, List.foldl_nil]
  rw [if_neg (by rw [bl_size]; omega)]
 | succ d ih =>
  intro i n hi hn
  have hlt : i < (bl s).length := by omega
  have hb := ((bl s)[i]).toNat_lt
  have hpow : 256 ^ i ≤ 256 ^ 5 := Nat.pow_le_pow_right (by decide) (by omega)
  have hp5 : (256 : Nat) ^ 5 = 1099511627776 := by decide
  have hsucc : (256 : Nat) ^ (i + 1) = 256 ^ i * 256 := rfl
  rw [List.drop_eq_getElem_cons hlt, List.foldl_cons]
  refine Ev.step (f := fun k => spec_l08Number.l0 k s ((n * 256 + ((bl s)[i]).toNat : Nat) : Int) ((i + 1 : Nat) : Int)) (fun k => ?_) (ih (i + 1) (n * 256 + ((bl s)[i]).toNat) (by omega) (by omega))
  simp only [spec_l08Number.l0]
  have hz : i < s.size := by rw [bl_size]; exact hlt
  rw [if_pos (by omega), if_pos (by omega), bt_eq s i hlt, w64n _ (by omega), w64 (n := (n : Int) * 256) (by omega) (by omega), w64s i (by omega), w64 (by omega) (by omega)]
  rfl
theorem specNum_ev (s : ByteArray) (hs : (bl s).length ≤ 6) : Ev (fun k => spec_l08Number.f k s) (numOf (bl s) : Int) :=
 specNum_l0 s hs (bl s).length 0 0 (by omega) (by decide)
theorem numOf_lt : ∀ (l : List UInt8) (n : Nat), l.foldl (fun n b => n * 256 + b.toNat) n < (n + 1) * 256 ^ l.length
 | [], n => by simp
 | b :: l, n => by
  have h := numOf_lt l (n * 256 + b.toNat)
  have hb := b.toNat_lt
  have e : (256 : Nat) ^ (b :: l).length = 256 * 256 ^ l.length := by rw [List.length_cons, Nat.pow_succ, Nat.mul_comm]
  rw [List.foldl_cons, e, ← Nat.mul_assoc]
  exact Nat.lt_of_lt_of_le h (Nat.mul_le_mul_right _ (by omega))
end Go.Proofs.Ytdmkijkmeoinoaa.P
/- Lemmas of mine: loops that count up: over any function of rounds. Plain. -/
set_option linter.unusedVariables false
set_option linter.unusedSimpArgs false
namespace Go.Proofs.Ytdmkijkmeoinoaa.P
open Go.RowKit Go.Proofs.YtdmkijkmeoinoaaW.PrintWords
/-- A loop whose rounds change the place alone. -/
theorem up_loop {R : Type} (L : Nat → Int → Option R) (n : Nat) (r : R)
  (hstep : ∀ i : Nat, i < n → ∃ K, ∀ k, K ≤ k → L (k + 1) (i : Int) = L k ((i + 1 : Nat) : Int))
  (hend : ∃ K, ∀ k, K ≤ k → L (k + 1) (n : Int) = some r) : ∀ d i : Nat, i + d = n → Ev (fun k => L k (i : Int)) r := by
 intro d
 induction d with
 | zero =>
  intro i hi
  obtain rfl : i = n := by omega
  obtain ⟨K, h⟩ := hend
  exact ⟨K + 1, fun k hk => by obtain ⟨m, rfl⟩ : ∃ m, k = m + 1 := ⟨k - 1, by omega⟩; exact h m (by omega)⟩
 | succ d ih =>
  intro i hi
  obtain ⟨K, h⟩ := hstep i (by omega)
  obtain ⟨K2, h2⟩ := ih (i + 1) (by omega)
  refine ⟨K + K2 + 1, fun k hk => ?_⟩
  obtain ⟨m, rfl⟩ : ∃ m, k = m + 1 := ⟨k - 1, by omega⟩
  show L (m + 1) (i : Int) = some r
  rw [h m (by omega)]
  exact h2 m (by omega)
/-- A loop with a state: what holds of the state says what comes out. -/
theorem st_loop {σ R : Type} (L : Nat → σ → Int → Option R) (n : Nat) (out : Nat → σ → R → Prop)
  (hstep : ∀ (i : Nat) (s : σ), i < n → (∃ r, (∃ K, ∀ k, K ≤ k → L (k + 1) s (i : Int) = some r) ∧ out i s r) ∨ ∃ s', (∃ K, ∀ k, K ≤ k → L (k + 1) s (i : Int) = L k s' ((i + 1 : Nat) : Int)) ∧ ∀ r, out (i + 1) s' r → out i s r)
  (hend : ∀ s, ∃ r, (∃ K, ∀ k, K ≤ k → L (k + 1) s (n : Int) = some r) ∧ out n s r) : ∀ (d i : Nat) (s : σ), i + d = n → ∃ r, Ev (fun k => L k s (i : Int)) r ∧ out i s r := by
 intro d
 induction d with
 | zero =>
  intro i s hi
  obtain rfl : i = n := by omega
  obtain ⟨r, ⟨K, h⟩, ho⟩ := hend s
  exact ⟨r, ⟨K + 1, fun k hk => by obtain ⟨m, rfl⟩ : ∃ m, k = m + 1 := ⟨k - 1, by omega⟩; exact h m (by omega)⟩, ho⟩
 | succ d ih =>
  intro i s hi
  rcases hstep i s (by omega) with ⟨r, ⟨K, h⟩, ho⟩ | ⟨s', ⟨K, h⟩, ho⟩
  ·exact ⟨r, ⟨K + 1, fun k hk => by obtain ⟨m, rfl⟩ : ∃ m, k = m + 1 := ⟨k - 1, by omega⟩; exact h m (by omega)⟩, ho⟩
  ·obtain ⟨r, ⟨K2, h2⟩, ho2⟩ := ih (i + 1) s' (by omega)
   refine ⟨r, ⟨K + K2 + 1, fun k hk => ?_⟩, ho r ho2⟩
   obtain ⟨m, rfl⟩ : ∃ m, k = m + 1 := ⟨k - 1, by omega⟩
   show L (m + 1) s (i : Int) = some r
   rw [h m (by omega)]
   exact h2 m (by omega)
theorem map_set {α β : Type} (xs : List α) (ys : List β) (g : α → β) (i : Nat) (hi : i < xs.length) (hl : ys.length = xs.length) (hy : ys.take i = (xs.take i).map g) :
  (ys.set i (g (xs[i]'hi))).take (i + 1) = (xs.take (i + 1)).map g := by
 have e2 : (xs.take (i + 1)).map g = (xs.take i).map g ++ [g (xs[i]'hi)] := by
  rw [List.take_add_one, List.getElem?_eq_getElem hi, List.map_append]
  rfl
 have e : ((xs.take i).map g).length = i := by rw [List.length_map, List.length_take]; omega
 rw [e2, List.take_set, List.take_add_one, List.getElem?_eq_getElem (by omega), hy, List.set_append_right _ _ (by omega), e, Nat.sub_self]
 rfl
/-- A loop that fills a row of the same length. -/
theorem copy_loop {α β : Type} (L : Nat → List β → Int → Option (List β)) (xs : List α) (g : α → β)
  (hstep : ∀ (i : Nat) (ys : List β) (hi : i < xs.length), ys.length = xs.length → ∃ K, ∀ k, K ≤ k → L (k + 1) ys (i : Int) = L k (ys.set i (g (xs[i]'hi))) ((i + 1 : Nat) : Int))
  (hend : ∀ ys, ys.length = xs.length → ∃ K, ∀ k, K ≤ k → L (k + 1) ys (xs.length : Int) = some ys) :
  ∀ (d i : Nat) (ys : List β), i + d = xs.length → ys.length = xs.length → ys.take i = (xs.take i).map g → Ev (fun k => L k ys (i : Int)) (xs.map g) := by
 intro d
 induction d with
 | zero =>
  intro i ys hi hl hy
  obtain rfl : i = xs.length := by omega
  rw [List.take_of_length_le (by omega), List.take_of_length_le (Nat.le_refl _)] at hy
  subst hy
  obtain ⟨K, h⟩ := hend _ hl
  exact ⟨K + 1, fun k hk => by obtain ⟨m, rfl⟩ : ∃ m, k = m + 1 := ⟨k - 1, by omega⟩; exact h m (by omega)⟩
 | succ d ih =>
  intro i ys hi hl hy
  obtain ⟨K, h⟩ := hstep i ys (by omega) hl
  obtain ⟨K2, h2⟩ := ih (i + 1) (ys.set i (g (xs[i]'(by omega)))) (by omega) (by rw [List.length_set]; exact hl) (map_set xs ys g i (by omega) hl hy)
  refine ⟨K + K2 + 1, fun k hk => ?_⟩
  obtain ⟨m, rfl⟩ : ∃ m, k = m + 1 := ⟨k - 1, by omega⟩
  show L (m + 1) ys (i : Int) = _
  rw [h m (by omega)]
  exact h2 m (by omega)
theorem getD_nat {α : Type} (xs : List α) (z : α) (i : Nat) (h : i < xs.length) : xs.getD ((i : Nat) : Int).toNat z = xs[i]'h := by
 rw [Int.toNat_natCast, List.getD_eq_getElem?_getD, List.getElem?_eq_getElem h]; rfl
end Go.Proofs.Ytdmkijkmeoinoaa.P
/- Lemmas of mine: the two NameOK tell the same. Plain. -/
set_option linter.unusedVariables false
set_option linter.unusedSimpArgs false
namespace Go.Proofs.Ytdmkijkmeoinoaa.P
open Go.RowKit Go.Proofs.YtdmkijkmeoinoaaW.PrintWords
def isLet (c : Int) : Bool := decide (97 ≤ c ∧ c ≤ 122 ∨ 65 ≤ c ∧ c ≤ 90)
def isDig (c : Int) : Bool := decide (48 ≤ c ∧ c ≤ 57)
theorem implDigit_eq (c : Int) : impl_isDigit.f c = some (isDig c) := by
 unfold impl_isDigit.f isDig
 by_cases h : c ≥ 48 <;> simp [h] <;> omega
theorem specDigit_eq (c : Int) : spec_l00Digit.f c = some (isDig c) := implDigit_eq c
theorem implLetter_eq (c : Int) : impl_isLetter.f c = some (isLet c) := by
 unfold impl_isLetter.f isLet
 by_cases h1 : c ≥ 97 <;> by_cases h2 : c ≤ 122 <;> by_cases h3 : c ≥ 65 <;> by_cases h4 : c ≤ 90 <;> simp [h1, h2, h3, h4] <;> omega
theorem specLetter_eq (c : Int) : spec_l00Letter.f c = some (isLet c || c == 95) := by
 unfold spec_l00Letter.f isLet
 by_cases h1 : c ≥ 97 <;> by_cases h2 : c ≤ 122 <;> by_cases h3 : c ≥ 65 <;> by_cases h4 : c ≤ 90 <;> simp [h1, h2, h3, h4] <;> omega
/-- A byte of a name. -/
def nameB (b : UInt8) : Bool := isLet b.toNat || isDig b.toNat || b.toNat == 95
/-- A name. -/
def nameR (l : List UInt8) : Bool := decide (1 ≤ l.length ∧ l.length ≤ 40) && !(l.head?.any fun b => isDig b.toNat) && l.all nameB
theorem implName_l0 (s : ByteArray) (hs : (bl s).length ≤ 40) : ∀ (d i : Nat), i + d = (bl s).length →
  Ev (fun k => impl_NameOK.l0 k s (s.size : Int) (i : Int)) (((bl s).drop i).all nameB) := by
 intro d
 induction d with
 | zero =>
  intro i hi
  rw [List.drop_eq_nil_of_le (by omega)]
  refine Ev.step (f := fun _ => some _) (fun k => ?_) (Ev.now _)
  simp only [impl_NameOK.l0]
  rw [if_neg (by rw [bl_size]; omega)]
  rfl
 | succ d ih =>
  intro i hi
  have hlt : i < (bl s).length := by omega
  have hz : i < s.size := by rw [bl_size]; exact hlt
  have hbt := bt_eq s i hlt
  rw [List.drop_eq_getElem_cons hlt, List.all_cons]
  generalize (bl s)[i]'hlt = b at hbt ⊢
  by_cases hc : nameB b = true
  ·rw [hc, Bool.true_and]
   refine Ev.step (f := fun k => impl_NameOK.l0 k s (s.size : Int) ((i + 1 : Nat) : Int)) (fun k => ?_) (ih (i + 1) (by omega))
   simp only [impl_NameOK.l0]
   rw [if_pos (by omega), if_pos (by omega), if_pos (by omega), hbt, w64s i (by omega)]
   simp only [implLetter_eq, implDigit_eq, Option.bind_some]
   unfold nameB at hc
   cases h1 : isLet b.toNat with
   | true => rfl
   | false =>
    cases h2 : isDig b.toNat with
    | true => rfl
    | false =>
     have h3 : b.toNat = 95 := by simpa [h1, h2] using hc
     simp [h3]
  ·have hc' : nameB b = false := by simpa using hc
   rw [hc', Bool.false_and]
   refine Ev.step (f := fun _ => some _) (fun k => ?_) (Ev.now _)
   simp only [impl_NameOK.l0]
   rw [if_pos (by omega), if_pos (by omega), if_pos (by omega), hbt]
   simp only [implLetter_eq, implDigit_eq, Option.bind_some]
   unfold nameB at hc'
   simp only [Bool.or_eq_false_iff] at hc'
   obtain ⟨⟨h1, h2⟩, h3⟩ := hc'
   have h4 : ¬ (b.toNat : Int) = 95 := by
    intro h
    have : b.toNat = 95 := by omega
    simp [this] at h3
   simp [h1, h2, h4]
theorem implName_ev (s : ByteArray) : Ev (fun k => impl_NameOK.f k s) (nameR (bl s)) := by
 by_cases h : 1 ≤ s.size ∧ s.size ≤ 40
 ·have hlt : 0 < (bl s).length := by rw [← bl_size]; omega
  have hhd : (bl s).head? = some (bl s)[0] := by rw [List.head?_eq_getElem?, List.getElem?_eq_getElem hlt]
  have e : nameR (bl s) = (!(isDig ((bl s)[0]).toNat) && (bl s).all nameB) := by
   unfold nameR
   rw [hhd, ← bl_size]
   simp [h]
  have hf : ∀ k, impl_NameOK.f k s = impl_NameOK.j0 k s (isDig ((bl s)[0]).toNat) := fun k => by
   simp only [impl_NameOK.f, within_eq, Option.bind_some]
   rw [if_pos (by simp; omega), if_pos (by omega)]
   have := bt_eq s 0 hlt
   rw [show ((0 : Nat) : Int) = 0 from rfl] at this
   rw [this, implDigit_eq]
   rfl
  refine Ev.congr hf ?_
  rw [e]
  cases hd : isDig ((bl s)[0]).toNat with
  | true =>
   refine Ev.step (f := fun _ => some _) (fun k => ?_) (Ev.now _)
   simp [impl_NameOK.j0]
  | false =>
   refine Ev.step (f := fun k => impl_NameOK.l0 k s (s.size : Int) ((0 : Nat) : Int)) (fun k => ?_) (implName_l0 s (by rw [← bl_size]; exact h.2) (bl s).length 0 (by omega))
   simp [impl_NameOK.j0]
 ·have e : nameR (bl s) = false := by
   unfold nameR
   rw [← bl_size]
   simp only [decide_eq_false h, Bool.false_and]
  rw [e]
  refine Ev.congr (f := fun k => impl_NameOK.j0 k s true) (fun k => ?_) ?_
  ·simp only [impl_NameOK.f, within_eq, Option.bind_some]
   rw [if_neg (by simp; omega)]
  ·refine Ev.step (f := fun _ => some _) (fun k => ?_) (Ev.now _)
   simp [impl_NameOK.j0]
theorem specName_l0 (s : ByteArray) (hs : (bl s).length ≤ 40) : ∀ (d i : Nat), i + d = (bl s).length →
  Ev (fun k => spec_l00Word.l0 k s (i : Int)) (((bl s).drop i).all nameB) := by
 intro d
 induction d with
 | zero =>
  intro i hi
  rw [List.drop_eq_nil_of_le (by omega)]
  refine Ev.step (f := fun _ => some _) (fun k => ?_) (Ev.now _)
  simp only [spec_l00Word.l0]
  rw [if_neg (by rw [bl_size]; omega)]
  rfl
 | succ d ih =>
  intro i hi
  have hlt : i < (bl s).length := by omega
  have hz : i < s.size := by rw [bl_size]; exact hlt
  have hbt := bt_eq s i hlt
  rw [List.drop_eq_getElem_cons hlt, List.all_cons]
  generalize (bl s)[i]'hlt = b at hbt ⊢
  have hn : nameB b = ((isLet b.toNat || (b.toNat : Int) == 95) || isDig b.toNat) := by
   unfold nameB
   have : ((b.toNat : Int) == 95) = (b.toNat == 95) := by
    rw [Bool.eq_iff_iff]; simp; omega
   rw [this]
   cases isLet b.toNat <;> cases isDig b.toNat <;> simp
  rw [hn]
  cases h1 : (isLet b.toNat || (b.toNat : Int) == 95) with
  | true =>
   rw [Bool.true_or, Bool.true_and]
   refine Ev.step (f := fun k => spec_l00Word.l0 k s ((i + 1 : Nat) : Int)) (fun k => ?_) (ih (i + 1) (by omega))
   simp only [spec_l00Word.l0]
   rw [if_pos (by omega), if_pos (by omega), hbt, w64s i (by omega)]
   simp only [specLetter_eq, Option.bind_some, h1, if_true]
  | false =>
   rw [Bool.false_or]
   cases h2 : isDig b.toNat with
   | true =>
    rw [Bool.true_and]
    refine Ev.step (f := fun k => spec_l00Word.l0 k s ((i + 1 : Nat) : Int)) (fun k => ?_) (ih (i + 1) (by omega))
    simp only [spec_l00Word.l0]
    rw [if_pos (by omega), if_pos (by omega), hbt, w64s i (by omega)]
    simp only [specLetter_eq, specDigit_eq, Option.bind_some, h1, h2, if_true]
    rfl
   | false =>
    rw [Bool.false_and]
    refine Ev.step (f := fun _ => some _) (fun k => ?_) (Ev.now _)
    simp only [spec_l00Word.l0]
    rw [if_pos (by omega), if_pos (by omega), hbt]
    simp only [specLetter_eq, specDigit_eq, Option.bind_some, h1, h2]
    rfl
theorem specName_ev (s : ByteArray) : Ev (fun k => spec_NameOK.f k s) (nameR (bl s)) := by
 suffices h : Ev (fun k => spec_l00Word.f k s) (nameR (bl s)) by
  obtain ⟨K, h⟩ := h
  exact ⟨K, fun k hk => by simp only [spec_NameOK.f, h k hk]; rfl⟩
 by_cases h : 1 ≤ s.size ∧ s.size ≤ 40
 ·have hlt : 0 < (bl s).length := by rw [← bl_size]; omega
  have hhd : (bl s).head? = some (bl s)[0] := by rw [List.head?_eq_getElem?, List.getElem?_eq_getElem hlt]
  have e : nameR (bl s) = (!(isDig ((bl s)[0]).toNat) && (bl s).all nameB) := by
   unfold nameR
   rw [hhd, ← bl_size]
   simp [h]
  have hf : ∀ k, spec_l00Word.f k s = spec_l00Word.j0 k s (!(isLet ((bl s)[0]).toNat || (((bl s)[0]).toNat : Int) == 95)) := fun k => by
   simp only [spec_l00Word.f]
   rw [if_neg (by omega), if_neg (by omega), if_pos (by omega)]
   have := bt_eq s 0 hlt
   rw [show ((0 : Nat) : Int) = 0 from rfl] at this
   rw [this, specLetter_eq]
   rfl
  refine Ev.congr hf ?_
  have hall : (bl s).all nameB = (nameB (bl s)[0] && ((bl s).drop 1).all nameB) := by
   have := List.drop_eq_getElem_cons hlt
   rw [List.drop_zero] at this
   conv => lhs; rw [this]
   rfl
  rw [e, hall]
  have h95 : ((((bl s)[0]).toNat : Int) == 95) = (((bl s)[0]).toNat == 95) := by
   rw [Bool.eq_iff_iff]; simp; omega
  have hx : isDig ((bl s)[0]).toNat = true → (isLet ((bl s)[0]).toNat || (((bl s)[0]).toNat : Int) == 95) = false := by
   unfold isDig isLet
   simp
   omega
  cases hl : (isLet ((bl s)[0]).toNat || (((bl s)[0]).toNat : Int) == 95) with
  | true =>
   have hd : isDig ((bl s)[0]).toNat = false := by
    cases hd : isDig ((bl s)[0]).toNat with
    | true => rw [hx hd] at hl; cases hl
    | false => rfl
   have hn : nameB (bl s)[0] = true := by
    unfold nameB
    rw [← h95]
    revert hl
    cases isLet ((bl s)[0]).toNat <;> simp [hd]
   rw [hd, hn]
   simp only [Bool.not_false, Bool.true_and]
   refine Ev.step (f := fun k => spec_l00Word.l0 k s ((1 : Nat) : Int)) (fun k => ?_) (specName_l0 s (by rw [← bl_size]; exact h.2) ((bl s).length - 1) 1 (by omega))
   simp [spec_l00Word.j0]
  | false =>
   have hn : (!(isDig ((bl s)[0]).toNat) && (nameB (bl s)[0] && ((bl s).drop 1).all nameB)) = false := by
    cases hd : isDig ((bl s)[0]).toNat with
    | true => rfl
    | false =>
     have : nameB (bl s)[0] = false := by
      unfold nameB
      rw [← h95]
      revert hl
      cases isLet ((bl s)[0]).toNat <;> simp [hd]
     rw [this]
     rfl
   rw [hn]
   refine Ev.step (f := fun _ => some _) (fun k => ?_) (Ev.now _)
   simp [spec_l00Word.j0]
 ·have e : nameR (bl s) = false := by
   unfold nameR
   rw [← bl_size]
   simp only [decide_eq_false h, Bool.false_and]
  rw [e]
  refine Ev.congr (f := fun k => spec_l00Word.j0 k s true) (fun k => ?_) ?_
  ·simp only [spec_l00Word.f]
   by_cases h1 : (s.size : Int) < 1
   ·rw [if_pos h1]
   ·rw [if_neg h1, if_pos (by omega)]
  ·refine Ev.step (f := fun _ => some _) (fun k => ?_) (Ev.now _)
   simp [spec_l00Word.j0]
end Go.Proofs.Ytdmkijkmeoinoaa.P
/- Lemmas of mine: the two MutationOK tell the same. Plain. -/
set_option linter.unusedVariables false
set_option linter.unusedSimpArgs false
namespace Go.Proofs.Ytdmkijkmeoinoaa.P
open Go.RowKit Go.Proofs.YtdmkijkmeoinoaaW.PrintWords
/-- A right item. -/
def itemR (x : S93) : Bool := decide (1 ≤ x.f0.size ∧ x.f0.size ≤ 200 ∧ x.f1.size ≤ 4000)
/-- What a mutation of a kind has. -/
def mutKind (kind uid mode flags : Int) (n : Nat) : Bool :=
 if kind = 1 ∨ kind = 4 then decide (uid = 0 ∧ mode = 0 ∧ flags = 0 ∧ n = 0)
 else if kind = 2 then decide (uid = 0 ∧ mode = 0 ∧ flags = 0 ∧ 0 < n)
 else if kind = 3 then decide (n = 0 ∧ (1 ≤ uid ∧ uid ≤ 1000) ∧ (1 ≤ mode ∧ mode ≤ 3) ∧ (0 ≤ flags ∧ flags ≤ 31))
 else false
/-- A right mutation. -/
def mutR (kind uid mode flags : Int) (box : ByteArray) (items : List S93) : Bool := nameR (bl box) && decide (items.length ≤ 20) && items.all itemR && mutKind kind uid mode flags items.length
theorem specMut_j2 (k : Nat) (kind uid mode flags : Int) (box : ByteArray) (items : List S93) (b : Bool) (hb : b = decide (kind = 1 ∨ kind = 4)) :
  spec_MutationOK.j2 (k + 1) kind b kind uid mode flags box items = some (mutKind kind uid mode flags items.length) := by
 subst hb
 obtain ⟨n, hn⟩ : ∃ n, items.length = n := ⟨_, rfl⟩
 have e0 : ((n : Int) == 0) = decide (n = 0) := by rw [Bool.eq_iff_iff]; simp
 have e1 : decide ((n : Int) > 0) = decide (0 < n) := by rw [Bool.eq_iff_iff]; simp
 simp only [spec_MutationOK.j2, l01In_eq, bS, decide_eq_true_eq, mutKind, hn, e0, e1]
 by_cases h1 : kind = 1 ∨ kind = 4
 ·rw [if_pos h1, if_pos h1]
  by_cases a : uid = 0 <;> by_cases b : mode = 0 <;> by_cases c : flags = 0 <;> simp [a, b, c, e0]
 ·rw [if_neg h1, if_neg h1]
  by_cases h2 : kind = 2
  ·rw [if_pos h2, if_pos h2]
   by_cases a : uid = 0 <;> by_cases b : mode = 0 <;> by_cases c : flags = 0 <;> simp [a, b, c, e1]
  ·rw [if_neg h2, if_neg h2]
   by_cases h3 : kind = 3
   ·rw [if_pos h3, if_pos h3]
    by_cases a : 1 ≤ uid ∧ uid ≤ 1000 <;> by_cases b : 1 ≤ mode ∧ mode ≤ 3 <;> by_cases c : 0 ≤ flags ∧ flags ≤ 31 <;> simp [a, b, c, e0]
   ·rw [if_neg h3, if_neg h3]
theorem implMut_j2 (k : Nat) (kind uid mode flags : Int) (box : ByteArray) (items : List S93) (b : Bool) (hb : b = decide (kind = 1 ∨ kind = 4)) (z : Bool) (hz : z = decide (uid = 0 ∧ mode = 0 ∧ flags = 0)) :
  impl_MutationOK.j2 (k + 1) z kind b kind uid mode flags box items = some (mutKind kind uid mode flags items.length) := by
 subst hb
 subst hz
 obtain ⟨n, hn⟩ : ∃ n, items.length = n := ⟨_, rfl⟩
 have e0 : ((n : Int) == 0) = decide (n = 0) := by rw [Bool.eq_iff_iff]; simp
 have e1 : decide ((n : Int) > 0) = decide (0 < n) := by rw [Bool.eq_iff_iff]; simp
 have e2 : ((n : Int) = 0) = (n = 0) := by simp
 simp only [impl_MutationOK.j2, within_eq, bS, decide_eq_true_eq, mutKind, hn, e0, e1, e2]
 by_cases h1 : kind = 1 ∨ kind = 4
 ·rw [if_pos h1, if_pos h1]
  by_cases a : uid = 0 <;> by_cases b : mode = 0 <;> by_cases c : flags = 0 <;> simp [a, b, c, e0]
 ·rw [if_neg h1, if_neg h1]
  by_cases h2 : kind = 2
  ·rw [if_pos h2, if_pos h2]
   by_cases a : uid = 0 <;> by_cases b : mode = 0 <;> by_cases c : flags = 0 <;> simp [a, b, c, e1]
  ·rw [if_neg h2, if_neg h2]
   by_cases h3 : kind = 3
   ·rw [if_pos h3, if_pos h3]
    by_cases d : n = 0 <;> by_cases a : 1 ≤ uid ∧ uid ≤ 1000 <;> by_cases b : 1 ≤ mode ∧ mode ≤ 3 <;> by_cases c : 0 ≤ flags ∧ flags ≤ 31 <;> simp [a, b, c, d]
   ·rw [if_neg h3, if_neg h3]
theorem specMut_tail (kind uid mode flags : Int) (box : ByteArray) (items : List S93) (hn : items.length ≤ 20) :
  ∀ (d i : Nat), i + d = items.length → Ev (fun k => spec_MutationOK.l0 k (i : Int) kind uid mode flags box items) ((items.drop i).all itemR && mutKind kind uid mode flags items.length) := by
 intro d
 induction d with
 | zero =>
  intro i hi
  rw [List.drop_eq_nil_of_le (by omega)]
  refine ⟨2, fun k hk => ?_⟩
  obtain ⟨m, rfl⟩ : ∃ m, k = m + 1 + 1 := ⟨k - 2, by omega⟩
  simp only [spec_MutationOK.l0, List.all_nil, Bool.true_and]
  rw [if_neg (by omega)]
  by_cases h1 : kind = 1
  ·rw [if_pos h1]
   exact specMut_j2 m kind uid mode flags box items _ (by rw [Bool.eq_iff_iff]; simp [h1])
  ·rw [if_neg h1]
   exact specMut_j2 m kind uid mode flags box items _ (by rw [Bool.eq_iff_iff]; simp [h1])
 | succ d ih =>
  intro i hi
  have hlt : i < items.length := by omega
  rw [List.drop_eq_getElem_cons hlt, List.all_cons]
  have e : ∀ k, spec_MutationOK.l0 (k + 1) (i : Int) kind uid mode flags box items = if itemR (items[i]'hlt) = true then spec_MutationOK.l0 k ((i + 1 : Nat) : Int) kind uid mode flags box items else some false := fun k => by
   simp only [spec_MutationOK.l0, rd_T93, getD_nat items _ i hlt, l01In_eq, bS, decide_eq_true_eq]
   rw [if_pos (by omega), if_pos (by omega), w64s i (by omega)]
   generalize items[i]'hlt = x
   unfold itemR
   by_cases h1 : 1 ≤ (x.f0.size : Int) ∧ (x.f0.size : Int) ≤ 200
   ·rw [if_pos h1]
    by_cases h2 : (x.f1.size : Int) > 4000
    ·rw [if_pos h2, if_neg (by simp; omega)]
    ·rw [if_neg h2, if_pos (by simp; omega)]
   ·rw [if_neg h1, if_neg (by simp; omega)]
  cases hx : itemR (items[i]'hlt) with
  | true =>
   rw [Bool.true_and]
   exact Ev.step (f := fun k => spec_MutationOK.l0 k ((i + 1 : Nat) : Int) kind uid mode flags box items) (fun k => by rw [e, if_pos hx]) (ih (i + 1) (by omega))
  | false =>
   simp only [Bool.false_and]
   exact Ev.step (f := fun _ => some _) (fun k => by rw [e, if_neg (by rw [hx]; decide)]) (Ev.now _)
theorem specMut_ev (kind uid mode flags : Int) (box : ByteArray) (items : List S93) : Ev (fun k => spec_MutationOK.f k kind uid mode flags box items) (mutR kind uid mode flags box items) := by
 obtain ⟨K, hK⟩ := specName_ev box
 unfold mutR
 cases hb : nameR (bl box) with
 | false =>
  refine ⟨K + 1, fun k hk => ?_⟩
  obtain ⟨m, rfl⟩ : ∃ m, k = m + 1 := ⟨k - 1, by omega⟩
  simp only [spec_MutationOK.f, hK (m + 1) (by omega), hb, bS, Bool.false_and]
  rw [if_neg (by decide)]
  simp only [spec_MutationOK.j0, if_true]
 | true =>
  by_cases hn : items.length ≤ 20
  ·obtain ⟨K2, h2⟩ := specMut_tail kind uid mode flags box items hn items.length 0 (by omega)
   rw [List.drop_zero] at h2
   refine ⟨K + K2 + 1, fun k hk => ?_⟩
   obtain ⟨m, rfl⟩ : ∃ m, k = m + 1 := ⟨k - 1, by omega⟩
   simp only [spec_MutationOK.f, hK (m + 1) (by omega), hb, bS, decide_eq_true hn, Bool.true_and]
   rw [if_pos trivial, decide_eq_false (by omega)]
   simp only [spec_MutationOK.j0]
   rw [if_neg (by decide)]
   exact h2 m (by omega)
  ·refine ⟨K + 1, fun k hk => ?_⟩
   obtain ⟨m, rfl⟩ : ∃ m, k = m + 1 := ⟨k - 1, by omega⟩
   simp only [spec_MutationOK.f, hK (m + 1) (by omega), hb, bS, decide_eq_false hn, Bool.true_and, Bool.false_and]
   rw [if_pos trivial, decide_eq_true (by omega)]
   simp only [spec_MutationOK.j0, if_true]
theorem implItem_L (x : S93) : impl_MutationOK_L1.f x.f0 x.f1 = some (!itemR x) := by
 simp only [impl_MutationOK_L1.f, impl_itemOK.f, impl_keyOK.f, within_eq, bS, decide_eq_true_eq, itemR]
 by_cases h1 : 1 ≤ (x.f0.size : Int) ∧ (x.f0.size : Int) ≤ 200
 ·rw [if_pos h1, bS]
  congr 2
  rw [decide_eq_decide]
  omega
 ·rw [if_neg h1, bS]
  congr 2
  exact (decide_eq_false (by omega)).symm
theorem implItems_eq (items : List S93) (h : items.length ≤ 20) : slices_ContainsFunc_Item_at_impl_MutationOK_L1.f items = some (!items.all itemR) := by
 have e : (fun x : S93 => (impl_MutationOK_L1.f x.f0 x.f1) == some true) = fun x => !itemR x := by
  funext x
  rw [implItem_L]
  cases itemR x <;> rfl
 unfold slices_ContainsFunc_Item_at_impl_MutationOK_L1.f
 rw [if_pos ⟨by omega, by rw [List.all_eq_true]; intro x _; rw [implItem_L]; rfl⟩, e, List.not_all_eq_any_not]
theorem implMut_ev (kind uid mode flags : Int) (box : ByteArray) (items : List S93) : Ev (fun k => impl_MutationOK.f k kind uid mode flags box items) (mutR kind uid mode flags box items) := by
 obtain ⟨K, hK⟩ := implName_ev box
 unfold mutR
 cases hb : nameR (bl box) with
 | false =>
  refine ⟨K + 1, fun k hk => ?_⟩
  obtain ⟨m, rfl⟩ : ∃ m, k = m + 1 := ⟨k - 1, by omega⟩
  simp only [impl_MutationOK.f, hK (m + 1) (by omega), hb, bS, Bool.false_and]
  rw [if_neg (by decide)]
  simp only [impl_MutationOK.j0, if_true]
 | true =>
  by_cases hn : items.length ≤ 20
  ·refine ⟨K + 4, fun k hk => ?_⟩
   obtain ⟨m, rfl⟩ : ∃ m, k = m + 1 + 1 + 1 := ⟨k - 3, by omega⟩
   simp only [impl_MutationOK.f, hK (m + 1 + 1 + 1) (by omega), hb, bS, decide_eq_true hn, Bool.true_and, implItems_eq items hn]
   rw [if_pos trivial, if_neg (by omega)]
   simp only [impl_MutationOK.j0]
   cases ha : items.all itemR with
   | false =>
    rw [if_pos (by decide)]
    rfl
   | true =>
    rw [if_neg (by decide), Bool.true_and]
    have hj : ∀ z : Bool, z = decide (uid = 0 ∧ mode = 0 ∧ flags = 0) → impl_MutationOK.j1 (m + 1 + 1) z kind uid mode flags box items = some (mutKind kind uid mode flags items.length) := fun z hz => by
     simp only [impl_MutationOK.j1]
     by_cases h1 : kind = 1
     ·rw [if_pos h1]
      exact implMut_j2 m kind uid mode flags box items _ (by rw [Bool.eq_iff_iff]; simp [h1]) z hz
     ·rw [if_neg h1]
      exact implMut_j2 m kind uid mode flags box items _ (by rw [Bool.eq_iff_iff]; simp [h1]) z hz
    by_cases hu : uid = 0
    ·rw [if_pos hu]
     by_cases hm : mode = 0
     ·rw [if_pos hm]
      exact hj _ (by rw [Bool.eq_iff_iff]; simp [hu, hm])
     ·rw [if_neg hm]
      exact hj _ (by rw [Bool.eq_iff_iff]; simp [hu, hm])
    ·rw [if_neg hu]
     exact hj _ (by rw [Bool.eq_iff_iff]; simp [hu])
  ·refine ⟨K + 1, fun k hk => ?_⟩
   obtain ⟨m, rfl⟩ : ∃ m, k = m + 1 := ⟨k - 1, by omega⟩
   simp only [impl_MutationOK.f, hK (m + 1) (by omega), hb, bS, decide_eq_false hn, Bool.true_and, Bool.false_and]
   rw [if_pos trivial, if_pos (by omega)]
   simp only [impl_MutationOK.j0, if_true]
end Go.Proofs.Ytdmkijkmeoinoaa.P
/- Lemmas of mine: a mutation read from bytes, by the program and by the reference. Plain. -/
set_option linter.unusedVariables false
set_option linter.unusedSimpArgs false
namespace Go.Proofs.Ytdmkijkmeoinoaa.P
open Go.RowKit Go.Proofs.YtdmkijkmeoinoaaW.PrintWords
theorem numOf_two (l : List UInt8) (h : l.length ≤ 2) : numOf l < 65536 := by
 have h1 := numOf_lt l 0
 have h2 : 256 ^ l.length ≤ 256 ^ 2 := Nat.pow_le_pow_right (by decide) h
 have h3 : (256 : Nat) ^ 2 = 65536 := by decide
 unfold numOf
 omega
theorem text_step (R : ByteArray) (b : Bool) (n : Nat) : ∃ t R' b', impl_taker_text.f R b (n : Int) = some (t, R', b') ∧ R'.size ≤ R.size ∧ t.size ≤ n ∧
  (((b = false ∧ n ≤ R.size) ∧ b' = false ∧ bl t = (bl R).take n ∧ bl R' = (bl R).drop n) ∨ (¬ (b = false ∧ n ≤ R.size) ∧ b' = true)) := by
 have hsz := bl_size R
 simp only [impl_taker_text.f]
 by_cases h : (n : Int) > (R.size : Int)
 ·rw [if_pos h]
  exact ⟨_, _, _, rfl, Nat.le_refl _, Nat.zero_le _, .inr ⟨fun q => by have := q.2; omega, rfl⟩⟩
 ·rw [if_neg h, if_pos (by omega), if_pos (by omega), Int.toNat_natCast]
  have e1 : bl (R.extract 0 n) = (bl R).take n := by rw [bl_extract, List.drop_zero, Nat.sub_zero]
  have e2 : bl (R.extract n R.size) = (bl R).drop n := by rw [bl_extract]; exact List.take_of_length_le (by rw [List.length_drop]; omega)
  refine ⟨_, _, _, rfl, by rw [bl_size, e2, List.length_drop]; omega, by rw [bl_size, e1, List.length_take]; omega, ?_⟩
  cases b with
  | false => exact .inl ⟨⟨rfl, by omega⟩, rfl, e1, e2⟩
  | true => exact .inr ⟨fun q => (by cases q.1), rfl⟩
theorem num_step (R : ByteArray) (b : Bool) (n : Nat) (hn : n ≤ 2) : ∃ (v : Nat) (R' : ByteArray) (b' : Bool), Ev (fun k => impl_taker_number.f k R b (n : Int)) ((v : Int), R', b') ∧ R'.size ≤ R.size ∧ v < 65536 ∧
  (((b = false ∧ n ≤ R.size) ∧ b' = false ∧ v = numOf ((bl R).take n) ∧ bl R' = (bl R).drop n) ∨ (¬ (b = false ∧ n ≤ R.size) ∧ b' = true)) := by
 obtain ⟨t, R', b', h1, h2, h3, h4⟩ := text_step R b n
 have htl : (bl t).length ≤ 2 := by rw [← bl_size]; omega
 have hnum := implNum_ev t (by omega)
 refine ⟨numOf (bl t), R', b', ?_, h2, numOf_two _ htl, ?_⟩
 ·refine Ev.congr (f := fun k => (impl_numberOf.f k t).bind fun t104 => some (t104, R', b')) (fun k => ?_) (Ev.bind hnum (Ev.now _))
  simp only [impl_taker_number.f, h1, bS]
 ·rcases h4 with ⟨a, c, d, e⟩ | ⟨a, c⟩
  ·exact .inl ⟨a, c, by rw [d], e⟩
  ·exact .inr ⟨a, c⟩
def loopM : Nat → List UInt8 → List S93 → Option (List S93)
 | 0, R, acc => if R = [] then some acc else none
 | n + 1, R, acc => if R.length < 4 then none else if R.length < 4 + numOf (R.take 2) + numOf ((R.drop 2).take 2) then none else
   loopM n (R.drop (4 + numOf (R.take 2) + numOf ((R.drop 2).take 2))) (acc ++ [⟨sm ((R.drop 4).take (numOf (R.take 2))), sm ((R.drop (4 + numOf (R.take 2))).take (numOf ((R.drop 2).take 2)))⟩])
theorem loopM_len : ∀ (n : Nat) (R : List UInt8) (acc its : List S93), loopM n R acc = some its → its.length ≤ acc.length + n
 | 0, R, acc, its, h => by
  unfold loopM at h
  split at h
  ·rw [Option.some.inj h]; omega
  ·cases h
 | n + 1, R, acc, its, h => by
  unfold loopM at h
  split at h
  ·cases h
  ·split at h
   ·cases h
   ·have := loopM_len n _ _ _ h
    rw [List.length_append] at this
    simp only [List.length_cons, List.length_nil] at this
    omega
/-- What is told of a mutation that was read so far. -/
def outM (kind uid mode flags : Int) (box : ByteArray) (o : Option (List S93)) (r : Int × Int × Int × Int × ByteArray × List S93 × Bool) : Prop :=
 match o with
 | none => r.2.2.2.2.2.2 = false
 | some its => r = (kind, uid, mode, flags, box, its, mutR kind uid mode flags box its)
theorem implM_bad (items x8 : Int) (R : ByteArray) (kind uid mode flags : Int) (box : ByteArray) (acc : List S93) : Ev (fun k => impl_readMutation.l0 k items x8 R true kind uid mode flags box acc) (kind, uid, mode, flags, box, acc, false) := by
 refine Ev.step (f := fun k => impl_readMutation.j1 k items x8 false R true kind uid mode flags box acc) (fun k => ?_) (Ev.step (f := fun _ => some _) (fun k => ?_) (Ev.now _))
 ·simp only [impl_readMutation.l0]
  split <;> rfl
 ·simp only [impl_readMutation.j1]
  rw [if_neg (by decide), if_pos trivial]
theorem implM_loop (items : Nat) (hit : items ≤ 100000) (kind uid mode flags : Int) (box : ByteArray) : ∀ (n x8 : Nat) (R : ByteArray) (acc : List S93), x8 + n = items → R.size ≤ 1000000 → acc.length + n ≤ 1000 →
  ∃ r, Ev (fun k => impl_readMutation.l0 k (items : Int) (x8 : Int) R false kind uid mode flags box acc) r ∧ outM kind uid mode flags box (loopM n (bl R) acc) r := by
 intro n
 induction n with
 | zero =>
  intro x8 R acc hx hR ha
  have hj : ∀ {r}, Ev (fun k => impl_readMutation.j1 k (items : Int) (x8 : Int) false R false kind uid mode flags box acc) r → Ev (fun k => impl_readMutation.l0 k (items : Int) (x8 : Int) R false kind uid mode flags box acc) r := fun hr =>
   Ev.step (fun k => by simp only [impl_readMutation.l0]; rw [if_neg (by omega)]) hr
  by_cases hz : bl R = []
  ·refine ⟨_, hj (Ev.step (f := fun k => (impl_MutationOK.f k kind uid mode flags box acc).bind fun t => some (kind, uid, mode, flags, box, acc, t)) (fun k => ?_) (Ev.bind (implMut_ev kind uid mode flags box acc) (Ev.now _))), ?_⟩
   ·simp only [impl_readMutation.j1]
    rw [if_neg (by decide), if_neg (by decide), if_pos (by rw [toList_bl]; exact hz)]
   ·unfold loopM
    rw [if_pos hz]
    exact rfl
  ·refine ⟨_, hj (Ev.step (f := fun k => some (kind, uid, mode, flags, box, acc, false)) (fun k => ?_) (Ev.now _)), ?_⟩
   ·simp only [impl_readMutation.j1]
    rw [if_neg (by decide), if_neg (by decide), if_neg (by rw [toList_bl]; exact hz)]
   ·unfold loopM
    rw [if_neg hz]
    exact rfl
 | succ n ih =>
  intro x8 R acc hx hR ha
  have hsz := bl_size R
  obtain ⟨k1, R1, b1, ⟨K1, e1⟩, z1, v1, c1⟩ := num_step R false 2 (by omega)
  obtain ⟨m1, R2, b2, ⟨K2, e2⟩, z2, v2, c2⟩ := num_step R1 b1 2 (by omega)
  obtain ⟨t1, R3, b3, e3, z3, y3, c3⟩ := text_step R2 b2 k1
  obtain ⟨t2, R4, b4, e4, z4, y4, c4⟩ := text_step R3 b3 m1
  have hchain : ∀ r, Ev (fun k => impl_readMutation.l0 k (items : Int) ((x8 + 1 : Nat) : Int) R4 b4 kind uid mode flags box (acc ++ [⟨t1, t2⟩])) r → Ev (fun k => impl_readMutation.l0 k (items : Int) (x8 : Int) R false kind uid mode flags box acc) r := by
   rintro r ⟨K, e⟩
   refine ⟨K1 + K2 + K + 2, fun k hk => ?_⟩
   obtain ⟨m, rfl⟩ : ∃ m, k = m + 1 + 1 := ⟨k - 2, by omega⟩
   have f1 : impl_taker_number.f m R false 2 = some ((k1 : Int), R1, b1) := e1 m (by omega)
   have f2 : impl_taker_number.f m R1 b1 2 = some ((m1 : Int), R2, b2) := e2 m (by omega)
   have f := e m (by omega)
   simp only at f
   have hl0 : impl_readMutation.l0 (m + 1 + 1) (items : Int) (x8 : Int) R false kind uid mode flags box acc = impl_readMutation.j1 (m + 1) (items : Int) (x8 : Int) true R false kind uid mode flags box acc := by
    simp only [impl_readMutation.l0]
    rw [if_pos (by omega)]
    rfl
   refine hl0.trans ?_
   simp only [impl_readMutation.j1, f1, f2, e3, e4, bS]
   rw [if_pos trivial, if_pos (by omega), w64s x8 (by omega)]
   exact f
  have hbad : b4 = true → loopM (n + 1) (bl R) acc = none → ∃ r, Ev (fun k => impl_readMutation.l0 k (items : Int) (x8 : Int) R false kind uid mode flags box acc) r ∧ outM kind uid mode flags box (loopM (n + 1) (bl R) acc) r := by
   intro hb hn
   subst hb
   rw [hn]
   exact ⟨_, hchain _ (implM_bad _ _ _ _ _ _ _ _ _), rfl⟩
  have s4 : b3 = true → b4 = true := fun h => by
   rcases c4 with ⟨⟨q, _⟩, _⟩ | ⟨_, q⟩
   ·rw [h] at q; cases q
   ·exact q
  have s3 : b2 = true → b4 = true := fun h => by
   rcases c3 with ⟨⟨q, _⟩, _⟩ | ⟨_, q⟩
   ·rw [h] at q; cases q
   ·exact s4 q
  have s2 : b1 = true → b4 = true := fun h => by
   rcases c2 with ⟨⟨q, _⟩, _⟩ | ⟨_, q⟩
   ·rw [h] at q; cases q
   ·exact s3 q
  rcases c1 with ⟨⟨_, g1⟩, q1, w1, d1⟩ | ⟨g1, q1⟩
  ·have hs1 := bl_size R1
   rw [d1, List.length_drop] at hs1
   rcases c2 with ⟨⟨_, g2⟩, q2, w2, d2⟩ | ⟨g2, q2⟩
   ·rw [d1] at w2 d2
    rw [List.drop_drop] at d2
    have hs2 := bl_size R2
    rw [d2, List.length_drop] at hs2
    rcases c3 with ⟨⟨_, g3⟩, q3, w3, d3⟩ | ⟨g3, q3⟩
    ·rw [d2] at w3 d3
     rw [List.drop_drop] at d3
     have hs3 := bl_size R3
     rw [d3, List.length_drop] at hs3
     rcases c4 with ⟨⟨_, g4⟩, q4, w4, d4⟩ | ⟨g4, q4⟩
     ·rw [d3] at w4 d4
      rw [List.drop_drop] at d4
      subst q4
      obtain ⟨r, hr, ho⟩ := ih (x8 + 1) R4 (acc ++ [⟨t1, t2⟩]) (by omega) (by omega) (by rw [List.length_append]; simp only [List.length_cons, List.length_nil]; omega)
      refine ⟨r, hchain r hr, ?_⟩
      have et1 : t1 = sm (((bl R).drop 4).take k1) := bl_inj (by rw [bl_sm]; exact w3)
      have et2 : t2 = sm (((bl R).drop (4 + k1)).take m1) := bl_inj (by rw [bl_sm]; exact w4)
      have ed : bl R4 = (bl R).drop (4 + k1 + m1) := d4
      rw [et1, et2, ed, w1, w2] at ho
      unfold loopM
      rw [if_neg (by omega), if_neg (by rw [← w1, ← w2]; omega)]
      exact ho
     ·refine hbad q4 ?_
      have : ¬ m1 ≤ R3.size := fun h => g4 ⟨q3, h⟩
      unfold loopM
      rw [if_neg (by omega), if_pos (by rw [← w1, ← w2]; omega)]
    ·refine hbad (s4 q3) ?_
     have : ¬ k1 ≤ R2.size := fun h => g3 ⟨q2, h⟩
     unfold loopM
     rw [if_neg (by omega), if_pos (by rw [← w1, ← w2]; omega)]
   ·refine hbad (s3 q2) ?_
    have : ¬ 2 ≤ R1.size := fun h => g2 ⟨q1, h⟩
    unfold loopM
    rw [if_pos (by omega)]
  ·refine hbad (s2 q1) ?_
   have : ¬ 2 ≤ R.size := fun h => g1 ⟨rfl, h⟩
   unfold loopM
   rw [if_pos (by omega)]
theorem ext_at (s : ByteArray) (a n : Nat) (h : a + n ≤ s.size) : bl (s.extract a (a + n)) = ((bl s).drop a).take n := by
 rw [bl_extract]
 congr 1
 omega
theorem specM_loop (s : ByteArray) (hs : s.size ≤ 65536) (kind uid mode flags : Int) (box : ByteArray) : ∀ (n at_ : Nat) (acc : List S93), at_ ≤ s.size → acc.length + n ≤ 1000 →
  ∃ r, Ev (fun k => spec_l09Read.l0 k s (at_ : Int) (n : Int) kind uid mode flags box acc) r ∧ outM kind uid mode flags box (loopM n ((bl s).drop at_) acc) r := by
 have hsz := bl_size s
 intro n
 induction n with
 | zero =>
  intro at_ acc ha hl
  by_cases h : at_ = s.size
  ·refine ⟨_, Ev.step (f := fun k => (spec_MutationOK.f k kind uid mode flags box acc).bind fun t => some (kind, uid, mode, flags, box, acc, t)) (fun k => ?_) (Ev.bind (specMut_ev kind uid mode flags box acc) (Ev.now _)), ?_⟩
   ·simp only [spec_l09Read.l0]
    rw [if_neg (by omega), if_pos (by omega)]
   ·unfold loopM
    rw [if_pos (List.drop_eq_nil_of_le (by omega))]
    exact rfl
  ·refine ⟨_, Ev.step (f := fun k => some (kind, uid, mode, flags, box, acc, false)) (fun k => ?_) (Ev.now _), ?_⟩
   ·simp only [spec_l09Read.l0]
    rw [if_neg (by omega), if_neg (by omega)]
   ·unfold loopM
    rw [if_neg (fun q => by have := congrArg List.length q; rw [List.length_drop, List.length_nil] at this; omega)]
    exact rfl
 | succ n ih =>
  intro at_ acc ha hl
  have hdl : ((bl s).drop at_).length = s.size - at_ := by rw [List.length_drop]; omega
  have E4 : Aside0 (wrap64 ((at_ : Int) + 4) = ((at_ + 4 : Nat) : Int)) := ⟨by rw [w64 (by omega) (by omega)]; rfl⟩
  by_cases h4 : at_ + 4 > s.size
  ·refine ⟨_, Ev.step (f := fun k => some (0, 0, 0, 0, (⟨#[]⟩ : ByteArray), [], false)) (fun k => ?_) (Ev.now _), ?_⟩
   ·simp only [spec_l09Read.l0, E4.out]
    rw [if_pos (by omega), if_pos (by omega)]
   ·unfold loopM
    rw [if_pos (by omega)]
    exact rfl
  ·have E2 : Aside0 (wrap64 ((at_ : Int) + 2) = ((at_ + 2 : Nat) : Int)) := ⟨by rw [w64 (by omega) (by omega)]; rfl⟩
   have x1 := ext_at s at_ 2 (by omega)
   have x2 := ext_at s (at_ + 2) 2 (by omega)
   have l1 : (((bl s).drop at_).take 2).length ≤ 2 := by rw [List.length_take]; omega
   have l2 : (((bl s).drop (at_ + 2)).take 2).length ≤ 2 := by rw [List.length_take]; omega
   obtain ⟨K1, n1⟩ := specNum_ev (s.extract at_ (at_ + 2)) (by rw [x1]; omega)
   obtain ⟨K2, n2⟩ := specNum_ev (s.extract (at_ + 2) (at_ + 2 + 2)) (by rw [x2]; omega)
   rw [x1] at n1
   rw [x2] at n2
   have v1 := numOf_two _ l1
   have v2 := numOf_two _ l2
   have hd2 : ((bl s).drop at_).drop 2 = (bl s).drop (at_ + 2) := List.drop_drop
   obtain ⟨p, hp⟩ : ∃ p, numOf (((bl s).drop at_).take 2) = p := ⟨_, rfl⟩
   obtain ⟨q, hq⟩ : ∃ q, numOf (((bl s).drop (at_ + 2)).take 2) = q := ⟨_, rfl⟩
   rw [hp] at n1 v1
   rw [hq] at n2 v2
   have E5 : Aside0 (wrap64 (((at_ + 4 : Nat) : Int) + (p : Int)) = ((at_ + 4 + p : Nat) : Int)) := ⟨w64add _ _ (by omega)⟩
   have E6 : Aside0 (wrap64 (((at_ + 4 + p : Nat) : Int) + (q : Int)) = ((at_ + 4 + p + q : Nat) : Int)) := ⟨w64add _ _ (by omega)⟩
   have E7 : Aside0 (wrap64 ((p : Int) + (q : Int)) = ((p + q : Nat) : Int)) := ⟨w64add _ _ (by omega)⟩
   have E8 : Aside0 (wrap64 (((at_ + 4 : Nat) : Int) + ((p + q : Nat) : Int)) = ((at_ + 4 + p + q : Nat) : Int)) := ⟨by rw [w64add _ _ (by omega)]; congr 1; omega⟩
   have E9 : Aside0 (wrap64 ((((n + 1 : Nat)) : Int) - 1) = (n : Int)) := ⟨by rw [w64 (by omega) (by omega)]; omega⟩
   by_cases hbig : at_ + 4 + p + q > s.size
   ·refine ⟨(0, 0, 0, 0, (⟨#[]⟩ : ByteArray), [], false), ⟨K1 + K2 + 1, fun k hk => ?_⟩, ?_⟩
    ·obtain ⟨m, rfl⟩ : ∃ m, k = m + 1 := ⟨k - 1, by omega⟩
     have f1 := n1 m (by omega)
     have f2 := n2 m (by omega)
     simp only at f1 f2
     simp only [spec_l09Read.l0, E4.out, E2.out, Int.toNat_natCast, f1, f2, bS, E5.out, E6.out]
     rw [if_pos (by omega), if_neg (by omega), if_pos (by omega), if_pos (by omega), if_pos (by omega), if_pos (by omega), if_pos (by omega), if_pos (by omega), if_pos (by omega)]
    ·unfold loopM
     rw [if_neg (by omega), hd2, hp, hq, if_pos (by omega)]
     exact rfl
   ·have x3 := ext_at s (at_ + 4) p (by omega)
    have x4 := ext_at s (at_ + 4 + p) q (by omega)
    have y3 : s.extract (at_ + 4) (at_ + 4 + p) = sm (((bl s).drop (at_ + 4)).take p) := bl_inj (by rw [bl_sm]; exact x3)
    have y4 : s.extract (at_ + 4 + p) (at_ + 4 + p + q) = sm (((bl s).drop (at_ + 4 + p)).take q) := bl_inj (by rw [bl_sm]; exact x4)
    obtain ⟨r, ⟨K, hr⟩, ho⟩ := ih (at_ + 4 + p + q) (acc ++ [⟨sm (((bl s).drop (at_ + 4)).take p), sm (((bl s).drop (at_ + 4 + p)).take q)⟩]) (by omega) (by rw [List.length_append]; simp only [List.length_cons, List.length_nil]; omega)
    refine ⟨r, ⟨K1 + K2 + K + 1, fun k hk => ?_⟩, ?_⟩
    ·obtain ⟨m, rfl⟩ : ∃ m, k = m + 1 := ⟨k - 1, by omega⟩
     have f1 := n1 m (by omega)
     have f2 := n2 m (by omega)
     have f := hr m (by omega)
     simp only at f1 f2 f
     simp only [spec_l09Read.l0, E4.out, E2.out, Int.toNat_natCast, f1, f2, bS, E5.out, E6.out, E7.out, E8.out, E9.out, y3, y4]
     rw [if_pos (by omega), if_neg (by omega), if_pos (by omega), if_pos (by omega), if_pos (by omega), if_pos (by omega), if_pos (by omega), if_pos (by omega), if_neg (by omega), if_pos (by omega), if_pos (by omega), if_pos (by omega), if_pos (by omega), if_pos (by omega), if_pos (by omega), if_pos (by omega)]
     exact f
    ·unfold loopM
     have d1 : ((bl s).drop at_).drop 4 = (bl s).drop (at_ + 4) := List.drop_drop
     have d2 : ((bl s).drop at_).drop (4 + p) = (bl s).drop (at_ + 4 + p) := by rw [List.drop_drop]; congr 1; omega
     have d3 : ((bl s).drop at_).drop (4 + p + q) = (bl s).drop (at_ + 4 + p + q) := by rw [List.drop_drop]; congr 1; omega
     rw [if_neg (by omega), hd2, hp, hq, if_neg (by omega), d1, d2, d3]
     exact ho
theorem numOf_one (b : UInt8) : numOf [b] = b.toNat := by simp [numOf]
theorem take_one (l : List UInt8) (i : Nat) (h : i < l.length) : (l.drop i).take 1 = [l[i]'h] := by
 rw [List.drop_eq_getElem_cons h]; rfl
/-- What both read: the head, then the items. -/
def headOK (T : List UInt8) : Prop := 7 ≤ T.length ∧ 7 + numOf ((T.drop 4).take 1) ≤ T.length
noncomputable def readR (T : List UInt8) (r : Int × Int × Int × Int × ByteArray × List S93 × Bool) : Prop :=
 (headOK T → outM (numOf (T.take 1) : Int) (numOf ((T.drop 5).take 2) : Int) (numOf ((T.drop 1).take 1) : Int) (numOf ((T.drop 2).take 1) : Int) (sm ((T.drop 7).take (numOf ((T.drop 4).take 1)))) (loopM (numOf ((T.drop 3).take 1)) (T.drop (7 + numOf ((T.drop 4).take 1))) []) r) ∧ (¬ headOK T → r.2.2.2.2.2.2 = false)
theorem numOf_small (l : List UInt8) (h : l.length ≤ 1) : numOf l < 256 := by
 have h1 := numOf_lt l 0
 have h2 : 256 ^ l.length ≤ 256 ^ 1 := Nat.pow_le_pow_right (by decide) h
 have h3 : (256 : Nat) ^ 1 = 256 := by decide
 unfold numOf
 omega
theorem specM_top (s : ByteArray) (hs : s.size ≤ 65536) : ∃ r, Ev (fun k => spec_l09Read.f k s) r ∧ readR (bl s) r := by
 have hsz := bl_size s
 have hbad : ∀ {r}, Ev (fun k => spec_l09Read.j0 k s true) r → ¬ headOK (bl s) → (∀ k, spec_l09Read.f k s = spec_l09Read.j0 k s true) → r.2.2.2.2.2.2 = false → ∃ r, Ev (fun k => spec_l09Read.f k s) r ∧ readR (bl s) r := fun hr hn hf h0 =>
  ⟨_, Ev.congr hf hr, fun q => absurd q hn, fun _ => h0⟩
 have hj : Ev (fun k => spec_l09Read.j0 k s true) (0, 0, 0, 0, (⟨#[]⟩ : ByteArray), [], false) := Ev.step (f := fun k => some _) (fun k => by simp only [spec_l09Read.j0]; exact if_pos trivial) (Ev.now _)
 by_cases h7 : s.size < 7
 ·exact hbad hj (fun q => by have := q.1; omega) (fun k => by simp only [spec_l09Read.f]; exact if_pos (by omega)) rfl
 ·have hb : ∀ i (h : i < (bl s).length), wrap64 (bt s (i : Int)) = (((bl s)[i]'h).toNat : Int) := fun i h => by
   have := ((bl s)[i]'h).toNat_lt
   rw [bt_eq s i h, w64n _ (by omega)]
  have b0 : wrap64 (bt s 0) = _ := hb 0 (by omega)
  have b1 : wrap64 (bt s 1) = _ := hb 1 (by omega)
  have b2 : wrap64 (bt s 2) = _ := hb 2 (by omega)
  have b3 : wrap64 (bt s 3) = _ := hb 3 (by omega)
  have b4 : wrap64 (bt s 4) = _ := hb 4 (by omega)
  have t0 : numOf ((bl s).take 1) = ((bl s)[0]'(by omega)).toNat := by
   have := take_one (bl s) 0 (by omega)
   rw [List.drop_zero] at this
   rw [this, numOf_one]
  have t1 : numOf (((bl s).drop 1).take 1) = ((bl s)[1]'(by omega)).toNat := by rw [take_one _ 1 (by omega), numOf_one]
  have t2 : numOf (((bl s).drop 2).take 1) = ((bl s)[2]'(by omega)).toNat := by rw [take_one _ 2 (by omega), numOf_one]
  have t3 : numOf (((bl s).drop 3).take 1) = ((bl s)[3]'(by omega)).toNat := by rw [take_one _ 3 (by omega), numOf_one]
  have t4 : numOf (((bl s).drop 4).take 1) = ((bl s)[4]'(by omega)).toNat := by rw [take_one _ 4 (by omega), numOf_one]
  have l3 := ((bl s)[3]'(by omega)).toNat_lt
  have l4 := ((bl s)[4]'(by omega)).toNat_lt
  rw [← t0] at b0
  rw [← t1] at b1
  rw [← t2] at b2
  rw [← t3] at b3 l3
  rw [← t4] at b4 l4
  clear hb t0 t1 t2 t3 t4
  obtain ⟨z, hz⟩ : ∃ z, numOf (((bl s).drop 4).take 1) = z := ⟨_, rfl⟩
  obtain ⟨m, hm⟩ : ∃ m, numOf (((bl s).drop 3).take 1) = m := ⟨_, rfl⟩
  rw [hz] at b4 l4
  rw [hm] at b3 l3
  have B0 := Aside0.mk b0
  have B1 := Aside0.mk b1
  have B2 := Aside0.mk b2
  have B3 := Aside0.mk b3
  have B4 := Aside0.mk b4
  clear b0 b1 b2 b3 b4
  have E7 : Aside0 (wrap64 (7 + (z : Int)) = ((7 + z : Nat) : Int)) := ⟨by rw [w64 (by omega) (by omega)]; rfl⟩
  have hf : ∀ k, spec_l09Read.f k s = spec_l09Read.j0 k s (decide ((s.size : Int) < ((7 + z : Nat) : Int))) := fun k => by
   simp only [spec_l09Read.f, B4.out, E7.out]
   rw [if_neg (by omega), if_pos (by omega)]
  by_cases h8 : s.size < 7 + z
  ·exact hbad hj (fun q => by have := q.2; rw [hz] at this; omega) (fun k => by rw [hf k, decide_eq_true (by omega)]) rfl
  ·have x1 := ext_at s 5 2 (by omega)
   obtain ⟨K1, n1⟩ := specNum_ev (s.extract 5 7) (by show (bl (s.extract 5 (5 + 2))).length ≤ 6; rw [x1, List.length_take]; omega)
   have x1' : bl (s.extract 5 7) = ((bl s).drop 5).take 2 := x1
   rw [x1'] at n1
   have ebox : s.extract 7 (7 + z) = sm (((bl s).drop 7).take z) := bl_inj (by rw [bl_sm]; exact ext_at s 7 z (by omega))
   obtain ⟨r, ⟨K, hr⟩, ho⟩ := specM_loop s hs (numOf ((bl s).take 1) : Int) (numOf (((bl s).drop 5).take 2) : Int) (numOf (((bl s).drop 1).take 1) : Int) (numOf (((bl s).drop 2).take 1) : Int) (sm (((bl s).drop 7).take z)) m (7 + z) [] (by omega) (by simp only [List.length_nil]; omega)
   refine ⟨r, ⟨K1 + K + 1, fun k hk => ?_⟩, fun _ => ?_, fun q => absurd ?_ q⟩
   ·obtain ⟨j, rfl⟩ : ∃ j, k = j + 1 := ⟨k - 1, by omega⟩
    have f1 := n1 j (by omega)
    have f := hr j (by omega)
    simp only at f1 f
    refine (hf (j + 1)).trans ?_
    rw [decide_eq_false (by omega)]
    simp only [spec_l09Read.j0, f1, bS, B0.out, B1.out, B2.out, B3.out, B4.out, E7.out, Int.toNat_natCast, ebox]
    rw [if_neg (by decide), if_pos (by omega), if_pos (by omega), if_pos (by omega), if_pos (by omega), if_pos (by omega), if_pos (by omega), if_pos (by omega), if_pos (by omega), if_pos (by omega)]
    exact f
   ·rw [hz, hm]
    exact ho
   ·exact ⟨by omega, by rw [hz]; omega⟩
theorem implM_top (s : ByteArray) (hs : s.size ≤ 20000) : ∃ r, Ev (fun k => impl_readMutation.f k s) r ∧ readR (bl s) r := by
 have hsz := bl_size s
 obtain ⟨kind, R1, b1, ⟨K1, e1⟩, z1, v1, c1⟩ := num_step s false 1 (by omega)
 obtain ⟨mode, R2, b2, ⟨K2, e2⟩, z2, v2, c2⟩ := num_step R1 b1 1 (by omega)
 obtain ⟨flags, R3, b3, ⟨K3, e3⟩, z3, v3, c3⟩ := num_step R2 b2 1 (by omega)
 obtain ⟨items, R4, b4, ⟨K4, e4⟩, z4, v4, c4⟩ := num_step R3 b3 1 (by omega)
 obtain ⟨size, R5, b5, ⟨K5, e5⟩, z5, v5, c5⟩ := num_step R4 b4 1 (by omega)
 obtain ⟨uid, R6, b6, ⟨K6, e6⟩, z6, v6, c6⟩ := num_step R5 b5 2 (by omega)
 obtain ⟨box, R7, b7, e7, z7, y7, c7⟩ := text_step R6 b6 size
 have hchain : ∀ r, Ev (fun k => impl_readMutation.l0 k (items : Int) ((0 : Nat) : Int) R7 b7 (kind : Int) (uid : Int) (mode : Int) (flags : Int) box []) r → Ev (fun k => impl_readMutation.f k s) r := by
  rintro r ⟨K, e⟩
  refine ⟨K1 + K2 + K3 + K4 + K5 + K6 + K, fun k hk => ?_⟩
  have f1 : impl_taker_number.f k s false 1 = some ((kind : Int), R1, b1) := e1 k (by omega)
  have f2 : impl_taker_number.f k R1 b1 1 = some ((mode : Int), R2, b2) := e2 k (by omega)
  have f3 : impl_taker_number.f k R2 b2 1 = some ((flags : Int), R3, b3) := e3 k (by omega)
  have f4 : impl_taker_number.f k R3 b3 1 = some ((items : Int), R4, b4) := e4 k (by omega)
  have f5 : impl_taker_number.f k R4 b4 1 = some ((size : Int), R5, b5) := e5 k (by omega)
  have f6 : impl_taker_number.f k R5 b5 2 = some ((uid : Int), R6, b6) := e6 k (by omega)
  have f := e k (by omega)
  simp only at f
  show impl_readMutation.f k s = some r
  simp only [impl_readMutation.f, f1, f2, f3, f4, f5, f6, e7, bS]
  rw [if_neg (by omega)]
  exact f
 have st : ∀ {b b' : Bool} {p : Prop} {A : Prop}, ((b = false ∧ p) ∧ b' = false ∧ A ∨ ¬ (b = false ∧ p) ∧ b' = true) → b = true → b' = true := by
  intro b b' p A h hb
  rcases h with ⟨⟨q, _⟩, _⟩ | ⟨_, q⟩
  ·rw [hb] at q; cases q
  ·exact q
 have hbad : b7 = true → ¬ headOK (bl s) → ∃ r, Ev (fun k => impl_readMutation.f k s) r ∧ readR (bl s) r := by
  intro hb hn
  subst hb
  exact ⟨_, hchain _ (implM_bad _ _ _ _ _ _ _ _ _), fun q => absurd q hn, fun _ => rfl⟩
 have s6 : b6 = true → b7 = true := st c7
 have s5 : b5 = true → b7 = true := fun h => s6 (st c6 h)
 have s4 : b4 = true → b7 = true := fun h => s5 (st c5 h)
 have s3 : b3 = true → b7 = true := fun h => s4 (st c4 h)
 have s2 : b2 = true → b7 = true := fun h => s3 (st c3 h)
 have s1 : b1 = true → b7 = true := fun h => s2 (st c2 h)
 rcases c1 with ⟨⟨_, g1⟩, q1, w1, d1⟩ | ⟨g1, q1⟩
 rotate_left 1
 ·exact hbad (s1 q1) fun q => g1 ⟨rfl, by have := q.1; omega⟩
 have hs1 := bl_size R1
 rw [d1, List.length_drop] at hs1
 rcases c2 with ⟨⟨_, g2⟩, q2, w2, d2⟩ | ⟨g2, q2⟩
 rotate_left 1
 ·exact hbad (s2 q2) fun q => g2 ⟨q1, by have := q.1; omega⟩
 rw [d1] at w2 d2
 rw [List.drop_drop] at d2
 have hs2 := bl_size R2
 rw [d2, List.length_drop] at hs2
 rcases c3 with ⟨⟨_, g3⟩, q3, w3, d3⟩ | ⟨g3, q3⟩
 rotate_left 1
 ·exact hbad (s3 q3) fun q => g3 ⟨q2, by have := q.1; omega⟩
 rw [d2] at w3 d3
 rw [List.drop_drop] at d3
 have hs3 := bl_size R3
 rw [d3, List.length_drop] at hs3
 rcases c4 with ⟨⟨_, g4⟩, q4, w4, d4⟩ | ⟨g4, q4⟩
 rotate_left 1
 ·exact hbad (s4 q4) fun q => g4 ⟨q3, by have := q.1; omega⟩
 rw [d3] at w4 d4
 rw [List.drop_drop] at d4
 have hs4 := bl_size R4
 rw [d4, List.length_drop] at hs4
 rcases c5 with ⟨⟨_, g5⟩, q5, w5, d5⟩ | ⟨g5, q5⟩
 rotate_left 1
 ·exact hbad (s5 q5) fun q => g5 ⟨q4, by have := q.1; omega⟩
 rw [d4] at w5 d5
 rw [List.drop_drop] at d5
 have hs5 := bl_size R5
 rw [d5, List.length_drop] at hs5
 rcases c6 with ⟨⟨_, g6⟩, q6, w6, d6⟩ | ⟨g6, q6⟩
 rotate_left 1
 ·exact hbad (s6 q6) fun q => g6 ⟨q5, by have := q.1; omega⟩
 rw [d5] at w6 d6
 rw [List.drop_drop] at d6
 have hs6 := bl_size R6
 rw [d6, List.length_drop] at hs6
 rcases c7 with ⟨⟨_, g7⟩, q7, w7, d7⟩ | ⟨g7, q7⟩
 rotate_left 1
 ·exact hbad q7 fun q => g7 ⟨q6, by have := q.2; rw [w5]; have h4 : 1 + 1 + 1 + 1 = 4 := rfl; rw [h4]; omega⟩
 subst q7
 rw [d6] at w7 d7
 rw [List.drop_drop] at d7
 have l4 : (((bl s).drop (1 + 1 + 1)).take 1).length ≤ 1 := by rw [List.length_take]; omega
 have hit := numOf_small _ l4
 rw [← w4] at hit
 obtain ⟨r, hr, ho⟩ := implM_loop items (by omega) (kind : Int) (uid : Int) (mode : Int) (flags : Int) box items 0 R7 [] (by omega) (by omega) (by simp only [List.length_nil]; omega)
 refine ⟨r, hchain r hr, fun _ => ?_, fun q => absurd ⟨by omega, ?_⟩ q⟩
 ·have ebox : box = sm (((bl s).drop 7).take size) := bl_inj (by rw [bl_sm]; exact w7)
  have ed : bl R7 = (bl s).drop (7 + size) := d7
  have k5 : size = numOf (((bl s).drop 4).take 1) := w5
  have k4 : items = numOf (((bl s).drop 3).take 1) := w4
  have k3 : flags = numOf (((bl s).drop 2).take 1) := w3
  have k2 : mode = numOf (((bl s).drop 1).take 1) := w2
  have k6 : uid = numOf (((bl s).drop 5).take 2) := w6
  rw [← k5, ← k4, ← k3, ← k2, ← k6, ← w1, ← ebox, ← ed]
  exact ho
 ·have k5 : size = numOf (((bl s).drop 4).take 1) := w5
  rw [← k5]
  omega
/-- Both tell the same. -/
theorem readM_both (l : List Int) (hw : (strOfNums l).size = l.length) (hl : l.length ≤ 1048576) : ∃ a b c d t its code, Ev (fun k => spec_ReadMutation.f k l) (a, b, c, d, t, its, code) ∧ Ev (fun k => impl_ReadMutation.f k l) (a, b, c, d, t, its, code) ∧ its.length ≤ 1000 := by
 by_cases h1 : (l.length : Int) > 65536
 ·exact ⟨_, _, _, _, _, _, _, Ev.congr (f := fun k => some _) (fun k => by simp only [spec_ReadMutation.f]; exact if_pos h1) (Ev.now _), Ev.congr (f := fun k => some _) (fun k => by simp only [impl_ReadMutation.f]; exact if_pos h1) (Ev.now _), Nat.zero_le _⟩
 ·obtain ⟨p, hp, hpr⟩ := specM_top (strOfNums l) (by omega)
  have hS : ∀ r, Ev (fun k => if p.2.2.2.2.2.2 = true then (if (l.length : Int) > 20000 then (some (0, 0, 0, 0, (⟨#[]⟩ : ByteArray), ([] : List S93), 3)) else (some (p.1, p.2.1, p.2.2.1, p.2.2.2.1, p.2.2.2.2.1, p.2.2.2.2.2.1, 0))) else (some (0, 0, 0, 0, (⟨#[]⟩ : ByteArray), ([] : List S93), 3))) r → Ev (fun k => spec_ReadMutation.f k l) r := by
   rintro r ⟨K, h⟩
   obtain ⟨K2, hp⟩ := hp
   refine ⟨K + K2, fun k hk => ?_⟩
   have f1 := hp k (by omega)
   have f2 := h k (by omega)
   simp only at f1 f2
   simp only [spec_ReadMutation.f, f1, bS]
   rw [if_neg h1]
   exact f2
  have hI : ∀ q r, Ev (fun k => impl_readMutation.f k (strOfNums l)) q → (if q.2.2.2.2.2.2 = true then (some (q.1, q.2.1, q.2.2.1, q.2.2.2.1, q.2.2.2.2.1, q.2.2.2.2.2.1, 0)) else (some (0, 0, 0, 0, (⟨#[]⟩ : ByteArray), ([] : List S93), 3))) = some r → Ev (fun k => impl_ReadMutation.f k l) r := by
   rintro q r ⟨K, h⟩ e
   refine ⟨K, fun k hk => ?_⟩
   have f1 := h k (by omega)
   simp only at f1
   simp only [impl_ReadMutation.f, f1, bS]
   rw [if_neg h1]
   exact e
  by_cases h2 : (l.length : Int) > 20000
  ·refine ⟨0, 0, 0, 0, (⟨#[]⟩ : ByteArray), [], 3, hS _ (Ev.congr (f := fun k => some _) (fun k => ?_) (Ev.now _)), hI (0, 0, 0, 0, (⟨#[]⟩ : ByteArray), [], false) _ (Ev.congr (f := fun k => some _) (fun k => ?_) (Ev.now _)) (if_neg (fun h => by cases h)), Nat.zero_le _⟩
   ·rw [if_pos h2]
    split <;> rfl
   ·simp only [impl_readMutation.f]; exact if_pos (by omega)
  ·obtain ⟨q, hq, hqr⟩ := implM_top (strOfNums l) (by omega)
   have hno : p.2.2.2.2.2.2 = false → q.2.2.2.2.2.2 = false → ∃ a b c d t its code, Ev (fun k => spec_ReadMutation.f k l) (a, b, c, d, t, its, code) ∧ Ev (fun k => impl_ReadMutation.f k l) (a, b, c, d, t, its, code) ∧ its.length ≤ 1000 := by
    intro f1 f2
    refine ⟨0, 0, 0, 0, (⟨#[]⟩ : ByteArray), [], 3, hS _ (Ev.congr (f := fun k => some _) (fun k => ?_) (Ev.now _)), hI q _ hq (if_neg (fun h => by rw [f2] at h; cases h)), Nat.zero_le _⟩
    exact if_neg (fun h => by rw [f1] at h; cases h)
   by_cases hh : headOK (bl (strOfNums l))
   ·have o1 := hpr.1 hh
    have o2 := hqr.1 hh
    have hi3 : (((bl (strOfNums l)).drop 3).take 1).length ≤ 1 := by rw [List.length_take]; omega
    have hi := numOf_small _ hi3
    cases hlo : loopM (numOf (((bl (strOfNums l)).drop 3).take 1)) ((bl (strOfNums l)).drop (7 + numOf (((bl (strOfNums l)).drop 4).take 1))) [] with
    | none =>
     rw [hlo] at o1 o2
     exact hno o1 o2
    | some its =>
     rw [hlo] at o1 o2
     have hlen := loopM_len _ _ _ _ hlo
     have hpq : p = q := Eq.trans o1 (Eq.symm o2)
     subst hpq
     cases hb : p.2.2.2.2.2.2 with
     | false => exact hno hb hb
     | true =>
      refine ⟨p.1, p.2.1, p.2.2.1, p.2.2.2.1, p.2.2.2.2.1, p.2.2.2.2.2.1, 0, ?_, ?_, ?_⟩
      ·refine hS _ (Ev.congr (f := fun k => some _) (fun k => ?_) (Ev.now _))
       rw [if_pos hb, if_neg h2]
      ·exact hI p _ hq (if_pos hb)
      ·have : p.2.2.2.2.2.1 = its := by rw [show p = _ from o1]
       rw [this]
       simp only [List.length_nil] at hlen
       omega
   ·exact hno (hpr.2 hh) (hqr.2 hh)
end Go.Proofs.Ytdmkijkmeoinoaa.P
/- Lemmas of mine: the mark of a number. Plain. -/
set_option linter.unusedVariables false
set_option linter.unusedSimpArgs false
namespace Go.Proofs.Ytdmkijkmeoinoaa.P
open Go.RowKit Go.Proofs.YtdmkijkmeoinoaaW.PrintWords
theorem markText_l0 : ∀ (d n : Nat) (x : ByteArray), n < 10 ^ d → n ≤ 9223372036854775807 → x.size + d ≤ 1000 → ∃ t, Ev (fun k => laws_markText.l0 k (n : Int) x) t := by
 intro d
 induction d with
 | zero =>
  intro n x hn hn9 hx
  have : n = 0 := by simpa using hn
  subst this
  refine ⟨(⟨#[109]⟩ : ByteArray) ++ x, Ev.step (f := fun _ => some ((⟨#[109]⟩ : ByteArray) ++ x)) (fun k => ?_) (Ev.now _)⟩
  simp only [laws_markText.l0]
  rw [if_neg (by omega), if_pos (by omega)]
 | succ d ih =>
  intro n x hn hn9 hx
  by_cases h0 : n = 0
  ·subst h0
   refine ⟨(⟨#[109]⟩ : ByteArray) ++ x, Ev.step (f := fun _ => some ((⟨#[109]⟩ : ByteArray) ++ x)) (fun k => ?_) (Ev.now _)⟩
   simp only [laws_markText.l0]
   rw [if_neg (by omega), if_pos (by omega)]
  ·have hp : 10 ^ (d + 1) = 10 ^ d * 10 := rfl
   have hs : (strOfNums [(wrap64 (48 + (Int.tmod (n : Int) 10))) % 256]).size = 1 := by rw [strOfNums_size]; rfl
   obtain ⟨t, ht⟩ := ih (n / 10) (strOfNums [(wrap64 (48 + (Int.tmod (n : Int) 10))) % 256] ++ x) (by omega) (by omega) (by rw [ByteArray.size_append, hs]; omega)
   refine ⟨t, Ev.step (f := fun k => laws_markText.l0 k ((n / 10 : Nat) : Int) (strOfNums [(wrap64 (48 + (Int.tmod (n : Int) 10))) % 256] ++ x)) (fun k => ?_) ht⟩
   have hw : ∀ m : Int, 0 ≤ m → m ≤ n → wrap64 m = m ∨ True := fun _ _ _ => .inr trivial
   simp only [laws_markText.l0, Option.bind_some]
   rw [if_pos (by omega), if_pos (by rw [hs]; omega)]
   have hq : Int.tdiv (n : Int) 10 = ((n / 10 : Nat) : Int) := rfl
   rw [hq]
   rw [w64n _ (by omega)]
theorem markText_some (n : Nat) (hn : n < 10 ^ 18) : ∃ t, Ev (fun k => laws_markText.f k (n : Int)) t := by
 by_cases h0 : (n : Int) ≤ 0
 ·refine ⟨(⟨#[109, 48]⟩ : ByteArray), ⟨0, fun k _ => ?_⟩⟩
  simp only [laws_markText.f]
  rw [if_pos h0]
 ·obtain ⟨t, ht⟩ := markText_l0 18 n ⟨#[]⟩ hn (Nat.le_trans (Nat.le_of_lt hn) (by decide)) (by decide)
  refine ⟨t, Ev.congr (fun k => ?_) ht⟩
  simp only [laws_markText.f]
  rw [if_neg h0]
open Classical in
/-- The mark of a number. -/
noncomputable def mt (n : Nat) : ByteArray := if h : ∃ t, Ev (fun k => laws_markText.f k (n : Int)) t then h.choose else ⟨#[]⟩
theorem mt_ev (n : Nat) (hn : n < 10 ^ 18) : Ev (fun k => laws_markText.f k (n : Int)) (mt n) := by
 unfold mt
 rw [dif_pos (markText_some n hn)]
 exact (markText_some n hn).choose_spec
end Go.Proofs.Ytdmkijkmeoinoaa.P
/- Lemmas of mine: the marks of a row of items, of a row of bytes; rows are as themselves. Plain. -/
set_option linter.unusedVariables false
set_option linter.unusedSimpArgs false
namespace Go.Proofs.Ytdmkijkmeoinoaa.P
open Go.RowKit Go.Proofs.YtdmkijkmeoinoaaW.PrintWords
noncomputable def its : Nat → Nat → List S93
 | _, 0 => []
 | n, m + 1 => ⟨mt n, mt (n + 1)⟩ :: its (n + 2) m
theorem its_length : ∀ m n, (its n m).length = m
 | 0, _ => rfl
 | m + 1, n => by rw [its, List.length_cons, its_length m]
theorem markI_l0 : ∀ (d i n : Nat) (xs : List S93), i + d = xs.length → xs.length ≤ 4611686018427387904 → n + 2 * d < 10 ^ 18 →
  Ev (fun k => laws_markItemS.l0 k xs (n : Int) (i : Int)) (((n + 2 * d : Nat) : Int), xs.take i ++ its n d) := by
 have hp : (10 : Nat) ^ 18 = 1000000000000000000 := by decide
 intro d
 induction d with
 | zero =>
  intro i n xs hi hx hn
  refine Ev.step (f := fun _ => some _) (fun k => ?_) (Ev.now _)
  simp only [laws_markItemS.l0]
  rw [if_neg (by omega), List.take_of_length_le (by omega)]
  simp [its]
 | succ d ih =>
  intro i n xs hi hx hn
  obtain ⟨K1, m1⟩ := mt_ev n (by omega)
  obtain ⟨K2, m2⟩ := mt_ev (n + 1) (by omega)
  obtain ⟨K, h⟩ := ih (i + 1) (n + 2) (xs.set i ⟨mt n, mt (n + 1)⟩) (by rw [List.length_set]; omega) (by rw [List.length_set]; omega) (by omega)
  have e : (xs.set i (⟨mt n, mt (n + 1)⟩ : S93)).take (i + 1) ++ its (n + 2) d = xs.take i ++ its n (d + 1) := by
   rw [List.take_set, List.take_add_one, List.getElem?_eq_getElem (by omega)]
   have hl : (xs.take i).length = i := by rw [List.length_take]; omega
   rw [List.set_append_right _ _ (by omega), hl, Nat.sub_self]
   simp only [Option.toList, List.set_cons_zero, List.append_assoc, List.cons_append, List.nil_append, its]
  rw [e, show n + 2 + 2 * d = n + 2 * (d + 1) by omega] at h
  refine ⟨K1 + K2 + K + 1, fun k hk => ?_⟩
  obtain ⟨j, rfl⟩ : ∃ j, k = j + 1 := ⟨k - 1, by omega⟩
  have f1 := m1 j (by omega)
  have f2 := m2 j (by omega)
  have f := h j (by omega)
  simp only at f1 f2 f
  have w1 : Aside0 (wrap64 ((n : Int) + 1) = ((n + 1 : Nat) : Int)) := ⟨w64s n (by omega)⟩
  have w2 : Aside0 (wrap64 (((n + 1 : Nat) : Int) + 1) = ((n + 2 : Nat) : Int)) := ⟨w64s (n + 1) (by omega)⟩
  have w3 : Aside0 (wrap64 ((i : Int) + 1) = ((i + 1 : Nat) : Int)) := ⟨w64s i (by omega)⟩
  have hrd : rd_T93 (xs.set i (⟨mt n, (rd_T93 xs (i : Int)).f1⟩ : S93)) (i : Int) = ⟨mt n, (rd_T93 xs (i : Int)).f1⟩ := by
   simp only [rd_T93, Int.toNat_natCast, List.getD_eq_getElem?_getD]
   rw [List.getElem?_set_self (by omega)]
   rfl
  simp only [laws_markItemS.l0, f1, bS, w1.out, w2.out, w3.out, f2, Int.toNat_natCast, hrd, List.set_set]
  rw [if_pos (by omega), if_pos (by omega)]
  exact f
theorem markI_ev (xs : List S93) (n : Nat) (hx : xs.length ≤ 4611686018427387904) (hn : n + 2 * xs.length < 10 ^ 18) : Ev (fun k => laws_markItemS.f k xs (n : Int)) (((n + 2 * xs.length : Nat) : Int), its n xs.length) := by
 have h := markI_l0 xs.length 0 n xs (by omega) hx hn
 rw [List.take_zero, List.nil_append] at h
 exact h
theorem heldI_l0 (ys : List S93) (hy : ys.length ≤ 4611686018427387904) : ∀ (d i n : Nat), i + d = ys.length → ys.drop i = its n d → n + 2 * d < 10 ^ 18 → Ev (fun k => laws_heldItemS.l0 k ys (n : Int) (i : Int)) ((n + 2 * d : Nat) : Int) := by
 have hp : (10 : Nat) ^ 18 = 1000000000000000000 := by decide
 intro d
 induction d with
 | zero =>
  intro i n hi hd hn
  refine Ev.step (f := fun _ => some _) (fun k => ?_) (Ev.now _)
  simp only [laws_heldItemS.l0]
  rw [if_neg (by omega)]
  rfl
 | succ d ih =>
  intro i n hi hd hn
  have hlt : i < ys.length := by omega
  rw [List.drop_eq_getElem_cons hlt, its] at hd
  injection hd with h1 h2
  have hr : rd_T93 ys (i : Int) = ⟨mt n, mt (n + 1)⟩ := by
   simp only [rd_T93, Int.toNat_natCast, List.getD_eq_getElem?_getD]
   rw [List.getElem?_eq_getElem hlt, h1]
   rfl
  obtain ⟨K1, m1⟩ := mt_ev n (by omega)
  obtain ⟨K2, m2⟩ := mt_ev (n + 1) (by omega)
  obtain ⟨K, h⟩ := ih (i + 1) (n + 2) (by omega) h2 (by omega)
  rw [show n + 2 + 2 * d = n + 2 * (d + 1) by omega] at h
  refine ⟨K1 + K2 + K + 1, fun k hk => ?_⟩
  obtain ⟨j, rfl⟩ : ∃ j, k = j + 1 := ⟨k - 1, by omega⟩
  have f1 := m1 j (by omega)
  have f2 := m2 j (by omega)
  have f := h j (by omega)
  simp only at f1 f2 f
  have w1 : Aside0 (wrap64 ((n : Int) + 1) = ((n + 1 : Nat) : Int)) := ⟨w64s n (by omega)⟩
  have w2 : Aside0 (wrap64 (((n + 1 : Nat) : Int) + 1) = ((n + 2 : Nat) : Int)) := ⟨w64s (n + 1) (by omega)⟩
  have w3 : Aside0 (wrap64 ((i : Int) + 1) = ((i + 1 : Nat) : Int)) := ⟨w64s i (by omega)⟩
  simp only [laws_heldItemS.l0, hr, f1, bS, w1.out, w2.out, w3.out, f2]
  rw [if_pos (by omega), if_pos (by omega), if_pos trivial, if_pos trivial]
  exact f
theorem heldI_ev (n m : Nat) (hm : m ≤ 4611686018427387904) (hn : n + 2 * m < 10 ^ 18) : Ev (fun k => laws_heldItemS.f k (its n m) (n : Int)) ((n + 2 * m : Nat) : Int) :=
 heldI_l0 (its n m) (by rw [its_length]; exact hm) m 0 n (by rw [its_length]; omega) rfl hn
theorem eqI_self (ys : List S93) (h : ys.length ≤ 4611686018427387904) : Ev (fun k => laws_eqItemS.f k ys ys) true := by
 refine Ev.congr (f := fun k => laws_eqItemS.l0 k ys ys ((0 : Nat) : Int)) (fun k => ?_)
  (up_loop (fun k i => laws_eqItemS.l0 k ys ys i) ys.length true ?_ ⟨0, fun k _ => ?_⟩ ys.length 0 (by omega))
 ·unfold laws_eqItemS.f
  exact if_pos rfl
 ·intro i hi
  refine ⟨0, fun k _ => ?_⟩
  simp only [laws_eqItemS.l0, laws_eqItem.f, if_true, bS]
  rw [if_pos (by omega), if_pos (by omega), if_pos (by omega), w64s i (by omega)]
 ·simp only [laws_eqItemS.l0]
  rw [if_neg (by omega)]
end Go.Proofs.Ytdmkijkmeoinoaa.P
/- Lemmas of mine: a row of bytes copied, marked, as itself. Plain. -/
set_option linter.unusedVariables false
set_option linter.unusedSimpArgs false
namespace Go.Proofs.Ytdmkijkmeoinoaa.P
open Go.RowKit Go.Proofs.YtdmkijkmeoinoaaW.PrintWords
theorem rd_nat (xs : List Int) (i : Nat) (h : i < xs.length) : rd xs (i : Int) = xs[i]'h := getD_nat xs _ i h
theorem toB_ev (xs : List Int) (h : xs.length ≤ 281474976710656) : Ev (fun k => laws_toByteS.f k xs) xs := by
 have hc := copy_loop (fun k ys i => laws_toByteS.l0 k xs ys i) xs (fun y => y) (fun i ys hi hl => ⟨0, fun k _ => by
  simp only [laws_toByteS.l0, rd_nat xs i hi]
  rw [if_pos (by omega), if_pos (by omega), if_pos (by omega), w64s i (by omega), Int.toNat_natCast]⟩) (fun ys hl => ⟨0, fun k _ => by
  simp only [laws_toByteS.l0]
  rw [if_neg (by omega)]⟩) xs.length 0 (List.replicate xs.length 0) (by omega) (by simp) (by simp)
 rw [List.map_id'] at hc
 refine Ev.congr (fun k => ?_) hc
 simp only [laws_toByteS.f, Int.toNat_natCast]
 rw [if_pos (by omega), if_pos h]
 rfl
theorem eqB_self (ys : List Int) (h : ys.length ≤ 4611686018427387904) : Ev (fun k => laws_eqByteS.f k ys ys) true := by
 refine Ev.congr (f := fun k => laws_eqByteS.l0 k ys ys ((0 : Nat) : Int)) (fun k => ?_)
  (up_loop (fun k i => laws_eqByteS.l0 k ys ys i) ys.length true ?_ ⟨0, fun k _ => ?_⟩ ys.length 0 (by omega))
 ·unfold laws_eqByteS.f
  exact if_pos rfl
 ·intro i hi
  refine ⟨0, fun k _ => ?_⟩
  simp only [laws_eqByteS.l0, if_true]
  rw [if_pos (by omega), if_pos (by omega), if_pos (by omega), w64s i (by omega)]
 ·simp only [laws_eqByteS.l0]
  rw [if_neg (by omega)]
theorem markB_l0 : ∀ (d i n : Nat) (xs : List Int), i + d = xs.length → xs.length ≤ 4611686018427387904 → n + d ≤ 4611686018427387904 → ∃ ys, Ev (fun k => laws_markByteS.l0 k xs (n : Int) (i : Int)) (((n + d : Nat) : Int), ys)
 | 0, i, n, xs, hi, hx, hn => ⟨xs, Ev.step (f := fun _ => some _) (fun k => by simp only [laws_markByteS.l0]; rw [if_neg (by omega)]; rfl) (Ev.now _)⟩
 | d + 1, i, n, xs, hi, hx, hn => by
  obtain ⟨ys, h⟩ := markB_l0 d (i + 1) (n + 1) (xs.set i ((n : Int) % 256)) (by rw [List.length_set]; omega) (by rw [List.length_set]; omega) (by omega)
  rw [show n + 1 + d = n + (d + 1) by omega] at h
  refine ⟨ys, Ev.step (fun k => ?_) h⟩
  have w1 : Aside0 (wrap64 ((n : Int) + 1) = ((n + 1 : Nat) : Int)) := ⟨w64s n (by omega)⟩
  simp only [laws_markByteS.l0, w1.out, Int.toNat_natCast]
  rw [if_pos (by omega), if_pos (by omega), w64s i (by omega)]
theorem markB_ev (xs : List Int) (n : Nat) (hx : xs.length ≤ 4611686018427387904) (hn : n + xs.length ≤ 4611686018427387904) : ∃ ys, Ev (fun k => laws_markByteS.f k xs (n : Int)) (((n + xs.length : Nat) : Int), ys) := markB_l0 xs.length 0 n xs (by omega) hx hn
end Go.Proofs.Ytdmkijkmeoinoaa.P
/- The pure statement of the law FnExactReadMutation: the two ReadMutation tell the same, in memory of their own. No condition. -/
set_option linter.unusedVariables false
set_option linter.unusedSimpArgs false
namespace Go.Proofs.Ytdmkijkmeoinoaa.P
open Go.RowKit Go.Proofs.YtdmkijkmeoinoaaW.PrintWords
theorem eqM_self (a b c d : Int) (s : ByteArray) (ys : List S93) (h : ys.length ≤ 4611686018427387904) : Ev (fun k => laws_eqMutation.f k a b c d s ys a b c d s ys) true := by
 obtain ⟨K, hK⟩ := eqI_self ys h
 exact ⟨K, fun k hk => by simp only [laws_eqMutation.f, hK k hk, bS, if_true]⟩
end Go.Proofs.Ytdmkijkmeoinoaa.P
namespace Go.Proofs.Ytdmkijkmeoinoaa.Pure
open Go.RowKit Go.Proofs.Ytdmkijkmeoinoaa.P Go.Proofs.YtdmkijkmeoinoaaW.PrintWords
theorem FnExactReadMutation : laws_FnExactReadMutation.Pure := by
 intro x hx
 refine Ev.k (?_ : Ev (fun k => laws_FnExactReadMutation.f k x) true)
 have hp : (10 : Nat) ^ 18 = 1000000000000000000 := by decide
 by_cases h1 : (x.length : Int) > 1048576
 ·exact Ev.congr (f := fun _ => some _) (fun k => by simp only [laws_FnExactReadMutation.f]; exact if_pos h1) (Ev.now _)
 ·have hsz : (strOfNums x).size = x.length := by rw [bl_size]; unfold bl strOfNums; simp
  obtain ⟨K1, toB⟩ := toB_ev x (by omega)
  obtain ⟨a, b, c, d, t, its', code, ⟨K2, sp⟩, ⟨K3, im⟩, hlen⟩ := readM_both x hsz (by omega)
  obtain ⟨K4, eqM⟩ := eqM_self a b c d t its' (by omega)
  obtain ⟨K5, eqB⟩ := eqB_self x (by omega)
  obtain ⟨ys, K6, mkB⟩ := markB_ev x 1 (by omega) (by omega)
  obtain ⟨K7, mkI⟩ := markI_ev its' 1 (by omega) (by omega)
  obtain ⟨K8, hdI⟩ := heldI_ev 1 its'.length (by omega) (by omega)
  have hb : (code != code) = false := by simp
  refine ⟨K1 + K2 + K3 + K4 + K5 + K6 + K7 + K8 + 10, fun k hk => ?_⟩
  have F : ∀ j, K1 + K2 + K3 + K4 + K5 + K6 + K7 + K8 ≤ j → (laws_toByteS.f j x = some x ∧ spec_ReadMutation.f j x = some (a, b, c, d, t, its', code) ∧ impl_ReadMutation.f j x = some (a, b, c, d, t, its', code) ∧ laws_eqMutation.f j a b c d t its' a b c d t its' = some true) ∧
    laws_eqByteS.f j x x = some true ∧ laws_markByteS.f j x 1 = some (((1 + x.length : Nat) : Int), ys) ∧ laws_markItemS.f j its' 1 = some (((1 + 2 * its'.length : Nat) : Int), its 1 its'.length) ∧ laws_heldItemS.f j (its 1 its'.length) 1 = some ((1 + 2 * its'.length : Nat) : Int) := fun j hj =>
   ⟨⟨toB j (by omega), sp j (by omega), im j (by omega), eqM j (by omega)⟩, eqB j (by omega), mkB j (by omega), mkI j (by omega), hdI j (by omega)⟩
  clear toB sp im eqM eqB mkB mkI hdI
  have hheld : ∀ j a b c d t, K1 + K2 + K3 + K4 + K5 + K6 + K7 + K8 ≤ j → laws_heldMutation.f j a b c d t (its 1 its'.length) 1 = some ((1 + 2 * its'.length : Nat) : Int) := fun j a b c d t hj => by
   simp only [laws_heldMutation.f, (F j hj).2.2.2.2, bS]
   rw [if_neg (by omega)]
  have hmark : ∀ j, K1 + K2 + K3 + K4 + K5 + K6 + K7 + K8 ≤ j → laws_markMutation.f j a b c d t its' 1 = some (((1 + 2 * its'.length : Nat) : Int), its 1 its'.length) := fun j hj => by
   simp only [laws_markMutation.f, (F j hj).2.2.2.1, bS]
  have j2 : ∀ j, K1 + K2 + K3 + K4 + K5 + K6 + K7 + K8 ≤ j → laws_FnExactReadMutation.j2 (j + 1) ((1 + 2 * its'.length : Nat) : Int) false a b c d t (its 1 its'.length) = some true := fun j hj => by
   simp only [laws_FnExactReadMutation.j2, hheld j _ _ _ _ _ hj, bS]
   rw [if_neg (by decide), if_neg (by omega), if_pos trivial]
  have j1 : ∀ j, K1 + K2 + K3 + K4 + K5 + K6 + K7 + K8 ≤ j → laws_FnExactReadMutation.j1 (j + 1 + 1) x code false a b c d t its' a b c d t its' = some true := fun j hj => by
   obtain ⟨⟨f1, f2, f3, f4⟩, f5, f6, f7, f8⟩ := F (j + 1) (by omega)
   simp only [laws_FnExactReadMutation.j1, hmark (j + 1) (by omega), hheld (j + 1) _ _ _ _ _ (by omega), bS, f1, f3, f4, hb]
   rw [if_neg (by decide), if_neg (by omega), if_pos trivial, if_pos trivial]
   exact j2 j hj
  have j0 : ∀ j, K1 + K2 + K3 + K4 + K5 + K6 + K7 + K8 ≤ j → laws_FnExactReadMutation.j0 (j + 1 + 1 + 1) x code x code false a b c d t its' a b c d t its' = some true := fun j hj => by
   obtain ⟨⟨f1, f2, f3, f4⟩, f5, f6, f7, f8⟩ := F (j + 1 + 1) (by omega)
   simp only [laws_FnExactReadMutation.j0, f1, f5, f6, f4, bS, hb]
   rw [if_neg (by decide), if_pos trivial, if_neg (by omega), if_pos trivial]
   exact j1 j hj
  obtain ⟨j, rfl⟩ : ∃ j, k = j + 1 + 1 + 1 := ⟨k - 3, by omega⟩
  obtain ⟨⟨f1, f2, f3, f4⟩, f5, f6, f7, f8⟩ := F (j + 1 + 1 + 1) (by omega)
  show laws_FnExactReadMutation.f (j + 1 + 1 + 1) x = some true
  simp only [laws_FnExactReadMutation.f, f1, f2, f3, f4, bS, hb]
  rw [if_neg h1, if_pos trivial]
  exact j0 j (by omega)
end Go.Proofs.Ytdmkijkmeoinoaa.Pure
/- The row of the law FnExactReadMutation: for every input the call returns true and each argument reads behind the call as it read before. No condition of mine. -/
namespace Go.Proofs.Ytdmkijkmeoinoaa.fnExactReadMutation
open Go.ChangeShapes Go.WideShapes Go.ChangeAt Go.RowKit Go.Proofs.Ytdmkijkmeoinoaa.P Go.Proofs.YtdmkijkmeoinoaaW.PrintWords
open Go.ChangeMaps (open_string shut_string)
set_option linter.unusedVariables false
theorem own : ownKnob Try.prog.godebug = none := by kernel_rfl
theorem laidOut : laidOutB Try.prog = true := by kernel_rfl
set_option maxRecDepth 100000 in
theorem lifted (os : Os) (started : os.Started) (H : Type) (enc : TypeId × Value → H) :
    ReturnsInHanded {} Try.checked os 3 .any (Rows.fnExactReadMutationSpec.pre6 enc Try.prog Try.f3 Rows.fnExactReadMutationRow.domain false) (Rows.fnExactReadMutationSpec.post enc Try.prog Try.f3 false true false false) := by
  refine returnsInHanded_of_change_sized (C := Try.checked) own started (by kernel_rfl) Try.func3
    (ChangeSpec.witness6 (enc := enc) (C := Try.checked) false ⟨#[], #[.slice none 0 0], []⟩ 8 (by kernel_rfl) (by kernel_rfl) (by kernel_rfl) (by kernel_rfl)) ?_
  intro W base args ds gs before hval0 hW hcnd hsz0 _
  have hsz : (DataW.weightsEach Try.prog (Try.f3.params.toList ++ Rows.fnExactReadMutationSpec.plain.varTypes Try.prog) (ds ++ gs)).all (· ≤ reachBytes) = true := hsz0
  have hval : ∀ (j : Nat) t v, Try.f3.params[j]? = some t → args[j]? = some v → Value.okWide Try.prog W .any base t v := hval0
  have hW' := hW
  obtain ⟨p, q, hA0, hV, rfl, hfz, hnd⟩ := hW
  have hA : DataW.TrodAll enc Try.prog W 0 (fun _ => true) true Try.f3.params.toList args.toList ds p := hA0
  rw [Try.params3] at hA hval hsz
  obtain ⟨v0, vs0, d0, ds0, p0, q0, hargs, rfl, rfl, h0, r0⟩ := trodAll_cons hA
  obtain ⟨rfl, rfl, rfl⟩ := trodAll_nil r0
  obtain rfl : args = #[v0] := by cases args; simp_all
  obtain ⟨rfl, rfl⟩ := trodVars_none hV
  have kk0 := h0
  have lt0 : ∀ x ∈ p0, x.block < W.heap.size := by obtain ⟨m, hm⟩ := kk0; exact DataW.trod_lt m _ _ _ hm
  obtain ⟨x0, hK0, hS0⟩ := Tells.arg (Tells.slice (b := 1) Try.underlying22 (by kernel_rfl) (by kernel_rfl) (Tells.int Try.underlying5)) h0 hsz (j := 0) (t := 22) rfl rfl
  obtain ⟨a0, len0, cap0, rfl⟩ := okWide_slice Try.underlying22 (hval 0 22 v0 rfl rfl)
  obtain ⟨A0, c0, hq0, hl0, hC0⟩ := hK0
  obtain ⟨rfl, rfl, rfl⟩ : a0 = A0 ∧ len0 = x0.length ∧ cap0 = c0 := by simpa [Value.cells] using hq0
  clear hA0 hval0 hsz0 hsz
  obtain ⟨k, h⟩ := Pure.FnExactReadMutation x0 hS0
  refine (laws_FnExactReadMutation.calls k _ _ x0 true W hC0 hl0 h).mono fun e W' ⟨he, bel0⟩ => ?_
  have bel : Below W.heap.size W W' := bel0
  subst he
  exact ⟨_, rfl, _, _, _, [], _, [], hW', trodAll_mk1 (shut_bool Try.underlying4 _), (trodAll_cons_mk (Below.trod laidOut (by kernel_rfl) (of_decide_eq_true (by kernel_rfl)) kk0 bel lt0) trodAll_mk0), rfl, bel.frame _, fun h => by cases h⟩
theorem over : Rows.fnExactReadMutationRow.holds Try.pinned (OpenSpec.ofChange Rows.fnExactReadMutationSpec) :=
  OpenClaim.holds_of_wide 3 Try.f3 rfl rfl rfl rfl rfl rfl rfl ⟨rfl, rfl, rfl, rfl, rfl⟩ rfl rfl rfl rfl rfl (by kernel_rfl) Try.func3 (by kernel_rfl)
    (of_decide_eq_true (by kernel_rfl)) (by unfold Func.isWrapper; first | (rw [if_pos (by decide +kernel)]; kernel_rfl) | (rw [if_neg (by decide +kernel)]; exact ⟨rfl, rfl⟩))
    (fun os started H enc _ => lifted os started H enc)
theorem proved : Rows.FnExactReadMutationSaid := over
#print axioms proved
end Go.Proofs.Ytdmkijkmeoinoaa.fnExactReadMutation
namespace Go.Proofs.Ytdmkijkmeoinoaa
/-- The statement, under a short name, for the claim. -/
theorem fnExactReadMutation_holds : Rows.FnExactReadMutationSaid := fnExactReadMutation.proved
end Go.Proofs.Ytdmkijkmeoinoaa
