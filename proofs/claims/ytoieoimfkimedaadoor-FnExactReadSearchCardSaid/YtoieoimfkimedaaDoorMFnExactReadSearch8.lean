/- Part 8 of what the law FnExactReadSearch stands on; the last part ends with the law's row. No condition of mine. -/
import Derived.Test.YtoieoimfkimedaaDoorMFnExactReadSearch7
import Derived.Test.YtoieoimfkimedaaDoorMFnExactReadSearch3
import Derived.Test.YtoieoimfkimedaaDoorMFnExactReadSearch5
import Derived.Test.YtoieoimfkimedaaDoorMFnExactReadSearch2
import Derived.Test.YtoieoimfkimedaaDoorMFnExactReadSearch4
import Derived.Test.YtoieoimfkimedaaDoorMFnExactReadSearch6
/- Lemmas of mine: a text cut at a sign: the reference's cut and the library's Split at a sign of one byte give the same pieces. Plain. -/
set_option linter.unusedVariables false
set_option linter.unusedSimpArgs false
namespace Go.Proofs.YtoieoimfkimedaaDoor.P
open Go.RowKit Go.Proofs.YtoieoimfkimedaaDoorW.PrintWords
/-- The pieces of a text, some bytes having been read of the first. -/
def cutA (c : UInt8) : List UInt8 → List UInt8 → List (List UInt8)
 | acc, [] => [acc]
 | acc, b :: r => if b = c then acc :: cutA c [] r else cutA c (acc ++ [b]) r
def mkB (l : List UInt8) : ByteArray := ⟨l.toArray⟩
theorem mkB_bl (s : ByteArray) : mkB (bl s) = s := mk_bl s
theorem bl_mkB (l : List UInt8) : bl (mkB l) = l := bl_mk l
/-- The pieces of a text. -/
def cutB (c : UInt8) (s : ByteArray) : List ByteArray := (cutA c [] (bl s)).map mkB
theorem cutA_free (c : UInt8) : ∀ (p acc r : List UInt8), c ∉ p → cutA c acc (p ++ r) = cutA c (acc ++ p) r
 | [], acc, r, _ => by simp
 | b :: p, acc, r, h => by
  have h1 : b ≠ c := fun e => h (by rw [e]; exact List.mem_cons_self ..)
  rw [List.cons_append, cutA, if_neg h1, cutA_free c p (acc ++ [b]) r (fun e => h (List.mem_cons_of_mem _ e))]
  simp
theorem cutA_none (c : UInt8) (l : List UInt8) (h : c ∉ l) : cutA c [] l = [l] := by
 have := cutA_free c l [] [] h
 rw [List.append_nil] at this
 rw [this]; rfl
theorem cutA_at (c : UInt8) (p r : List UInt8) (h : c ∉ p) : cutA c [] (p ++ c :: r) = p :: cutA c [] r := by
 rw [cutA_free c p [] (c :: r) h, cutA, if_pos rfl]; rfl
theorem cutA_length (c : UInt8) : ∀ (l acc : List UInt8), (cutA c acc l).length = l.count c + 1
 | [], acc => rfl
 | b :: l, acc => by
  rw [cutA]
  by_cases h : b = c
  ·rw [if_pos h, List.length_cons, cutA_length c l [], h, List.count_cons_self]
  ·rw [if_neg h, cutA_length c l, List.count_cons_of_ne h]
theorem index_free (c : UInt8) : ∀ (l : List UInt8), 0 < l.count c → ∃ m : Nat, Lib.indexByte l c = (m : Int) ∧ m < l.length ∧ l = l.take m ++ c :: l.drop (m + 1) ∧ c ∉ l.take m
 | [], h => by simp at h
 | b :: l, h => by
  unfold Lib.indexByte
  by_cases hb : b = c
  ·subst hb
   exact ⟨0, by simp, by simp, by simp, by simp⟩
  ·rw [List.count_cons_of_ne hb] at h
   obtain ⟨m, h1, h2, h3, h4⟩ := index_free c l h
   refine ⟨m + 1, ?_, by simpa using h2, ?_, ?_⟩
   ·have : (b == c) = false := beq_eq_false_iff_ne.mpr hb
    rw [this, h1]
    have : ((m : Int) == -1) = false := beq_eq_false_iff_ne.mpr (by omega)
    simp [this]
   ·rw [List.take_succ_cons, List.drop_succ_cons, List.cons_append, ← h3]
   ·rw [List.take_succ_cons]
    intro hm
    rcases List.mem_cons.1 hm with e | e
    ·exact hb e.symm
    ·exact h4 e
theorem byte_iff (a b : UInt8) : ((a.toNat : Int) = (b.toNat : Int)) ↔ a = b := by
 rw [Int.ofNat_inj, UInt8.toNat_inj]
theorem specCut_l0 (t : ByteArray) (c : UInt8) (ht : t.size ≤ 8796093022000) : ∀ (d i fr : Nat) (out : List ByteArray), i + d = t.size → fr ≤ i → out.length ≤ i →
  Ev (fun k => spec_l00Cut.l0 k t (c.toNat : Int) out (fr : Int) (i : Int)) (out ++ (cutA c (((bl t).drop fr).take (i - fr)) ((bl t).drop i)).map mkB) := by
 have hsz := bl_size t
 intro d
 induction d with
 | zero =>
  intro i fr out hi hf ho
  rw [List.drop_eq_nil_of_le (show (bl t).length ≤ i by omega)]
  refine Ev.step (f := fun _ => some _) (fun k => ?_) (Ev.now _)
  simp only [spec_l00Cut.l0, cutA, List.map_cons, List.map_nil]
  rw [if_neg (by omega), if_pos (by omega), if_pos (by omega), if_pos (by omega)]
  congr 4
  refine bl_inj ?_
  rw [bl_extract, bl_mkB, Int.toNat_natCast, show t.size = i by omega]
 | succ d ih =>
  intro i fr out hi hf ho
  have hlt : i < (bl t).length := by omega
  have hacc : ((bl t).drop fr).take (i + 1 - fr) = ((bl t).drop fr).take (i - fr) ++ [(bl t)[i]'hlt] := by
   rw [show i + 1 - fr = (i - fr) + 1 by omega, List.take_add_one, List.getElem?_drop, show fr + (i - fr) = i by omega, List.getElem?_eq_getElem hlt]; rfl
  rw [List.drop_eq_getElem_cons hlt, cutA]
  by_cases hc : (bl t)[i]'hlt = c
  ·rw [if_pos hc, List.map_cons]
   have h := ih (i + 1) (i + 1) (out ++ [mkB (((bl t).drop fr).take (i - fr))]) (by omega) (by omega) (by rw [List.length_append, List.length_cons, List.length_nil]; omega)
   rw [Nat.sub_self, List.take_zero, List.append_assoc] at h
   refine Ev.step (fun k => ?_) h
   simp only [spec_l00Cut.l0]
   rw [bt_eq t i hlt, if_pos (by omega), if_pos (by omega), if_pos ((byte_iff _ _).2 hc), if_pos (by omega), if_pos (by omega), if_pos (by omega), if_pos (by omega), w64s i (by omega)]
   congr 4
   refine bl_inj ?_
   rw [bl_extract, bl_mkB, Int.toNat_natCast, Int.toNat_natCast]
  ·rw [if_neg hc, ← hacc]
   refine Ev.step (fun k => ?_) (ih (i + 1) fr out (by omega) (by omega) (by omega))
   simp only [spec_l00Cut.l0]
   rw [bt_eq t i hlt, if_pos (by omega), if_pos (by omega), if_neg (fun e => hc ((byte_iff _ _).1 e)), w64s i (by omega)]
theorem specCut_ev (t : ByteArray) (c : UInt8) (ht : t.size ≤ 8796093022000) : Ev (fun k => spec_l00Cut.f k t (c.toNat : Int)) (cutB c t) := by
 have h := specCut_l0 t c ht t.size 0 0 [] (by omega) (by omega) (by simp)
 refine Ev.congr (fun k => ?_) (show Ev (fun k => spec_l00Cut.l0 k t (c.toNat : Int) [] ((0 : Nat) : Int) ((0 : Nat) : Int)) (cutB c t) by simpa [cutB] using h)
 rfl
theorem take_set_snoc {α : Type} (l : List α) (j : Nat) (v : α) (h : j < l.length) : (l.set j v).take (j + 1) = l.take j ++ [v] := by
 rw [List.take_add_one, List.take_set_of_le (Nat.le_refl _)]
 simp [h]
theorem genSplit_l0 (c : UInt8) (N : Nat) (hN : N ≤ 17592186044415) : ∀ (d j : Nat) (s : ByteArray) (a : List ByteArray), j + d = N → (bl s).count c = d → a.length = N + 1 → s.size ≤ 4611686018427387904 →
  Ev (fun k => strings_genSplit.l0 k s (mkB [c]) 0 (N : Int) a (j : Int)) (a.take j ++ cutB c s) := by
 intro d
 induction d with
 | zero =>
  intro j s a hj hc ha hs
  have hn : c ∉ bl s := List.count_eq_zero.1 hc
  refine Ev.step (f := fun _ => some _) (fun k => ?_) (Ev.now _)
  simp only [strings_genSplit.l0]
  rw [if_neg (by omega), if_pos (by omega), if_pos (by omega), w64s j (by omega), if_pos (by omega), if_pos (by omega), Int.toNat_natCast, Int.toNat_natCast, take_set_snoc a j s (by omega)]
  unfold cutB
  rw [cutA_none c _ hn, List.map_cons, List.map_nil, mkB_bl]
 | succ d ih =>
  intro j s a hj hc ha hs
  have hsz := bl_size s
  obtain ⟨m, h1, h2, h3, h4⟩ := index_free c (bl s) (by omega)
  have hidx : strings_Index.f s (mkB [c]) = some (m : Int) := by
   unfold strings_Index.f
   rw [if_pos (show (mkB [c]).data.toList.length = 1 from rfl)]
   exact congrArg some h1
  have hone : (mkB [c]).size = 1 := rfl
  have hc2 : ((bl s).drop (m + 1)).count c = d := by
   have : (bl s).count c = ((bl s).take m).count c + (((bl s).drop (m + 1)).count c + 1) := by
    conv => lhs; rw [h3]
    rw [List.count_append, List.count_cons_self]
   rw [List.count_eq_zero.2 h4] at this
   omega
  have he : bl (s.extract (m + 1) s.size) = (bl s).drop (m + 1) := by
   rw [bl_extract]
   exact List.take_of_length_le (by rw [List.length_drop]; omega)
  have h := ih (j + 1) (s.extract (m + 1) s.size) (a.set j (s.extract 0 m)) (by omega) (by rw [he]; exact hc2) (by rw [List.length_set]; exact ha) (by
   have := bl_size (s.extract (m + 1) s.size)
   rw [he, List.length_drop] at this
   omega)
  rw [take_set_snoc a j _ (by omega), List.append_assoc] at h
  have hcut : cutB c s = [s.extract 0 m] ++ cutB c (s.extract (m + 1) s.size) := by
   unfold cutB
   rw [he]
   conv => lhs; rw [h3]
   rw [cutA_at c _ _ h4, List.map_cons]
   show _ = s.extract 0 m :: _
   congr 1
   refine bl_inj ?_
   rw [bl_mkB, bl_extract]
   simp
  rw [hcut]
  refine Ev.step (fun k => ?_) h
  simp only [strings_genSplit.l0, hidx, bS]
  have w0 : Aside0 (wrap64 ((m : Int) + 0) = (m : Int)) := ⟨w64 (by omega) (by omega)⟩
  have w1 : Aside0 (wrap64 ((m : Int) + ((mkB [c]).size : Int)) = ((m + 1 : Nat) : Int)) := ⟨by rw [hone]; exact w64s m (by omega)⟩
  clear hone
  rw [w0.out, w1.out, w64s j (by omega)]
  rw [if_pos (by omega), if_neg (by omega), if_pos (by omega), if_pos (by omega), if_pos (by omega), if_pos (by omega), if_pos (by omega), if_pos (by omega)]
  simp only [Int.toNat_natCast]
theorem split_ev (s : ByteArray) (c : UInt8) (hs : s.size ≤ 17592186044000) : Ev (fun k => strings_Split.f k s (mkB [c])) (cutB c s) := by
 have hsz := bl_size s
 have hle : (bl s).count c ≤ (bl s).length := List.count_le_length
 have hcount : strings_Count.f s (mkB [c]) = some (((bl s).count c : Nat) : Int) := by
  unfold strings_Count.f
  rw [if_pos (show (mkB [c]).data.toList.length = 1 from rfl)]
  rfl
 obtain ⟨K, hK⟩ := genSplit_l0 c ((bl s).count c) (by omega) ((bl s).count c) 0 s (List.replicate ((bl s).count c + 1) (⟨#[]⟩ : ByteArray)) (by omega) rfl (by simp) (by omega)
 refine ⟨K + 1, fun k hk => ?_⟩
 obtain ⟨m, rfl⟩ : ∃ m, k = m + 1 := ⟨k - 1, by omega⟩
 have e := hK m (by omega)
 simp only [List.take_zero, List.nil_append] at e
 have hne : ¬ (mkB [c]).toList = ([] : List UInt8) := by rw [toList_bl, bl_mkB]; simp
 have hmn : mn (((bl s).count c + 1 : Nat) : Int) (((s.size + 1 : Nat)) : Int) = (((bl s).count c + 1 : Nat) : Int) := by
  unfold mn
  split <;> omega
 have hj : strings_genSplit.j0 (m + 1) s (mkB [c]) 0 (((bl s).count c + 1 : Nat) : Int) = some (cutB c s) := by
  simp only [strings_genSplit.j0]
  rw [w64s s.size (by omega), hmn, if_pos (by omega), Int.toNat_natCast, if_pos (by omega)]
  have : wrap64 ((((bl s).count c + 1 : Nat) : Int) - 1) = (((bl s).count c : Nat) : Int) := by rw [w64 (by omega) (by omega)]; omega
  rw [this]
  exact e
 simp only [strings_Split.f, strings_genSplit.f, hcount, bS]
 rw [if_neg (by decide), if_neg hne, if_pos (by decide), w64s _ (by omega), hj]
 rfl
theorem cutB_size (c : UInt8) (s : ByteArray) : ∀ x ∈ cutB c s, x.size ≤ s.size := by
 have h : ∀ (l acc : List UInt8), ∀ x ∈ cutA c acc l, x.length ≤ acc.length + l.length := by
  intro l
  induction l with
  | nil => intro acc x hx; simp [cutA] at hx; subst hx; simp
  | cons b l ih =>
   intro acc x hx
   rw [cutA] at hx
   split at hx
   ·rcases List.mem_cons.1 hx with rfl | hx
    ·simp
    ·have := ih [] x hx; simp only [List.length_nil, List.length_cons] at this ⊢; omega
   ·have := ih _ x hx; simp only [List.length_append, List.length_nil, List.length_cons] at this ⊢; omega
 intro x hx
 unfold cutB at hx
 obtain ⟨y, hy, rfl⟩ := List.mem_map.1 hx
 have := h _ _ y hy
 rw [bl_size, bl_size, bl_mkB]
 simpa using this
theorem cutB_length (c : UInt8) (s : ByteArray) : (cutB c s).length ≤ s.size + 1 := by
 have hsz := bl_size s
 unfold cutB
 rw [List.length_map, cutA_length]
 have : (bl s).count c ≤ (bl s).length := List.count_le_length
 omega
theorem rdOf_nat2 (xs : List ByteArray) (i : Nat) (h : i < xs.length) : rdOf ByteArray.empty xs (i : Int) = xs[i]'h := by
 unfold rdOf
 rw [Int.toNat_natCast, List.getD_eq_getElem?_getD, List.getElem?_eq_getElem h]; rfl
end Go.Proofs.YtoieoimfkimedaaDoor.P
/- Lemmas of mine: bounds, the fields of a log. Plain. -/
set_option linter.unusedVariables false
set_option linter.unusedSimpArgs false
namespace Go.Proofs.YtoieoimfkimedaaDoor.P
open Go.RowKit Go.Proofs.YtoieoimfkimedaaDoorW.PrintWords
theorem l01In_eq (a b c : Int) : spec_l01In.f a b c = some (decide (b ≤ a ∧ a ≤ c)) := by
 unfold spec_l01In.f
 by_cases h : a ≥ b
 ·rw [if_pos h]; simp [show b ≤ a from h]
 ·rw [if_neg h]; simp; omega
theorem within_eq (a b c : Int) : impl_within.f a b c = some (decide (b ≤ a ∧ a ≤ c)) := l01In_eq a b c
end Go.Proofs.YtoieoimfkimedaaDoor.P
/- Lemmas of mine: a number read from its text: the reference and the program tell the same. Plain. -/
set_option linter.unusedVariables false
set_option linter.unusedSimpArgs false
namespace Go.Proofs.YtoieoimfkimedaaDoor.P
open Go.RowKit Go.Proofs.YtoieoimfkimedaaDoorW.PrintWords
theorem take_one (l : List UInt8) (c : UInt8) : l.take 1 = [c] ↔ l[0]? = some c := by
 cases l with
 | nil => simp
 | cons b l => simp
def isDig (b : UInt8) : Bool := decide (48 ≤ b.toNat ∧ b.toNat ≤ 57)
/-- What digits spell behind a number. -/
def valF : Nat → List UInt8 → Nat
 | a, [] => a
 | a, b :: l => valF (a * 10 + (b.toNat - 48)) l
theorem isDig_iff (b : UInt8) : isDig b = true ↔ 48 ≤ b.toNat ∧ b.toNat ≤ 57 := decide_eq_true_iff
theorem parse_val : ∀ (l : List UInt8) (i acc : Nat), i + l.length ≤ 18 → acc < 10 ^ i → l.all isDig = true → Lib.parseUint10 acc l = .ok (valF acc l) ∧ valF acc l < 10 ^ (i + l.length)
 | [], i, acc, _, ha, _ => ⟨rfl, ha⟩
 | b :: l, i, acc, hi, ha, hd => by
  rw [List.all_cons, Bool.and_eq_true, isDig_iff] at hd
  rw [List.length_cons] at hi
  have h17 : acc < 100000000000000000 := Nat.lt_of_lt_of_le ha (Nat.le_trans (Nat.pow_le_pow_right (by decide) (show i ≤ 17 by omega)) (by decide))
  have hn : acc * 10 + (b.toNat - 48) < 10 ^ (i + 1) := by rw [Nat.pow_succ]; omega
  obtain ⟨h1, h2⟩ := parse_val l (i + 1) (acc * 10 + (b.toNat - 48)) (by omega) hn hd.2
  refine ⟨?_, by rw [List.length_cons, show i + (l.length + 1) = i + 1 + l.length by omega]; exact h2⟩
  unfold Lib.parseUint10
  rw [if_pos hd.1, if_neg (by omega), if_neg (by omega), h1]
  rfl
/-- A number's sign; its digits. -/
def negN (l : List UInt8) : Prop := l[0]? = some 45
def digN (l : List UInt8) : List UInt8 := if l[0]? = some 45 then l.drop 1 else l
def goodN (l : List UInt8) : Prop := (1 ≤ (digN l).length ∧ (digN l).length ≤ 18) ∧ ¬ ((digN l)[0]? = some 48 ∧ (1 < (digN l).length ∨ negN l)) ∧ (digN l).all isDig = true
def valN (l : List UInt8) : Int := if l[0]? = some 45 then -(valF 0 (digN l) : Int) else (valF 0 (digN l) : Int)
theorem valF_lt (l : List UInt8) (h : goodN l) : valF 0 (digN l) < 1000000000000000000 := by
 obtain ⟨_, h2⟩ := parse_val (digN l) 0 0 (by have := h.1.2; omega) (by decide) h.2.2
 exact Nat.lt_of_lt_of_le h2 (Nat.le_trans (Nat.pow_le_pow_right (by decide) (show 0 + (digN l).length ≤ 18 by have := h.1.2; omega)) (by decide))
theorem atoi_good (l : List UInt8) (h : goodN l) : Lib.atoiAll l = .ok (valN l) := by
 have hlt := valF_lt l h
 obtain ⟨h1, _⟩ := parse_val (digN l) 0 0 (by have := h.1.2; omega) (by decide) h.2.2
 have hmag : Lib.parseMag (digN l) = .ok (valF 0 (digN l)) := by
  unfold Lib.parseMag
  rw [if_neg (fun e => by have := h.1.1; rw [e] at this; exact absurd this (by decide)), h1]
 unfold valN
 cases l with
 | nil => exact absurd h.1.1 (by decide)
 | cons c r =>
  unfold Lib.atoiAll
  by_cases hc : c = 45
  ·subst hc
   have hd : digN (45 :: r) = r := rfl
   rw [hd] at hmag hlt ⊢
   have h0 : ((45 :: r : List UInt8)[0]? = some 45) = True := eq_true rfl
   simp only [h0, if_true]
   have e1 : ((45 : UInt8).toNat = 43 ∨ (45 : UInt8).toNat = 45) := Or.inr rfl
   simp only [if_pos e1, hmag]
   have e2 : (45 : UInt8).toNat = 45 := rfl
   simp only [e2, not_true, false_and, if_false, true_and]
   rw [if_neg (by omega), if_pos trivial]
  ·have h0 : ¬ (c :: r)[0]? = some 45 := fun e => hc (Option.some.inj e)
   have hd : digN (c :: r) = c :: r := if_neg h0
   have hdig := h.2.2
   rw [hd] at hmag hlt hdig ⊢
   rw [List.all_cons, Bool.and_eq_true, isDig_iff] at hdig
   rw [if_neg h0]
   have e1 : ¬ (c.toNat = 43 ∨ c.toNat = 45) := by omega
   have e2 : ¬ c.toNat = 45 := by omega
   have e3 : ¬ c.toNat = 43 := by omega
   simp only [e2, e3, or_self, not_false_eq_true, true_and, false_and, if_false]
   rw [hmag]
   show (if 9223372036854775808 ≤ valF 0 (c :: r) then _ else _) = _
   rw [if_neg (by omega)]
theorem stepW (acc b : Nat) (h : acc < 100000000000000000) (hb : 48 ≤ b ∧ b ≤ 57) : wrap64 ((wrap64 ((wrap64 ((acc : Int) * 10)) + (wrap64 (b : Int)))) - 48) = ((acc * 10 + (b - 48) : Nat) : Int) := by
 rw [w64 (n := (acc : Int) * 10) (by omega) (by omega), w64 (n := (b : Int)) (by omega) (by omega), w64 (n := (acc : Int) * 10 + (b : Int)) (by omega) (by omega), w64 (by omega) (by omega)]
 omega
theorem specNum_l0 (s : ByteArray) (sg : Int) (hs : s.size ≤ 18) (hsg : sg = 1 ∨ sg = -1) : ∀ (d i acc : Nat), i + d = s.size → acc < 10 ^ i → Ev (fun k => spec_l00Number.l0 k s sg (acc : Int) (i : Int)) (if ((bl s).drop i).all isDig = true then (sg * (valF acc ((bl s).drop i) : Int), true) else (0, false)) := by
 have hsz := bl_size s
 intro d
 induction d with
 | zero =>
  intro i acc hi ha
  rw [List.drop_eq_nil_of_le (by omega)]
  have h18 : acc < 1000000000000000001 := Nat.lt_of_lt_of_le ha (Nat.le_trans (Nat.pow_le_pow_right (by decide) (show i ≤ 18 by omega)) (by decide))
  refine Ev.step (f := fun _ => some _) (fun k => ?_) (Ev.now _)
  simp only [spec_l00Number.l0]
  rw [if_neg (by omega), List.all_nil, if_pos rfl]
  unfold valF
  rw [w64]
  ·rcases hsg with rfl | rfl <;> omega
  ·rcases hsg with rfl | rfl <;> omega
 | succ d ih =>
  intro i acc hi ha
  have hlt : i < (bl s).length := by omega
  have hv := bt_eq s i hlt
  rw [List.drop_eq_getElem_cons hlt, List.all_cons]
  generalize (bl s)[i] = b at hv
  have hb := byte_lt b
  by_cases hd : 48 ≤ b.toNat ∧ b.toNat ≤ 57
  ·have h17 : acc < 100000000000000000 := Nat.lt_of_lt_of_le ha (Nat.le_trans (Nat.pow_le_pow_right (by decide) (show i ≤ 17 by omega)) (by decide))
   have hn : acc * 10 + (b.toNat - 48) < 10 ^ (i + 1) := by rw [Nat.pow_succ]; omega
   rw [(isDig_iff b).2 hd, Bool.true_and]
   refine Ev.step (fun k => ?_) (ih (i + 1) (acc * 10 + (b.toNat - 48)) (by omega) hn)
   simp only [spec_l00Number.l0, hv]
   rw [if_pos (by omega), if_pos (by omega), if_neg (by omega), if_neg (by omega), stepW acc b.toNat h17 hd, w64s i (by omega)]
  ·have hf : isDig b = false := by
    cases h : isDig b with
    | false => rfl
    | true => exact absurd ((isDig_iff b).1 h) hd
   rw [hf, Bool.false_and, if_neg (by decide)]
   refine Ev.step (f := fun _ => some _) (fun k => ?_) (Ev.now _)
   simp only [spec_l00Number.l0, hv]
   rw [if_pos (by omega), if_pos (by omega)]
   by_cases h1 : (b.toNat : Int) < 48
   ·rw [if_pos h1]
   ·rw [if_neg h1, if_pos (by omega)]
noncomputable def numO (l : List UInt8) : Int × Bool := by
 classical exact if goodN l then (valN l, true) else (0, false)
theorem numO_good (l : List UInt8) (h : goodN l) : numO l = (valN l, true) := by unfold numO; exact if_pos h
theorem numO_bad (l : List UInt8) (h : ¬ goodN l) : numO l = (0, false) := by unfold numO; exact if_neg h
/-- Behind the sign. -/
theorem specNum_j1 (d : ByteArray) (sg : Int) (hsg : sg = 1 ∨ sg = -1) (hd : d.size ≤ 4611686018427387904) :
  Ev (fun k => spec_l00Number.j1 k d sg) (if ((1 ≤ d.size ∧ d.size ≤ 18) ∧ ¬ ((bl d)[0]? = some 48 ∧ (1 < d.size ∨ sg < 0)) ∧ (bl d).all isDig = true) then (sg * (valF 0 (bl d) : Int), true) else (0, false)) := by
 have hsz := bl_size d
 have ejt : Ev (fun k => spec_l00Number.j2 k d sg true) (0, false) := Ev.step (f := fun _ => some _) (fun k => by simp only [spec_l00Number.j2]; exact if_pos trivial) (Ev.now _)
 by_cases h0 : d.size = 0
 ·rw [if_neg (by omega)]
  exact Ev.step (fun k => by simp only [spec_l00Number.j1]; rw [if_pos (by omega)]) ejt
 ·by_cases h18 : d.size > 18
  ·rw [if_neg (by omega)]
   exact Ev.step (fun k => by simp only [spec_l00Number.j1]; rw [if_neg (by omega), if_pos (by omega)]) ejt
  ·have hlt : 0 < (bl d).length := by omega
   have hv := bt_eq d 0 hlt
   have hv' : bt d 0 = (((bl d)[0]).toNat : Int) := hv
   have hg : (bl d)[0]? = some (bl d)[0] := List.getElem?_eq_getElem hlt
   have hl := specNum_l0 d sg (by omega) hsg d.size 0 0 (by omega) (by decide)
   rw [List.drop_zero] at hl
   have hj2 : Ev (fun k => spec_l00Number.j2 k d sg false) (if (bl d).all isDig = true then (sg * (valF 0 (bl d) : Int), true) else (0, false)) :=
    Ev.step (fun k => by simp only [spec_l00Number.j2]; rw [if_neg (by decide)]; rfl) hl
   by_cases h48 : (bl d)[0] = 48
   ·have hb : bt d 0 = 48 := by rw [hv', h48]; rfl
    by_cases h1 : 1 < d.size
    ·rw [if_neg (fun h => h.2.1 ⟨by rw [hg, h48], .inl h1⟩)]
     exact Ev.step (fun k => by simp only [spec_l00Number.j1]; rw [if_neg (by omega), if_neg (by omega), if_pos (by omega), if_pos hb, if_pos (by omega)]) ejt
    ·by_cases hn : sg < 0
     ·rw [if_neg (fun h => h.2.1 ⟨by rw [hg, h48], .inr hn⟩)]
      exact Ev.step (fun k => by simp only [spec_l00Number.j1]; rw [if_neg (by omega), if_neg (by omega), if_pos (by omega), if_pos hb, if_neg (by omega), decide_eq_true hn]) ejt
     ·have e : (if ((1 ≤ d.size ∧ d.size ≤ 18) ∧ ¬ ((bl d)[0]? = some 48 ∧ (1 < d.size ∨ sg < 0)) ∧ (bl d).all isDig = true) then (sg * (valF 0 (bl d) : Int), true) else ((0, false) : Int × Bool)) = if (bl d).all isDig = true then (sg * (valF 0 (bl d) : Int), true) else (0, false) := by
       by_cases ha : (bl d).all isDig = true
       ·rw [if_pos ha, if_pos ⟨by omega, (fun h => by rcases h.2 with h | h <;> omega), ha⟩]
       ·rw [if_neg ha, if_neg (fun h => ha h.2.2)]
      rw [e]
      exact Ev.step (fun k => by simp only [spec_l00Number.j1]; rw [if_neg (by omega), if_neg (by omega), if_pos (by omega), if_pos hb, if_neg (by omega), decide_eq_false hn]) hj2
   ·have hb : ¬ bt d 0 = 48 := by
     rw [hv']
     intro h
     exact h48 ((byte_iff _ _).1 h)
    have e : (if ((1 ≤ d.size ∧ d.size ≤ 18) ∧ ¬ ((bl d)[0]? = some 48 ∧ (1 < d.size ∨ sg < 0)) ∧ (bl d).all isDig = true) then (sg * (valF 0 (bl d) : Int), true) else ((0, false) : Int × Bool)) = if (bl d).all isDig = true then (sg * (valF 0 (bl d) : Int), true) else (0, false) := by
     by_cases ha : (bl d).all isDig = true
     ·rw [if_pos ha, if_pos ⟨by omega, (fun h => h48 (Option.some.inj (hg.symm.trans h.1))), ha⟩]
     ·rw [if_neg ha, if_neg (fun h => ha h.2.2)]
    rw [e]
    exact Ev.step (fun k => by simp only [spec_l00Number.j1]; rw [if_neg (by omega), if_neg (by omega), if_pos (by omega), if_neg hb]) hj2
theorem specNum_ev (s : ByteArray) (hs : s.size ≤ 4611686018427387904) : Ev (fun k => spec_l00Number.f k s) (numO (bl s)) := by
 classical
 have hsz := bl_size s
 by_cases hn : (bl s)[0]? = some 45
 ·have hlt : 0 < (bl s).length := by
   rcases Nat.eq_zero_or_pos (bl s).length with h | h
   ·rw [List.getElem?_eq_none (by omega)] at hn; cases hn
   ·exact h
  have hv : bt s 0 = 45 := by
   have := bt_eq s 0 hlt
   rw [List.getElem?_eq_getElem hlt] at hn
   rw [Option.some.inj hn] at this
   exact this
  have hd : bl (s.extract 1 s.size) = digN (bl s) := by
   unfold digN
   rw [if_pos hn, bl_extract]
   exact List.take_of_length_le (by rw [List.length_drop]; omega)
  have hds : (s.extract 1 s.size).size = (digN (bl s)).length := by rw [bl_size, hd]
  have h := specNum_j1 (s.extract 1 s.size) (-1) (.inr rfl) (by rw [bl_size, bl_extract, List.length_take, List.length_drop]; omega)
  rw [hd, hds] at h
  have e : numO (bl s) = if ((1 ≤ (digN (bl s)).length ∧ (digN (bl s)).length ≤ 18) ∧ ¬ ((digN (bl s))[0]? = some 48 ∧ (1 < (digN (bl s)).length ∨ (-1 : Int) < 0)) ∧ (digN (bl s)).all isDig = true) then ((-1 : Int) * (valF 0 (digN (bl s)) : Int), true) else (0, false) := by
   by_cases hg : goodN (bl s)
   ·rw [numO_good _ hg, if_pos ⟨hg.1, (fun h => hg.2.1 ⟨h.1, .inr hn⟩), hg.2.2⟩]
    unfold valN
    rw [if_pos hn]
    congr 1
    omega
   ·rw [numO_bad _ hg, if_neg (fun h => hg ⟨h.1, (fun q => h.2.1 ⟨q.1, .inr (by decide)⟩), h.2.2⟩)]
  rw [e]
  refine Ev.congr (f := fun k => spec_l00Number.j0 k s 1 true) (fun k => ?_) (Ev.step (fun k => ?_) h)
  ·simp only [spec_l00Number.f]
   rw [if_pos (by omega), if_pos (by omega), hv]
   rfl
  ·simp only [spec_l00Number.j0]
   rw [if_pos trivial, if_pos (by omega)]
 ·have hd : digN (bl s) = bl s := if_neg hn
  have h := specNum_j1 s 1 (.inl rfl) hs
  rw [hsz] at h
  have e : numO (bl s) = if ((1 ≤ (bl s).length ∧ (bl s).length ≤ 18) ∧ ¬ ((bl s)[0]? = some 48 ∧ (1 < (bl s).length ∨ (1 : Int) < 0)) ∧ (bl s).all isDig = true) then ((1 : Int) * (valF 0 (bl s) : Int), true) else (0, false) := by
   by_cases hg : goodN (bl s)
   ·rw [numO_good _ hg]
    have hg' := hg
    unfold goodN at hg'
    rw [hd] at hg'
    rw [if_pos ⟨hg'.1, (fun h => hg'.2.1 ⟨h.1, h.2.elim .inl (fun q => absurd q (by decide))⟩), hg'.2.2⟩]
    unfold valN
    rw [if_neg hn, hd, Int.one_mul]
   ·rw [numO_bad _ hg, if_neg (fun h => hg (by
     unfold goodN
     rw [hd]
     exact ⟨h.1, (fun q => h.2.1 ⟨q.1, q.2.elim .inl (fun q2 => absurd q2 hn)⟩), h.2.2⟩))]
  rw [e]
  have hj : Ev (fun k => spec_l00Number.j0 k s 1 false) (if ((1 ≤ (bl s).length ∧ (bl s).length ≤ 18) ∧ ¬ ((bl s)[0]? = some 48 ∧ (1 < (bl s).length ∨ (1 : Int) < 0)) ∧ (bl s).all isDig = true) then ((1 : Int) * (valF 0 (bl s) : Int), true) else (0, false)) :=
   Ev.step (fun k => by simp only [spec_l00Number.j0]; rw [if_neg (by decide)]) h
  refine Ev.congr (fun k => ?_) hj
  simp only [spec_l00Number.f]
  by_cases h0 : s.size = 0
  ·rw [if_neg (by omega)]
  ·rw [if_pos (by omega), if_pos (by omega)]
   have hlt : 0 < (bl s).length := by omega
   have : (bt s 0 == 45) = false := by
    refine beq_eq_false_iff_ne.mpr fun h => hn ?_
    have hv := bt_eq s 0 hlt
    have hv' : bt s 0 = (((bl s)[0]).toNat : Int) := hv
    rw [hv'] at h
    rw [List.getElem?_eq_getElem hlt]
    exact congrArg some ((byte_iff _ _).1 h)
   rw [this]
theorem trimPre (s : ByteArray) (c : UInt8) : strings_TrimPrefix.f s (⟨#[c]⟩ : ByteArray) = some (if (bl s)[0]? = some c then s.extract 1 s.size else s) := by
 have h1 : (⟨#[c]⟩ : ByteArray).size = 1 := rfl
 have hsz := bl_size s
 have hl : (⟨#[c]⟩ : ByteArray).toList = [c] := by rw [toList_bl]; rfl
 simp only [strings_TrimPrefix.f, stringslite_TrimPrefix.f, stringslite_HasPrefix.f, h1, hl]
 by_cases h0 : s.size = 0
 ·rw [if_neg (by omega), bS, if_neg (by decide), bS, if_neg (by
   rw [List.getElem?_eq_none (by omega)]; simp)]
 ·rw [if_pos (by omega), if_pos (by omega), if_pos (by omega), bS]
  have e : ((s.extract 0 ((((1 : Nat) : Int))).toNat).toList == [c]) = decide ((bl s)[0]? = some c) := by
   rw [toList_bl, bl_extract, List.drop_zero, Bool.eq_iff_iff, beq_iff_eq, decide_eq_true_eq, ← take_one]
   rfl
  rw [e]
  by_cases hc : (bl s)[0]? = some c
  ·rw [decide_eq_true hc, if_pos rfl, if_pos (by omega), if_pos (by omega), bS, if_pos hc]; rfl
  ·rw [decide_eq_false hc, if_neg (by decide), bS, if_neg hc]
theorem implDig (n : Int) : impl_isDigit.f n = some (decide (48 ≤ n ∧ n ≤ 57)) := by
 unfold impl_isDigit.f
 by_cases h : 48 ≤ n
 ·by_cases h2 : n ≤ 57
  ·rw [show decide (48 ≤ n ∧ n ≤ 57) = true from decide_eq_true ⟨h, h2⟩]; simp [h, h2]
  ·rw [show decide (48 ≤ n ∧ n ≤ 57) = false from decide_eq_false (fun q => h2 q.2)]; simp [h]; omega
 ·rw [show decide (48 ≤ n ∧ n ≤ 57) = false from decide_eq_false (fun q => h q.1)]; simp [h]
theorem implNum_l0 (s d : ByteArray) (hd : d.size ≤ 4611686018427387904) (v : Int) (hv : (bl d).all isDig = true → strconv_Atoi_47.f s = some (v, none)) : ∀ (n i : Nat), i + n = d.size → (∀ j (hj : j < i) (h : j < (bl d).length), isDig (bl d)[j] = true) → Ev (fun k => impl_number.l0 k s d (d.size : Int) (i : Int)) (if (bl d).all isDig = true then (v, true) else (0, false)) := by
 have hsz := bl_size d
 intro n
 induction n with
 | zero =>
  intro i hi hp
  have ha : (bl d).all isDig = true := List.all_eq_true.2 fun x hx => by
   obtain ⟨j, hj, rfl⟩ := List.mem_iff_getElem.1 hx
   exact hp j (by omega) hj
  rw [if_pos ha]
  refine Ev.step (f := fun _ => some _) (fun k => ?_) (Ev.now _)
  simp only [impl_number.l0, hv ha, bS]
  rw [if_neg (by omega)]
  rfl
 | succ n ih =>
  intro i hi hp
  have hlt : i < (bl d).length := by omega
  have hb := bt_eq d i hlt
  have hdig : impl_isDigit.f (bt d (i : Int)) = some (isDig (bl d)[i]) := by
   rw [hb, implDig]
   unfold isDig
   congr 1
   rw [Bool.eq_iff_iff, decide_eq_true_eq, decide_eq_true_eq]
   omega
  cases hq : isDig (bl d)[i] with
  | true =>
   refine Ev.step (fun k => ?_) (ih (i + 1) (by omega) (fun j hj h => ?_))
   ·simp only [impl_number.l0, hdig, hq, bS]
    rw [if_pos (by omega), if_pos (by omega), if_pos (by omega), if_pos trivial, w64s i (by omega)]
   ·by_cases e : j = i
    ·subst e; exact hq
    ·exact hp j (by omega) h
  | false =>
   have hn : ¬ (bl d).all isDig = true := fun h => by
    have := List.all_eq_true.1 h _ (List.getElem_mem hlt)
    rw [hq] at this
    cases this
   rw [if_neg hn]
   refine Ev.step (f := fun _ => some _) (fun k => ?_) (Ev.now _)
   simp only [impl_number.l0, hdig, hq, bS]
   rw [if_pos (by omega), if_pos (by omega), if_pos (by omega), if_neg (by decide)]
theorem atoiF (s : ByteArray) (h : goodN (bl s)) : strconv_Atoi_47.f s = some (valN (bl s), none) := by
 have hsz := bl_size s
 have hl : (bl s).length ≤ 19 := by
  have := h.1.2
  unfold digN at this
  split at this
  ·rw [List.length_drop] at this; omega
  ·omega
 unfold strconv_Atoi_47.f
 have e : Lib.atoiAll s.data.toList = .ok (valN (bl s)) := atoi_good _ h
 rw [e]
 show (if s.size ≤ 1000000 then _ else _) = _
 rw [if_pos (by omega)]
theorem implNum_ev (s : ByteArray) (hs : s.size ≤ 4611686018427387904) : Ev (fun k => impl_number.f k s) (numO (bl s)) := by
 have hsz := bl_size s
 obtain ⟨d, hd⟩ : ∃ d : ByteArray, (if (bl s)[0]? = some 45 then s.extract 1 s.size else s) = d := ⟨_, rfl⟩
 have hdl : bl d = digN (bl s) := by
  rw [← hd]
  unfold digN
  split
  ·rw [bl_extract]; exact List.take_of_length_le (by rw [List.length_drop]; omega)
  ·rfl
 have hds : d.size = (digN (bl s)).length := by rw [bl_size, hdl]
 have hdle : d.size ≤ s.size := by
  rw [hds, hsz]
  unfold digN
  split
  ·rw [List.length_drop]; omega
  ·exact Nat.le_refl _
 have htrim : strings_TrimPrefix.f s (⟨#[45]⟩ : ByteArray) = some d := by rw [trimPre, hd]
 have ejt : Ev (fun k => impl_number.j0 k s d true) (0, false) := Ev.step (f := fun _ => some _) (fun k => by simp only [impl_number.j0]; exact if_pos trivial) (Ev.now _)
 have hfin : ∀ (b : Bool), (∀ k, impl_number.f k s = impl_number.j0 k s d b) → (b = true → ¬ goodN (bl s)) → (b = false → (1 ≤ d.size ∧ d.size ≤ 18) ∧ ¬ ((digN (bl s))[0]? = some 48 ∧ (1 < (digN (bl s)).length ∨ negN (bl s)))) → Ev (fun k => impl_number.f k s) (numO (bl s)) := by
  intro b he hbad hgood
  cases b with
  | true =>
   rw [numO_bad _ (hbad rfl)]
   exact Ev.congr he ejt
  | false =>
   obtain ⟨g1, g2⟩ := hgood rfl
   rw [hds] at g1
   have h := implNum_l0 s d (by omega) (valN (bl s)) (fun ha => atoiF s ⟨g1, g2, by rw [← hdl]; exact ha⟩) d.size 0 (by omega) (fun j hj => absurd hj (Nat.not_lt_zero _))
   have e : numO (bl s) = if (bl d).all isDig = true then (valN (bl s), true) else (0, false) := by
    by_cases ha : (bl d).all isDig = true
    ·rw [if_pos ha, numO_good _ ⟨g1, g2, by rw [← hdl]; exact ha⟩]
    ·rw [if_neg ha, numO_bad _ (fun h => ha (by rw [hdl]; exact h.2.2))]
   rw [e]
   exact Ev.congr he (Ev.step (fun k => by simp only [impl_number.j0]; rw [if_neg (by decide)]; rfl) h)
 by_cases hw : 1 ≤ d.size ∧ d.size ≤ 18
 ·have hlt : 0 < (bl d).length := by rw [hdl, ← hds]; omega
  have hv : bt d 0 = (((bl d)[0]).toNat : Int) := bt_eq d 0 hlt
  have hg : (digN (bl s))[0]? = some (bl d)[0] := by rw [← hdl]; exact List.getElem?_eq_getElem hlt
  have hwi : impl_within.f (d.size : Int) 1 18 = some true := by rw [within_eq, decide_eq_true ⟨by omega, by omega⟩]
  by_cases h1 : 1 < d.size
  ·by_cases h48 : bt d 0 = 48
   ·refine hfin true (fun k => ?_) (fun _ h => h.2.1 ⟨?_, .inl (by omega)⟩) (fun h => by cases h)
    ·simp only [impl_number.f, htrim, hwi, bS]
     rw [if_pos trivial, if_pos (by omega), if_pos (by omega), if_pos h48]
    ·rw [hg]
     rw [hv] at h48
     exact congrArg some ((byte_iff _ _).1 h48)
   ·have hb : (s.toList == ([45, 48] : List UInt8)) = false := by
     refine beq_eq_false_iff_ne.mpr fun h => ?_
     rw [toList_bl] at h
     rw [h] at hds
     exact absurd h1 (by rw [hds]; decide)
    refine hfin false (fun k => ?_) (fun h => by cases h) (fun _ => ⟨hw, fun h => h48 ?_⟩)
    ·simp only [impl_number.f, htrim, hwi, bS, hb]
     rw [if_pos trivial, if_pos (by omega), if_pos (by omega), if_neg h48]
    ·rw [hv]
     rw [hg] at h
     rw [Option.some.inj h.1]
     rfl
  ·by_cases hneg0 : s.toList = ([45, 48] : List UInt8)
   ·have hb : (s.toList == ([45, 48] : List UInt8)) = true := beq_iff_eq.mpr hneg0
    refine hfin true (fun k => ?_) (fun _ h => h.2.1 ?_) (fun h => by cases h)
    ·simp only [impl_number.f, htrim, hwi, bS, hb]
     rw [if_pos trivial, if_neg (by omega)]
    ·rw [toList_bl] at hneg0
     rw [hneg0]
     exact ⟨rfl, .inr rfl⟩
   ·have hb : (s.toList == ([45, 48] : List UInt8)) = false := beq_eq_false_iff_ne.mpr hneg0
    refine hfin false (fun k => ?_) (fun h => by cases h) (fun _ => ⟨hw, fun h => ?_⟩)
    ·simp only [impl_number.f, htrim, hwi, bS, hb]
     rw [if_pos trivial, if_neg (by omega)]
    ·rcases h.2 with h2 | h2
     ·omega
     ·refine hneg0 ?_
      rw [toList_bl]
      have hd1 : (digN (bl s)).length = 1 := by omega
      have h0 := h.1
      unfold negN at h2
      unfold digN at hd1 h0
      rw [if_pos h2] at hd1 h0
      cases hl : bl s with
      | nil => rw [hl] at h2; cases h2
      | cons a r =>
       rw [hl] at h2 h0 hd1
       have ha : a = 45 := Option.some.inj h2
       subst ha
       cases r with
       | nil => cases h0
       | cons b r2 =>
        have hb : b = 48 := Option.some.inj h0
        subst hb
        cases r2 with
        | nil => rfl
        | cons _ _ => simp at hd1
 ·have hwi : impl_within.f (d.size : Int) 1 18 = some false := by rw [within_eq, decide_eq_false (fun h => hw ⟨by omega, by omega⟩)]
  refine hfin true (fun k => ?_) (fun _ h => hw ⟨by have := h.1.1; omega, by have := h.1.2; omega⟩) (fun h => by cases h)
  simp only [impl_number.f, htrim, hwi, bS]
  rw [if_neg (by decide)]
end Go.Proofs.YtoieoimfkimedaaDoor.P
/- Lemmas of mine: a set read from its text: the two readers of a set's ranges tell the same. Plain. -/
set_option linter.unusedVariables false
set_option linter.unusedSimpArgs false
namespace Go.Proofs.YtoieoimfkimedaaDoor.P
open Go.RowKit Go.Proofs.YtoieoimfkimedaaDoorW.PrintWords
/-- An end of a range. -/
noncomputable def endO (l : List UInt8) : Int × Bool := if l = [42] then (0, true) else if (numO l).2 = true then ((numO l).1, decide (1 ≤ (numO l).1 ∧ (numO l).1 ≤ 4294967295)) else ((numO l).1, false)
theorem specOne_ev (s : ByteArray) (hs : s.size ≤ 4611686018427387904) : Ev (fun k => spec_l11One.f k s) (endO (bl s)) := by
 obtain ⟨K, hK⟩ := specNum_ev s hs
 refine ⟨K, fun k hk => ?_⟩
 have e := hK k hk
 simp only at e
 simp only [spec_l11One.f, e, bS, toList_bl, l01In_eq]
 unfold endO
 split
 ·rfl
 ·split <;> rfl
theorem implEnd_ev (s : ByteArray) (hs : s.size ≤ 4611686018427387904) : Ev (fun k => impl_endOf.f k s) (endO (bl s)) := by
 obtain ⟨K, hK⟩ := implNum_ev s hs
 refine ⟨K, fun k hk => ?_⟩
 have e := hK k hk
 simp only at e
 simp only [impl_endOf.f, e, bS, toList_bl, within_eq]
 unfold endO
 split
 ·rfl
 ·split <;> rfl
theorem endO_colon (l : List UInt8) (h : 58 ∈ l) : (endO l).2 = false := by
 unfold endO
 rw [if_neg (fun e => by rw [e] at h; simp at h)]
 have hn : ¬ goodN l := by
  intro hg
  have hd : (58 : UInt8) ∈ digN l := by
   unfold digN
   cases l with
   | nil => cases h
   | cons a r =>
    split
    ·rename_i h0
     have ha : a = 45 := Option.some.inj h0
     subst ha
     rcases List.mem_cons.1 h with e | e
     ·exact absurd e (by decide)
     ·exact e
    ·exact h
  have := List.all_eq_true.1 hg.2.2 _ hd
  exact absurd this (by decide)
 rw [numO_bad _ hn]
 rfl
/-- Behind the first end: one, or two. -/
noncomputable def partR (w : ByteArray) : Option (Int × Int) :=
 match cutB 58 w with
 | [a] => if (endO (bl a)).2 = true then some ((endO (bl a)).1, (endO (bl a)).1) else none
 | [a, b] => if (endO (bl a)).2 = true then (if (endO (bl b)).2 = true then some ((endO (bl a)).1, (endO (bl b)).1) else none) else none
 | _ => none
theorem cut58 (w : ByteArray) (hw : w.size ≤ 4611686018427387904) : (cutB 58 w = [w] ∧ strings_Cut.f w (⟨#[58]⟩ : ByteArray) = some (w, (⟨#[]⟩ : ByteArray), false)) ∨
  ∃ a b : ByteArray, cutB 58 w = a :: cutB 58 b ∧ a.size ≤ w.size ∧ b.size ≤ w.size ∧ strings_Cut.f w (⟨#[58]⟩ : ByteArray) = some (a, b, true) := by
 have hsz := bl_size w
 rcases Nat.eq_zero_or_pos ((bl w).count 58) with hc | hc
 ·left
  have hn : (58 : UInt8) ∉ bl w := List.count_eq_zero.1 hc
  refine ⟨by unfold cutB; rw [cutA_none _ _ hn, List.map_cons, List.map_nil, mkB_bl], ?_⟩
  have hidx : stringslite_Index.f w (⟨#[58]⟩ : ByteArray) = some (-1) := by
   unfold stringslite_Index.f
   rw [if_pos (show (⟨#[58]⟩ : ByteArray).data.toList.length = 1 from rfl)]
   have : ∀ l : List UInt8, (58 : UInt8) ∉ l → Lib.indexByte l 58 = -1 := by
    intro l
    induction l with
    | nil => intro _; rfl
    | cons b l ih =>
     intro h
     unfold Lib.indexByte
     have hb : (b == 58) = false := beq_eq_false_iff_ne.mpr fun e => h (by rw [e]; exact List.mem_cons_self ..)
     rw [hb, ih (fun e => h (List.mem_cons_of_mem _ e))]
     rfl
   exact congrArg some (this _ hn)
  simp only [strings_Cut.f, stringslite_Cut.f, hidx, bS]
  rw [if_neg (by decide)]
  rfl
 ·right
  obtain ⟨m, h1, h2, h3, h4⟩ := index_free 58 (bl w) hc
  have hidx : stringslite_Index.f w (⟨#[58]⟩ : ByteArray) = some (m : Int) := by
   unfold stringslite_Index.f
   rw [if_pos (show (⟨#[58]⟩ : ByteArray).data.toList.length = 1 from rfl)]
   exact congrArg some h1
  have he : bl (w.extract (m + 1) w.size) = (bl w).drop (m + 1) := by
   rw [bl_extract]
   exact List.take_of_length_le (by rw [List.length_drop]; omega)
  refine ⟨w.extract 0 m, w.extract (m + 1) w.size, ?_, ?_, ?_, ?_⟩
  ·unfold cutB
   rw [he]
   conv => lhs; rw [h3]
   rw [cutA_at _ _ _ h4, List.map_cons]
   congr 1
   refine bl_inj ?_
   rw [bl_mkB, bl_extract]
   simp
  ·rw [bl_size, bl_extract, List.length_take, List.length_drop]; omega
  ·rw [bl_size, he, List.length_drop]; omega
  ·have hone : (⟨#[58]⟩ : ByteArray).size = 1 := rfl
   have w1 : Aside0 (wrap64 ((m : Int) + ((⟨#[58]⟩ : ByteArray).size : Int)) = ((m + 1 : Nat) : Int)) := ⟨by rw [hone]; exact w64s m (by omega)⟩
   clear hone
   simp only [strings_Cut.f, stringslite_Cut.f, hidx, bS]
   rw [w1.out, if_pos (by omega), if_pos (by omega), if_pos (by omega), if_pos (by omega), if_pos (by omega), bS]
   simp only [Int.toNat_natCast]
theorem cutB_ne (c : UInt8) (s : ByteArray) : cutB c s ≠ [] := by
 intro h
 have := congrArg List.length h
 unfold cutB at this
 rw [List.length_map, cutA_length] at this
 simp at this
/-- The ranges of pieces, behind ranges. -/
noncomputable def foldS : List ByteArray → List S49 → List S49 × Bool
 | [], out => (out, true)
 | w :: ws, out => match partR w with
  | some (a, b) => if out.length = 50 then ([], false) else foldS ws (out ++ [⟨a, b⟩])
  | none => ([], false)
theorem rd_hd (a : ByteArray) (l : List ByteArray) : rdOf ByteArray.empty (a :: l) 0 = a := rfl
theorem rd_sn (a b : ByteArray) (l : List ByteArray) : rdOf ByteArray.empty (a :: b :: l) 1 = b := rfl
theorem specSet_l0 (l : List ByteArray) (hl : l.length ≤ 4611686018427387904) (hs : ∀ x ∈ l, x.size ≤ 8796093022000) : ∀ (d i : Nat) (out : List S49), i + d = l.length → out.length ≤ 50 → Ev (fun k => spec_l11Set.l0 k out l (i : Int)) (foldS (l.drop i) out) := by
 intro d
 induction d with
 | zero =>
  intro i out hi ho
  rw [List.drop_eq_nil_of_le (by omega)]
  refine Ev.step (f := fun _ => some _) (fun k => ?_) (Ev.now _)
  simp only [spec_l11Set.l0, foldS]
  rw [if_neg (by omega)]
 | succ d ih =>
  intro i out hi ho
  have hlt : i < l.length := by omega
  have hr := rdOf_nat2 l i hlt
  have hw := hs _ (List.getElem_mem hlt)
  rw [List.drop_eq_getElem_cons hlt]
  generalize l[i]'hlt = w at hr hw
  obtain ⟨K1, hK1⟩ := specCut_ev w 58 hw
  have hsub := cutB_size 58 w
  have ejt : ∀ (p : List ByteArray) (a : Int), Ev (fun k => spec_l11Set.j1 k out l (i : Int) p a true) ([], false) := fun p a => Ev.step (f := fun _ => some _) (fun k => by simp only [spec_l11Set.j1]; exact if_pos trivial) (Ev.now _)
  -- the first piece
  obtain ⟨a, q, hp⟩ : ∃ a q, cutB 58 w = a :: q := by
   cases h : cutB 58 w with
   | nil => exact absurd h (cutB_ne 58 w)
   | cons a q => exact ⟨a, q, rfl⟩
  rw [hp] at hsub
  obtain ⟨K2, hK2⟩ := specOne_ev a (by have := hsub a (List.mem_cons_self ..); omega)
  have hstep : ∀ (b : Bool) (k : Nat), K1 + K2 ≤ k → b = (if (endO (bl a)).2 = true then (if q.length + 1 > 2 then true else ((out.length : Int) == 50)) else true) → spec_l11Set.l0 (k + 1) out l (i : Int) = spec_l11Set.j1 k out l (i : Int) (a :: q) (endO (bl a)).1 b := by
   intro b k hk hb
   have e1 : spec_l00Cut.f k w 58 = some (a :: q) := by have := hK1 k (by omega); rw [hp] at this; exact this
   have e2 := hK2 k (by omega)
   simp only at e2
   have hlen : ((a :: q).length : Int) = (q.length : Int) + 1 := by rw [List.length_cons]; omega
   simp only [spec_l11Set.l0, hr, e1, bS, rd_hd, e2, hlen]
   rw [if_pos (by omega), if_pos (by omega), if_pos (by omega), hb]
   by_cases h1 : (endO (bl a)).2 = true
   ·rw [if_pos h1, if_pos h1]
    by_cases h2 : q.length + 1 > 2
    ·rw [if_pos h2, if_pos (by omega)]
    ·rw [if_neg h2, if_neg (by omega)]
   ·rw [if_neg h1, if_neg h1]
  have hfail : ∀ (b : Bool), b = true → b = (if (endO (bl a)).2 = true then (if q.length + 1 > 2 then true else ((out.length : Int) == 50)) else true) → Ev (fun k => spec_l11Set.l0 k out l (i : Int)) ([], false) := by
   intro b hb hb2
   subst hb
   obtain ⟨K3, hK3⟩ := ejt (a :: q) (endO (bl a)).1
   refine ⟨K1 + K2 + K3 + 1, fun k hk => ?_⟩
   obtain ⟨m, rfl⟩ : ∃ m, k = m + 1 := ⟨k - 1, by omega⟩
   simp only
   rw [hstep true m (by omega) hb2]
   exact hK3 m (by omega)
  simp only [foldS]
  by_cases h1 : (endO (bl a)).2 = true
  ·by_cases h50 : out.length = 50
   ·have hres : (match partR w with | some (a, b) => if out.length = 50 then (([], false) : List S49 × Bool) else foldS (l.drop (i + 1)) (out ++ [⟨a, b⟩]) | none => ([], false)) = ([], false) := by
     cases partR w with
     | none => rfl
     | some p => exact if_pos h50
    rw [hres]
    refine hfail true rfl ?_
    rw [if_pos h1]
    split
    ·rfl
    ·exact (beq_iff_eq.mpr (by omega)).symm
   ·have h50' : ((out.length : Int) == 50) = false := beq_eq_false_iff_ne.mpr (by omega)
    cases q with
    | nil =>
     have hpart : partR w = some ((endO (bl a)).1, (endO (bl a)).1) := by unfold partR; rw [hp]; exact if_pos h1
     rw [hpart]
     simp only
     rw [if_neg h50]
     obtain ⟨K3, hK3⟩ := ih (i + 1) (out ++ [⟨(endO (bl a)).1, (endO (bl a)).1⟩]) (by omega) (by rw [List.length_append, List.length_cons, List.length_nil]; omega)
     refine ⟨K1 + K2 + K3 + 2, fun k hk => ?_⟩
     obtain ⟨m, rfl⟩ : ∃ m, k = m + 1 + 1 := ⟨k - 2, by omega⟩
     have e3 := hK3 m (by omega)
     simp only at e3 ⊢
     rw [hstep false (m + 1) (by omega) (by rw [if_pos h1, if_neg (by simp), h50'])]
     simp only [spec_l11Set.j1]
     rw [if_neg (by decide), if_neg (by simp), if_pos (by omega), w64s i (by omega)]
     exact e3
    | cons b r =>
     cases r with
     | nil =>
      obtain ⟨K4, hK4⟩ := specOne_ev b (by have := hsub b (List.mem_cons_of_mem _ (List.mem_cons_self ..)); omega)
      by_cases h2 : (endO (bl b)).2 = true
      ·have hpart : partR w = some ((endO (bl a)).1, (endO (bl b)).1) := by unfold partR; rw [hp]; simp only; rw [if_pos h1, if_pos h2]
       rw [hpart]
       simp only
       rw [if_neg h50]
       obtain ⟨K3, hK3⟩ := ih (i + 1) (out ++ [⟨(endO (bl a)).1, (endO (bl b)).1⟩]) (by omega) (by rw [List.length_append, List.length_cons, List.length_nil]; omega)
       refine ⟨K1 + K2 + K3 + K4 + 2, fun k hk => ?_⟩
       obtain ⟨m, rfl⟩ : ∃ m, k = m + 1 + 1 := ⟨k - 2, by omega⟩
       have e3 := hK3 m (by omega)
       have e4 := hK4 m (by omega)
       simp only at e3 e4 ⊢
       rw [hstep false (m + 1) (by omega) (by rw [if_pos h1, if_neg (by simp), h50'])]
       simp only [spec_l11Set.j1, rd_sn, e4, bS]
       rw [if_neg (by decide), if_pos (by simp), if_pos (by simp), if_pos h2, if_pos (by omega), w64s i (by omega)]
       exact e3
      ·have hpart : partR w = none := by unfold partR; rw [hp]; simp only; rw [if_pos h1, if_neg h2]
       rw [hpart]
       refine ⟨K1 + K2 + K4 + 2, fun k hk => ?_⟩
       obtain ⟨m, rfl⟩ : ∃ m, k = m + 1 + 1 := ⟨k - 2, by omega⟩
       have e4 := hK4 m (by omega)
       simp only at e4 ⊢
       rw [hstep false (m + 1) (by omega) (by rw [if_pos h1, if_neg (by simp), h50'])]
       simp only [spec_l11Set.j1, rd_sn, e4, bS]
       rw [if_neg (by decide), if_pos (by simp), if_pos (by simp), if_neg h2]
     | cons c r =>
      have hpart : partR w = none := by unfold partR; rw [hp]
      rw [hpart]
      exact hfail true rfl (by rw [if_pos h1, if_pos (by simp)])
  ·have hpart : partR w = none := by
    unfold partR
    rw [hp]
    cases q with
    | nil => exact if_neg h1
    | cons b r =>
     cases r with
     | nil => exact if_neg h1
     | cons _ _ => rfl
   rw [hpart]
   exact hfail true rfl (by rw [if_neg h1])
theorem implSet_l0 (l : List ByteArray) (hl : l.length ≤ 4611686018427387904) (hs : ∀ x ∈ l, x.size ≤ 8796093022000) : ∀ (d i : Nat) (out : List S49), i + d = l.length → out.length ≤ 50 → Ev (fun k => impl_readSet.l0 k out l (l.length : Int) (i : Int)) (foldS (l.drop i) out) := by
 intro d
 induction d with
 | zero =>
  intro i out hi ho
  rw [List.drop_eq_nil_of_le (by omega)]
  refine Ev.step (f := fun _ => some _) (fun k => ?_) (Ev.now _)
  simp only [impl_readSet.l0, foldS]
  rw [if_neg (by omega)]
 | succ d ih =>
  intro i out hi ho
  have hlt : i < l.length := by omega
  have hr := rdOf_nat2 l i hlt
  have hw := hs _ (List.getElem_mem hlt)
  rw [List.drop_eq_getElem_cons hlt]
  generalize l[i]'hlt = w at hr hw
  simp only [foldS]
  rcases cut58 w (by omega) with ⟨hp, hcut⟩ | ⟨a, b, hp, ha, hb, hcut⟩
  ·obtain ⟨K2, hK2⟩ := implEnd_ev w (by omega)
   have hstep : ∀ k, K2 ≤ k → impl_readSet.l0 (k + 1) out l (l.length : Int) (i : Int) = impl_readSet.j1 k out (⟨#[]⟩ : ByteArray) (endO (bl w)).1 (endO (bl w)).2 (endO (bl w)).1 l (l.length : Int) (i : Int) false := by
    intro k hk
    have e2 := hK2 k hk
    simp only at e2
    simp only [impl_readSet.l0, hr, hcut, e2, bS]
    rw [if_pos (by omega), if_pos (by omega), if_pos (by omega), if_neg (by decide)]
   by_cases h1 : (endO (bl w)).2 = true
   ·have hpart : partR w = some ((endO (bl w)).1, (endO (bl w)).1) := by unfold partR; rw [hp]; exact if_pos h1
    rw [hpart]
    simp only
    by_cases h50 : out.length = 50
    ·rw [if_pos h50]
     refine ⟨K2 + 2, fun k hk => ?_⟩
     obtain ⟨m, rfl⟩ : ∃ m, k = m + 1 + 1 := ⟨k - 2, by omega⟩
     simp only
     rw [hstep (m + 1) (by omega)]
     simp only [impl_readSet.j1]
     rw [if_neg (by decide), if_pos h1, if_pos (by omega)]
    ·rw [if_neg h50]
     obtain ⟨K3, hK3⟩ := ih (i + 1) (out ++ [⟨(endO (bl w)).1, (endO (bl w)).1⟩]) (by omega) (by rw [List.length_append, List.length_cons, List.length_nil]; omega)
     refine ⟨K2 + K3 + 2, fun k hk => ?_⟩
     obtain ⟨m, rfl⟩ : ∃ m, k = m + 1 + 1 := ⟨k - 2, by omega⟩
     have e3 := hK3 m (by omega)
     simp only at e3 ⊢
     rw [hstep (m + 1) (by omega)]
     simp only [impl_readSet.j1]
     rw [if_neg (by decide), if_pos h1, if_neg (by omega), if_pos (by omega), w64s i (by omega)]
     exact e3
   ·have hpart : partR w = none := by unfold partR; rw [hp]; exact if_neg h1
    rw [hpart]
    refine ⟨K2 + 2, fun k hk => ?_⟩
    obtain ⟨m, rfl⟩ : ∃ m, k = m + 1 + 1 := ⟨k - 2, by omega⟩
    simp only
    rw [hstep (m + 1) (by omega)]
    simp only [impl_readSet.j1]
    rw [if_neg (by decide), if_neg h1]
  ·obtain ⟨K2, hK2⟩ := implEnd_ev a (by omega)
   obtain ⟨K4, hK4⟩ := implEnd_ev b (by omega)
   have hstep : ∀ k, K2 ≤ k → impl_readSet.l0 (k + 1) out l (l.length : Int) (i : Int) = impl_readSet.j1 k out b (endO (bl a)).1 (endO (bl a)).2 (endO (bl a)).1 l (l.length : Int) (i : Int) (endO (bl a)).2 := by
    intro k hk
    have e2 := hK2 k hk
    simp only at e2
    simp only [impl_readSet.l0, hr, hcut, e2, bS]
    rw [if_pos (by omega), if_pos (by omega), if_pos (by omega), if_pos trivial]
   by_cases h1 : (endO (bl a)).2 = true
   ·by_cases h2 : (endO (bl b)).2 = true
    ·have hb1 : cutB 58 b = [b] := by
      rcases cut58 b (by omega) with ⟨h, _⟩ | ⟨c, e, h, _, _, _⟩
      ·exact h
      ·exfalso
       have hm : (58 : UInt8) ∈ bl b := by
        rcases Nat.eq_zero_or_pos ((bl b).count 58) with hc | hc
        ·have := congrArg List.length h
         unfold cutB at this
         rw [List.length_cons, List.length_map, List.length_map, cutA_length, cutA_length, hc] at this
         omega
        ·exact List.count_pos_iff.1 hc
       rw [endO_colon _ hm] at h2
       cases h2
     have hpart : partR w = some ((endO (bl a)).1, (endO (bl b)).1) := by unfold partR; rw [hp, hb1]; simp only; rw [if_pos h1, if_pos h2]
     rw [hpart]
     simp only
     by_cases h50 : out.length = 50
     ·rw [if_pos h50]
      refine ⟨K2 + K4 + 2, fun k hk => ?_⟩
      obtain ⟨m, rfl⟩ : ∃ m, k = m + 1 + 1 := ⟨k - 2, by omega⟩
      have e4 := hK4 m (by omega)
      simp only at e4 ⊢
      rw [hstep (m + 1) (by omega)]
      simp only [impl_readSet.j1, e4, bS]
      rw [if_pos h1, if_pos h2, if_pos (by omega)]
     ·rw [if_neg h50]
      obtain ⟨K3, hK3⟩ := ih (i + 1) (out ++ [⟨(endO (bl a)).1, (endO (bl b)).1⟩]) (by omega) (by rw [List.length_append, List.length_cons, List.length_nil]; omega)
      refine ⟨K2 + K3 + K4 + 2, fun k hk => ?_⟩
      obtain ⟨m, rfl⟩ : ∃ m, k = m + 1 + 1 := ⟨k - 2, by omega⟩
      have e3 := hK3 m (by omega)
      have e4 := hK4 m (by omega)
      simp only at e3 e4 ⊢
      rw [hstep (m + 1) (by omega)]
      simp only [impl_readSet.j1, e4, bS]
      rw [if_pos h1, if_pos h2, if_neg (by omega), if_pos (by omega), w64s i (by omega)]
      exact e3
    ·have hpart : partR w = none := by
      unfold partR
      rw [hp]
      rcases cut58 b (by omega) with ⟨h, _⟩ | ⟨c, e, h, _, _, _⟩
      ·rw [h]; simp only; rw [if_pos h1, if_neg h2]
      ·rw [h]
       cases he : cutB 58 e with
       | nil => exact absurd he (cutB_ne 58 e)
       | cons _ _ => rfl
     rw [hpart]
     refine ⟨K2 + K4 + 2, fun k hk => ?_⟩
     obtain ⟨m, rfl⟩ : ∃ m, k = m + 1 + 1 := ⟨k - 2, by omega⟩
     have e4 := hK4 m (by omega)
     simp only at e4 ⊢
     rw [hstep (m + 1) (by omega)]
     simp only [impl_readSet.j1, e4, bS]
     rw [if_pos h1, if_neg h2]
   ·have hf : (endO (bl a)).2 = false := by
     cases h : (endO (bl a)).2 with
     | false => rfl
     | true => exact absurd h h1
    have hpart : partR w = none := by
     unfold partR
     rw [hp]
     cases hq : cutB 58 b with
     | nil => exact absurd hq (cutB_ne 58 b)
     | cons c r =>
      cases r with
      | nil => exact if_neg h1
      | cons _ _ => rfl
    rw [hpart]
    refine ⟨K2 + 2, fun k hk => ?_⟩
    obtain ⟨m, rfl⟩ : ∃ m, k = m + 1 + 1 := ⟨k - 2, by omega⟩
    simp only
    rw [hstep (m + 1) (by omega), hf]
    simp only [impl_readSet.j1]
    rw [if_neg (by decide), if_neg (by decide)]
theorem foldS_len : ∀ (l : List ByteArray) (out : List S49), out.length ≤ 50 → (foldS l out).1.length ≤ 50
 | [], out, h => h
 | w :: ws, out, h => by
  simp only [foldS]
  split
  ·split
   ·exact Nat.zero_le _
   ·exact foldS_len ws _ (by rw [List.length_append, List.length_cons, List.length_nil]; omega)
  ·exact Nat.zero_le _
/-- The set that a text tells. -/
noncomputable def setO (s : ByteArray) : List S49 × Bool := foldS (cutB 44 s) []
theorem setO_len (s : ByteArray) : (setO s).1.length ≤ 50 := foldS_len _ _ (by simp)
theorem setO_spec (s : ByteArray) (h : s.size ≤ 8796093020000) : Ev (fun k => spec_l11Set.f k s) (setO s) := by
 obtain ⟨K1, hK1⟩ := specCut_ev s 44 (by omega)
 have hcl := cutB_length 44 s
 have hcs : ∀ y ∈ cutB 44 s, y.size ≤ 8796093022000 := fun y hy => by have := cutB_size 44 s y hy; omega
 obtain ⟨K3, hK3⟩ := specSet_l0 (cutB 44 s) (by omega) hcs _ 0 [] (Nat.zero_add _) (by simp)
 refine ⟨K1 + K3, fun k hk => ?_⟩
 have e1 : spec_l00Cut.f k s 44 = some (cutB 44 s) := hK1 k (by omega)
 simp only [spec_l11Set.f, e1, bS]
 exact hK3 k (by omega)
theorem setO_impl (s : ByteArray) (h : s.size ≤ 8796093020000) : Ev (fun k => impl_readSet.f k s) (setO s) := by
 obtain ⟨K1, hK1⟩ := split_ev s 44 (by omega)
 have hcl := cutB_length 44 s
 have hcs : ∀ y ∈ cutB 44 s, y.size ≤ 8796093022000 := fun y hy => by have := cutB_size 44 s y hy; omega
 obtain ⟨K3, hK3⟩ := implSet_l0 (cutB 44 s) (by omega) hcs _ 0 [] (Nat.zero_add _) (by simp)
 refine ⟨K1 + K3, fun k hk => ?_⟩
 have e1 : strings_Split.f k s (⟨#[44]⟩ : ByteArray) = some (cutB 44 s) := hK1 k (by omega)
 simp only [impl_readSet.f, e1, bS]
 exact hK3 k (by omega)
end Go.Proofs.YtoieoimfkimedaaDoor.P
/- Lemmas of mine: loops that count up: over any function of rounds. Plain. -/
set_option linter.unusedVariables false
set_option linter.unusedSimpArgs false
namespace Go.Proofs.YtoieoimfkimedaaDoor.P
open Go.RowKit Go.Proofs.YtoieoimfkimedaaDoorW.PrintWords
/-- A loop whose rounds change the place alone. -/
theorem up_loop {R : Type} (L : Nat → Int → Option R) (n : Nat) (r : R)
  (hstep : ∀ i : Nat, i < n → ∃ K, ∀ k, K ≤ k → L (k + 1) (i : Int) = L k ((i + 1 : Nat) : Int))
  (hend : ∃ K, ∀ k, K ≤ k → L (k + 1) (n : Int) = some r) : ∀ d i : Nat, i + d = n → Ev (fun k => L k (i : Int)) r := by
 intro d
 induction d with
 | zero =>
  intro i hi
  obtain rfl : i = n := by omega
  obtain ⟨K, h⟩ := hend
  exact ⟨K + 1, fun k hk => by obtain ⟨m, rfl⟩ : ∃ m, k = m + 1 := ⟨k - 1, by omega⟩; exact h m (by omega)⟩
 | succ d ih =>
  intro i hi
  obtain ⟨K, h⟩ := hstep i (by omega)
  obtain ⟨K2, h2⟩ := ih (i + 1) (by omega)
  refine ⟨K + K2 + 1, fun k hk => ?_⟩
  obtain ⟨m, rfl⟩ : ∃ m, k = m + 1 := ⟨k - 1, by omega⟩
  show L (m + 1) (i : Int) = some r
  rw [h m (by omega)]
  exact h2 m (by omega)
/-- A loop with a state: what holds of the state says what comes out. -/
theorem st_loop {σ R : Type} (L : Nat → σ → Int → Option R) (n : Nat) (out : Nat → σ → R → Prop)
  (hstep : ∀ (i : Nat) (s : σ), i < n → (∃ r, (∃ K, ∀ k, K ≤ k → L (k + 1) s (i : Int) = some r) ∧ out i s r) ∨ ∃ s', (∃ K, ∀ k, K ≤ k → L (k + 1) s (i : Int) = L k s' ((i + 1 : Nat) : Int)) ∧ ∀ r, out (i + 1) s' r → out i s r)
  (hend : ∀ s, ∃ r, (∃ K, ∀ k, K ≤ k → L (k + 1) s (n : Int) = some r) ∧ out n s r) : ∀ (d i : Nat) (s : σ), i + d = n → ∃ r, Ev (fun k => L k s (i : Int)) r ∧ out i s r := by
 intro d
 induction d with
 | zero =>
  intro i s hi
  obtain rfl : i = n := by omega
  obtain ⟨r, ⟨K, h⟩, ho⟩ := hend s
  exact ⟨r, ⟨K + 1, fun k hk => by obtain ⟨m, rfl⟩ : ∃ m, k = m + 1 := ⟨k - 1, by omega⟩; exact h m (by omega)⟩, ho⟩
 | succ d ih =>
  intro i s hi
  rcases hstep i s (by omega) with ⟨r, ⟨K, h⟩, ho⟩ | ⟨s', ⟨K, h⟩, ho⟩
  ·exact ⟨r, ⟨K + 1, fun k hk => by obtain ⟨m, rfl⟩ : ∃ m, k = m + 1 := ⟨k - 1, by omega⟩; exact h m (by omega)⟩, ho⟩
  ·obtain ⟨r, ⟨K2, h2⟩, ho2⟩ := ih (i + 1) s' (by omega)
   refine ⟨r, ⟨K + K2 + 1, fun k hk => ?_⟩, ho r ho2⟩
   obtain ⟨m, rfl⟩ : ∃ m, k = m + 1 := ⟨k - 1, by omega⟩
   show L (m + 1) s (i : Int) = some r
   rw [h m (by omega)]
   exact h2 m (by omega)
theorem map_set {α β : Type} (xs : List α) (ys : List β) (g : α → β) (i : Nat) (hi : i < xs.length) (hl : ys.length = xs.length) (hy : ys.take i = (xs.take i).map g) :
  (ys.set i (g (xs[i]'hi))).take (i + 1) = (xs.take (i + 1)).map g := by
 have e2 : (xs.take (i + 1)).map g = (xs.take i).map g ++ [g (xs[i]'hi)] := by
  rw [List.take_add_one, List.getElem?_eq_getElem hi, List.map_append]
  rfl
 have e : ((xs.take i).map g).length = i := by rw [List.length_map, List.length_take]; omega
 rw [e2, List.take_set, List.take_add_one, List.getElem?_eq_getElem (by omega), hy, List.set_append_right _ _ (by omega), e, Nat.sub_self]
 rfl
/-- A loop that fills a row of the same length. -/
theorem copy_loop {α β : Type} (L : Nat → List β → Int → Option (List β)) (xs : List α) (g : α → β)
  (hstep : ∀ (i : Nat) (ys : List β) (hi : i < xs.length), ys.length = xs.length → ∃ K, ∀ k, K ≤ k → L (k + 1) ys (i : Int) = L k (ys.set i (g (xs[i]'hi))) ((i + 1 : Nat) : Int))
  (hend : ∀ ys, ys.length = xs.length → ∃ K, ∀ k, K ≤ k → L (k + 1) ys (xs.length : Int) = some ys) :
  ∀ (d i : Nat) (ys : List β), i + d = xs.length → ys.length = xs.length → ys.take i = (xs.take i).map g → Ev (fun k => L k ys (i : Int)) (xs.map g) := by
 intro d
 induction d with
 | zero =>
  intro i ys hi hl hy
  obtain rfl : i = xs.length := by omega
  rw [List.take_of_length_le (by omega), List.take_of_length_le (Nat.le_refl _)] at hy
  subst hy
  obtain ⟨K, h⟩ := hend _ hl
  exact ⟨K + 1, fun k hk => by obtain ⟨m, rfl⟩ : ∃ m, k = m + 1 := ⟨k - 1, by omega⟩; exact h m (by omega)⟩
 | succ d ih =>
  intro i ys hi hl hy
  obtain ⟨K, h⟩ := hstep i ys (by omega) hl
  obtain ⟨K2, h2⟩ := ih (i + 1) (ys.set i (g (xs[i]'(by omega)))) (by omega) (by rw [List.length_set]; exact hl) (map_set xs ys g i (by omega) hl hy)
  refine ⟨K + K2 + 1, fun k hk => ?_⟩
  obtain ⟨m, rfl⟩ : ∃ m, k = m + 1 := ⟨k - 1, by omega⟩
  show L (m + 1) ys (i : Int) = _
  rw [h m (by omega)]
  exact h2 m (by omega)
theorem getD_nat {α : Type} (xs : List α) (z : α) (i : Nat) (h : i < xs.length) : xs.getD ((i : Nat) : Int).toNat z = xs[i]'h := by
 rw [Int.toNat_natCast, List.getD_eq_getElem?_getD, List.getElem?_eq_getElem h]; rfl
end Go.Proofs.YtoieoimfkimedaaDoor.P
/- Lemmas of mine: the mark of a number. Plain. -/
set_option linter.unusedVariables false
set_option linter.unusedSimpArgs false
namespace Go.Proofs.YtoieoimfkimedaaDoor.P
open Go.RowKit Go.Proofs.YtoieoimfkimedaaDoorW.PrintWords
theorem markText_l0 : ∀ (d n : Nat) (x : ByteArray), n < 10 ^ d → n ≤ 9223372036854775807 → x.size + d ≤ 1000 → ∃ t, Ev (fun k => laws_markText.l0 k (n : Int) x) t := by
 intro d
 induction d with
 | zero =>
  intro n x hn hn9 hx
  have : n = 0 := by simpa using hn
  subst this
  refine ⟨(⟨#[109]⟩ : ByteArray) ++ x, Ev.step (f := fun _ => some ((⟨#[109]⟩ : ByteArray) ++ x)) (fun k => ?_) (Ev.now _)⟩
  simp only [laws_markText.l0]
  rw [if_neg (by omega), if_pos (by omega)]
 | succ d ih =>
  intro n x hn hn9 hx
  by_cases h0 : n = 0
  ·subst h0
   refine ⟨(⟨#[109]⟩ : ByteArray) ++ x, Ev.step (f := fun _ => some ((⟨#[109]⟩ : ByteArray) ++ x)) (fun k => ?_) (Ev.now _)⟩
   simp only [laws_markText.l0]
   rw [if_neg (by omega), if_pos (by omega)]
  ·have hp : 10 ^ (d + 1) = 10 ^ d * 10 := rfl
   have hs : (strOfNums [(wrap64 (48 + (Int.tmod (n : Int) 10))) % 256]).size = 1 := by rw [strOfNums_size]; rfl
   obtain ⟨t, ht⟩ := ih (n / 10) (strOfNums [(wrap64 (48 + (Int.tmod (n : Int) 10))) % 256] ++ x) (by omega) (by omega) (by rw [ByteArray.size_append, hs]; omega)
   refine ⟨t, Ev.step (f := fun k => laws_markText.l0 k ((n / 10 : Nat) : Int) (strOfNums [(wrap64 (48 + (Int.tmod (n : Int) 10))) % 256] ++ x)) (fun k => ?_) ht⟩
   have hw : ∀ m : Int, 0 ≤ m → m ≤ n → wrap64 m = m ∨ True := fun _ _ _ => .inr trivial
   simp only [laws_markText.l0, Option.bind_some]
   rw [if_pos (by omega), if_pos (by rw [hs]; omega)]
   have hq : Int.tdiv (n : Int) 10 = ((n / 10 : Nat) : Int) := rfl
   rw [hq]
   rw [w64n _ (by omega)]
theorem markText_some (n : Nat) (hn : n < 10 ^ 18) : ∃ t, Ev (fun k => laws_markText.f k (n : Int)) t := by
 by_cases h0 : (n : Int) ≤ 0
 ·refine ⟨(⟨#[109, 48]⟩ : ByteArray), ⟨0, fun k _ => ?_⟩⟩
  simp only [laws_markText.f]
  rw [if_pos h0]
 ·obtain ⟨t, ht⟩ := markText_l0 18 n ⟨#[]⟩ hn (Nat.le_trans (Nat.le_of_lt hn) (by decide)) (by decide)
  refine ⟨t, Ev.congr (fun k => ?_) ht⟩
  simp only [laws_markText.f]
  rw [if_neg h0]
open Classical in
/-- The mark of a number. -/
noncomputable def mt (n : Nat) : ByteArray := if h : ∃ t, Ev (fun k => laws_markText.f k (n : Int)) t then h.choose else ⟨#[]⟩
theorem mt_ev (n : Nat) (hn : n < 10 ^ 18) : Ev (fun k => laws_markText.f k (n : Int)) (mt n) := by
 unfold mt
 rw [dif_pos (markText_some n hn)]
 exact (markText_some n hn).choose_spec
end Go.Proofs.YtoieoimfkimedaaDoor.P
/- Lemmas of mine: the marks of a row of ranges. Plain. -/
set_option linter.unusedVariables false
set_option linter.unusedSimpArgs false
namespace Go.Proofs.YtoieoimfkimedaaDoor.P
open Go.RowKit Go.Proofs.YtoieoimfkimedaaDoorW.PrintWords
def rgs : Nat → Nat → List S49
 | _, 0 => []
 | n, m + 1 => ⟨(n : Int), ((n + 1 : Nat) : Int)⟩ :: rgs (n + 2) m
theorem rgs_length : ∀ m n, (rgs n m).length = m
 | 0, _ => rfl
 | m + 1, n => by rw [rgs, List.length_cons, rgs_length m]
theorem markR_l0 : ∀ (d i n : Nat) (xs : List S49), i + d = xs.length → xs.length ≤ 4611686018427387904 → n + 2 * d ≤ 9223372036854775000 →
  Ev (fun k => laws_markRangeS.l0 k xs (n : Int) (i : Int)) (((n + 2 * d : Nat) : Int), xs.take i ++ rgs n d) := by
 intro d
 induction d with
 | zero =>
  intro i n xs hi hx hn
  refine Ev.step (f := fun _ => some _) (fun k => ?_) (Ev.now _)
  simp only [laws_markRangeS.l0]
  rw [if_neg (by omega), List.take_of_length_le (by omega)]
  simp [rgs]
 | succ d ih =>
  intro i n xs hi hx hn
  have h := ih (i + 1) (n + 2) (xs.set i ⟨(n : Int), ((n + 1 : Nat) : Int)⟩) (by rw [List.length_set]; omega) (by rw [List.length_set]; omega) (by omega)
  have e : (xs.set i (⟨(n : Int), ((n + 1 : Nat) : Int)⟩ : S49)).take (i + 1) ++ rgs (n + 2) d = xs.take i ++ rgs n (d + 1) := by
   rw [List.take_set, List.take_add_one, List.getElem?_eq_getElem (by omega)]
   have hl : (xs.take i).length = i := by rw [List.length_take]; omega
   rw [List.set_append_right _ _ (by omega), hl, Nat.sub_self]
   simp only [Option.toList, List.set_cons_zero, List.append_assoc, List.cons_append, List.nil_append, rgs]
  rw [e, show n + 2 + 2 * d = n + 2 * (d + 1) by omega] at h
  refine Ev.step (fun k => ?_) h
  simp only [laws_markRangeS.l0, bS]
  have w1 : Aside0 (wrap64 ((n : Int) + 1) = ((n + 1 : Nat) : Int)) := ⟨w64s n (by omega)⟩
  have w2 : Aside0 (wrap64 (((n + 1 : Nat) : Int) + 1) = ((n + 2 : Nat) : Int)) := ⟨w64s (n + 1) (by omega)⟩
  rw [w1.out, w2.out, w64s i (by omega), if_pos (by omega), if_pos (by omega)]
  congr 1
  rw [Int.toNat_natCast, List.set_set]
  congr 1
  simp only [rd_T49, Int.toNat_natCast, List.getD_eq_getElem?_getD]
  rw [List.getElem?_set_self (by omega)]
  rfl
theorem markR_ev (xs : List S49) (n : Nat) (hx : xs.length ≤ 4611686018427387904) (hn : n + 2 * xs.length ≤ 9223372036854775000) : Ev (fun k => laws_markRangeS.f k xs (n : Int)) (((n + 2 * xs.length : Nat) : Int), rgs n xs.length) := by
 have h := markR_l0 xs.length 0 n xs (by omega) hx hn
 rw [List.take_zero, List.nil_append] at h
 exact h
theorem heldR_l0 (ys : List S49) (hy : ys.length ≤ 4611686018427387904) : ∀ (d i n : Nat), i + d = ys.length → ys.drop i = rgs n d → n + 2 * d ≤ 9223372036854775000 → Ev (fun k => laws_heldRangeS.l0 k ys (n : Int) (i : Int)) ((n + 2 * d : Nat) : Int) := by
 intro d
 induction d with
 | zero =>
  intro i n hi hd hn
  refine Ev.step (f := fun _ => some _) (fun k => ?_) (Ev.now _)
  simp only [laws_heldRangeS.l0]
  rw [if_neg (by omega)]
  rfl
 | succ d ih =>
  intro i n hi hd hn
  have hlt : i < ys.length := by omega
  rw [List.drop_eq_getElem_cons hlt, rgs] at hd
  injection hd with h1 h2
  have hr : rd_T49 ys (i : Int) = ⟨(n : Int), ((n + 1 : Nat) : Int)⟩ := by
   simp only [rd_T49, Int.toNat_natCast, List.getD_eq_getElem?_getD]
   rw [List.getElem?_eq_getElem hlt, h1]
   rfl
  have h := ih (i + 1) (n + 2) (by omega) h2 (by omega)
  rw [show n + 2 + 2 * d = n + 2 * (d + 1) by omega] at h
  refine Ev.step (fun k => ?_) h
  simp only [laws_heldRangeS.l0, hr]
  have w1 : Aside0 (wrap64 ((n : Int) + 1) = ((n + 1 : Nat) : Int)) := ⟨w64s n (by omega)⟩
  have w2 : Aside0 (wrap64 (((n + 1 : Nat) : Int) + 1) = ((n + 2 : Nat) : Int)) := ⟨w64s (n + 1) (by omega)⟩
  rw [w1.out, w2.out, w64s i (by omega), if_pos (by omega), if_pos (by omega), if_pos trivial, if_pos rfl]
theorem heldR_ev (n m : Nat) (hm : m ≤ 4611686018427387904) (hn : n + 2 * m ≤ 9223372036854775000) : Ev (fun k => laws_heldRangeS.f k (rgs n m) (n : Int)) ((n + 2 * m : Nat) : Int) :=
 heldR_l0 (rgs n m) (by rw [rgs_length]; exact hm) m 0 n (by rw [rgs_length]; omega) rfl hn
end Go.Proofs.YtoieoimfkimedaaDoor.P
/- Lemmas of mine: lists of words and of keys of a search: copied, the same, marked, found again. Plain. -/
set_option linter.unusedVariables false
set_option linter.unusedSimpArgs false
namespace Go.Proofs.YtoieoimfkimedaaDoor.P
open Go.RowKit Go.Proofs.YtoieoimfkimedaaDoorW.PrintWords
/-- Marks from a number on. -/
noncomputable def marks (n m : Nat) : List ByteArray := (List.range m).map fun i => mt (n + i)
theorem marks_length (n m : Nat) : (marks n m).length = m := by simp [marks]
theorem marks_get (n m i : Nat) (h : i < m) : (marks n m)[i]? = some (mt (n + i)) := by simp [marks, h]
theorem markS_l0 : ∀ (d i n : Nat) (xs : List ByteArray), i + d = xs.length → xs.length ≤ 4611686018427387904 → n + d < 10 ^ 18 →
  Ev (fun k => laws_markStringS.l0 k xs (n : Int) (i : Int)) (((n + d : Nat) : Int), xs.take i ++ marks n d) := by
 intro d
 induction d with
 | zero =>
  intro i n xs hi hx hn
  refine Ev.step (f := fun _ => some _) (fun k => ?_) (Ev.now _)
  simp only [laws_markStringS.l0]
  rw [if_neg (by omega), List.take_of_length_le (by omega)]
  simp [marks]
 | succ d ih =>
  intro i n xs hi hx hn
  obtain ⟨K1, h1⟩ := mt_ev n (by omega)
  have h2 := ih (i + 1) (n + 1) (xs.set i (mt n)) (by rw [List.length_set]; omega) (by rw [List.length_set]; omega) (by omega)
  obtain ⟨K2, h2⟩ := h2
  replace h1 : ∀ k, K1 ≤ k → laws_markText.f k (n : Int) = some (mt n) := h1
  replace h2 : ∀ k, K2 ≤ k → laws_markStringS.l0 k (xs.set i (mt n)) ((n + 1 : Nat) : Int) ((i + 1 : Nat) : Int) = _ := h2
  refine ⟨K1 + K2 + 1, fun k hk => ?_⟩
  obtain ⟨m, rfl⟩ : ∃ m, k = m + 1 := ⟨k - 1, by omega⟩
  simp only [laws_markStringS.l0, h1 m (by omega), Option.bind_some, Int.toNat_natCast]
  have hp : (10 : Nat) ^ 18 = 1000000000000000000 := by decide
  rw [if_pos (by omega), if_pos (by omega), w64s n (by omega), w64s i (by omega), h2 m (by omega)]
  have e : (xs.set i (mt n)).take (i + 1) ++ marks (n + 1) d = xs.take i ++ marks n (d + 1) := by
   rw [List.take_set, List.take_add_one, List.getElem?_eq_getElem (by omega)]
   have hl : (xs.take i).length = i := by rw [List.length_take]; omega
   rw [List.set_append_right _ _ (by omega), hl, Nat.sub_self]
   simp only [Option.toList, List.set_cons_zero, List.append_assoc, List.cons_append, List.nil_append]
   congr 1
   apply List.ext_getElem?
   intro j
   cases j with
   | zero => rw [marks_get n (d + 1) 0 (by omega)]; simp
   | succ j =>
    rw [List.getElem?_cons_succ]
    by_cases hj : j < d
    ·rw [marks_get _ _ _ hj, marks_get _ _ _ (by omega)]
     congr 2
     omega
    ·rw [List.getElem?_eq_none (by rw [marks_length]; omega), List.getElem?_eq_none (by rw [marks_length]; omega)]
  rw [e]
  congr 2
  omega
theorem markS_ev (xs : List ByteArray) (n : Nat) (hx : xs.length ≤ 4611686018427387904) (hn : n + xs.length < 10 ^ 18) : Ev (fun k => laws_markStringS.f k xs (n : Int)) (((n + xs.length : Nat) : Int), marks n xs.length) := by
 have h := markS_l0 xs.length 0 n xs (by omega) hx hn
 rw [List.take_zero, List.nil_append] at h
 exact h
theorem eqS_l0 (xs : List ByteArray) (hx : xs.length ≤ 4611686018427387904) : ∀ (d i : Nat), i + d = xs.length → Ev (fun k => laws_eqStringS.l0 k xs xs (i : Int)) true := by
 intro d
 induction d with
 | zero =>
  intro i hi
  refine Ev.step (f := fun _ => some _) (fun k => ?_) (Ev.now _)
  simp only [laws_eqStringS.l0]
  rw [if_neg (by omega)]
 | succ d ih =>
  intro i hi
  refine Ev.step (f := fun k => laws_eqStringS.l0 k xs xs ((i + 1 : Nat) : Int)) (fun k => ?_) (ih (i + 1) (by omega))
  simp only [laws_eqStringS.l0]
  rw [if_pos (by omega), if_pos (by omega), if_pos (by omega), if_pos trivial, w64s i (by omega)]
theorem eqS_self (xs : List ByteArray) (hx : xs.length ≤ 4611686018427387904) : Ev (fun k => laws_eqStringS.f k xs xs) true := by
 obtain ⟨K, h⟩ := eqS_l0 xs hx xs.length 0 (by omega)
 refine ⟨K, fun k hk => ?_⟩
 simp only [laws_eqStringS.f]
 rw [if_pos trivial]
 exact h k hk
theorem toStringS_ev (xs : List ByteArray) (h : xs.length ≤ 17592186044416) : Ev (fun k => laws_toStringS.f k xs) xs := by
 have hm : xs.map (fun x => x) = xs := by simp
 have := copy_loop (fun k ys i => laws_toStringS.l0 k xs ys i) xs (fun x => x) (fun i ys hi hl => ⟨0, fun k _ => by
   simp only [laws_toStringS.l0, rdOf, getD_nat xs _ i hi]
   rw [if_pos (by omega), if_pos (by omega), if_pos (by omega), w64s i (by omega), Int.toNat_natCast]⟩)
  (fun ys hl => ⟨0, fun k _ => by
   simp only [laws_toStringS.l0]
   rw [if_neg (by omega)]⟩) xs.length 0 (List.replicate xs.length (⟨#[]⟩ : ByteArray)) (by omega) (by simp) (by simp)
 rw [hm] at this
 refine Ev.congr (fun k => ?_) this
 simp only [laws_toStringS.f, Int.toNat_natCast]
 rw [if_pos (by omega), if_pos h]
 rfl
theorem eqR_self (ys : List S49) (h : ys.length ≤ 4611686018427387904) : Ev (fun k => laws_eqRangeS.f k ys ys) true := by
 have hl : ∀ (d i : Nat), i + d = ys.length → Ev (fun k => laws_eqRangeS.l0 k ys ys (i : Int)) true := by
  intro d
  induction d with
  | zero =>
   intro i hi
   exact Ev.step (f := fun _ => some _) (fun k => by simp only [laws_eqRangeS.l0]; rw [if_neg (by omega)]) (Ev.now _)
  | succ d ih =>
   intro i hi
   refine Ev.step (fun k => ?_) (ih (i + 1) (by omega))
   simp only [laws_eqRangeS.l0, laws_eqRange.f, if_true, bS]
   rw [if_pos (by omega), if_pos (by omega), if_pos (by omega), w64s i (by omega)]
 refine Ev.congr (fun k => ?_) (hl ys.length 0 (by omega))
 simp only [laws_eqRangeS.f]
 rw [if_pos trivial]
 rfl
theorem szS_l0 (xs : List ByteArray) (h : xs.length ≤ 4611686018427387904) (hb : ∀ x ∈ xs, x.size ≤ 4611686018427387904) : ∀ (d i : Nat) (n : Int), i + d = xs.length → 0 ≤ n → n ≤ 1048576 →
  ∃ z, Ev (fun k => laws_szStringS.l0 k xs n (i : Int)) z ∧ (0 ≤ z → ∀ x ∈ xs.drop i, x.size ≤ 1048576)
 | 0, i, n, hi, hn, hm => ⟨n, Ev.step (f := fun _ => some _) (fun k => by simp only [laws_szStringS.l0]; rw [if_neg (by omega)]) (Ev.now _), fun _ x hx => by rw [List.drop_eq_nil_of_le (by omega)] at hx; cases hx⟩
 | d + 1, i, n, hi, hn, hm => by
  have hlt : i < xs.length := by omega
  have hs := hb _ (List.getElem_mem hlt)
  obtain ⟨m, hmm⟩ : ∃ m, m = (xs[i]'hlt).size := ⟨_, rfl⟩
  have hw : wrap64 (n - ((xs[i]'hlt).size : Int)) = n - (m : Int) := by rw [w64 (by omega) (by omega), hmm]
  have hrd : rdOf ByteArray.empty xs (i : Int) = xs[i]'hlt := by unfold rdOf; exact getD_nat xs _ i hlt
  have e : ∀ k, laws_szStringS.l0 (k + 1) xs n (i : Int) = if n - (m : Int) < 0 then some (-1) else laws_szStringS.l0 k xs (n - (m : Int)) ((i + 1 : Nat) : Int) := fun k => by
   simp only [laws_szStringS.l0, hrd, hw]
   rw [if_pos (by omega), if_pos (by omega), w64s i (by omega)]
  by_cases hlt0 : n - (m : Int) < 0
  ·exact ⟨-1, Ev.step (f := fun _ => some _) (fun k => by rw [e, if_pos hlt0]) (Ev.now _), fun hz => absurd hz (by decide)⟩
  ·obtain ⟨z, hz, hh⟩ := szS_l0 xs h hb d (i + 1) (n - (m : Int)) (by omega) (by omega) (by omega)
   refine ⟨z, Ev.step (f := fun k => laws_szStringS.l0 k xs (n - (m : Int)) ((i + 1 : Nat) : Int)) (fun k => by rw [e, if_neg hlt0]) hz, fun h0 x hx => ?_⟩
   rw [List.drop_eq_getElem_cons hlt] at hx
   rcases List.mem_cons.1 hx with rfl | hx
   ·omega
   ·exact hh h0 x hx
theorem szS_ok (xs : List ByteArray) (h : xs.length ≤ 4611686018427387904) (hb : ∀ x ∈ xs, x.size ≤ 4611686018427387904) : ∃ z, Ev (fun k => laws_szStringS.f k xs 1048576) z ∧ (0 ≤ z → xs.length ≤ 1048576 ∧ ∀ x ∈ xs, x.size ≤ 1048576) := by
 have hw : wrap64 (1048576 - (xs.length : Int)) = 1048576 - (xs.length : Int) := w64 (by omega) (by omega)
 by_cases h0 : 1048576 - (xs.length : Int) < 0
 ·exact ⟨-1, ⟨0, fun k _ => by simp only [laws_szStringS.f, hw]; rw [if_pos h0]⟩, fun hz => absurd hz (by decide)⟩
 ·obtain ⟨z, hz, hh⟩ := szS_l0 xs h hb xs.length 0 (1048576 - (xs.length : Int)) (by omega) (by omega) (by omega)
  exact ⟨z, Ev.congr (fun k => by simp only [laws_szStringS.f, hw]; rw [if_neg h0]; rfl) hz, fun hz0 => ⟨by omega, fun x hx => hh hz0 x (by rw [List.drop_zero]; exact hx)⟩⟩
-- keys of a search
def Few (xs : List S37) : Prop := xs.length ≤ 20 ∧ ∀ x ∈ xs, x.f3.length ≤ 50
theorem eqK_self (xs : List S37) (h : Few xs) : Ev (fun k => laws_eqSearchKeyS.f k xs xs) true := by
 have hx := h.1
 have go : ∀ (d i : Nat), i + d = xs.length → Ev (fun k => laws_eqSearchKeyS.l0 k xs xs (i : Int)) true := by
  intro d
  induction d with
  | zero =>
   intro i hi
   exact Ev.step (f := fun _ => some _) (fun k => by simp only [laws_eqSearchKeyS.l0]; rw [if_neg (by omega)]) (Ev.now _)
  | succ d ih =>
   intro i hi
   have hlt : i < xs.length := by omega
   have hrd : rd_T37 xs (i : Int) = xs[i]'hlt := by unfold rd_T37; exact getD_nat xs _ i hlt
   have hl := h.2 _ (List.getElem_mem hlt)
   obtain ⟨K1, h1⟩ := eqR_self (xs[i]'hlt).f3 (by omega)
   obtain ⟨K2, h2⟩ := ih (i + 1) (by omega)
   refine ⟨K1 + K2 + 1, fun k hk => ?_⟩
   obtain ⟨m, rfl⟩ : ∃ m, k = m + 1 := ⟨k - 1, by omega⟩
   have h1' := h1 m (by omega)
   have h2' := h2 m (by omega)
   simp only at h1' h2'
   simp only [laws_eqSearchKeyS.l0, hrd, laws_eqSearchKey.f, h1', bS, bne_self_eq_false, w64s i (by omega)]
   rw [if_pos (by omega), if_pos (by omega), if_pos (by omega), if_neg (by decide), if_pos trivial, if_pos trivial, if_pos trivial, bS, if_pos rfl]
   exact h2'
 refine Ev.congr (fun k => ?_) (go xs.length 0 (by omega))
 simp only [laws_eqSearchKeyS.f]
 rw [if_pos trivial]
 rfl
/-- Keys, marked from a number on. -/
noncomputable def mks : Nat → List S37 → List S37
 | _, [] => []
 | n, x :: xs => ⟨Int.tmod (n : Int) 3 == 0, mt (n + 1), mt (n + 2), rgs (n + 3) x.f3.length⟩ :: mks (n + 3 + 2 * x.f3.length) xs
def mkn : Nat → List S37 → Nat
 | n, [] => n
 | n, x :: xs => mkn (n + 3 + 2 * x.f3.length) xs
theorem markK_l0 : ∀ (d i n : Nat) (xs : List S37), i + d = xs.length → Few xs → n + 103 * d ≤ 100000 →
  Ev (fun k => laws_markSearchKeyS.l0 k xs (n : Int) (i : Int)) (((mkn n (xs.drop i) : Nat) : Int), xs.take i ++ mks n (xs.drop i)) := by
 intro d
 induction d with
 | zero =>
  intro i n xs hi hx hn
  rw [List.drop_eq_nil_of_le (by omega)]
  refine Ev.step (f := fun _ => some _) (fun k => ?_) (Ev.now _)
  simp only [laws_markSearchKeyS.l0]
  rw [if_neg (by omega), List.take_of_length_le (by omega)]
  simp [mks, mkn]
 | succ d ih =>
  intro i n xs hi hx hn
  have hlt : i < xs.length := by omega
  have hfx := hx.1
  have hl := hx.2 _ (List.getElem_mem hlt)
  have hrd : rd_T37 xs (i : Int) = xs[i]'hlt := by unfold rd_T37; exact getD_nat xs _ i hlt
  have hp : (10 : Nat) ^ 18 = 1000000000000000000 := by decide
  obtain ⟨K1, h1⟩ := mt_ev (n + 1) (by omega)
  obtain ⟨K2, h2⟩ := mt_ev (n + 2) (by omega)
  obtain ⟨K3, h3⟩ := markR_ev (xs[i]'hlt).f3 (n + 3) (by omega) (by omega)
  obtain ⟨y, hy⟩ : ∃ y : S37, y = ⟨Int.tmod (n : Int) 3 == 0, mt (n + 1), mt (n + 2), rgs (n + 3) (xs[i]'hlt).f3.length⟩ := ⟨_, rfl⟩
  have hfew : Few (xs.set i y) := ⟨by rw [List.length_set]; exact hfx, fun z hz => by
   rcases List.mem_or_eq_of_mem_set hz with hz | rfl
   ·exact hx.2 z hz
   ·rw [hy]; simp only [rgs_length]; exact hl⟩
  obtain ⟨K4, h4⟩ := ih (i + 1) (n + 3 + 2 * (xs[i]'hlt).f3.length) (xs.set i y) (by rw [List.length_set]; omega) hfew (by omega)
  have e : (xs.set i y).drop (i + 1) = xs.drop (i + 1) := by rw [List.drop_set_of_lt (by omega)]
  have e2 : (xs.set i y).take (i + 1) = xs.take i ++ [y] := by
   rw [List.take_set, List.take_add_one, List.getElem?_eq_getElem hlt]
   have hl : (xs.take i).length = i := by rw [List.length_take]; omega
   rw [List.set_append_right _ _ (by omega), hl, Nat.sub_self]
   rfl
  refine ⟨K1 + K2 + K3 + K4 + 1, fun k hk => ?_⟩
  obtain ⟨m, rfl⟩ : ∃ m, k = m + 1 := ⟨k - 1, by omega⟩
  have h1' : laws_markText.f m ((n + 1 : Nat) : Int) = some (mt (n + 1)) := h1 m (by omega)
  have h2' : laws_markText.f m ((n + 2 : Nat) : Int) = some (mt (n + 2)) := h2 m (by omega)
  have h3' : laws_markRangeS.f m (xs[i]'hlt).f3 ((n + 3 : Nat) : Int) = some (((n + 3 + 2 * (xs[i]'hlt).f3.length : Nat) : Int), rgs (n + 3) (xs[i]'hlt).f3.length) := h3 m (by omega)
  have h4' := h4 m (by omega)
  have w1 : Aside0 (wrap64 ((n : Int) + 1) = ((n + 1 : Nat) : Int)) := ⟨w64s n (by omega)⟩
  have w2 : Aside0 (wrap64 (((n + 1 : Nat) : Int) + 1) = ((n + 2 : Nat) : Int)) := ⟨w64s (n + 1) (by omega)⟩
  have w3 : Aside0 (wrap64 (((n + 2 : Nat) : Int) + 1) = ((n + 3 : Nat) : Int)) := ⟨w64s (n + 2) (by omega)⟩
  simp only at h4'
  rw [e, e2] at h4'
  simp only [laws_markSearchKeyS.l0, hrd, w1.out, w2.out, w3.out, h1', h2', h3', bS, Int.toNat_natCast, w64s i (by omega), ← hy]
  rw [if_pos (by omega), if_pos (by omega), h4', List.drop_eq_getElem_cons hlt]
  simp only [mks, mkn, ← hy, List.append_assoc, List.cons_append, List.nil_append]
theorem markK_ev (xs : List S37) (h : Few xs) : Ev (fun k => laws_markSearchKeyS.f k xs 1) (((mkn 1 xs : Nat) : Int), mks 1 xs) := by
 have hx := h.1
 have := markK_l0 xs.length 0 1 xs (by omega) h (by omega)
 rw [List.take_zero, List.nil_append, List.drop_zero] at this
 exact this
theorem mks_length : ∀ (xs : List S37) (n : Nat), (mks n xs).length = xs.length
 | [], _ => rfl
 | x :: xs, n => by rw [mks, List.length_cons, mks_length xs, List.length_cons]
theorem mkn_ge : ∀ (xs : List S37) (n : Nat), n ≤ mkn n xs
 | [], n => Nat.le_refl _
 | x :: xs, n => Nat.le_trans (by omega) (mkn_ge xs _)
theorem heldK_l0 (ys : List S37) (hy : ys.length ≤ 20) : ∀ (zs : List S37) (i n : Nat), i + zs.length = ys.length → (∀ x ∈ zs, x.f3.length ≤ 50) → ys.drop i = mks n zs → n + 103 * zs.length ≤ 100000 →
  Ev (fun k => laws_heldSearchKeyS.l0 k ys (n : Int) (i : Int)) ((mkn n zs : Nat) : Int)
 | [], i, n, hi, hz, hd, hn => Ev.step (f := fun _ => some _) (fun k => by simp only [laws_heldSearchKeyS.l0]; rw [if_neg (by simp only [List.length_nil] at hi; omega)]; rfl) (Ev.now _)
 | z :: zs, i, n, hi, hz, hd, hn => by
  simp only [List.length_cons] at hi hn
  have hlt : i < ys.length := by omega
  have hl := hz z (List.mem_cons_self ..)
  rw [List.drop_eq_getElem_cons hlt, mks] at hd
  injection hd with hd1 hd2
  have hrd : rd_T37 ys (i : Int) = ⟨Int.tmod (n : Int) 3 == 0, mt (n + 1), mt (n + 2), rgs (n + 3) z.f3.length⟩ := by unfold rd_T37; rw [← hd1]; exact getD_nat ys _ i hlt
  have hp : (10 : Nat) ^ 18 = 1000000000000000000 := by decide
  obtain ⟨K1, h1⟩ := mt_ev (n + 1) (by omega)
  obtain ⟨K2, h2⟩ := mt_ev (n + 2) (by omega)
  obtain ⟨K3, h3⟩ := heldR_ev (n + 3) z.f3.length (by omega) (by omega)
  obtain ⟨K4, h4⟩ := heldK_l0 ys hy zs (i + 1) (n + 3 + 2 * z.f3.length) (by omega) (fun x hx => hz x (List.mem_cons_of_mem _ hx)) hd2 (by omega)
  refine ⟨K1 + K2 + K3 + K4 + 1, fun k hk => ?_⟩
  obtain ⟨m, rfl⟩ : ∃ m, k = m + 1 := ⟨k - 1, by omega⟩
  have h1' : laws_markText.f m ((n + 1 : Nat) : Int) = some (mt (n + 1)) := h1 m (by omega)
  have h2' : laws_markText.f m ((n + 2 : Nat) : Int) = some (mt (n + 2)) := h2 m (by omega)
  have h3' : laws_heldRangeS.f m (rgs (n + 3) z.f3.length) ((n + 3 : Nat) : Int) = some ((n + 3 + 2 * z.f3.length : Nat) : Int) := h3 m (by omega)
  have h4' := h4 m (by omega)
  have w1 : Aside0 (wrap64 ((n : Int) + 1) = ((n + 1 : Nat) : Int)) := ⟨w64s n (by omega)⟩
  have w2 : Aside0 (wrap64 (((n + 1 : Nat) : Int) + 1) = ((n + 2 : Nat) : Int)) := ⟨w64s (n + 1) (by omega)⟩
  have w3 : Aside0 (wrap64 (((n + 2 : Nat) : Int) + 1) = ((n + 3 : Nat) : Int)) := ⟨w64s (n + 2) (by omega)⟩
  simp only at h4'
  simp only [laws_heldSearchKeyS.l0, hrd, w1.out, w2.out, w3.out, h1', h2', h3', bS, bne_self_eq_false, w64s i (by omega)]
  rw [if_pos (by omega), if_pos (by omega), if_neg (by decide), if_pos trivial, if_pos trivial, if_neg (by omega), h4']
  rfl
theorem heldK_ev (xs : List S37) (h : Few xs) : Ev (fun k => laws_heldSearchKeyS.f k (mks 1 xs) 1) ((mkn 1 xs : Nat) : Int) := by
 have hx := h.1
 exact heldK_l0 (mks 1 xs) (by rw [mks_length]; exact hx) xs 0 1 (by rw [mks_length]; omega) h.2 rfl (by omega)
end Go.Proofs.YtoieoimfkimedaaDoor.P
/- Lemmas of mine: keys of a search read from words: the two readers tell the same. Plain. -/
set_option linter.unusedVariables false
set_option linter.unusedSimpArgs false
namespace Go.Proofs.YtoieoimfkimedaaDoor.P
open Go.RowKit Go.Proofs.YtoieoimfkimedaaDoorW.PrintWords
def upT (s : ByteArray) : ByteArray := ⟨((bl s).map upB).toArray⟩
theorem upT_size (s : ByteArray) : (upT s).size = s.size := by rw [bl_size, bl_size]; unfold upT; rw [bl_mk, List.length_map]
theorem up_impl (s : ByteArray) (h : s.size ≤ 1048576) : impl_upper.f s = some (upT s) := by unfold impl_upper.f; exact if_pos (by omega)
theorem up_spec (s : ByteArray) (h : s.size ≤ 1048576) : spec_l11Upper.f s = some (upT s) := by unfold spec_l11Upper.f; exact if_pos (by omega)
def bareB (l : List UInt8) : Prop := l = [65, 76, 76] ∨ l = [83, 69, 69, 78] ∨ l = [85, 78, 83, 69, 69, 78] ∨ l = [65, 78, 83, 87, 69, 82, 69, 68] ∨ l = [70, 76, 65, 71, 71, 69, 68] ∨ l = [68, 69, 76, 69, 84, 69, 68] ∨ l = [85, 78, 68, 69, 76, 69, 84, 69, 68] ∨ l = [68, 82, 65, 70, 84]
instance (l : List UInt8) : Decidable (bareB l) := by unfold bareB; infer_instance
def wordB (l : List UInt8) : Prop := l = [83, 85, 66, 74, 69, 67, 84] ∨ l = [70, 82, 79, 77] ∨ l = [84, 69, 88, 84]
instance (l : List UInt8) : Decidable (wordB l) := by unfold wordB; infer_instance
theorem wordKey_f (u : ByteArray) : impl_wordKey.f u = some (decide (wordB (bl u))) := by
 unfold impl_wordKey.f
 rw [toList_bl]
 by_cases h1 : bl u = [83, 85, 66, 74, 69, 67, 84]
 ·rw [if_pos h1, decide_eq_true (show wordB (bl u) from Or.inl h1)]
 rw [if_neg h1]
 by_cases h2 : bl u = [70, 82, 79, 77]
 ·rw [if_pos h2, decide_eq_true (show wordB (bl u) from Or.inr (Or.inl h2))]
 rw [if_neg h2]
 by_cases h3 : bl u = [84, 69, 88, 84]
 ·rw [decide_eq_true (show wordB (bl u) from Or.inr (Or.inr h3)), h3]
  rfl
 ·rw [decide_eq_false (show ¬ wordB (bl u) by rintro (h | h | h); exact h1 h; exact h2 h; exact h3 h), beq_eq_false_iff_ne.2 h3]
/-- What the two ask of a kind that stands alone. -/
theorem bare_impl (u : ByteArray) : ∃ r, impl_flagKey.f u = some r ∧ ((bl u = [65, 76, 76] ∨ r.1 ≠ 0) ↔ bareB (bl u)) := by
 unfold impl_flagKey.f
 rw [toList_bl]
 unfold bareB
 by_cases h1 : bl u = [83, 69, 69, 78]
 ·rw [if_pos h1]; exact ⟨_, rfl, by simp [h1]⟩
 rw [if_neg h1]
 by_cases h2 : bl u = [85, 78, 83, 69, 69, 78]
 ·rw [if_pos h2]; exact ⟨_, rfl, by simp [h2]⟩
 rw [if_neg h2]
 by_cases h3 : bl u = [65, 78, 83, 87, 69, 82, 69, 68]
 ·rw [if_pos h3]; exact ⟨_, rfl, by simp [h3]⟩
 rw [if_neg h3]
 by_cases h4 : bl u = [70, 76, 65, 71, 71, 69, 68]
 ·rw [if_pos h4]; exact ⟨_, rfl, by simp [h4]⟩
 rw [if_neg h4]
 by_cases h5 : bl u = [68, 69, 76, 69, 84, 69, 68]
 ·rw [if_pos h5]; exact ⟨_, rfl, by simp [h5]⟩
 rw [if_neg h5]
 by_cases h6 : bl u = [85, 78, 68, 69, 76, 69, 84, 69, 68]
 ·rw [if_pos h6]; exact ⟨_, rfl, by simp [h6]⟩
 rw [if_neg h6]
 by_cases h7 : bl u = [68, 82, 65, 70, 84]
 ·rw [if_pos h7]; exact ⟨_, rfl, by simp [h7]⟩
 rw [if_neg h7]
 exact ⟨_, rfl, by simp [h1, h2, h3, h4, h5, h6, h7]⟩
def hasB (l : List ByteArray) (x : ByteArray) : Bool := l.any fun y => bl y == bl x
theorem hasB_hit (l : List ByteArray) (a x : ByteArray) (h : a = x) : hasB (a :: l) x = true := by simp [hasB, h]
theorem hasB_miss (l : List ByteArray) (a x : ByteArray) (h : ¬ a = x) : hasB (a :: l) x = hasB l x := by
 have : (bl a == bl x) = false := beq_eq_false_iff_ne.mpr fun e => h (bl_inj e)
 simp [hasB, this]
theorem has_l0 (l : List ByteArray) (x : ByteArray) (hl : l.length ≤ 100) : ∀ (d i : Nat), i + d = l.length → Ev (fun k => spec_l06Has.l0 k l x (i : Int)) (hasB (l.drop i) x) := by
 intro d
 induction d with
 | zero =>
  intro i hi
  rw [List.drop_eq_nil_of_le (by omega)]
  exact Ev.step (f := fun _ => some _) (fun k => by simp only [spec_l06Has.l0]; rw [if_neg (by omega)]; rfl) (Ev.now _)
 | succ d ih =>
  intro i hi
  have hlt : i < l.length := by omega
  have hrd : rdOf ByteArray.empty l (i : Int) = l[i]'hlt := by unfold rdOf; exact getD_nat l _ i hlt
  have e : ∀ k, spec_l06Has.l0 (k + 1) l x (i : Int) = if l[i]'hlt = x then some true else spec_l06Has.l0 k l x ((i + 1 : Nat) : Int) := fun k => by
   simp only [spec_l06Has.l0, hrd, toList_iff]
   rw [if_pos (by omega), if_pos (by omega), w64s i (by omega)]
  rw [List.drop_eq_getElem_cons hlt]
  by_cases hx : l[i]'hlt = x
  ·rw [hasB_hit _ _ _ hx]
   exact Ev.step (f := fun _ => some _) (fun k => by rw [e, if_pos hx]) (Ev.now _)
  ·rw [hasB_miss _ _ _ hx]
   exact Ev.step (f := fun k => spec_l06Has.l0 k l x ((i + 1 : Nat) : Int)) (fun k => by rw [e, if_neg hx]) (ih (i + 1) (by omega))
theorem hasB_bare (l : List UInt8) (u : ByteArray) (h : bl u = l) : hasB [(⟨#[65, 76, 76]⟩ : ByteArray), (⟨#[83, 69, 69, 78]⟩ : ByteArray), (⟨#[85, 78, 83, 69, 69, 78]⟩ : ByteArray), (⟨#[65, 78, 83, 87, 69, 82, 69, 68]⟩ : ByteArray), (⟨#[70, 76, 65, 71, 71, 69, 68]⟩ : ByteArray), (⟨#[68, 69, 76, 69, 84, 69, 68]⟩ : ByteArray), (⟨#[85, 78, 68, 69, 76, 69, 84, 69, 68]⟩ : ByteArray), (⟨#[68, 82, 65, 70, 84]⟩ : ByteArray)] u = decide (bareB l) := by
 have e : ∀ p : List UInt8, (p == l) = decide (l = p) := fun p => by
  by_cases hp : l = p
  ·rw [decide_eq_true hp, hp]; exact beq_self_eq_true _
  ·rw [decide_eq_false hp]; exact beq_eq_false_iff_ne.2 (fun q => hp q.symm)
 unfold hasB
 rw [h]
 show ([65, 76, 76] == l || ([83, 69, 69, 78] == l || ([85, 78, 83, 69, 69, 78] == l || ([65, 78, 83, 87, 69, 82, 69, 68] == l || ([70, 76, 65, 71, 71, 69, 68] == l || ([68, 69, 76, 69, 84, 69, 68] == l || ([85, 78, 68, 69, 76, 69, 84, 69, 68] == l || ([68, 82, 65, 70, 84] == l || false)))))))) = _
 rw [e, e, e, e, e, e, e, e]
 unfold bareB
 rw [Bool.or_false, ← Bool.decide_or, ← Bool.decide_or, ← Bool.decide_or, ← Bool.decide_or, ← Bool.decide_or, ← Bool.decide_or, ← Bool.decide_or]
theorem bare_spec (u : ByteArray) : Ev (fun k => spec_l11Bare.f k u) (decide (bareB (bl u))) := by
 obtain ⟨K, h⟩ := has_l0 [(⟨#[65, 76, 76]⟩ : ByteArray), (⟨#[83, 69, 69, 78]⟩ : ByteArray), (⟨#[85, 78, 83, 69, 69, 78]⟩ : ByteArray), (⟨#[65, 78, 83, 87, 69, 82, 69, 68]⟩ : ByteArray), (⟨#[70, 76, 65, 71, 71, 69, 68]⟩ : ByteArray), (⟨#[68, 69, 76, 69, 84, 69, 68]⟩ : ByteArray), (⟨#[85, 78, 68, 69, 76, 69, 84, 69, 68]⟩ : ByteArray), (⟨#[68, 82, 65, 70, 84]⟩ : ByteArray)] u (by decide) 8 0 rfl
 refine ⟨K, fun k hk => ?_⟩
 have h' := h k hk
 simp only at h'
 rw [List.drop_zero, hasB_bare _ u rfl] at h'
 simp only [spec_l11Bare.f, spec_l06Has.f]
 show (spec_l06Has.l0 k _ u ((0 : Nat) : Int)).bind _ = _
 rw [h', bS]
abbrev KeyS := S37
/-- A key at the front of words, and how many words it takes. -/
noncomputable def keyD (nt : Bool) (ws : List ByteArray) : Option (KeyS × Nat) :=
 match ws with
 | [] => none
 | w :: rest =>
  if bareB (bl (upT w)) then some (⟨nt, upT w, ⟨#[]⟩, []⟩, 1)
  else if wordB (bl (upT w)) then (match rest with | [] => none | v :: _ => some (⟨nt, upT w, v, []⟩, 2))
  else if bl (upT w) = [85, 73, 68] then (match rest with | [] => none | v :: _ => if (setO v).2 = true then some (⟨nt, upT w, ⟨#[]⟩, (setO v).1⟩, 2) else none)
  else if (setO w).2 = true then some (⟨nt, ⟨#[83, 69, 84]⟩, ⟨#[]⟩, (setO w).1⟩, 1) else none
theorem keyD_ok {nt : Bool} {ws : List ByteArray} {x : KeyS} {n : Nat} (h : keyD nt ws = some (x, n)) : 1 ≤ n ∧ n ≤ ws.length ∧ x.f3.length ≤ 50 ∧ x.f0 = nt := by
 unfold keyD at h
 match ws, h with
 | [], h => cases h
 | [w], h =>
  simp only at h
  split at h
  ·obtain ⟨rfl, rfl⟩ := Prod.mk.inj (Option.some.inj h); exact ⟨Nat.le_refl _, Nat.le_refl _, Nat.zero_le _, rfl⟩
  split at h
  ·cases h
  split at h
  ·cases h
  split at h
  ·obtain ⟨rfl, rfl⟩ := Prod.mk.inj (Option.some.inj h); exact ⟨Nat.le_refl _, Nat.le_refl _, setO_len w, rfl⟩
  ·cases h
 | w :: v :: r, h =>
  simp only at h
  have hl : (w :: v :: r).length = r.length + 2 := rfl
  rw [hl]
  split at h
  ·obtain ⟨rfl, rfl⟩ := Prod.mk.inj (Option.some.inj h); exact ⟨Nat.le_refl _, by omega, Nat.zero_le _, rfl⟩
  split at h
  ·obtain ⟨rfl, rfl⟩ := Prod.mk.inj (Option.some.inj h); exact ⟨by omega, by omega, Nat.zero_le _, rfl⟩
  split at h
  ·split at h
   ·obtain ⟨rfl, rfl⟩ := Prod.mk.inj (Option.some.inj h); exact ⟨by omega, by omega, setO_len v, rfl⟩
   ·cases h
  split at h
  ·obtain ⟨rfl, rfl⟩ := Prod.mk.inj (Option.some.inj h); exact ⟨Nat.le_refl _, by omega, setO_len w, rfl⟩
  ·cases h
def NOTW : List UInt8 := [78, 79, 84]
/-- Behind a NOT or none. -/
noncomputable def bodyD (ws : List ByteArray) : Bool × List ByteArray :=
 match ws with
 | [] => (false, [])
 | w :: rest => if bl (upT w) = NOTW then (true, rest) else (false, w :: rest)
theorem bodyD_len (ws : List ByteArray) : (bodyD ws).2.length ≤ ws.length := by
 unfold bodyD
 match ws with
 | [] => exact Nat.le_refl _
 | w :: rest =>
  simp only
  split
  ·simp
  ·exact Nat.le_refl _
/-- The keys of words, behind others; none where a word is no key or there are too many. -/
noncomputable def searchD : Nat → List ByteArray → List KeyS → Option (List KeyS)
 | 0, ws, out => if ws = [] then (if 0 < out.length then some out else none) else none
 | f + 1, ws, out => if ws = [] then (if 0 < out.length then some out else none)
  else if out.length = 20 then none
  else match keyD (bodyD ws).1 (bodyD ws).2 with
   | none => none
   | some (x, n) => searchD f ((bodyD ws).2.drop n) (out ++ [x])
def Small (ws : List ByteArray) : Prop := ws.length ≤ 1048576 ∧ ∀ x ∈ ws, x.size ≤ 1048576
theorem Small.drop {ws : List ByteArray} (h : Small ws) (n : Nat) : Small (ws.drop n) := ⟨by rw [List.length_drop]; have := h.1; omega, fun x hx => h.2 x (List.mem_of_mem_drop hx)⟩
theorem Small.body {ws : List ByteArray} (h : Small ws) : Small (bodyD ws).2 := by
 refine ⟨Nat.le_trans (bodyD_len ws) h.1, fun x hx => h.2 x ?_⟩
 unfold bodyD at hx
 match ws, hx with
 | [], hx => exact hx
 | w :: rest, hx =>
  simp only at hx
  split at hx
  ·exact List.mem_cons_of_mem _ hx
  ·exact hx
theorem search_few : ∀ (f : Nat) (ws : List ByteArray) (out : List KeyS), Few out → ∀ r, searchD f ws out = some r → Few r
 | 0, ws, out, ho, r, h => by
  unfold searchD at h
  split at h
  ·split at h
   ·obtain rfl := Option.some.inj h; exact ho
   ·cases h
  ·cases h
 | f + 1, ws, out, ho, r, h => by
  unfold searchD at h
  split at h
  ·split at h
   ·obtain rfl := Option.some.inj h; exact ho
   ·cases h
  split at h
  ·cases h
  rename_i h20
  split at h
  ·cases h
  ·rename_i x n hk
   have hko := keyD_ok hk
   refine search_few f _ _ ⟨?_, fun y hy => ?_⟩ r h
   ·have := ho.1
    rw [List.length_append, List.length_singleton]
    omega
   ·rcases List.mem_append.1 hy with hy | hy
    ·exact ho.2 y hy
    ·rw [List.mem_singleton.1 hy]; exact hko.2.2.1
end Go.Proofs.YtoieoimfkimedaaDoor.P
