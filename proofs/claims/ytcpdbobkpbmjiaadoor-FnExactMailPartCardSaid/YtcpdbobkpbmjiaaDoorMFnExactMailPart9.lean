/- Part 9 of what the law FnExactMailPart stands on; the last part ends with the law's row. No condition of mine. -/
import Derived.Test.YtcpdbobkpbmjiaaDoorMFnExactMailPart8
import Derived.Test.YtcpdbobkpbmjiaaDoorMFnExactMailPart7
import Derived.Test.YtcpdbobkpbmjiaaDoorMFnExactMailPart4
import Derived.Test.YtcpdbobkpbmjiaaDoorMFnExactMailPart1
import Derived.Test.YtcpdbobkpbmjiaaDoorMFnExactMailPart2
import Derived.Test.YtcpdbobkpbmjiaaDoorMFnExactMailPart5
/- Lemmas of mine: a mail taken apart in both programs. Plain. -/
set_option linter.unusedVariables false
set_option linter.unusedSimpArgs false
namespace Go.Proofs.YtcpdbobkpbmjiaaDoor.P
open Go.RowKit Go.Proofs.YtcpdbobkpbmjiaaDoorW.PrintWords
theorem ext_mk (s : ByteArray) (i : Nat) : s.extract i s.size = (⟨((bl s).drop i).toArray⟩ : ByteArray) := by
 have h : bl (s.extract i s.size) = (bl s).drop i := by
  rw [bl_extract, bl_size]
  exact List.take_of_length_le (by rw [List.length_drop]; exact Nat.le_refl _)
 rw [← h]
 exact (mk_bl _).symm
theorem w2l (n : Nat) (h : n ≤ 1000000) : wrap64 ((n : Int) + 2) = ((n + 2 : Nat) : Int) := w64add n 2 (by omega)
abbrev SF := S49
def mkF (x : List UInt8 × List UInt8) : SF := ⟨⟨x.1.toArray⟩, ⟨x.2.toArray⟩⟩
/-- How long the field is that a text begins with. -/
def fe : List UInt8 → Option Nat
 | [] => none
 | c :: r => if c = 13 ∧ r.take 1 = [10] ∧ (r.drop 1).take 1 ≠ [32] then some 2 else (fe r).map (· + 1)
theorem fe_le : ∀ (l : List UInt8) (m : Nat), fe l = some m → 2 ≤ m ∧ m ≤ l.length
 | [], m, h => by simp [fe] at h
 | c :: r, m, h => by
  rw [fe] at h
  split at h
  ·rename_i hc
   obtain rfl := Option.some.inj h
   refine ⟨Nat.le_refl _, ?_⟩
   have := congrArg List.length hc.2.1
   rw [List.length_take] at this
   simp only [List.length_cons, List.length_nil] at this ⊢
   omega
  ·obtain ⟨n, hn, rfl⟩ := Option.map_eq_some_iff.1 h
   have := fe_le r n hn
   rw [List.length_cons]
   omega
def parseS : Nat → List UInt8 → List SF → Option (List SF × List UInt8)
 | 0, _, _ => none
 | n + 1, R, acc => if R.take 2 = [13, 10] then some (acc, R.drop 2) else match fe R with
  | none => none
  | some m => match unfR [] (R.take m) with
   | none => none
   | some f => if acc.length = 40 then none else parseS n (R.drop m) (acc ++ [mkF f])
def parseI : Nat → List UInt8 → List SF → Option (List SF)
 | 0, _, _ => none
 | n + 1, R, acc => if R = [] then some acc else match fe R with
  | none => none
  | some m => match unfR [] (R.take m) with
   | none => none
   | some f => if acc.length = 40 then none else parseI n (R.drop m) (acc ++ [mkF f])
/-! ### where the fields end -/
def idx4 : List UInt8 → Option Nat
 | [] => none
 | c :: r => if (c :: r).take 4 = [13, 10, 13, 10] then some 0 else (idx4 r).map (· + 1)
def hdE (l : List UInt8) : Option Nat := if l.take 2 = [13, 10] then some 0 else (idx4 l).map (· + 2)
theorem idx4_spec : ∀ (l : List UInt8) (i : Nat), idx4 l = some i → (l.drop i).take 4 = [13, 10, 13, 10]
 | [], i, h => by simp [idx4] at h
 | c :: r, i, h => by
  rw [idx4] at h
  split at h
  ·rename_i hc
   obtain rfl := Option.some.inj h
   exact hc
  ·obtain ⟨n, hn, rfl⟩ := Option.map_eq_some_iff.1 h
   exact idx4_spec r n hn
theorem take4_here (c : UInt8) (r : List UInt8) (h : (c :: r).take 4 = [13, 10, 13, 10]) : c = 13 ∧ r.take 1 = [10] ∧ (r.drop 1).take 1 ≠ [32] := by
 match r, h with
 | [], h => simp at h
 | [a], h => simp at h
 | [a, b], h => simp at h
 | a :: b :: d :: r, h =>
  simp only [List.take_succ_cons, List.take_zero, List.cons.injEq, and_true] at h
  obtain ⟨rfl, rfl, rfl, rfl⟩ := h
  simp
theorem idx4_none : ∀ (l : List UInt8), fe l = none → idx4 l = none
 | [], _ => rfl
 | c :: r, h => by
  rw [fe] at h
  split at h
  ·cases h
  ·rename_i hc
   have hr := Option.map_eq_none_iff.1 h
   rw [idx4, if_neg (fun h4 => hc (take4_here c r h4)), idx4_none r hr]
   rfl
theorem idx4_fe : ∀ (l : List UInt8) (m : Nat), fe l = some m → idx4 l = if (l.drop m).take 2 = [13, 10] then some (m - 2) else (idx4 (l.drop m)).map (· + m)
 | [], m, h => by simp [fe] at h
 | c :: r, m, h => by
  rw [fe] at h
  split at h
  ·rename_i hc
   obtain rfl := Option.some.inj h
   obtain ⟨rfl, h1, h2⟩ := hc
   match r, h1, h2 with
   | a :: q, h1, h2 =>
    have ha : a = 10 := by simpa using h1
    subst ha
    rw [show List.drop 2 (13 :: 10 :: q) = q from rfl, idx4]
    by_cases hq : q.take 2 = [13, 10]
    ·rw [if_pos hq, if_pos]
     show 13 :: 10 :: q.take 2 = _
     rw [hq]
    ·rw [if_neg hq, if_neg, idx4, if_neg (by simp), Option.map_map]
     ·rfl
     ·intro hh
      apply hq
      have : 13 :: 10 :: q.take 2 = [13, 10, 13, 10] := hh
      simpa using this
  ·rename_i hc
   obtain ⟨n, hn, rfl⟩ := Option.map_eq_some_iff.1 h
   have h2 := (fe_le r n hn).1
   rw [idx4, if_neg (fun h4 => hc (take4_here c r h4)), idx4_fe r n hn, List.drop_succ_cons]
   split
   ·show some (n - 2 + 1) = _
    congr 1
    omega
   ·rw [Option.map_map]
    rfl
theorem hdE_none (l : List UInt8) (h0 : ¬ l.take 2 = [13, 10]) (h : fe l = none) : hdE l = none := by
 unfold hdE
 rw [if_neg h0, idx4_none l h]
 rfl
theorem hdE_fe (l : List UInt8) (m : Nat) (h0 : ¬ l.take 2 = [13, 10]) (h : fe l = some m) : hdE l = (hdE (l.drop m)).map (· + m) := by
 have h2 := (fe_le l m h).1
 unfold hdE
 rw [if_neg h0, idx4_fe l m h]
 split
 ·show some (m - 2 + 2) = some (0 + m)
  congr 1
  omega
 ·rw [Option.map_map, Option.map_map]
  congr 1
  funext x
  show x + m + 2 = x + 2 + m
  omega
theorem fe_take : ∀ (l : List UInt8) (m e : Nat), fe l = some m → m ≤ e → fe (l.take e) = some m
 | [], m, e, h, _ => by simp [fe] at h
 | c :: r, m, e, h, he => by
  have hm := fe_le _ _ h
  obtain ⟨e, rfl⟩ : ∃ e', e = e' + 1 := ⟨e - 1, by omega⟩
  rw [List.take_succ_cons]
  rw [fe] at h ⊢
  split at h
  ·rename_i hc
   obtain rfl := Option.some.inj h
   obtain ⟨e, rfl⟩ : ∃ e', e = e' + 1 := ⟨e - 1, by omega⟩
   refine if_pos ⟨hc.1, ?_, ?_⟩
   ·match r, hc.2.1 with
    | a :: q, h1 => simpa using h1
   ·match r, hc.2 with
    | a :: q, h1 =>
     rw [List.take_succ_cons, List.drop_succ_cons, List.drop_zero]
     have h12 := h1.2
     rw [List.drop_succ_cons, List.drop_zero] at h12
     cases e with
     | zero => simp
     | succ e =>
      cases q with
      | nil => simp
      | cons b q => simpa using h12
  ·rename_i hc
   obtain ⟨n, hn, rfl⟩ := Option.map_eq_some_iff.1 h
   have h2 := fe_le r n hn
   obtain ⟨e, rfl⟩ : ∃ e', e = e' + 2 := ⟨e - 2, by omega⟩
   rw [fe_take r n (e + 2) hn (by omega), if_neg]
   ·rfl
   ·rintro ⟨h3, h4, h5⟩
    refine hc ⟨h3, ?_, ?_⟩
    ·match r, h4 with
     | a :: q, h4 => simpa using h4
    ·match r, h5 with
     | [], _ => simp
     | [a], _ => simp
     | a :: b :: q, h5 => simpa using h5
theorem parse_same : ∀ (n : Nat) (T : List UInt8) (acc : List SF), parseS n T acc = match hdE T with | none => none | some e => (parseI n (T.take e) acc).map fun F => (F, T.drop (e + 2))
 | 0, T, acc => by
  cases hdE T with
  | none => rfl
  | some e => rfl
 | n + 1, T, acc => by
  by_cases h0 : T.take 2 = [13, 10]
  ·have : hdE T = some 0 := if_pos h0
   rw [this, parseS, if_pos h0]
   simp [parseI]
  ·rw [parseS, if_neg h0]
   cases hf : fe T with
   | none => rw [hdE_none T h0 hf]
   | some m =>
    have hm := fe_le T m hf
    have ih := parse_same n (T.drop m)
    rw [hdE_fe T m h0 hf]
    cases hd : hdE (T.drop m) with
    | none =>
     simp only [hd] at ih
     simp only [Option.map_none]
     cases unfR [] (T.take m) with
     | none => rfl
     | some f =>
      simp only
      rw [ih]
      split <;> rfl
    | some e =>
     simp only [hd] at ih
     simp only [Option.map_some]
     have hne : ¬ T.take (e + m) = [] := by
      intro hh
      have := congrArg List.length hh
      rw [List.length_take] at this
      simp only [List.length_nil] at this
      omega
     rw [parseI, if_neg hne, fe_take T m (e + m) hf (by omega)]
     have e1 : (T.take (e + m)).take m = T.take m := by rw [List.take_take, Nat.min_eq_left (by omega)]
     have e2 : (T.take (e + m)).drop m = (T.drop m).take e := by rw [List.drop_take, show e + m - m = e by omega]
     simp only [e1, e2]
     cases unfR [] (T.take m) with
     | none => rfl
     | some f =>
      simp only
      by_cases h40 : acc.length = 40
      ·rw [if_pos h40, if_pos h40]
       rfl
      ·rw [if_neg h40, if_neg h40, ih, List.drop_drop, show m + (e + 2) = e + m + 2 by omega]
/-! ### the reference's -/
def outP (B : Option (List SF × List UInt8)) (r : List SF × ByteArray × Bool) : Prop := match B with
 | none => r.2.2 = false
 | some (F, b) => r = (F, ⟨b.toArray⟩, true)
theorem two_at (s : ByteArray) (i : Nat) (h : i + 2 ≤ (bl s).length) : (s.extract i (i + 2)).toList = ((bl s).drop i).take 2 := by
 rw [toList_bl, bl_extract, show i + 2 - i = 2 by omega]
theorem take_one' (l : List UInt8) (c : UInt8) : l.take 1 = [c] ↔ l[0]? = some c := take_one l c
theorem specP_l1 (s : ByteArray) (hs : s.size ≤ 1000000) (at_ : Nat) (F : List SF) (b : ByteArray) (R : List SF × ByteArray × Bool) : ∀ (d i : Nat), i + d = (bl s).length →
  (match fe ((bl s).drop i) with | none => R = (F, b, false) | some m => Ev (fun k => spec_l07Parse.j3 k s (at_ : Int) ((i + m - 2 : Nat) : Int) F b) R) → Ev (fun k => spec_l07Parse.l1 k s (at_ : Int) (i : Int) F b) R := by
 have hsz := bl_size s
 have hend : ∀ i : Nat, (bl s).length ≤ i + 1 → i ≤ (bl s).length → R = (F, b, false) → Ev (fun k => spec_l07Parse.l1 k s (at_ : Int) (i : Int) F b) R := fun i hi hi2 hR => by
  have w1 : Aside0 (wrap64 ((i : Int) + 1) = ((i + 1 : Nat) : Int)) := ⟨w64s i (by omega)⟩
  have w2 : Aside0 (wrap64 ((i : Int) + 2) = ((i + 2 : Nat) : Int)) := ⟨w64add i 2 (by omega)⟩
  refine ⟨2, fun k hk => ?_⟩
  obtain ⟨j, rfl⟩ : ∃ j, k = j + 1 + 1 := ⟨k - 2, by omega⟩
  show spec_l07Parse.l1 (j + 1 + 1) s (at_ : Int) (i : Int) F b = some R
  rw [spec_l07Parse.l1, w1.out, if_neg (by omega), spec_l07Parse.j3, w2.out, if_pos (by omega), hR]
 intro d
 induction d with
 | zero =>
  intro i hi h
  refine hend i (by omega) (by omega) ?_
  rw [List.drop_eq_nil_of_le (by omega)] at h
  exact h
 | succ d ih =>
  intro i hi h
  have hlt : i < (bl s).length := by omega
  have w1 : Aside0 (wrap64 ((i : Int) + 1) = ((i + 1 : Nat) : Int)) := ⟨w64s i (by omega)⟩
  have w2 : Aside0 (wrap64 ((i : Int) + 2) = ((i + 2 : Nat) : Int)) := ⟨w64add i 2 (by omega)⟩
  rw [List.drop_eq_getElem_cons hlt, fe] at h
  by_cases h2 : i + 1 < (bl s).length
  case neg =>
   refine hend i (by omega) (by omega) ?_
   have hnil : (bl s).drop (i + 1) = [] := List.drop_eq_nil_of_le (by omega)
   rw [hnil, if_neg (by simp)] at h
   exact h
  have t2 : ((bl s).drop i).take 2 = [(bl s)[i], (bl s)[i + 1]] := by
   rw [List.drop_eq_getElem_cons hlt, List.drop_eq_getElem_cons h2]
   rfl
  have htl := two_at s i (by omega)
  rw [t2] at htl
  have hd1 : ((bl s).drop (i + 1)).take 1 = [(bl s)[i + 1]] := by rw [List.drop_eq_getElem_cons h2]; rfl
  have hd2 : ((bl s).drop (i + 1)).drop 1 = (bl s).drop (i + 2) := by rw [List.drop_drop]
  rw [hd1, hd2] at h
  have h3 : ((bl s).drop (i + 2)).take 1 = [32] ↔ ∃ hh : i + 2 < (bl s).length, (bl s)[i + 2] = 32 := by
   rw [take_one, List.getElem?_drop, Nat.add_zero]
   constructor
   ·intro hh
    obtain ⟨hx, hy⟩ := List.getElem?_eq_some_iff.1 hh
    exact ⟨hx, hy⟩
   ·rintro ⟨hx, hy⟩
    exact List.getElem?_eq_some_iff.2 ⟨hx, hy⟩
  generalize (bl s)[i] = c0 at h htl t2
  generalize (bl s)[i + 1] = c1 at h htl t2 hd1
  have hjump : ∀ m : Nat, fe ((bl s).drop (i + 1)) = some m → i + 1 + m - 2 = i + (m + 1) - 2 := fun m _ => by omega
  have go : (¬ (c0 = 13 ∧ [c1] = [10] ∧ ((bl s).drop (i + 2)).take 1 ≠ [32])) → Ev (fun k => spec_l07Parse.l1 k s (at_ : Int) ((i + 1 : Nat) : Int) F b) R := fun hc => by
   rw [if_neg hc] at h
   refine ih (i + 1) (by omega) ?_
   cases hf : fe ((bl s).drop (i + 1)) with
   | none => rw [hf] at h; exact h
   | some m =>
    rw [hf] at h
    simp only [Option.map_some] at h
    show Ev (fun k => spec_l07Parse.j3 k s (at_ : Int) ((i + 1 + m - 2 : Nat) : Int) F b) R
    rw [hjump m hf]
    exact h
  have e : ∀ k, spec_l07Parse.l1 (k + 1) s (at_ : Int) (i : Int) F b = if ([c0, c1] : List UInt8) = [13, 10] then (if ((i + 2 : Nat) : Int) = (s.size : Int) then spec_l07Parse.j3 k s at_ i F b else (if 0 ≤ ((i + 2 : Nat) : Int) then (if ((i + 2 : Nat) : Int) < (s.size : Int) then (if ¬ bt s ((i + 2 : Nat) : Int) = 32 then spec_l07Parse.j3 k s at_ i F b else spec_l07Parse.l1 k s at_ ((i + 1 : Nat) : Int) F b) else none) else none)) else spec_l07Parse.l1 k s at_ ((i + 1 : Nat) : Int) F b := fun k => by
   simp only [spec_l07Parse.l1, w1.out, w2.out, Int.toNat_natCast, htl]
   rw [if_pos (by omega), if_pos (by omega), if_pos (by omega), if_pos (by omega)]
  by_cases hcr : ([c0, c1] : List UInt8) = [13, 10]
  ·have h0 : c0 = 13 := by simp only [List.cons.injEq, and_true] at hcr; exact hcr.1
   have h1 : c1 = 10 := by simp only [List.cons.injEq, and_true] at hcr; exact hcr.2
   by_cases h32 : ((bl s).drop (i + 2)).take 1 = [32]
   ·obtain ⟨hx, hy⟩ := h3.1 h32
    have hb := bt_eq s (i + 2) hx
    refine Ev.step (fun k => ?_) (go fun hh => hh.2.2 h32)
    rw [e, if_pos hcr, if_neg (by omega), if_pos (by omega), if_pos (by omega), if_neg (fun hh => hh (by rw [hb, hy]; rfl))]
   ·rw [if_pos ⟨h0, by rw [h1], h32⟩] at h
    simp only [show i + 2 - 2 = i by omega] at h
    refine Ev.step (fun k => ?_) h
    rw [e, if_pos hcr]
    by_cases hx : i + 2 < (bl s).length
    ·have hb := bt_eq s (i + 2) hx
     have hy : ¬ bt s ((i + 2 : Nat) : Int) = 32 := fun hh => h32 (h3.2 ⟨hx, UInt8.toNat_inj.1 (by rw [show ((32 : UInt8)).toNat = 32 from rfl]; omega)⟩)
     rw [if_neg (by omega), if_pos (by omega), if_pos (by omega), if_pos hy]
    ·rw [if_pos (by omega)]
  ·refine Ev.step (fun k => ?_) (go fun hh => hcr (by rw [hh.1, show c1 = 10 by simpa using hh.2.1]))
   rw [e, if_neg hcr]
theorem specP_ev (s : ByteArray) (hs : s.size ≤ 1000000) (b : ByteArray) : ∀ (n at_ : Nat) (F : List SF), at_ ≤ (bl s).length → (bl s).length - at_ < n → F.length ≤ 40 → ∃ r, Ev (fun k => spec_l07Parse.l0 k s (at_ : Int) F b) r ∧ outP (parseS n ((bl s).drop at_) F) r := by
 have hsz := bl_size s
 intro n
 induction n with
 | zero => intro at_ F h1 h2; omega
 | succ n ih =>
  intro at_ F h1 h2 hF
  have w2 : Aside0 (wrap64 ((at_ : Int) + 2) = ((at_ + 2 : Nat) : Int)) := ⟨w64add at_ 2 (by omega)⟩
  rw [parseS]
  by_cases h0 : ((bl s).drop at_).take 2 = [13, 10]
  ·have hl : at_ + 2 ≤ (bl s).length := by
    have := congrArg List.length h0
    rw [List.length_take, List.length_drop] at this
    simp only [List.length_cons, List.length_nil] at this
    omega
   have htl := two_at s at_ hl
   rw [h0] at htl
   rw [if_pos h0]
   refine ⟨(F, s.extract (at_ + 2) s.size, true), ⟨2, fun k hk => ?_⟩, ?_⟩
   ·obtain ⟨j, rfl⟩ : ∃ j, k = j + 1 + 1 := ⟨k - 2, by omega⟩
    show spec_l07Parse.l0 (j + 1 + 1) s (at_ : Int) F b = _
    rw [spec_l07Parse.l0, w2.out, if_pos (by omega), if_pos (by omega), if_pos (by omega), Int.toNat_natCast, Int.toNat_natCast, htl, spec_l07Parse.j1, w2.out, if_pos (by decide), if_pos (by omega), if_pos (by omega), Int.toNat_natCast]
   ·show (F, s.extract (at_ + 2) s.size, true) = (F, (⟨(((bl s).drop at_).drop 2).toArray⟩ : ByteArray), true)
    rw [List.drop_drop]
    have : s.extract (at_ + 2) s.size = (⟨((bl s).drop (at_ + 2)).toArray⟩ : ByteArray) := ext_mk s (at_ + 2)
    rw [this]
  ·rw [if_neg h0]
   have head : ∀ R, Ev (fun k => spec_l07Parse.l1 k s (at_ : Int) (at_ : Int) F b) R → Ev (fun k => spec_l07Parse.l0 k s (at_ : Int) F b) R := fun R hR => by
    refine Ev.step (f := fun k => spec_l07Parse.j1 k s (at_ : Int) false F b) (fun k => ?_) (Ev.step (fun k => ?_) hR)
    ·simp only [spec_l07Parse.l0, w2.out, Int.toNat_natCast]
     by_cases hl : at_ + 2 ≤ (bl s).length
     ·have htl := two_at s at_ hl
      rw [if_pos (by omega), if_pos (by omega), if_pos (by omega), htl, beq_eq_false_iff_ne.2 h0]
     ·rw [if_neg (by omega)]
    ·simp only [spec_l07Parse.j1]
     rw [if_neg (by decide)]
   cases hf : fe ((bl s).drop at_) with
   | none => exact ⟨(F, b, false), head _ (specP_l1 s hs at_ F b _ ((bl s).length - at_) at_ (by omega) (by rw [hf])), rfl⟩
   | some m =>
    have hm := fe_le _ _ hf
    rw [List.length_drop] at hm
    have hz : bl (s.extract at_ (at_ + m)) = ((bl s).drop at_).take m := by rw [bl_extract, show at_ + m - at_ = m by omega]
    obtain ⟨u, ⟨K, hu⟩, ho⟩ := specUnf_ev (s.extract at_ (at_ + m)) (by rw [ByteArray.size_extract]; omega)
    rw [hz] at ho
    have w3 : Aside0 (wrap64 (((at_ + m - 2 : Nat) : Int) + 2) = ((at_ + m : Nat) : Int)) := ⟨by rw [show ((at_ + m : Nat) : Int) = ((at_ + m - 2 + 2 : Nat) : Int) by rw [show at_ + m - 2 + 2 = at_ + m by omega]]; exact w64add (at_ + m - 2) 2 (by omega)⟩
    have e : ∀ k, K ≤ k → spec_l07Parse.j3 (k + 1) s (at_ : Int) ((at_ + m - 2 : Nat) : Int) F b = if u.2.2 = true then (if (F.length : Int) = 40 then some (F, b, false) else spec_l07Parse.l0 k s ((at_ + m : Nat) : Int) (F ++ [(⟨u.1, u.2.1⟩ : SF)]) b) else some (F, b, false) := fun k hk => by
     have f := hu k hk
     simp only at f
     simp only [spec_l07Parse.j3, w3.out, Int.toNat_natCast, f, bS]
     rw [if_neg (by omega), if_pos (by omega), if_pos (by omega), if_pos (by omega), if_pos (show F.length < 4398046511104 by omega)]
    have fin : ∀ R, (∃ K2, ∀ k, K2 ≤ k → spec_l07Parse.j3 (k + 1) s (at_ : Int) ((at_ + m - 2 : Nat) : Int) F b = some R) → Ev (fun k => spec_l07Parse.l0 k s (at_ : Int) F b) R := fun R ⟨K2, h⟩ =>
     head _ (specP_l1 s hs at_ F b _ ((bl s).length - at_) at_ (by omega) (by
      rw [hf]
      exact ⟨K2 + 1, fun k hk => by obtain ⟨j, rfl⟩ : ∃ j, k = j + 1 := ⟨k - 1, by omega⟩; exact h j (by omega)⟩))
    simp only
    cases hR : unfR [] (((bl s).drop at_).take m) with
    | none =>
     rw [hR] at ho
     have ho' : u.2.2 = false := ho
     exact ⟨(F, b, false), fin _ ⟨K, fun k hk => by rw [e k hk, ho']; rfl⟩, rfl⟩
    | some f =>
     rw [hR] at ho
     obtain ⟨o1, o2, o3⟩ : u.2.2 = true ∧ bl u.1 = f.1 ∧ bl u.2.1 = f.2 := ho
     simp only
     by_cases h40 : F.length = 40
     ·rw [if_pos h40]
      exact ⟨(F, b, false), fin _ ⟨K, fun k hk => by rw [e k hk, if_pos o1, if_pos (by omega)]⟩, rfl⟩
     ·rw [if_neg h40, List.drop_drop]
      have hmk : (⟨u.1, u.2.1⟩ : SF) = mkF f := by
       unfold mkF
       rw [← o2, ← o3, mk_bl, mk_bl]
      obtain ⟨r, ⟨K2, hr⟩, hro⟩ := ih (at_ + m) (F ++ [mkF f]) (by omega) (by omega) (by simp; omega)
      refine ⟨r, fin _ ⟨K + K2, fun k hk => ?_⟩, hro⟩
      have f2 := hr k (by omega)
      simp only at f2
      rw [e k (by omega), if_pos o1, if_neg (by omega), hmk]
      exact f2
theorem specParse_ev (s : ByteArray) (hs : s.size ≤ 1000000) : ∃ r, Ev (fun k => spec_l07Parse.f k s) r ∧ outP (parseS ((bl s).length + 1) (bl s) []) r := by
 obtain ⟨r, h, ho⟩ := specP_ev s hs (⟨#[]⟩ : ByteArray) ((bl s).length + 1) 0 [] (by omega) (by omega) (by simp)
 exact ⟨r, h, ho⟩
/-! ### the program's -/
theorem index4 (l : List UInt8) : Lib.index l [13, 10, 13, 10] = match idx4 l with | none => -1 | some i => (i : Int) := by
 induction l with
 | nil => rfl
 | cons c r ih =>
  have hp : ([13, 10, 13, 10] : List UInt8).isPrefixOf (c :: r) = decide ((c :: r).take 4 = [13, 10, 13, 10]) := by
   match r with
   | [] => simp [List.isPrefixOf]
   | [a] => simp [List.isPrefixOf]
   | [a, b] => simp [List.isPrefixOf]
   | a :: b :: d :: r =>
    simp only [List.isPrefixOf, List.take_succ_cons, List.take_zero, Bool.and_true]
    rw [Bool.eq_iff_iff]
    simp only [Bool.and_eq_true, beq_iff_eq, decide_eq_true_eq, List.cons.injEq, and_true]
    constructor <;> rintro ⟨h1, h2, h3, h4⟩ <;> exact ⟨h1.symm, h2.symm, h3.symm, h4.symm⟩
  rw [Lib.index, hp, idx4]
  by_cases h : (c :: r).take 4 = [13, 10, 13, 10]
  ·rw [decide_eq_true h, if_pos rfl, if_pos h]
   rfl
  ·rw [decide_eq_false h, if_neg (by decide), if_neg h, ih]
   cases idx4 r with
   | none => rfl
   | some i =>
    simp only [Option.map_some]
    rw [if_neg (by simp)]
    rfl
theorem headEnd_eq (s : ByteArray) (hs : s.size ≤ 1000000) : impl_headEnd.f s = some (match hdE (bl s) with | none => -1 | some e => (e : Int)) := by
 have hsz := bl_size s
 have h1 : strings_HasPrefix.f s (⟨#[13, 10]⟩ : ByteArray) = some (decide ((bl s).take 2 = [13, 10])) := by
  simp only [strings_HasPrefix.f, hasPre, bS]
  refine congrArg some ?_
  show (decide (2 ≤ s.size) && ((bl s).take 2 == [13, 10])) = _
  rw [Bool.eq_iff_iff, Bool.and_eq_true, decide_eq_true_eq, decide_eq_true_eq, beq_iff_eq]
  constructor
  ·exact fun h => h.2
  ·intro h
   have := congrArg List.length h
   rw [List.length_take] at this
   simp only [List.length_cons, List.length_nil] at this
   exact ⟨by omega, h⟩
 have h2 : strings_Index.f s (⟨#[13, 10, 13, 10]⟩ : ByteArray) = some (match idx4 (bl s) with | none => -1 | some i => (i : Int)) := by
  unfold strings_Index.f
  rw [if_pos (by omega), ← index4]
  rfl
 simp only [impl_headEnd.f, h1, h2, bS]
 unfold hdE
 by_cases h0 : (bl s).take 2 = [13, 10]
 ·rw [if_pos (decide_eq_true h0), if_pos h0]
  rfl
 ·rw [if_neg (by rw [decide_eq_true_eq]; exact h0), if_neg h0]
  cases hi : idx4 (bl s) with
  | none => rfl
  | some i =>
   have hsp := congrArg List.length (idx4_spec _ _ hi)
   rw [List.length_take, List.length_drop] at hsp
   simp only [List.length_cons, List.length_nil] at hsp
   simp only [Option.map_some]
   rw [if_neg (by omega), w2l i (by omega)]
theorem endCR_tail (p q : List UInt8) (h : endCR (p ++ 13 :: 10 :: q) = true) : q = [] ∨ endCR q = true := by
 by_cases hq : q = []
 ·exact .inl hq
 ·right
  by_cases hx : ∃ x, q = [x] ∧ x = 10
  ·obtain ⟨x, rfl, rfl⟩ := hx
   unfold endCR at h
   rw [decide_eq_true_eq] at h
   have hl : (p ++ [13, 10, 10]).length - 2 = p.length + 1 := by simp
   have e : (p ++ [13, 10, 10]).drop ((p ++ [13, 10, 10]).length - 2) = [10, 10] := by
    rw [hl, ← List.drop_drop, List.drop_left]
    rfl
   have h2 := h.2
   rw [e] at h2
   exact absurd h2 (by decide)
  ·rwa [endCR_app p q hq (fun x h1 h2 => hx ⟨x, h1, h2⟩)] at h
theorem endCR_first (X : List UInt8) (h : endCR X = true) : ∃ p q, X = p ++ 13 :: 10 :: q ∧ Lib.index X [13, 10] = (p.length : Int) ∧ (q = [] ∨ endCR q = true) ∧ fe X = if q.take 1 = [32] then (fe q).map (· + (p.length + 2)) else some (p.length + 2) := by
 rcases cr_cases X with ⟨_, hno⟩ | ⟨p, q, rfl, hi, hno⟩
 ·unfold endCR at h
  rw [decide_eq_true_eq] at h
  have := hno (X.length - 2)
  rw [h.2] at this
  exact absurd rfl this
 ·refine ⟨p, q, rfl, hi, endCR_tail p q h, ?_⟩
  clear hi h
  induction p with
  | nil =>
   rw [List.nil_append, fe]
   by_cases h32 : q.take 1 = [32]
   ·rw [if_neg (fun hh => hh.2.2 h32), if_pos h32, fe, if_neg (fun hh => absurd hh.1 (by decide)), Option.map_map]
    rfl
   ·rw [if_pos ⟨rfl, rfl, h32⟩, if_neg h32]
    rfl
  | cons c p ih =>
   have h0 := hno 0 (by simp)
   have ih := ih (fun j hj => by have := hno (j + 1) (by simpa using hj); simpa using this)
   rw [List.cons_append, fe, if_neg (by
    rintro ⟨h1, h2, _⟩
    apply h0
    rw [List.cons_append, List.drop_zero, show (2 : Nat) = 1 + 1 from rfl, List.take_succ_cons, h1, h2]), ih]
   split
   ·rw [Option.map_map]
    congr 1
   ·rfl
def fldI (n : Nat) (X : List UInt8) (m : Nat) (F : List SF) : Option (List SF) := match unfR [] (X.take m) with
 | none => none
 | some f => if F.length = 40 then none else parseI n (X.drop m) (F ++ [mkF f])
def outI (b : ByteArray) (B : Option (List SF)) (r : List SF × ByteArray × Bool) : Prop := match B with
 | none => r.2.2 = false
 | some F => r = (F, b, true)
theorem fe_end (X : List UInt8) (h : endCR X = true) : ∃ m, fe X = some m ∧ (X.drop m = [] ∨ endCR (X.drop m) = true) := by
 have : ∀ (n : Nat) (X : List UInt8), X.length ≤ n → endCR X = true → ∃ m, fe X = some m ∧ (X.drop m = [] ∨ endCR (X.drop m) = true) := by
  intro n
  induction n with
  | zero =>
   intro X hX h
   cases X with
   | nil => exact absurd h (by decide)
   | cons a b => simp at hX
  | succ n ih =>
   intro X hX h
   obtain ⟨p, q, rfl, hi, hq, hf⟩ := endCR_first X h
   have hd : ∀ m, (p ++ 13 :: 10 :: q).drop (m + (p.length + 2)) = q.drop m := fun m => by
    rw [Nat.add_comm, ← List.drop_drop, ← List.drop_drop, List.drop_left]
    rfl
   by_cases h32 : q.take 1 = [32]
   ·rw [if_pos h32] at hf
    have hqe : endCR q = true := hq.resolve_left (by rintro rfl; simp at h32)
    obtain ⟨m, hm, hme⟩ := ih q (by simp at hX; omega) hqe
    rw [hm] at hf
    exact ⟨m + (p.length + 2), hf, by rw [hd]; exact hme⟩
   ·rw [if_neg h32] at hf
    exact ⟨p.length + 2, hf, by have := hd 0; rw [Nat.zero_add, List.drop_zero] at this; rw [this]; exact hq⟩
 exact this X.length X (Nat.le_refl _) h
theorem implP_ev (b : ByteArray) : ∀ (n : Nat) (R : ByteArray) (F : List SF), R.size ≤ 100000 → (bl R).length < n → (bl R = [] ∨ endCR (bl R) = true) → F.length ≤ 40 → ∃ r, Ev (fun k => impl_parseMail.l0 k R F b) r ∧ outI b (parseI n (bl R) F) r := by
 intro n
 induction n with
 | zero => intro R F _ h; omega
 | succ n ih =>
  intro R F hR hn he hF
  have hsz := bl_size R
  rw [parseI]
  by_cases h0 : bl R = []
  ·rw [if_pos h0]
   refine ⟨(F, b, true), Ev.step (f := fun _ => some _) (fun k => ?_) (Ev.now _), rfl⟩
   simp only [impl_parseMail.l0]
   rw [if_pos (by rw [toList_bl]; exact h0)]
  ·rw [if_neg h0]
   have he := he.resolve_left h0
   -- behind an end of a line: on, while a blank follows
   have on : ∀ (d x m : Nat) (r : List SF × ByteArray × Bool), (bl R).length - x ≤ d → x ≤ (bl R).length → ((bl R).drop x = [] ∨ endCR ((bl R).drop x) = true) → (if ((bl R).drop x).take 1 = [32] then (fe ((bl R).drop x)).map (· + x) else some x) = some m → (∃ K, ∀ k, K ≤ k → ∀ c : Int, (impl_unfold.f k (R.extract 0 m)).bind (fun bt107 => (if bt107.2.2 = true then (if (F.length : Int) = 40 then (some (([] : List SF), (⟨#[]⟩ : ByteArray), false)) else (if F.length < 4398046511104 then (impl_parseMail.l0 k (R.extract m R.size) (F ++ [(⟨bt107.1, bt107.2.1⟩ : SF)]) b) else (none))) else (some (([] : List SF), (⟨#[]⟩ : ByteArray), false)))) = some r) → Ev (fun k => impl_parseMail.l1 k R (x : Int) F b) r := by
    intro d
    induction d with
    | zero =>
     intro x m r hd hx hxe hm hK
     obtain rfl : x = (bl R).length := by omega
     rw [List.drop_eq_nil_of_le (Nat.le_refl _), if_neg (by simp)] at hm
     obtain rfl := Option.some.inj hm
     obtain ⟨K, hK⟩ := hK
     refine ⟨K + 1, fun k hk => ?_⟩
     obtain ⟨j, rfl⟩ : ∃ j, k = j + 1 := ⟨k - 1, by omega⟩
     show impl_parseMail.l1 (j + 1) R _ F b = _
     rw [impl_parseMail.l1, if_neg (by omega), if_pos (by omega), if_pos (by omega), Int.toNat_natCast]
     exact hK j (by omega) 0
    | succ d ihd =>
     intro x m r hd hx hxe hm hK
     by_cases hxl : x < (bl R).length
     case neg =>
      obtain rfl : x = (bl R).length := by omega
      rw [List.drop_eq_nil_of_le (Nat.le_refl _), if_neg (by simp)] at hm
      obtain rfl := Option.some.inj hm
      obtain ⟨K, hK⟩ := hK
      refine ⟨K + 1, fun k hk => ?_⟩
      obtain ⟨j, rfl⟩ : ∃ j, k = j + 1 := ⟨k - 1, by omega⟩
      show impl_parseMail.l1 (j + 1) R _ F b = _
      rw [impl_parseMail.l1, if_neg (by omega), if_pos (by omega), if_pos (by omega), Int.toNat_natCast]
      exact hK j (by omega) 0
     have hb := bt_eq R x hxl
     have h1 : ((bl R).drop x).take 1 = [(bl R)[x]] := by rw [List.drop_eq_getElem_cons hxl]; rfl
     rw [h1] at hm
     have hxe := hxe.resolve_left (fun hh => by have := congrArg List.length hh; rw [List.length_drop] at this; simp at this; omega)
     by_cases h32 : (bl R)[x] = 32
     ·have hb32 : bt R (x : Int) = 32 := by rw [hb, h32]; rfl
      rw [if_pos (by rw [h32])] at hm
      obtain ⟨p, q, e, hi, hq, hf⟩ := endCR_first _ hxe
      have hxd : bl (R.extract x R.size) = (bl R).drop x := by rw [bl_extract]; exact List.take_of_length_le (by rw [List.length_drop]; omega)
      have hidx : strings_Index.f (R.extract x R.size) (⟨#[13, 10]⟩ : ByteArray) = some (p.length : Int) := by
       unfold strings_Index.f
       rw [if_pos (by rw [ByteArray.size_extract]; omega)]
       refine congrArg some ?_
       show Lib.index (bl (R.extract x R.size)) [13, 10] = _
       rw [hxd, hi]
      have hdq : (bl R).drop (x + (p.length + 2)) = q := by
       rw [← List.drop_drop, e, ← List.drop_drop, List.drop_left]
       rfl
      have hpl : x + (p.length + 2) ≤ (bl R).length := by
       have := congrArg List.length e
       rw [List.length_drop] at this
       simp at this
       omega
      have w : Aside0 (wrap64 ((x : Int) + wrap64 ((p.length : Int) + 2)) = ((x + (p.length + 2) : Nat) : Int)) := ⟨by
       rw [w2l p.length (by omega), w64add x (p.length + 2) (by omega)]⟩
      refine Ev.step (f := fun k => impl_parseMail.l1 k R ((x + (p.length + 2) : Nat) : Int) F b) (fun k => ?_) (ihd (x + (p.length + 2)) m r (by omega) hpl (by rw [hdq]; exact hq) ?_ hK)
      ·simp only [impl_parseMail.l1, hb32, Int.toNat_natCast, hidx, bS, w.out]
       rw [if_pos (by omega), if_pos (by omega), if_pos trivial, if_pos (by omega)]
      ·rw [hdq, ← hm, hf]
       split
       ·rw [Option.map_map]
        congr 1
        funext y
        show y + (x + (p.length + 2)) = y + (p.length + 2) + x
        omega
       ·simp only [Option.map_some]
        congr 1
        omega
     ·have hb32 : ¬ bt R (x : Int) = 32 := fun hh => h32 (UInt8.toNat_inj.1 (by rw [show ((32 : UInt8)).toNat = 32 from rfl]; omega))
      rw [if_neg (by simp [h32])] at hm
      obtain rfl := Option.some.inj hm
      obtain ⟨K, hK⟩ := hK
      refine ⟨K + 1, fun k hk => ?_⟩
      obtain ⟨j, rfl⟩ : ∃ j, k = j + 1 := ⟨k - 1, by omega⟩
      show impl_parseMail.l1 (j + 1) R _ F b = _
      rw [impl_parseMail.l1, if_pos (by omega), if_pos (by omega), if_neg hb32, if_pos (by omega), Int.toNat_natCast]
      exact hK j (by omega) 0
   obtain ⟨p, q, e, hi, hq, hf⟩ := endCR_first _ he
   obtain ⟨m, hm, hme⟩ := fe_end _ he
   have hml := fe_le _ _ hm
   have hidx : strings_Index.f R (⟨#[13, 10]⟩ : ByteArray) = some (p.length : Int) := by
    unfold strings_Index.f
    rw [if_pos (by omega)]
    exact congrArg some hi
   have hpl : p.length + 2 ≤ (bl R).length := by rw [e]; simp
   have hdq : (bl R).drop (p.length + 2) = q := by
    rw [e, ← List.drop_drop, List.drop_left]
    rfl
   have start : ∀ r, Ev (fun k => impl_parseMail.l1 k R ((p.length + 2 : Nat) : Int) F b) r → Ev (fun k => impl_parseMail.l0 k R F b) r := fun r hr => by
    refine Ev.step (fun k => ?_) hr
    simp only [impl_parseMail.l0, hidx, bS]
    rw [if_neg (by rw [toList_bl]; exact h0), w2l p.length (by omega)]
   have hmm : (if ((bl R).drop (p.length + 2)).take 1 = [32] then (fe ((bl R).drop (p.length + 2))).map (· + (p.length + 2)) else some (p.length + 2)) = some m := by
    rw [hdq, ← hf, hm]
   have hz : bl (R.extract 0 m) = (bl R).take m := by rw [bl_extract, List.drop_zero, Nat.sub_zero]
   have hz2 : bl (R.extract m R.size) = (bl R).drop m := by rw [bl_extract]; exact List.take_of_length_le (by rw [List.length_drop]; omega)
   obtain ⟨u, ⟨K, hu⟩, ho⟩ := implUnf_ev (R.extract 0 m) (by rw [ByteArray.size_extract]; omega)
   rw [hz] at ho
   rw [hm]
   simp only
   have fin : ∀ r, (∃ K2, ∀ k, K2 ≤ k → (if u.2.2 = true then (if (F.length : Int) = 40 then (some (([] : List SF), (⟨#[]⟩ : ByteArray), false)) else (if F.length < 4398046511104 then (impl_parseMail.l0 k (R.extract m R.size) (F ++ [(⟨u.1, u.2.1⟩ : SF)]) b) else (none))) else (some (([] : List SF), (⟨#[]⟩ : ByteArray), false))) = some r) → Ev (fun k => impl_parseMail.l0 k R F b) r := fun r ⟨K2, h2⟩ =>
    start r (on (bl R).length (p.length + 2) m r (by omega) hpl (by rw [hdq]; exact hq) hmm ⟨K + K2, fun k hk c => by
     have f := hu k (by omega)
     simp only at f
     rw [f, bS]
     exact h2 k (by omega)⟩)
   cases hR2 : unfR [] ((bl R).take m) with
   | none =>
    rw [hR2] at ho
    have ho' : u.2.2 = false := ho
    exact ⟨_, fin (([] : List SF), (⟨#[]⟩ : ByteArray), false) ⟨0, fun k _ => by rw [ho']; rfl⟩, rfl⟩
   | some f =>
    rw [hR2] at ho
    obtain ⟨o1, o2, o3⟩ : u.2.2 = true ∧ bl u.1 = f.1 ∧ bl u.2.1 = f.2 := ho
    simp only
    by_cases h40 : F.length = 40
    ·rw [if_pos h40]
     exact ⟨_, fin (([] : List SF), (⟨#[]⟩ : ByteArray), false) ⟨0, fun k _ => by rw [if_pos o1, if_pos (by omega)]⟩, rfl⟩
    ·rw [if_neg h40, ← hz2]
     have hmk : (⟨u.1, u.2.1⟩ : SF) = mkF f := by
      unfold mkF
      rw [← o2, ← o3, mk_bl, mk_bl]
     obtain ⟨r, ⟨K2, hr⟩, hro⟩ := ih (R.extract m R.size) (F ++ [mkF f]) (by rw [ByteArray.size_extract]; omega) (by rw [hz2, List.length_drop]; omega) (by rw [hz2]; exact hme) (by simp; omega)
     refine ⟨r, fin r ⟨K2, fun k hk => ?_⟩, hro⟩
     have f2 := hr k hk
     simp only at f2
     rw [if_pos o1, if_neg (by omega), if_pos (by omega), hmk]
     exact f2
theorem hdE_le (l : List UInt8) (e : Nat) (h : hdE l = some e) : e + 2 ≤ l.length ∧ (l.take e = [] ∨ endCR (l.take e) = true) := by
 unfold hdE at h
 split at h
 ·rename_i h0
  obtain rfl := Option.some.inj h
  have := congrArg List.length h0
  rw [List.length_take] at this
  simp only [List.length_cons, List.length_nil] at this
  exact ⟨by omega, .inl (by simp)⟩
 ·obtain ⟨i, hi, rfl⟩ := Option.map_eq_some_iff.1 h
  have h4 := idx4_spec l i hi
  have := congrArg List.length h4
  rw [List.length_take, List.length_drop] at this
  simp only [List.length_cons, List.length_nil] at this
  refine ⟨by omega, .inr (decide_eq_true ⟨by rw [List.length_take]; omega, ?_⟩)⟩
  have hl : (l.take (i + 2)).length = i + 2 := by rw [List.length_take]; omega
  rw [hl, show i + 2 - 2 = i by omega, List.drop_take, show i + 2 - i = 2 by omega]
  have := congrArg (List.take 2) h4
  rw [List.take_take] at this
  exact this
/-- A right mail, or none, in the program: what the reference finds in it. -/
theorem implParse_ev (s : ByteArray) (hs : s.size ≤ 65536) : ∃ r, Ev (fun k => impl_parseMail.f k s) r ∧ (if mailR (bl s) = true then outP (parseS ((bl s).length + 1) (bl s) []) r else r.2.2 = false) := by
 have hsz := bl_size s
 have hh := headEnd_eq s (by omega)
 obtain ⟨K, hM⟩ := implMail_ev s (by omega)
 have bad : ∀ (y : Int) (k : Nat), impl_parseMail.j0 (k + 1) s y true = some (([] : List SF), (⟨#[]⟩ : ByteArray), false) := fun y k => by
  simp only [impl_parseMail.j0]
  rfl
 by_cases hm : mailR (bl s) = true
 ·simp only [hm, if_true]
  rw [parse_same]
  cases hd : hdE (bl s) with
  | none =>
   rw [hd] at hh
   refine ⟨_, ⟨K + 1, fun k hk => ?_⟩, (rfl : outP none (([] : List SF), (⟨#[]⟩ : ByteArray), false))⟩
   obtain ⟨j, rfl⟩ : ∃ j, k = j + 1 := ⟨k - 1, by omega⟩
   have f := hM (j + 1) (by omega)
   simp only at f
   simp only [impl_parseMail.f, hh, f, bS, hm, if_true]
   exact bad _ _
  | some e =>
   rw [hd] at hh
   have hle := hdE_le _ _ hd
   have hz : bl (s.extract 0 e) = (bl s).take e := by rw [bl_extract, List.drop_zero, Nat.sub_zero]
   have hz2 : s.extract (e + 2) s.size = (⟨((bl s).drop (e + 2)).toArray⟩ : ByteArray) := ext_mk s (e + 2)
   obtain ⟨r, ⟨K2, hr⟩, ho⟩ := implP_ev (s.extract (e + 2) s.size) ((bl s).length + 1) (s.extract 0 e) [] (by rw [ByteArray.size_extract]; omega) (by rw [hz, List.length_take]; omega) (by rw [hz]; exact hle.2) (by simp)
   rw [hz] at ho
   refine ⟨r, ⟨K + K2 + 1, fun k hk => ?_⟩, ?_⟩
   ·obtain ⟨j, rfl⟩ : ∃ j, k = j + 1 := ⟨k - 1, by omega⟩
    have f := hM (j + 1) (by omega)
    have f2 := hr j (by omega)
    simp only at f f2
    have w : Aside0 (wrap64 ((e : Int) + 2) = ((e + 2 : Nat) : Int)) := ⟨w2l e (by omega)⟩
    simp only [impl_parseMail.f, hh, f, bS, hm, if_true, impl_parseMail.j0, w.out, Int.toNat_natCast]
    rw [decide_eq_false (by omega), if_neg (by decide), if_pos (by omega), if_pos (by omega), if_pos (by omega), if_pos (by omega)]
    exact f2
   ·simp only
    cases hp : parseI ((bl s).length + 1) ((bl s).take e) [] with
    | none => rw [hp] at ho; exact ho
    | some F =>
     rw [hp] at ho
     have ho' : r = (F, s.extract (e + 2) s.size, true) := ho
     show r = (F, (⟨((bl s).drop (e + 2)).toArray⟩ : ByteArray), true)
     rw [ho', hz2]
 ·rw [Bool.not_eq_true] at hm
  simp only [hm, Bool.false_eq_true, if_false]
  refine ⟨_, ⟨K + 1, fun k hk => ?_⟩, (rfl : ((([] : List SF), (⟨#[]⟩ : ByteArray), false) : List SF × ByteArray × Bool).2.2 = false)⟩
  obtain ⟨j, rfl⟩ : ∃ j, k = j + 1 := ⟨k - 1, by omega⟩
  have f := hM (j + 1) (by omega)
  simp only at f
  simp only [impl_parseMail.f, hh, f, bS, hm]
  rw [if_neg (by decide)]
  exact bad _ _
end Go.Proofs.YtcpdbobkpbmjiaaDoor.P
namespace Go.Proofs.YtcpdbobkpbmjiaaDoor.P
open Go.RowKit Go.Proofs.YtcpdbobkpbmjiaaDoorW.PrintWords Go.Proofs.YtcpdbobkpbmjiaaDoorW.PrintLast Go.Proofs.YtcpdbobkpbmjiaaDoorW.PrintMore
attribute [local go_sem] max2_int min2_int max_two min_two max_three min_three max_four min_four   -- for this text's walks alone
set_option linter.unusedVariables false
set_option linter.unusedSimpArgs false

/-! ### impl_ParseMail: function 11 -/
def impl_ParseMail.f (k : Nat) (a0 : ByteArray) : Option ((List (S49)) × ByteArray × Int) := if (a0.size : Int) > 65536 then (some (([] : List (S49)), (⟨#[]⟩ : ByteArray), 2)) else ((impl_parseMail.f k a0).bind fun bt102 => (if bt102.2.2 = true then (some (bt102.1, bt102.2.1, 0)) else (some (([] : List (S49)), (⟨#[]⟩ : ByteArray), 3))))
theorem impl_ParseMail.mono : ∀ a0 k, LeO (impl_ParseMail.f k a0) (impl_ParseMail.f (k + 1) a0) := by
 intro a0 k
 unfold impl_ParseMail.f
 repeat' first
   | (with_reducible exact impl_parseMail.mono _ _)
   | (with_reducible exact LeO.refl _)
   | (with_reducible exact LeO.none _)
   | (with_reducible refine LeO.ite ?_ ?_)
   | (with_reducible refine LeO.bind ?_ (fun _ => ?_))
   | exact impl_parseMail.mono _ _
   | exact LeO.none _
   | refine LeO.ite ?_ ?_
   | refine LeO.bind ?_ (fun _ => ?_)
set_option maxHeartbeats 8000000 in
set_option maxRecDepth 100000 in
theorem impl_ParseMail.calls (k : Nat) (a0 : ByteArray) (r1 : List (S49)) (r2 : ByteArray) (r3 : Int) (w : World) (hGWm : GWm w) (h : impl_ParseMail.f k a0 = some (r1, r2, r3)) :
  Calls Tryd.prog 11 #[.string a0] w fun e w' => ∃ v0_ : Value, e = .returned (.tuple #[.agg #[v0_, .string r2], .int .i64 r3]) ∧ Kd.R k49 49 w' w.heap.size (fun _ => True) v0_ r1 ∧ Below w.heap.size w w' := by
 have HGWm := Aside0.mk hGWm
 clear hGWm
 have hu30 := Tryd.underlying30
 have HB := Aside0.mk (Below.refl w.heap.size w)
 have H : (if (a0.size : Int) > 65536 then (some (([] : List (S49)), (⟨#[]⟩ : ByteArray), 2)) else ((impl_parseMail.f k a0).bind fun bt102 => (if bt102.2.2 = true then (some (bt102.1, bt102.2.1, 0)) else (some (([] : List (S49)), (⟨#[]⟩ : ByteArray), 3))))) = some (r1, r2, r3) := h
 clear h
 by_cases c2 : (a0.size : Int) > 65536
 ·rw [if_pos c2] at H
  have c2b0 : decide (65536 < (a0.size : Int)) = true := decide_eq_true c2
  have c2b1 : decide (65536 < a0.size) = true := decide_eq_true (by omega)
  clear c2
  simp only [Option.some.injEq, Prod.mk.injEq] at H
  obtain ⟨rfl, rfl, rfl⟩ := H
  go_enter Tryd.func11, Tryd.ntmps11
  go_wp2_with (first | ((with_reducible refine gate_dst (N := 2) rfl ?_); refine box_event ?hg (N := 2) ?hd (cs := #[.slice none 0 0, .string (⟨#[]⟩ : ByteArray)]) (t := 30) ?hr ?_; (case hd => rfl); (case hg => rfl); (case hr => first | (go_simp; done) | (go_simp; rfl)); intro gb101 hg w3 hbox hb; have n0_ := Aside0.mk (below_step (by repeat (first | (with_reducible first | exact HB.out | apply below_alloc | apply pw_below_drewN | apply below_drew1) | exact HB.out)) hb); have n1_ := Aside0.mk (hbox); have n2_ := Aside0.mk ((by rw [hg]; exact (below_size (by repeat (first | (with_reducible first | exact HB.out | apply below_alloc | apply pw_below_drewN | apply below_drew1) | exact HB.out))) : w.heap.size ≤ gb101)); have n3_ := Aside0.mk ((by rw [hg]; exact (below_size (by repeat (first | (with_reducible first | exact HB.out | apply below_alloc | apply pw_below_drewN | apply below_drew1) | exact HB.out))) : w.heap.size ≤ gb101)); clear HB; have HB := n0_; have BK101 := n1_; have GW101 := n2_; have GE101 := n3_; clear n0_ n1_ n2_ n3_; clear hb hbox hg; have hcz4_0 : w3.cell? ⟨gb101, 0, none⟩ = some (.slice none 0 0) := (blk_cell BK101.out 0).trans rfl; have hcz4_1 : w3.cell? ⟨gb101, 1, none⟩ = some (.string (⟨#[]⟩ : ByteArray)) := (blk_cell BK101.out 1).trans rfl; have hfz4_0 := blk_frozen BK101.out 0; have hfz4_1 := blk_frozen BK101.out 1))
  refine bodyPost_ret (results_ct rfl _ _ gb101 30 #[.slice none 0 0, .string (⟨#[]⟩ : ByteArray)] (0, 0) _ rfl (by (with_reducible repeat (first | refine blk_drewN ?_ _ | refine blk_drew ?_ | refine blk_alloc ?_ _)); refine blk_put (cs := #[.slice none 0 0, .string (⟨#[]⟩ : ByteArray)]) ?_ 1 _ rfl; (with_reducible repeat (first | refine blk_drewN ?_ _ | refine blk_drew ?_ | refine blk_alloc ?_ _)); refine blk_put (cs := #[.slice none 0 0, .string (⟨#[]⟩ : ByteArray)]) ?_ 0 _ rfl; (with_reducible repeat (first | refine blk_drewN ?_ _ | refine blk_drew ?_ | refine blk_alloc ?_ _)); exact BK101.out) Tryd.underlying30 rfl (by kernel_rfl)) rfl ?_
  exact ⟨_, by first | rfl | (simp [errW_none, errW_some] <;> rfl) | (simp [*, errW_none, errW_some] <;> rfl), by first | exact Kd.R_nil _ _ _ _ _ | exact Kd.N_nil _ _ _ _ _ | exact Kd.V_nil _ _ _ _ _ | exact Kd.Q_nil _ _ _ _ _ | exact Kd.S_nil _ _ _ _ _, by repeat (first | (with_reducible first | exact HB.out | apply below_alloc | apply pw_below_drewN | apply below_drew1 | refine below_set ?_ GE101.out) | exact HB.out)⟩
 ·rw [if_neg c2] at H
  have c2b0 : decide (65536 < (a0.size : Int)) = false := decide_eq_false c2
  have c2b1 : decide (65536 < a0.size) = false := decide_eq_false (by omega)
  clear c2
  replace H := Option.bind_eq_some_iff.mp H
  obtain ⟨⟨t102, t105, t106⟩, A50, H⟩ := H
  replace H : (if t106 = true then (some (t102, t105, 0)) else (some (([] : List (S49)), (⟨#[]⟩ : ByteArray), 3))) = some (r1, r2, r3) := H
  have A5 := Aside0.mk A50
  clear A50
  by_cases c6 : t106 = true
  ·subst c6
   have H1 : (some (t102, t105, 0)) = some (r1, r2, r3) := by rw [if_pos rfl] at H; exact H
   clear H
   have H := H1
   clear H1
   simp only [Option.some.injEq, Prod.mk.injEq] at H
   obtain ⟨rfl, rfl, rfl⟩ := H
   go_enter Tryd.func11, Tryd.ntmps11
   go_wp2_with (first | ((with_reducible refine gate_dst (N := 2) rfl ?_); refine box_event ?hg (N := 2) ?hd (cs := #[.slice none 0 0, .string (⟨#[]⟩ : ByteArray)]) (t := 30) ?hr ?_; (case hd => rfl); (case hg => rfl); (case hr => first | (go_simp; done) | (go_simp; rfl)); intro gb101 hg w7 hbox hb; have n0_ := Aside0.mk (below_step (by repeat (first | (with_reducible first | exact HB.out | apply below_alloc | apply pw_below_drewN | apply below_drew1) | exact HB.out)) hb); have n1_ := Aside0.mk (hbox); have n2_ := Aside0.mk ((by rw [hg]; exact (below_size (by repeat (first | (with_reducible first | exact HB.out | apply below_alloc | apply pw_below_drewN | apply below_drew1) | exact HB.out))) : w.heap.size ≤ gb101)); have n3_ := Aside0.mk ((by rw [hg]; exact (below_size (by repeat (first | (with_reducible first | exact HB.out | apply below_alloc | apply pw_below_drewN | apply below_drew1) | exact HB.out))) : w.heap.size ≤ gb101)); clear HB; have HB := n0_; have BK101 := n1_; have GW101 := n2_; have GE101 := n3_; clear n0_ n1_ n2_ n3_; clear hb hbox hg) | ((with_reducible refine gate_callee (f := 18) rfl ?_); refine goesL_ (some 12) rfl rfl Tryd.func18 (by kernel_rfl) rfl #[.string a0] rfl (by (try simp only [List.map_toArray, List.map_cons, List.map_nil]); first | done | rfl | (simp only [List.length_drop, List.length_take]; rfl)) ?_; (with_reducible refine (impl_parseMail.calls k a0 t102 t105 true _ (GWm.below HGWm.out (by repeat (first | (with_reducible first | exact HB.out | apply below_alloc | apply pw_below_drewN | apply below_drew1 | refine below_set ?_ GE101.out) | exact HB.out))) A5.out).mono ?_); rintro e w8 ⟨v103, rfl, ho0, hb⟩; refine ⟨_, rfl, ?_⟩; have n0_ := Aside0.mk (Kd.R_lower ho0 (below_size (by repeat (first | (with_reducible first | exact HB.out | apply below_alloc | apply pw_below_drewN | apply below_drew1 | refine below_set ?_ GE101.out) | exact HB.out)))); have n1_ := Aside0.mk (blk_below (g := gb101) (o := .cells #[.slice none 0 0, .string (⟨#[]⟩ : ByteArray)] 30 (0, 0)) (by (with_reducible repeat (first | refine blk_drewN ?_ _ | refine blk_drew ?_ | refine blk_alloc ?_ _)); exact BK101.out) hb); have n2_ := Aside0.mk (below_step (by repeat (first | (with_reducible first | exact HB.out | apply below_alloc | apply pw_below_drewN | apply below_drew1 | refine below_set ?_ GE101.out) | exact HB.out)) hb); clear BK101; clear HB; have HO104 := n0_; have BK101 := n1_; have HB := n2_; clear n0_ n1_ n2_; (try clear hb); (try clear hb2); (try clear hk); (try clear hi); (try clear ho0)) | ((with_reducible refine gate_dst (N := 4) rfl ?_); refine box_event ?hg (N := 4) ?hd (cs := #[.slice none 0 0, .string (⟨#[]⟩ : ByteArray)]) (t := 30) ?hr ?_; (case hd => rfl); (case hg => rfl); (case hr => first | (go_simp; done) | (go_simp; rfl)); intro gb107 hg w9 hbox hb; have n0_ := Aside0.mk (Kd.R_below (by (with_reducible repeat (first | apply Kd.R_alloc | apply Kd.R_drewN | apply Kd.R_drew)); exact HO104.out) hb); have n1_ := Aside0.mk (blk_below (g := gb101) (o := .cells #[.slice none 0 0, .string (⟨#[]⟩ : ByteArray)] 30 (0, 0)) (by (with_reducible repeat (first | refine blk_drewN ?_ _ | refine blk_drew ?_ | refine blk_alloc ?_ _)); exact BK101.out) hb); have n2_ := Aside0.mk (below_step (by repeat (first | (with_reducible first | exact HB.out | apply below_alloc | apply pw_below_drewN | apply below_drew1 | refine below_set ?_ GE101.out) | exact HB.out)) hb); have n3_ := Aside0.mk (hbox); have n4_ := Aside0.mk ((by rw [hg]; exact (below_size (by repeat (first | (with_reducible first | exact HB.out | apply below_alloc | apply pw_below_drewN | apply below_drew1 | refine below_set ?_ GE101.out) | exact HB.out))) : w.heap.size ≤ gb107)); have n5_ := Aside0.mk ((by rw [hg]; exact (below_size (by repeat (first | (with_reducible first | exact HB.out | apply below_alloc | apply pw_below_drewN | apply below_drew1 | refine below_set ?_ GE101.out) | exact HB.out))) : w.heap.size ≤ gb107)); have n6_ := Aside0.mk ((by rw [hg]; exact Nat.ne_of_lt (blk_lt (g := gb101) (o := .cells #[.slice none 0 0, .string (⟨#[]⟩ : ByteArray)] 30 (0, 0)) (by (with_reducible repeat (first | refine blk_drewN ?_ _ | refine blk_drew ?_ | refine blk_alloc ?_ _)); exact BK101.out)) : gb101 ≠ gb107)); have n7_ := Aside0.mk ((by rw [hg]; exact Nat.ne_of_gt (blk_lt (g := gb101) (o := .cells #[.slice none 0 0, .string (⟨#[]⟩ : ByteArray)] 30 (0, 0)) (by (with_reducible repeat (first | refine blk_drewN ?_ _ | refine blk_drew ?_ | refine blk_alloc ?_ _)); exact BK101.out)) : gb107 ≠ gb101)); clear HO104; clear BK101; clear HB; have HO104 := n0_; have BK101 := n1_; have HB := n2_; have BK107 := n3_; have GW107 := n4_; have GE107 := n5_; have NB101_107 := n6_; have NB107_101 := n7_; clear n0_ n1_ n2_ n3_ n4_ n5_ n6_ n7_; clear hb hbox hg; obtain ⟨Ao10, co10, eo10⟩ := Kd.R_slice HO104.out; subst eo10; have hnb11 := NB107_101.out; have hnc11 := NB101_107.out; have hcz12_0 : w9.cell? ⟨gb107, 0, none⟩ = some (.slice none 0 0) := (blk_cell BK107.out 0).trans rfl; have hcz12_1 : w9.cell? ⟨gb107, 1, none⟩ = some (.string (⟨#[]⟩ : ByteArray)) := (blk_cell BK107.out 1).trans rfl; have hfz12_0 := blk_frozen BK107.out 0; have hfz12_1 := blk_frozen BK107.out 1; have hcz13_0 : w9.cell? ⟨gb101, 0, none⟩ = some (.slice none 0 0) := (blk_cell BK101.out 0).trans rfl; have hcz13_1 : w9.cell? ⟨gb101, 1, none⟩ = some (.string (⟨#[]⟩ : ByteArray)) := (blk_cell BK101.out 1).trans rfl; have hfz13_0 := blk_frozen BK101.out 0; have hfz13_1 := blk_frozen BK101.out 1))
   refine bodyPost_ret (results_ct rfl _ _ gb101 30 #[.slice Ao10 t102.length co10, .string t105] (0, 0) _ rfl (by (with_reducible repeat (first | refine blk_drewN ?_ _ | refine blk_drew ?_ | refine blk_alloc ?_ _)); refine blk_put (cs := #[.slice Ao10 t102.length co10, .string (⟨#[]⟩ : ByteArray)]) ?_ 1 _ rfl; (with_reducible repeat (first | refine blk_drewN ?_ _ | refine blk_drew ?_ | refine blk_alloc ?_ _)); refine blk_put (cs := #[.slice none 0 0, .string (⟨#[]⟩ : ByteArray)]) ?_ 0 _ rfl; (with_reducible repeat (first | refine blk_drewN ?_ _ | refine blk_drew ?_ | refine blk_alloc ?_ _)); refine blk_far ?_ NB101_107.out _; (with_reducible repeat (first | refine blk_drewN ?_ _ | refine blk_drew ?_ | refine blk_alloc ?_ _)); refine blk_far ?_ NB101_107.out _; (with_reducible repeat (first | refine blk_drewN ?_ _ | refine blk_drew ?_ | refine blk_alloc ?_ _)); exact BK101.out) Tryd.underlying30 rfl (by kernel_rfl)) rfl ?_
   exact ⟨_, by first | rfl | (simp [errW_none, errW_some] <;> rfl) | (simp [*, errW_none, errW_some] <;> rfl), by (with_reducible repeat (first | apply Kd.R_alloc | apply Kd.R_drewN | apply Kd.R_drew)); exact Kd.R_mono (Kd.R_far (p := ⟨gb101, 1, none⟩) (Kd.R_far (p := ⟨gb101, 0, none⟩) (Kd.R_far (p := ⟨gb107, 1, none⟩) (Kd.R_far (p := ⟨gb107, 0, none⟩) (Kd.R_types (Kd.R_types HO104.out BK107.out (by decide)) BK101.out (by decide)) (fun _ hk => hk.1.2) (.slice Ao10 t102.length co10)) (fun _ hk => hk.1.2) (.string t105)) (fun _ hk => hk.2) (.slice Ao10 t102.length co10)) (fun _ hk => hk.2) (.string t105)) (fun _ hk => trivial), by repeat (first | (with_reducible first | exact HB.out | apply below_alloc | apply pw_below_drewN | apply below_drew1 | refine below_set ?_ GE101.out | refine below_set ?_ GE107.out) | exact HB.out)⟩
  ·replace c6 := Bool.eq_false_iff.mpr c6
   subst c6
   have H1 : (some (([] : List (S49)), (⟨#[]⟩ : ByteArray), 3)) = some (r1, r2, r3) := by rw [if_neg (show ¬ (false = true) by decide)] at H; exact H
   clear H
   have H := H1
   clear H1
   simp only [Option.some.injEq, Prod.mk.injEq] at H
   obtain ⟨rfl, rfl, rfl⟩ := H
   go_enter Tryd.func11, Tryd.ntmps11
   go_wp2_with (first | ((with_reducible refine gate_dst (N := 2) rfl ?_); refine box_event ?hg (N := 2) ?hd (cs := #[.slice none 0 0, .string (⟨#[]⟩ : ByteArray)]) (t := 30) ?hr ?_; (case hd => rfl); (case hg => rfl); (case hr => first | (go_simp; done) | (go_simp; rfl)); intro gb101 hg w14 hbox hb; have n0_ := Aside0.mk (below_step (by repeat (first | (with_reducible first | exact HB.out | apply below_alloc | apply pw_below_drewN | apply below_drew1) | exact HB.out)) hb); have n1_ := Aside0.mk (hbox); have n2_ := Aside0.mk ((by rw [hg]; exact (below_size (by repeat (first | (with_reducible first | exact HB.out | apply below_alloc | apply pw_below_drewN | apply below_drew1) | exact HB.out))) : w.heap.size ≤ gb101)); have n3_ := Aside0.mk ((by rw [hg]; exact (below_size (by repeat (first | (with_reducible first | exact HB.out | apply below_alloc | apply pw_below_drewN | apply below_drew1) | exact HB.out))) : w.heap.size ≤ gb101)); clear HB; have HB := n0_; have BK101 := n1_; have GW101 := n2_; have GE101 := n3_; clear n0_ n1_ n2_ n3_; clear hb hbox hg) | ((with_reducible refine gate_callee (f := 18) rfl ?_); refine goesL_ (some 12) rfl rfl Tryd.func18 (by kernel_rfl) rfl #[.string a0] rfl (by (try simp only [List.map_toArray, List.map_cons, List.map_nil]); first | done | rfl | (simp only [List.length_drop, List.length_take]; rfl)) ?_; (with_reducible refine (impl_parseMail.calls k a0 t102 t105 false _ (GWm.below HGWm.out (by repeat (first | (with_reducible first | exact HB.out | apply below_alloc | apply pw_below_drewN | apply below_drew1 | refine below_set ?_ GE101.out) | exact HB.out))) A5.out).mono ?_); rintro e w15 ⟨v103, rfl, ho0, hb⟩; refine ⟨_, rfl, ?_⟩; have n0_ := Aside0.mk (Kd.R_lower ho0 (below_size (by repeat (first | (with_reducible first | exact HB.out | apply below_alloc | apply pw_below_drewN | apply below_drew1 | refine below_set ?_ GE101.out) | exact HB.out)))); have n1_ := Aside0.mk (blk_below (g := gb101) (o := .cells #[.slice none 0 0, .string (⟨#[]⟩ : ByteArray)] 30 (0, 0)) (by (with_reducible repeat (first | refine blk_drewN ?_ _ | refine blk_drew ?_ | refine blk_alloc ?_ _)); exact BK101.out) hb); have n2_ := Aside0.mk (below_step (by repeat (first | (with_reducible first | exact HB.out | apply below_alloc | apply pw_below_drewN | apply below_drew1 | refine below_set ?_ GE101.out) | exact HB.out)) hb); clear BK101; clear HB; have HO104 := n0_; have BK101 := n1_; have HB := n2_; clear n0_ n1_ n2_; (try clear hb); (try clear hb2); (try clear hk); (try clear hi); (try clear ho0)) | ((with_reducible refine gate_dst (N := 4) rfl ?_); refine box_event ?hg (N := 4) ?hd (cs := #[.slice none 0 0, .string (⟨#[]⟩ : ByteArray)]) (t := 30) ?hr ?_; (case hd => rfl); (case hg => rfl); (case hr => first | (go_simp; done) | (go_simp; rfl)); intro gb107 hg w16 hbox hb; have n0_ := Aside0.mk (Kd.R_below (by (with_reducible repeat (first | apply Kd.R_alloc | apply Kd.R_drewN | apply Kd.R_drew)); exact HO104.out) hb); have n1_ := Aside0.mk (blk_below (g := gb101) (o := .cells #[.slice none 0 0, .string (⟨#[]⟩ : ByteArray)] 30 (0, 0)) (by (with_reducible repeat (first | refine blk_drewN ?_ _ | refine blk_drew ?_ | refine blk_alloc ?_ _)); exact BK101.out) hb); have n2_ := Aside0.mk (below_step (by repeat (first | (with_reducible first | exact HB.out | apply below_alloc | apply pw_below_drewN | apply below_drew1 | refine below_set ?_ GE101.out) | exact HB.out)) hb); have n3_ := Aside0.mk (hbox); have n4_ := Aside0.mk ((by rw [hg]; exact (below_size (by repeat (first | (with_reducible first | exact HB.out | apply below_alloc | apply pw_below_drewN | apply below_drew1 | refine below_set ?_ GE101.out) | exact HB.out))) : w.heap.size ≤ gb107)); have n5_ := Aside0.mk ((by rw [hg]; exact (below_size (by repeat (first | (with_reducible first | exact HB.out | apply below_alloc | apply pw_below_drewN | apply below_drew1 | refine below_set ?_ GE101.out) | exact HB.out))) : w.heap.size ≤ gb107)); have n6_ := Aside0.mk ((by rw [hg]; exact Nat.ne_of_lt (blk_lt (g := gb101) (o := .cells #[.slice none 0 0, .string (⟨#[]⟩ : ByteArray)] 30 (0, 0)) (by (with_reducible repeat (first | refine blk_drewN ?_ _ | refine blk_drew ?_ | refine blk_alloc ?_ _)); exact BK101.out)) : gb101 ≠ gb107)); have n7_ := Aside0.mk ((by rw [hg]; exact Nat.ne_of_gt (blk_lt (g := gb101) (o := .cells #[.slice none 0 0, .string (⟨#[]⟩ : ByteArray)] 30 (0, 0)) (by (with_reducible repeat (first | refine blk_drewN ?_ _ | refine blk_drew ?_ | refine blk_alloc ?_ _)); exact BK101.out)) : gb107 ≠ gb101)); clear HO104; clear BK101; clear HB; have HO104 := n0_; have BK101 := n1_; have HB := n2_; have BK107 := n3_; have GW107 := n4_; have GE107 := n5_; have NB101_107 := n6_; have NB107_101 := n7_; clear n0_ n1_ n2_ n3_ n4_ n5_ n6_ n7_; clear hb hbox hg; obtain ⟨Ao17, co17, eo17⟩ := Kd.R_slice HO104.out; subst eo17; have hnb18 := NB107_101.out; have hnc18 := NB101_107.out; have hcz19_0 : w16.cell? ⟨gb107, 0, none⟩ = some (.slice none 0 0) := (blk_cell BK107.out 0).trans rfl; have hcz19_1 : w16.cell? ⟨gb107, 1, none⟩ = some (.string (⟨#[]⟩ : ByteArray)) := (blk_cell BK107.out 1).trans rfl; have hfz19_0 := blk_frozen BK107.out 0; have hfz19_1 := blk_frozen BK107.out 1; have hcz20_0 : w16.cell? ⟨gb101, 0, none⟩ = some (.slice none 0 0) := (blk_cell BK101.out 0).trans rfl; have hcz20_1 : w16.cell? ⟨gb101, 1, none⟩ = some (.string (⟨#[]⟩ : ByteArray)) := (blk_cell BK101.out 1).trans rfl; have hfz20_0 := blk_frozen BK101.out 0; have hfz20_1 := blk_frozen BK101.out 1))
   refine bodyPost_ret (results_ct rfl _ _ gb101 30 #[.slice none 0 0, .string (⟨#[]⟩ : ByteArray)] (0, 0) _ rfl (by (with_reducible repeat (first | refine blk_drewN ?_ _ | refine blk_drew ?_ | refine blk_alloc ?_ _)); refine blk_put (cs := #[.slice none 0 0, .string (⟨#[]⟩ : ByteArray)]) ?_ 1 _ rfl; (with_reducible repeat (first | refine blk_drewN ?_ _ | refine blk_drew ?_ | refine blk_alloc ?_ _)); refine blk_put (cs := #[.slice none 0 0, .string (⟨#[]⟩ : ByteArray)]) ?_ 0 _ rfl; (with_reducible repeat (first | refine blk_drewN ?_ _ | refine blk_drew ?_ | refine blk_alloc ?_ _)); refine blk_far ?_ NB101_107.out _; (with_reducible repeat (first | refine blk_drewN ?_ _ | refine blk_drew ?_ | refine blk_alloc ?_ _)); refine blk_far ?_ NB101_107.out _; (with_reducible repeat (first | refine blk_drewN ?_ _ | refine blk_drew ?_ | refine blk_alloc ?_ _)); exact BK101.out) Tryd.underlying30 rfl (by kernel_rfl)) rfl ?_
   exact ⟨_, by first | rfl | (simp [errW_none, errW_some] <;> rfl) | (simp [*, errW_none, errW_some] <;> rfl), by first | exact Kd.R_nil _ _ _ _ _ | exact Kd.N_nil _ _ _ _ _ | exact Kd.V_nil _ _ _ _ _ | exact Kd.Q_nil _ _ _ _ _ | exact Kd.S_nil _ _ _ _ _, by repeat (first | (with_reducible first | exact HB.out | apply below_alloc | apply pw_below_drewN | apply below_drew1 | refine below_set ?_ GE101.out | refine below_set ?_ GE107.out) | exact HB.out)⟩


/-! ### spec_ParseMail: function 10 -/
def spec_ParseMail.f (k : Nat) (a0 : ByteArray) : Option ((List (S49)) × ByteArray × Int) := if (a0.size : Int) > 65536 then (some (([] : List (S49)), (⟨#[]⟩ : ByteArray), 2)) else ((spec_MailOK.f k a0).bind fun t102 => (if t102 = true then ((spec_l07Parse.f k a0).bind fun bt103 => (if bt103.2.2 = true then (some (bt103.1, bt103.2.1, 0)) else (some (([] : List (S49)), (⟨#[]⟩ : ByteArray), 3)))) else (some (([] : List (S49)), (⟨#[]⟩ : ByteArray), 3))))
theorem spec_ParseMail.mono : ∀ a0 k, LeO (spec_ParseMail.f k a0) (spec_ParseMail.f (k + 1) a0) := by
 intro a0 k
 unfold spec_ParseMail.f
 repeat' first
   | (with_reducible exact spec_MailOK.mono _ _)
   | (with_reducible exact spec_l07Parse.mono _ _)
   | (with_reducible exact LeO.refl _)
   | (with_reducible exact LeO.none _)
   | (with_reducible refine LeO.ite ?_ ?_)
   | (with_reducible refine LeO.bind ?_ (fun _ => ?_))
   | exact spec_MailOK.mono _ _
   | exact spec_l07Parse.mono _ _
   | exact LeO.none _
   | refine LeO.ite ?_ ?_
   | refine LeO.bind ?_ (fun _ => ?_)
set_option maxHeartbeats 8000000 in
set_option maxRecDepth 100000 in
theorem spec_ParseMail.calls (k : Nat) (a0 : ByteArray) (r1 : List (S49)) (r2 : ByteArray) (r3 : Int) (w : World) (h : spec_ParseMail.f k a0 = some (r1, r2, r3)) :
  Calls Tryd.prog 10 #[.string a0] w fun e w' => ∃ v0_ : Value, e = .returned (.tuple #[.agg #[v0_, .string r2], .int .i64 r3]) ∧ Kd.R k49 49 w' w.heap.size (fun _ => True) v0_ r1 ∧ Below w.heap.size w w' := by
 have hu30 := Tryd.underlying30
 have HB := Aside0.mk (Below.refl w.heap.size w)
 have H : (if (a0.size : Int) > 65536 then (some (([] : List (S49)), (⟨#[]⟩ : ByteArray), 2)) else ((spec_MailOK.f k a0).bind fun t102 => (if t102 = true then ((spec_l07Parse.f k a0).bind fun bt103 => (if bt103.2.2 = true then (some (bt103.1, bt103.2.1, 0)) else (some (([] : List (S49)), (⟨#[]⟩ : ByteArray), 3)))) else (some (([] : List (S49)), (⟨#[]⟩ : ByteArray), 3))))) = some (r1, r2, r3) := h
 clear h
 by_cases c2 : (a0.size : Int) > 65536
 ·rw [if_pos c2] at H
  have c2b0 : decide (65536 < (a0.size : Int)) = true := decide_eq_true c2
  have c2b1 : decide (65536 < a0.size) = true := decide_eq_true (by omega)
  clear c2
  simp only [Option.some.injEq, Prod.mk.injEq] at H
  obtain ⟨rfl, rfl, rfl⟩ := H
  go_enter Tryd.func10, Tryd.ntmps10
  go_wp2_with (first | ((with_reducible refine gate_dst (N := 2) rfl ?_); refine box_event ?hg (N := 2) ?hd (cs := #[.slice none 0 0, .string (⟨#[]⟩ : ByteArray)]) (t := 30) ?hr ?_; (case hd => rfl); (case hg => rfl); (case hr => first | (go_simp; done) | (go_simp; rfl)); intro gb101 hg w3 hbox hb; have n0_ := Aside0.mk (below_step (by repeat (first | (with_reducible first | exact HB.out | apply below_alloc | apply pw_below_drewN | apply below_drew1) | exact HB.out)) hb); have n1_ := Aside0.mk (hbox); have n2_ := Aside0.mk ((by rw [hg]; exact (below_size (by repeat (first | (with_reducible first | exact HB.out | apply below_alloc | apply pw_below_drewN | apply below_drew1) | exact HB.out))) : w.heap.size ≤ gb101)); have n3_ := Aside0.mk ((by rw [hg]; exact (below_size (by repeat (first | (with_reducible first | exact HB.out | apply below_alloc | apply pw_below_drewN | apply below_drew1) | exact HB.out))) : w.heap.size ≤ gb101)); clear HB; have HB := n0_; have BK101 := n1_; have GW101 := n2_; have GE101 := n3_; clear n0_ n1_ n2_ n3_; clear hb hbox hg; have hcz4_0 : w3.cell? ⟨gb101, 0, none⟩ = some (.slice none 0 0) := (blk_cell BK101.out 0).trans rfl; have hcz4_1 : w3.cell? ⟨gb101, 1, none⟩ = some (.string (⟨#[]⟩ : ByteArray)) := (blk_cell BK101.out 1).trans rfl; have hfz4_0 := blk_frozen BK101.out 0; have hfz4_1 := blk_frozen BK101.out 1))
  refine bodyPost_ret (results_ct rfl _ _ gb101 30 #[.slice none 0 0, .string (⟨#[]⟩ : ByteArray)] (0, 0) _ rfl (by (with_reducible repeat (first | refine blk_drewN ?_ _ | refine blk_drew ?_ | refine blk_alloc ?_ _)); refine blk_put (cs := #[.slice none 0 0, .string (⟨#[]⟩ : ByteArray)]) ?_ 1 _ rfl; (with_reducible repeat (first | refine blk_drewN ?_ _ | refine blk_drew ?_ | refine blk_alloc ?_ _)); refine blk_put (cs := #[.slice none 0 0, .string (⟨#[]⟩ : ByteArray)]) ?_ 0 _ rfl; (with_reducible repeat (first | refine blk_drewN ?_ _ | refine blk_drew ?_ | refine blk_alloc ?_ _)); exact BK101.out) Tryd.underlying30 rfl (by kernel_rfl)) rfl ?_
  exact ⟨_, by first | rfl | (simp [errW_none, errW_some] <;> rfl) | (simp [*, errW_none, errW_some] <;> rfl), by first | exact Kd.R_nil _ _ _ _ _ | exact Kd.N_nil _ _ _ _ _ | exact Kd.V_nil _ _ _ _ _ | exact Kd.Q_nil _ _ _ _ _ | exact Kd.S_nil _ _ _ _ _, by repeat (first | (with_reducible first | exact HB.out | apply below_alloc | apply pw_below_drewN | apply below_drew1 | refine below_set ?_ GE101.out) | exact HB.out)⟩
 ·rw [if_neg c2] at H
  have c2b0 : decide (65536 < (a0.size : Int)) = false := decide_eq_false c2
  have c2b1 : decide (65536 < a0.size) = false := decide_eq_false (by omega)
  clear c2
  replace H := Option.bind_eq_some_iff.mp H
  obtain ⟨t102, A50, H⟩ := H
  replace H : (if t102 = true then ((spec_l07Parse.f k a0).bind fun bt103 => (if bt103.2.2 = true then (some (bt103.1, bt103.2.1, 0)) else (some (([] : List (S49)), (⟨#[]⟩ : ByteArray), 3)))) else (some (([] : List (S49)), (⟨#[]⟩ : ByteArray), 3))) = some (r1, r2, r3) := H
  have A5 := Aside0.mk A50
  clear A50
  by_cases c6 : t102 = true
  ·subst c6
   have H1 : ((spec_l07Parse.f k a0).bind fun bt103 => (if bt103.2.2 = true then (some (bt103.1, bt103.2.1, 0)) else (some (([] : List (S49)), (⟨#[]⟩ : ByteArray), 3)))) = some (r1, r2, r3) := by rw [if_pos rfl] at H; exact H
   clear H
   have H := H1
   clear H1
   replace H := Option.bind_eq_some_iff.mp H
   obtain ⟨⟨t103, t106, t107⟩, A70, H⟩ := H
   replace H : (if t107 = true then (some (t103, t106, 0)) else (some (([] : List (S49)), (⟨#[]⟩ : ByteArray), 3))) = some (r1, r2, r3) := H
   have A7 := Aside0.mk A70
   clear A70
   by_cases c8 : t107 = true
   ·subst c8
    have H1 : (some (t103, t106, 0)) = some (r1, r2, r3) := by rw [if_pos rfl] at H; exact H
    clear H
    have H := H1
    clear H1
    simp only [Option.some.injEq, Prod.mk.injEq] at H
    obtain ⟨rfl, rfl, rfl⟩ := H
    go_enter Tryd.func10, Tryd.ntmps10
    go_wp2_with (first | ((with_reducible refine gate_dst (N := 2) rfl ?_); refine box_event ?hg (N := 2) ?hd (cs := #[.slice none 0 0, .string (⟨#[]⟩ : ByteArray)]) (t := 30) ?hr ?_; (case hd => rfl); (case hg => rfl); (case hr => first | (go_simp; done) | (go_simp; rfl)); intro gb101 hg w9 hbox hb; have n0_ := Aside0.mk (below_step (by repeat (first | (with_reducible first | exact HB.out | apply below_alloc | apply pw_below_drewN | apply below_drew1) | exact HB.out)) hb); have n1_ := Aside0.mk (hbox); have n2_ := Aside0.mk ((by rw [hg]; exact (below_size (by repeat (first | (with_reducible first | exact HB.out | apply below_alloc | apply pw_below_drewN | apply below_drew1) | exact HB.out))) : w.heap.size ≤ gb101)); have n3_ := Aside0.mk ((by rw [hg]; exact (below_size (by repeat (first | (with_reducible first | exact HB.out | apply below_alloc | apply pw_below_drewN | apply below_drew1) | exact HB.out))) : w.heap.size ≤ gb101)); clear HB; have HB := n0_; have BK101 := n1_; have GW101 := n2_; have GE101 := n3_; clear n0_ n1_ n2_ n3_; clear hb hbox hg) | ((with_reducible refine gate_callee (f := 20) rfl ?_); refine goesL_ (some 11) rfl rfl Tryd.func20 (by kernel_rfl) rfl #[.string a0] rfl (by (try simp only [List.map_toArray, List.map_cons, List.map_nil]); first | done | rfl | (simp only [List.length_drop, List.length_take]; rfl)) ?_; (with_reducible refine (spec_MailOK.calls k a0 true _ A5.out).mono ?_); rintro e w' ⟨rfl, ⟨nd, rfl⟩⟩; refine ⟨_, rfl, ?_⟩; (try (rw [drewN_self w9]; generalize hq_ : World.drewN w9 _ = w9; have n0_ : Aside0 (w9.heap[gb101]? = some (.cells #[.slice none 0 0, .string (⟨#[]⟩ : ByteArray)] 30 (0, 0))) := ⟨by rw [← hq_]; exact (by (with_reducible repeat (first | refine blk_drewN ?_ _ | refine blk_drew ?_ | refine blk_alloc ?_ _)); exact BK101.out)⟩; have n1_ : Aside0 (Below w.heap.size w w9) := ⟨by rw [← hq_]; exact (by repeat (first | (with_reducible first | exact HB.out | apply below_alloc | apply pw_below_drewN | apply below_drew1 | refine below_set ?_ GE101.out) | exact HB.out))⟩; clear BK101 HB hq_; have BK101 := n0_; have HB := n1_; clear n0_ n1_))) | ((with_reducible refine gate_callee (f := 21) rfl ?_); refine goesL_ (some 16) rfl rfl Tryd.func21 (by kernel_rfl) rfl #[.string a0] rfl (by (try simp only [List.map_toArray, List.map_cons, List.map_nil]); first | done | rfl | (simp only [List.length_drop, List.length_take]; rfl)) ?_; (with_reducible refine (spec_l07Parse.calls k a0 t103 t106 true _ A7.out).mono ?_); rintro e w10 ⟨v104, rfl, ho0, hb⟩; refine ⟨_, rfl, ?_⟩; have n0_ := Aside0.mk (Kd.R_lower ho0 (below_size (by repeat (first | (with_reducible first | exact HB.out | apply below_alloc | apply pw_below_drewN | apply below_drew1 | refine below_set ?_ GE101.out) | exact HB.out)))); have n1_ := Aside0.mk (blk_below (g := gb101) (o := .cells #[.slice none 0 0, .string (⟨#[]⟩ : ByteArray)] 30 (0, 0)) (by (with_reducible repeat (first | refine blk_drewN ?_ _ | refine blk_drew ?_ | refine blk_alloc ?_ _)); exact BK101.out) hb); have n2_ := Aside0.mk (below_step (by repeat (first | (with_reducible first | exact HB.out | apply below_alloc | apply pw_below_drewN | apply below_drew1 | refine below_set ?_ GE101.out) | exact HB.out)) hb); clear BK101; clear HB; have HO105 := n0_; have BK101 := n1_; have HB := n2_; clear n0_ n1_ n2_; (try clear hb); (try clear hb2); (try clear hk); (try clear hi); (try clear ho0)) | ((with_reducible refine gate_dst (N := 4) rfl ?_); refine box_event ?hg (N := 4) ?hd (cs := #[.slice none 0 0, .string (⟨#[]⟩ : ByteArray)]) (t := 30) ?hr ?_; (case hd => rfl); (case hg => rfl); (case hr => first | (go_simp; done) | (go_simp; rfl)); intro gb108 hg w11 hbox hb; have n0_ := Aside0.mk (Kd.R_below (by (with_reducible repeat (first | apply Kd.R_alloc | apply Kd.R_drewN | apply Kd.R_drew)); exact HO105.out) hb); have n1_ := Aside0.mk (blk_below (g := gb101) (o := .cells #[.slice none 0 0, .string (⟨#[]⟩ : ByteArray)] 30 (0, 0)) (by (with_reducible repeat (first | refine blk_drewN ?_ _ | refine blk_drew ?_ | refine blk_alloc ?_ _)); exact BK101.out) hb); have n2_ := Aside0.mk (below_step (by repeat (first | (with_reducible first | exact HB.out | apply below_alloc | apply pw_below_drewN | apply below_drew1 | refine below_set ?_ GE101.out) | exact HB.out)) hb); have n3_ := Aside0.mk (hbox); have n4_ := Aside0.mk ((by rw [hg]; exact (below_size (by repeat (first | (with_reducible first | exact HB.out | apply below_alloc | apply pw_below_drewN | apply below_drew1 | refine below_set ?_ GE101.out) | exact HB.out))) : w.heap.size ≤ gb108)); have n5_ := Aside0.mk ((by rw [hg]; exact (below_size (by repeat (first | (with_reducible first | exact HB.out | apply below_alloc | apply pw_below_drewN | apply below_drew1 | refine below_set ?_ GE101.out) | exact HB.out))) : w.heap.size ≤ gb108)); have n6_ := Aside0.mk ((by rw [hg]; exact Nat.ne_of_lt (blk_lt (g := gb101) (o := .cells #[.slice none 0 0, .string (⟨#[]⟩ : ByteArray)] 30 (0, 0)) (by (with_reducible repeat (first | refine blk_drewN ?_ _ | refine blk_drew ?_ | refine blk_alloc ?_ _)); exact BK101.out)) : gb101 ≠ gb108)); have n7_ := Aside0.mk ((by rw [hg]; exact Nat.ne_of_gt (blk_lt (g := gb101) (o := .cells #[.slice none 0 0, .string (⟨#[]⟩ : ByteArray)] 30 (0, 0)) (by (with_reducible repeat (first | refine blk_drewN ?_ _ | refine blk_drew ?_ | refine blk_alloc ?_ _)); exact BK101.out)) : gb108 ≠ gb101)); clear HO105; clear BK101; clear HB; have HO105 := n0_; have BK101 := n1_; have HB := n2_; have BK108 := n3_; have GW108 := n4_; have GE108 := n5_; have NB101_108 := n6_; have NB108_101 := n7_; clear n0_ n1_ n2_ n3_ n4_ n5_ n6_ n7_; clear hb hbox hg; obtain ⟨Ao12, co12, eo12⟩ := Kd.R_slice HO105.out; subst eo12; have hnb13 := NB108_101.out; have hnc13 := NB101_108.out; have hcz14_0 : w11.cell? ⟨gb108, 0, none⟩ = some (.slice none 0 0) := (blk_cell BK108.out 0).trans rfl; have hcz14_1 : w11.cell? ⟨gb108, 1, none⟩ = some (.string (⟨#[]⟩ : ByteArray)) := (blk_cell BK108.out 1).trans rfl; have hfz14_0 := blk_frozen BK108.out 0; have hfz14_1 := blk_frozen BK108.out 1; have hcz15_0 : w11.cell? ⟨gb101, 0, none⟩ = some (.slice none 0 0) := (blk_cell BK101.out 0).trans rfl; have hcz15_1 : w11.cell? ⟨gb101, 1, none⟩ = some (.string (⟨#[]⟩ : ByteArray)) := (blk_cell BK101.out 1).trans rfl; have hfz15_0 := blk_frozen BK101.out 0; have hfz15_1 := blk_frozen BK101.out 1))
    refine bodyPost_ret (results_ct rfl _ _ gb101 30 #[.slice Ao12 t103.length co12, .string t106] (0, 0) _ rfl (by (with_reducible repeat (first | refine blk_drewN ?_ _ | refine blk_drew ?_ | refine blk_alloc ?_ _)); refine blk_put (cs := #[.slice Ao12 t103.length co12, .string (⟨#[]⟩ : ByteArray)]) ?_ 1 _ rfl; (with_reducible repeat (first | refine blk_drewN ?_ _ | refine blk_drew ?_ | refine blk_alloc ?_ _)); refine blk_put (cs := #[.slice none 0 0, .string (⟨#[]⟩ : ByteArray)]) ?_ 0 _ rfl; (with_reducible repeat (first | refine blk_drewN ?_ _ | refine blk_drew ?_ | refine blk_alloc ?_ _)); refine blk_far ?_ NB101_108.out _; (with_reducible repeat (first | refine blk_drewN ?_ _ | refine blk_drew ?_ | refine blk_alloc ?_ _)); refine blk_far ?_ NB101_108.out _; (with_reducible repeat (first | refine blk_drewN ?_ _ | refine blk_drew ?_ | refine blk_alloc ?_ _)); exact BK101.out) Tryd.underlying30 rfl (by kernel_rfl)) rfl ?_
    exact ⟨_, by first | rfl | (simp [errW_none, errW_some] <;> rfl) | (simp [*, errW_none, errW_some] <;> rfl), by (with_reducible repeat (first | apply Kd.R_alloc | apply Kd.R_drewN | apply Kd.R_drew)); exact Kd.R_mono (Kd.R_far (p := ⟨gb101, 1, none⟩) (Kd.R_far (p := ⟨gb101, 0, none⟩) (Kd.R_far (p := ⟨gb108, 1, none⟩) (Kd.R_far (p := ⟨gb108, 0, none⟩) (Kd.R_types (Kd.R_types HO105.out BK108.out (by decide)) BK101.out (by decide)) (fun _ hk => hk.1.2) (.slice Ao12 t103.length co12)) (fun _ hk => hk.1.2) (.string t106)) (fun _ hk => hk.2) (.slice Ao12 t103.length co12)) (fun _ hk => hk.2) (.string t106)) (fun _ hk => trivial), by repeat (first | (with_reducible first | exact HB.out | apply below_alloc | apply pw_below_drewN | apply below_drew1 | refine below_set ?_ GE101.out | refine below_set ?_ GE108.out) | exact HB.out)⟩
   ·replace c8 := Bool.eq_false_iff.mpr c8
    subst c8
    have H1 : (some (([] : List (S49)), (⟨#[]⟩ : ByteArray), 3)) = some (r1, r2, r3) := by rw [if_neg (show ¬ (false = true) by decide)] at H; exact H
    clear H
    have H := H1
    clear H1
    simp only [Option.some.injEq, Prod.mk.injEq] at H
    obtain ⟨rfl, rfl, rfl⟩ := H
    go_enter Tryd.func10, Tryd.ntmps10
    go_wp2_with (first | ((with_reducible refine gate_dst (N := 2) rfl ?_); refine box_event ?hg (N := 2) ?hd (cs := #[.slice none 0 0, .string (⟨#[]⟩ : ByteArray)]) (t := 30) ?hr ?_; (case hd => rfl); (case hg => rfl); (case hr => first | (go_simp; done) | (go_simp; rfl)); intro gb101 hg w16 hbox hb; have n0_ := Aside0.mk (below_step (by repeat (first | (with_reducible first | exact HB.out | apply below_alloc | apply pw_below_drewN | apply below_drew1) | exact HB.out)) hb); have n1_ := Aside0.mk (hbox); have n2_ := Aside0.mk ((by rw [hg]; exact (below_size (by repeat (first | (with_reducible first | exact HB.out | apply below_alloc | apply pw_below_drewN | apply below_drew1) | exact HB.out))) : w.heap.size ≤ gb101)); have n3_ := Aside0.mk ((by rw [hg]; exact (below_size (by repeat (first | (with_reducible first | exact HB.out | apply below_alloc | apply pw_below_drewN | apply below_drew1) | exact HB.out))) : w.heap.size ≤ gb101)); clear HB; have HB := n0_; have BK101 := n1_; have GW101 := n2_; have GE101 := n3_; clear n0_ n1_ n2_ n3_; clear hb hbox hg) | ((with_reducible refine gate_callee (f := 20) rfl ?_); refine goesL_ (some 11) rfl rfl Tryd.func20 (by kernel_rfl) rfl #[.string a0] rfl (by (try simp only [List.map_toArray, List.map_cons, List.map_nil]); first | done | rfl | (simp only [List.length_drop, List.length_take]; rfl)) ?_; (with_reducible refine (spec_MailOK.calls k a0 true _ A5.out).mono ?_); rintro e w' ⟨rfl, ⟨nd, rfl⟩⟩; refine ⟨_, rfl, ?_⟩; (try (rw [drewN_self w16]; generalize hq_ : World.drewN w16 _ = w16; have n0_ : Aside0 (w16.heap[gb101]? = some (.cells #[.slice none 0 0, .string (⟨#[]⟩ : ByteArray)] 30 (0, 0))) := ⟨by rw [← hq_]; exact (by (with_reducible repeat (first | refine blk_drewN ?_ _ | refine blk_drew ?_ | refine blk_alloc ?_ _)); exact BK101.out)⟩; have n1_ : Aside0 (Below w.heap.size w w16) := ⟨by rw [← hq_]; exact (by repeat (first | (with_reducible first | exact HB.out | apply below_alloc | apply pw_below_drewN | apply below_drew1 | refine below_set ?_ GE101.out) | exact HB.out))⟩; clear BK101 HB hq_; have BK101 := n0_; have HB := n1_; clear n0_ n1_))) | ((with_reducible refine gate_callee (f := 21) rfl ?_); refine goesL_ (some 16) rfl rfl Tryd.func21 (by kernel_rfl) rfl #[.string a0] rfl (by (try simp only [List.map_toArray, List.map_cons, List.map_nil]); first | done | rfl | (simp only [List.length_drop, List.length_take]; rfl)) ?_; (with_reducible refine (spec_l07Parse.calls k a0 t103 t106 false _ A7.out).mono ?_); rintro e w17 ⟨v104, rfl, ho0, hb⟩; refine ⟨_, rfl, ?_⟩; have n0_ := Aside0.mk (Kd.R_lower ho0 (below_size (by repeat (first | (with_reducible first | exact HB.out | apply below_alloc | apply pw_below_drewN | apply below_drew1 | refine below_set ?_ GE101.out) | exact HB.out)))); have n1_ := Aside0.mk (blk_below (g := gb101) (o := .cells #[.slice none 0 0, .string (⟨#[]⟩ : ByteArray)] 30 (0, 0)) (by (with_reducible repeat (first | refine blk_drewN ?_ _ | refine blk_drew ?_ | refine blk_alloc ?_ _)); exact BK101.out) hb); have n2_ := Aside0.mk (below_step (by repeat (first | (with_reducible first | exact HB.out | apply below_alloc | apply pw_below_drewN | apply below_drew1 | refine below_set ?_ GE101.out) | exact HB.out)) hb); clear BK101; clear HB; have HO105 := n0_; have BK101 := n1_; have HB := n2_; clear n0_ n1_ n2_; (try clear hb); (try clear hb2); (try clear hk); (try clear hi); (try clear ho0)) | ((with_reducible refine gate_dst (N := 4) rfl ?_); refine box_event ?hg (N := 4) ?hd (cs := #[.slice none 0 0, .string (⟨#[]⟩ : ByteArray)]) (t := 30) ?hr ?_; (case hd => rfl); (case hg => rfl); (case hr => first | (go_simp; done) | (go_simp; rfl)); intro gb108 hg w18 hbox hb; have n0_ := Aside0.mk (Kd.R_below (by (with_reducible repeat (first | apply Kd.R_alloc | apply Kd.R_drewN | apply Kd.R_drew)); exact HO105.out) hb); have n1_ := Aside0.mk (blk_below (g := gb101) (o := .cells #[.slice none 0 0, .string (⟨#[]⟩ : ByteArray)] 30 (0, 0)) (by (with_reducible repeat (first | refine blk_drewN ?_ _ | refine blk_drew ?_ | refine blk_alloc ?_ _)); exact BK101.out) hb); have n2_ := Aside0.mk (below_step (by repeat (first | (with_reducible first | exact HB.out | apply below_alloc | apply pw_below_drewN | apply below_drew1 | refine below_set ?_ GE101.out) | exact HB.out)) hb); have n3_ := Aside0.mk (hbox); have n4_ := Aside0.mk ((by rw [hg]; exact (below_size (by repeat (first | (with_reducible first | exact HB.out | apply below_alloc | apply pw_below_drewN | apply below_drew1 | refine below_set ?_ GE101.out) | exact HB.out))) : w.heap.size ≤ gb108)); have n5_ := Aside0.mk ((by rw [hg]; exact (below_size (by repeat (first | (with_reducible first | exact HB.out | apply below_alloc | apply pw_below_drewN | apply below_drew1 | refine below_set ?_ GE101.out) | exact HB.out))) : w.heap.size ≤ gb108)); have n6_ := Aside0.mk ((by rw [hg]; exact Nat.ne_of_lt (blk_lt (g := gb101) (o := .cells #[.slice none 0 0, .string (⟨#[]⟩ : ByteArray)] 30 (0, 0)) (by (with_reducible repeat (first | refine blk_drewN ?_ _ | refine blk_drew ?_ | refine blk_alloc ?_ _)); exact BK101.out)) : gb101 ≠ gb108)); have n7_ := Aside0.mk ((by rw [hg]; exact Nat.ne_of_gt (blk_lt (g := gb101) (o := .cells #[.slice none 0 0, .string (⟨#[]⟩ : ByteArray)] 30 (0, 0)) (by (with_reducible repeat (first | refine blk_drewN ?_ _ | refine blk_drew ?_ | refine blk_alloc ?_ _)); exact BK101.out)) : gb108 ≠ gb101)); clear HO105; clear BK101; clear HB; have HO105 := n0_; have BK101 := n1_; have HB := n2_; have BK108 := n3_; have GW108 := n4_; have GE108 := n5_; have NB101_108 := n6_; have NB108_101 := n7_; clear n0_ n1_ n2_ n3_ n4_ n5_ n6_ n7_; clear hb hbox hg; obtain ⟨Ao19, co19, eo19⟩ := Kd.R_slice HO105.out; subst eo19; have hnb20 := NB108_101.out; have hnc20 := NB101_108.out; have hcz21_0 : w18.cell? ⟨gb108, 0, none⟩ = some (.slice none 0 0) := (blk_cell BK108.out 0).trans rfl; have hcz21_1 : w18.cell? ⟨gb108, 1, none⟩ = some (.string (⟨#[]⟩ : ByteArray)) := (blk_cell BK108.out 1).trans rfl; have hfz21_0 := blk_frozen BK108.out 0; have hfz21_1 := blk_frozen BK108.out 1; have hcz22_0 : w18.cell? ⟨gb101, 0, none⟩ = some (.slice none 0 0) := (blk_cell BK101.out 0).trans rfl; have hcz22_1 : w18.cell? ⟨gb101, 1, none⟩ = some (.string (⟨#[]⟩ : ByteArray)) := (blk_cell BK101.out 1).trans rfl; have hfz22_0 := blk_frozen BK101.out 0; have hfz22_1 := blk_frozen BK101.out 1))
    refine bodyPost_ret (results_ct rfl _ _ gb101 30 #[.slice none 0 0, .string (⟨#[]⟩ : ByteArray)] (0, 0) _ rfl (by (with_reducible repeat (first | refine blk_drewN ?_ _ | refine blk_drew ?_ | refine blk_alloc ?_ _)); refine blk_put (cs := #[.slice none 0 0, .string (⟨#[]⟩ : ByteArray)]) ?_ 1 _ rfl; (with_reducible repeat (first | refine blk_drewN ?_ _ | refine blk_drew ?_ | refine blk_alloc ?_ _)); refine blk_put (cs := #[.slice none 0 0, .string (⟨#[]⟩ : ByteArray)]) ?_ 0 _ rfl; (with_reducible repeat (first | refine blk_drewN ?_ _ | refine blk_drew ?_ | refine blk_alloc ?_ _)); refine blk_far ?_ NB101_108.out _; (with_reducible repeat (first | refine blk_drewN ?_ _ | refine blk_drew ?_ | refine blk_alloc ?_ _)); refine blk_far ?_ NB101_108.out _; (with_reducible repeat (first | refine blk_drewN ?_ _ | refine blk_drew ?_ | refine blk_alloc ?_ _)); exact BK101.out) Tryd.underlying30 rfl (by kernel_rfl)) rfl ?_
    exact ⟨_, by first | rfl | (simp [errW_none, errW_some] <;> rfl) | (simp [*, errW_none, errW_some] <;> rfl), by first | exact Kd.R_nil _ _ _ _ _ | exact Kd.N_nil _ _ _ _ _ | exact Kd.V_nil _ _ _ _ _ | exact Kd.Q_nil _ _ _ _ _ | exact Kd.S_nil _ _ _ _ _, by repeat (first | (with_reducible first | exact HB.out | apply below_alloc | apply pw_below_drewN | apply below_drew1 | refine below_set ?_ GE101.out | refine below_set ?_ GE108.out) | exact HB.out)⟩
  ·replace c6 := Bool.eq_false_iff.mpr c6
   subst c6
   have H1 : (some (([] : List (S49)), (⟨#[]⟩ : ByteArray), 3)) = some (r1, r2, r3) := by rw [if_neg (show ¬ (false = true) by decide)] at H; exact H
   clear H
   have H := H1
   clear H1
   simp only [Option.some.injEq, Prod.mk.injEq] at H
   obtain ⟨rfl, rfl, rfl⟩ := H
   go_enter Tryd.func10, Tryd.ntmps10
   go_wp2_with (first | ((with_reducible refine gate_dst (N := 2) rfl ?_); refine box_event ?hg (N := 2) ?hd (cs := #[.slice none 0 0, .string (⟨#[]⟩ : ByteArray)]) (t := 30) ?hr ?_; (case hd => rfl); (case hg => rfl); (case hr => first | (go_simp; done) | (go_simp; rfl)); intro gb101 hg w23 hbox hb; have n0_ := Aside0.mk (below_step (by repeat (first | (with_reducible first | exact HB.out | apply below_alloc | apply pw_below_drewN | apply below_drew1) | exact HB.out)) hb); have n1_ := Aside0.mk (hbox); have n2_ := Aside0.mk ((by rw [hg]; exact (below_size (by repeat (first | (with_reducible first | exact HB.out | apply below_alloc | apply pw_below_drewN | apply below_drew1) | exact HB.out))) : w.heap.size ≤ gb101)); have n3_ := Aside0.mk ((by rw [hg]; exact (below_size (by repeat (first | (with_reducible first | exact HB.out | apply below_alloc | apply pw_below_drewN | apply below_drew1) | exact HB.out))) : w.heap.size ≤ gb101)); clear HB; have HB := n0_; have BK101 := n1_; have GW101 := n2_; have GE101 := n3_; clear n0_ n1_ n2_ n3_; clear hb hbox hg) | ((with_reducible refine gate_callee (f := 20) rfl ?_); refine goesL_ (some 11) rfl rfl Tryd.func20 (by kernel_rfl) rfl #[.string a0] rfl (by (try simp only [List.map_toArray, List.map_cons, List.map_nil]); first | done | rfl | (simp only [List.length_drop, List.length_take]; rfl)) ?_; (with_reducible refine (spec_MailOK.calls k a0 false _ A5.out).mono ?_); rintro e w' ⟨rfl, ⟨nd, rfl⟩⟩; refine ⟨_, rfl, ?_⟩; (try (rw [drewN_self w23]; generalize hq_ : World.drewN w23 _ = w23; have n0_ : Aside0 (w23.heap[gb101]? = some (.cells #[.slice none 0 0, .string (⟨#[]⟩ : ByteArray)] 30 (0, 0))) := ⟨by rw [← hq_]; exact (by (with_reducible repeat (first | refine blk_drewN ?_ _ | refine blk_drew ?_ | refine blk_alloc ?_ _)); exact BK101.out)⟩; have n1_ : Aside0 (Below w.heap.size w w23) := ⟨by rw [← hq_]; exact (by repeat (first | (with_reducible first | exact HB.out | apply below_alloc | apply pw_below_drewN | apply below_drew1 | refine below_set ?_ GE101.out) | exact HB.out))⟩; clear BK101 HB hq_; have BK101 := n0_; have HB := n1_; clear n0_ n1_)); have hcz24_0 : w23.cell? ⟨gb101, 0, none⟩ = some (.slice none 0 0) := (blk_cell BK101.out 0).trans rfl; have hcz24_1 : w23.cell? ⟨gb101, 1, none⟩ = some (.string (⟨#[]⟩ : ByteArray)) := (blk_cell BK101.out 1).trans rfl; have hfz24_0 := blk_frozen BK101.out 0; have hfz24_1 := blk_frozen BK101.out 1))
   refine bodyPost_ret (results_ct rfl _ _ gb101 30 #[.slice none 0 0, .string (⟨#[]⟩ : ByteArray)] (0, 0) _ rfl (by (with_reducible repeat (first | refine blk_drewN ?_ _ | refine blk_drew ?_ | refine blk_alloc ?_ _)); refine blk_put (cs := #[.slice none 0 0, .string (⟨#[]⟩ : ByteArray)]) ?_ 1 _ rfl; (with_reducible repeat (first | refine blk_drewN ?_ _ | refine blk_drew ?_ | refine blk_alloc ?_ _)); refine blk_put (cs := #[.slice none 0 0, .string (⟨#[]⟩ : ByteArray)]) ?_ 0 _ rfl; (with_reducible repeat (first | refine blk_drewN ?_ _ | refine blk_drew ?_ | refine blk_alloc ?_ _)); exact BK101.out) Tryd.underlying30 rfl (by kernel_rfl)) rfl ?_
   exact ⟨_, by first | rfl | (simp [errW_none, errW_some] <;> rfl) | (simp [*, errW_none, errW_some] <;> rfl), by first | exact Kd.R_nil _ _ _ _ _ | exact Kd.N_nil _ _ _ _ _ | exact Kd.V_nil _ _ _ _ _ | exact Kd.Q_nil _ _ _ _ _ | exact Kd.S_nil _ _ _ _ _, by repeat (first | (with_reducible first | exact HB.out | apply below_alloc | apply pw_below_drewN | apply below_drew1 | refine below_set ?_ GE101.out) | exact HB.out)⟩

end Go.Proofs.YtcpdbobkpbmjiaaDoor.P
/- Lemmas of mine: what both programs tell of a mail. Plain. -/
set_option linter.unusedVariables false
set_option linter.unusedSimpArgs false
namespace Go.Proofs.YtcpdbobkpbmjiaaDoor.P
open Go.RowKit Go.Proofs.YtcpdbobkpbmjiaaDoorW.PrintWords
theorem parseS_len : ∀ (n : Nat) (R : List UInt8) (acc F : List SF) (b : List UInt8), acc.length ≤ 40 → parseS n R acc = some (F, b) → F.length ≤ 40
 | 0, R, acc, F, b, _, h => by cases h
 | n + 1, R, acc, F, b, ha, h => by
  rw [parseS] at h
  split at h
  ·simp only [Option.some.injEq, Prod.mk.injEq] at h
   rw [← h.1]
   exact ha
  ·cases hf : fe R with
   | none => rw [hf] at h; cases h
   | some m =>
    rw [hf] at h
    simp only at h
    cases hu : unfR [] (R.take m) with
    | none => rw [hu] at h; cases h
    | some f =>
     rw [hu] at h
     simp only at h
     split at h
     ·cases h
     ·exact parseS_len n _ _ F b (by simp; omega) h
/-- What a right mail is: its fields, and what stands behind the empty line. -/
def mailOf (l : List UInt8) : Option (List SF × List UInt8) := if mailR l = true then parseS (l.length + 1) l [] else none
theorem mailOf_body {l : List UInt8} {F : List SF} {b : List UInt8} (h : mailOf l = some (F, b)) : mailR l = true ∧ F.length ≤ 40 ∧ ∃ e, hdE l = some e ∧ b = l.drop (e + 2) := by
 unfold mailOf at h
 split at h
 ·rename_i hm
  refine ⟨hm, parseS_len _ _ _ _ _ (by simp) h, ?_⟩
  rw [parse_same] at h
  cases hd : hdE l with
  | none => rw [hd] at h; cases h
  | some e =>
   rw [hd] at h
   simp only at h
   obtain ⟨F', _, hF⟩ := Option.map_eq_some_iff.1 h
   simp only [Prod.mk.injEq] at hF
   exact ⟨e, rfl, hF.2.symm⟩
 ·cases h
def outM (B : Option (List SF × List UInt8)) : List SF × ByteArray × Int := match B with
 | none => ([], ⟨#[]⟩, 3)
 | some (F, b) => (F, ⟨b.toArray⟩, 0)
theorem specPM_ev (s : ByteArray) : Ev (fun k => spec_ParseMail.f k s) (if s.size ≤ 65536 then outM (mailOf (bl s)) else ([], ⟨#[]⟩, 2)) := by
 by_cases h0 : s.size ≤ 65536
 ·rw [if_pos h0]
  obtain ⟨K, h⟩ := specMail_ev s
  obtain ⟨r, ⟨K2, h2⟩, ho⟩ := specParse_ev s (by omega)
  refine ⟨K + K2, fun k hk => ?_⟩
  have f := h k (by omega)
  have f2 := h2 k (by omega)
  simp only at f f2
  simp only [spec_ParseMail.f, f, bS, f2]
  rw [if_neg (by omega)]
  unfold mailOf
  by_cases hm : mailR (bl s) = true
  ·rw [if_pos hm, if_pos hm]
   cases hp : parseS ((bl s).length + 1) (bl s) [] with
   | none =>
    rw [hp] at ho
    have ho' : r.2.2 = false := ho
    rw [ho']
    rfl
   | some x =>
    obtain ⟨F, b⟩ := x
    rw [hp] at ho
    have ho' : r = (F, (⟨b.toArray⟩ : ByteArray), true) := ho
    rw [ho']
    rfl
  ·rw [if_neg hm, if_neg hm]
   rfl
 ·rw [if_neg h0]
  exact ⟨0, fun k _ => by simp only [spec_ParseMail.f]; rw [if_pos (by omega)]⟩
theorem implPM_ev (s : ByteArray) : Ev (fun k => impl_ParseMail.f k s) (if s.size ≤ 65536 then outM (mailOf (bl s)) else ([], ⟨#[]⟩, 2)) := by
 by_cases h0 : s.size ≤ 65536
 ·rw [if_pos h0]
  obtain ⟨r, ⟨K2, h2⟩, ho⟩ := implParse_ev s h0
  refine ⟨K2, fun k hk => ?_⟩
  have f2 := h2 k (by omega)
  simp only at f2
  simp only [impl_ParseMail.f, bS, f2]
  rw [if_neg (by omega)]
  unfold mailOf
  by_cases hm : mailR (bl s) = true
  ·rw [if_pos hm] at ho ⊢
   cases hp : parseS ((bl s).length + 1) (bl s) [] with
   | none =>
    rw [hp] at ho
    have ho' : r.2.2 = false := ho
    rw [ho']
    rfl
   | some x =>
    obtain ⟨F, b⟩ := x
    rw [hp] at ho
    have ho' : r = (F, (⟨b.toArray⟩ : ByteArray), true) := ho
    rw [ho']
    rfl
  ·rw [if_neg hm] at ho ⊢
   rw [ho]
   rfl
 ·rw [if_neg h0]
  exact ⟨0, fun k _ => by simp only [impl_ParseMail.f]; rw [if_pos (by omega)]⟩
theorem hdE_at (l : List UInt8) (e : Nat) (h : hdE l = some e) : (l.drop e).take 2 = [13, 10] := by
 unfold hdE at h
 split at h
 ·rename_i h0
  obtain rfl := Option.some.inj h
  rwa [List.drop_zero]
 ·obtain ⟨i, hi, rfl⟩ := Option.map_eq_some_iff.1 h
  have h4 := idx4_spec l i hi
  have := congrArg (List.drop 2) h4
  rw [List.drop_take, List.drop_drop] at this
  exact this
theorem mailS_tail : ∀ (n : Nat) (A B : List UInt8) (w : Nat), A.length ≤ n → mailS w (A ++ 13 :: 10 :: B) = true → mailS 0 B = true := by
 intro n
 induction n with
 | zero =>
  intro A B w hA h
  cases A with
  | nil => rw [List.nil_append, mailS, if_pos ⟨rfl, rfl⟩] at h; exact h
  | cons a b => simp at hA
 | succ n ih =>
  intro A B w hA h
  cases A with
  | nil => rw [List.nil_append, mailS, if_pos ⟨rfl, rfl⟩] at h; exact h
  | cons c A =>
   rw [List.cons_append, mailS] at h
   split at h
   ·rename_i hc
    cases A with
    | nil => simp at hc
    | cons a A => exact ih A B 0 (by simp at hA; omega) h
   ·rw [Bool.and_eq_true] at h
    exact ih A B (w + 1) (by simp at hA; omega) h.2
theorem body_ok (l : List UInt8) (e : Nat) (hm : mailR l = true) (h : hdE l = some e) : mailS 0 (l.drop (e + 2)) = true := by
 unfold mailR at hm
 rw [Bool.and_eq_true] at hm
 have h2 := hdE_at l e h
 have h3 := List.take_append_drop 2 (l.drop e)
 rw [h2, List.drop_drop] at h3
 have h4 := List.take_append_drop e l
 rw [← h3] at h4
 have h5 : l.take e ++ 13 :: 10 :: l.drop (e + 2) = l := h4
 refine mailS_tail _ (l.take e) _ 0 (Nat.le_refl _) ?_
 rw [h5]
 exact hm.2
end Go.Proofs.YtcpdbobkpbmjiaaDoor.P
/- The pure statement of the law FnExactMailPart: the two MailPart tell the same. No condition. -/
set_option linter.unusedVariables false
set_option linter.unusedSimpArgs false
namespace Go.Proofs.YtcpdbobkpbmjiaaDoor.P
open Go.RowKit Go.Proofs.YtcpdbobkpbmjiaaDoorW.PrintWords
def partOf (s p : ByteArray) : ByteArray × Int := match mailOf (bl s) with
 | none => (⟨#[]⟩, 3)
 | some (F, b) => if bl p = [72, 69, 65, 68, 69, 82] then (s.extract 0 (s.size - b.length), 0) else if bl p = [84, 69, 88, 84] then (⟨b.toArray⟩, 0) else (s, 0)
theorem implPart_ev (s p : ByteArray) (hs : s.size ≤ 65536) : Ev (fun k => impl_MailPart.j1 k s p) (partOf s p) := by
 have hsz := bl_size s
 obtain ⟨r, ⟨K, h⟩, ho⟩ := implParse_ev s hs
 refine ⟨K + 1, fun k hk => ?_⟩
 obtain ⟨j, rfl⟩ : ∃ j, k = j + 1 := ⟨k - 1, by omega⟩
 have f := h j (by omega)
 simp only at f
 simp only [impl_MailPart.j1, f, bS]
 unfold partOf
 have hbad : mailOf (bl s) = none → r.2.2 = false := fun hn => by
  unfold mailOf at hn
  split at hn
  ·rename_i hm
   rw [if_pos hm, hn] at ho
   exact ho
  ·rename_i hm
   rw [if_neg hm] at ho
   exact ho
 cases hmo : mailOf (bl s) with
 | none => rw [hbad hmo]; rfl
 | some x =>
  obtain ⟨F, b⟩ := x
  obtain ⟨hm, _, e, he, hb⟩ := mailOf_body hmo
  have hr : r.2.2 = true := by
   unfold mailOf at hmo
   rw [if_pos hm] at hmo ho
   rw [hmo] at ho
   have ho' : r = (F, (⟨b.toArray⟩ : ByteArray), true) := ho
   rw [ho']
  have hle := (hdE_le _ _ he).1
  have hh := headEnd_eq s (by omega)
  rw [he] at hh
  have hbl : b.length = s.size - (e + 2) := by rw [hb, List.length_drop, hsz]
  simp only [hr, if_true, impl_mailPart.f, hh, bS, w2l e (by omega), Int.toNat_natCast, toList_bl]
  by_cases c1 : bl p = [72, 69, 65, 68, 69, 82]
  ·rw [if_pos c1, if_pos c1, if_pos (by omega), if_pos (by omega), bS, hbl, show s.size - (s.size - (e + 2)) = e + 2 by omega]
  ·rw [if_neg c1, if_neg c1]
   by_cases c2 : bl p = [84, 69, 88, 84]
   ·rw [if_pos c2, if_pos c2, if_pos (by omega), if_pos (by omega), bS, ext_mk, hb]
   ·rw [if_neg c2, if_neg c2, bS]
theorem specPart_ev (s p : ByteArray) (hs : s.size ≤ 65536) (hp : bl p = [] ∨ bl p = [72, 69, 65, 68, 69, 82] ∨ bl p = [84, 69, 88, 84]) : Ev (fun k => spec_MailPart.j1 k s p false) (partOf s p) := by
 have hsz := bl_size s
 obtain ⟨K0, h0⟩ := specMail_ev s
 obtain ⟨r, ⟨K, h⟩, ho⟩ := specParse_ev s (by omega)
 refine ⟨K + K0 + 1, fun k hk => ?_⟩
 obtain ⟨j, rfl⟩ : ∃ j, k = j + 1 := ⟨k - 1, by omega⟩
 have f0 := h0 j (by omega)
 have f := h j (by omega)
 simp only at f0 f
 simp only [spec_MailPart.j1, spec_l07Part.f, spec_l07Whole.f, f, f0, bS]
 rw [if_neg (by decide)]
 unfold partOf
 cases hmo : mailOf (bl s) with
 | none =>
  unfold mailOf at hmo
  split at hmo
  ·rename_i hm
   rw [hmo] at ho
   have ho' : r.2.2 = false := ho
   rw [ho']
   rfl
  ·rename_i hm
   rw [Bool.not_eq_true] at hm
   rw [hm]
   cases r.2.2 <;> rfl
 | some x =>
  obtain ⟨F, b⟩ := x
  obtain ⟨hm, _, e, he, hb⟩ := mailOf_body hmo
  unfold mailOf at hmo
  rw [if_pos hm] at hmo
  rw [hmo] at ho
  have ho' : r = (F, (⟨b.toArray⟩ : ByteArray), true) := ho
  have hle := (hdE_le _ _ he).1
  have hbl : b.length = s.size - (e + 2) := by rw [hb, List.length_drop, hsz]
  have hbs : (⟨b.toArray⟩ : ByteArray).size = b.length := by rw [bl_size, bl_mk]
  have w : wrap64 ((s.size : Int) - (((⟨b.toArray⟩ : ByteArray).size : Nat) : Int)) = ((s.size - b.length : Nat) : Int) := by rw [hbs]; exact w64sub s.size b.length (by omega) (by omega)
  rw [ho', hm]
  simp only [if_true, bS, w, Int.toNat_natCast, toList_bl]
  by_cases c1 : bl p = [72, 69, 65, 68, 69, 82]
  ·rw [if_neg (by rw [c1]; decide), if_pos c1, if_pos c1, if_pos (by omega), if_pos (by omega), bS]
   rfl
  ·rw [if_neg c1, if_neg c1]
   by_cases c2 : bl p = [84, 69, 88, 84]
   ·rw [if_neg (by rw [c2]; decide), if_pos c2, if_pos c2, bS]
    rfl
   ·have c0 : bl p = [] := hp.resolve_right (fun h => h.elim c1 c2)
    rw [if_pos c0, if_neg c2, bS]
    rfl
end Go.Proofs.YtcpdbobkpbmjiaaDoor.P
namespace Go.Proofs.YtcpdbobkpbmjiaaDoor.Pure
open Go.RowKit Go.Proofs.YtcpdbobkpbmjiaaDoor.P Go.Proofs.YtcpdbobkpbmjiaaDoorW.PrintWords
theorem FnExactMailPart : laws_FnExactMailPart.Pure := by
 intro s p hs hp
 refine Ev.k (?_ : Ev (fun k => laws_FnExactMailPart.f k s p) true)
 by_cases g1 : (s.size : Int) > 1048576
 ·exact ⟨0, fun k _ => by simp only [laws_FnExactMailPart.f]; rw [if_pos g1]⟩
 by_cases g2 : (p.size : Int) > 1048576
 ·exact ⟨0, fun k _ => by simp only [laws_FnExactMailPart.f]; rw [if_neg g1, if_pos g2]⟩
 have both : ∃ r, Ev (fun k => spec_MailPart.f k s p) r ∧ Ev (fun k => impl_MailPart.f k s p) r := by
  by_cases h0 : s.size ≤ 65536 ∧ p.size ≤ 65536
  ·have es : ∀ k, spec_MailPart.f k s p = spec_MailPart.j0 k s p false := fun k => by
    simp only [spec_MailPart.f]
    rw [if_neg (by omega), decide_eq_false (by omega)]
   have ei : ∀ k, impl_MailPart.f k s p = impl_MailPart.j0 k s p false := fun k => by
    simp only [impl_MailPart.f]
    rw [if_neg (by omega), decide_eq_false (by omega)]
   by_cases hq : bl p = [] ∨ bl p = [72, 69, 65, 68, 69, 82] ∨ bl p = [84, 69, 88, 84]
   ·refine ⟨partOf s p, Ev.congr es (Ev.step (fun k => ?_) (specPart_ev s p h0.1 hq)), Ev.congr ei (Ev.step (fun k => ?_) (implPart_ev s p h0.1))⟩
    ·simp only [spec_MailPart.j0, toList_bl]
     rw [if_neg (by decide)]
     rcases hq with h | h | h
     ·rw [if_pos h]
     ·rw [if_neg (by rw [h]; decide), if_pos h]
     ·rw [if_neg (by rw [h]; decide), if_neg (by rw [h]; decide), h]
      rfl
    ·simp only [impl_MailPart.j0, toList_bl]
     rw [if_neg (by decide)]
     rcases hq with h | h | h
     ·rw [if_pos h]
     ·rw [if_neg (by rw [h]; decide), if_pos h]
     ·rw [if_neg (by rw [h]; decide), if_neg (by rw [h]; decide), if_pos h]
   ·have q1 : ¬ bl p = [] := fun h => hq (.inl h)
    have q2 : ¬ bl p = [72, 69, 65, 68, 69, 82] := fun h => hq (.inr (.inl h))
    have q3 : ¬ bl p = [84, 69, 88, 84] := fun h => hq (.inr (.inr h))
    refine ⟨(⟨#[]⟩, 1), ⟨2, fun k hk => ?_⟩, ⟨2, fun k hk => ?_⟩⟩
    ·obtain ⟨j, rfl⟩ : ∃ j, k = j + 1 + 1 := ⟨k - 2, by omega⟩
     show spec_MailPart.f (j + 1 + 1) s p = _
     rw [es]
     simp only [spec_MailPart.j0, toList_bl]
     rw [if_neg (by decide), if_neg q1, if_neg q2, bne_iff_ne.2 q3]
     simp only [spec_MailPart.j1]
     rfl
    ·obtain ⟨j, rfl⟩ : ∃ j, k = j + 1 := ⟨k - 1, by omega⟩
     show impl_MailPart.f (j + 1) s p = _
     rw [ei]
     simp only [impl_MailPart.j0, toList_bl]
     rw [if_neg (by decide), if_neg q1, if_neg q2, if_neg q3]
  ·refine ⟨(⟨#[]⟩, 2), ⟨1, fun k hk => ?_⟩, ⟨1, fun k hk => ?_⟩⟩
   ·obtain ⟨j, rfl⟩ : ∃ j, k = j + 1 := ⟨k - 1, by omega⟩
    simp only [spec_MailPart.f, spec_MailPart.j0]
    by_cases h1 : (s.size : Int) > 65536
    ·rw [if_pos h1]; rfl
    ·rw [if_neg h1, decide_eq_true (by omega)]; rfl
   ·obtain ⟨j, rfl⟩ : ∃ j, k = j + 1 := ⟨k - 1, by omega⟩
    simp only [impl_MailPart.f, impl_MailPart.j0]
    by_cases h1 : (s.size : Int) > 65536
    ·rw [if_pos h1]; rfl
    ·rw [if_neg h1, decide_eq_true (by omega)]; rfl
 obtain ⟨r, ⟨K1, h1⟩, ⟨K2, h2⟩⟩ := both
 refine ⟨K1 + K2, fun k hk => ?_⟩
 have f1 := h1 k (by omega)
 have f2 := h2 k (by omega)
 simp only at f1 f2
 simp only [laws_FnExactMailPart.f, f1, f2, bS, if_true]
 rw [if_neg g1, if_neg g2]
end Go.Proofs.YtcpdbobkpbmjiaaDoor.Pure
