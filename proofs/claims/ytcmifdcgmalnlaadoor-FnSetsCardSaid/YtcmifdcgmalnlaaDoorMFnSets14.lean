/- Part 14 of what the law FnSets stands on; the last part ends with the law's row. No condition of mine. -/
import Derived.Test.YtcmifdcgmalnlaaDoorMFnSets11
import Derived.Test.YtcmifdcgmalnlaaDoorMFnSets12
import Derived.Test.YtcmifdcgmalnlaaDoorMFnSets13
import Derived.Test.YtcmifdcgmalnlaaDoorMFnSets7
import Derived.Test.YtcmifdcgmalnlaaDoorMFnSets2
/- Lemmas of mine: the drawn commands are lines without an end in them. Plain. -/
set_option linter.unusedVariables false
set_option linter.unusedSimpArgs false
namespace Go.Proofs.YtcmifdcgmalnlaaDoor.P
open Go.RowKit Go.Proofs.YtcmifdcgmalnlaaDoorW.PrintWords
/-- A text of at most n bytes, none of which ends a line or opens a length. -/
def LO (n : Nat) (s : ByteArray) : Prop := s.size ≤ n ∧ ∀ b ∈ bl s, b ≠ 13 ∧ b ≠ 123
def loB (n : Nat) (s : ByteArray) : Bool := decide (s.size ≤ n) && (bl s).all fun b => decide (b ≠ 13 ∧ b ≠ 123)
theorem lo_dec {n : Nat} {s : ByteArray} (h : loB n s = true) : LO n s := by
 unfold loB at h
 rw [Bool.and_eq_true, decide_eq_true_eq, List.all_eq_true] at h
 exact ⟨h.1, fun b hb => of_decide_eq_true (h.2 b hb)⟩
theorem lo_app {n m : Nat} {a b : ByteArray} (ha : LO n a) (hb : LO m b) : LO (n + m) (a ++ b) := by
 refine ⟨?_, fun x hx => ?_⟩
 ·have h1 := ha.1; have h2 := hb.1
  rw [bl_size] at h1 h2 ⊢
  rw [bl_append, List.length_append]; omega
 ·rw [bl_append] at hx
  rcases List.mem_append.1 hx with h | h
  ·exact ha.2 x h
  ·exact hb.2 x h
theorem lo_le {n m : Nat} {a : ByteArray} (ha : LO n a) (h : n ≤ m) : LO m a := ⟨Nat.le_trans ha.1 h, ha.2⟩
theorem app_size (a b : ByteArray) : (a ++ b).size = a.size + b.size := by rw [bl_size, bl_append, List.length_append, ← bl_size, ← bl_size]
theorem setText_ok {l : List Int} {a s B : Int} (h : Src l a s B) (hB : B ≤ 4611686018427387900) : ∃ r a' s', spec_l00Src_setText.f l a s = some (r, a', s') ∧ Src l a' s' (B + 3) ∧ LO 10 r ∧ Good r := by
 unfold spec_l00Src_setText.f
 obtain ⟨r, a', s', e, h', hm⟩ := pick_ok _ h hB
 rw [e]
 refine ⟨r, a', s', rfl, h', ?_⟩
 rcases hm with hm | ⟨hm, _⟩
 ·have hP : ∀ x ∈ ([(⟨#[49]⟩ : ByteArray), (⟨#[49, 58, 51]⟩ : ByteArray), (⟨#[42]⟩ : ByteArray), (⟨#[50, 58, 42]⟩ : ByteArray), (⟨#[49, 44, 51, 44, 53, 58, 52]⟩ : ByteArray), (⟨#[42, 58, 49]⟩ : ByteArray), (⟨#[52, 50, 57, 52, 57, 54, 55, 50, 57, 53]⟩ : ByteArray), (⟨#[49, 58, 50, 44, 52]⟩ : ByteArray), (⟨#[55]⟩ : ByteArray)] : List ByteArray), LO 10 x ∧ Good x := by
   intro x hx
   simp only [List.mem_cons, List.not_mem_nil, or_false] at hx
   rcases hx with rfl | rfl | rfl | rfl | rfl | rfl | rfl | rfl | rfl
   ·exact ⟨lo_dec (by decide), g0⟩
   ·exact ⟨lo_dec (by decide), g1⟩
   ·exact ⟨lo_dec (by decide), g2⟩
   ·exact ⟨lo_dec (by decide), g3⟩
   ·exact ⟨lo_dec (by decide), g4⟩
   ·exact ⟨lo_dec (by decide), g5⟩
   ·exact ⟨lo_dec (by decide), g6⟩
   ·exact ⟨lo_dec (by decide), g7⟩
   ·exact ⟨lo_dec (by decide), g8⟩
  exact hP r hm
 ·cases hm
theorem lo_lit {n m k : Nat} {a b c : ByteArray} (ha : LO n a) (hb : LO m b) (hc : LO k c) (h : n + m + k ≤ 110) : LO 110 ((a ++ b) ++ c) := lo_le (lo_app (lo_app ha hb) hc) h
theorem cmd_ok {l : List Int} {a s B : Int} (h : Src l a s B) (hB : B ≤ 4611686018427387000) : ∃ r a' s', Ev (fun k => spec_l00Src_imapCommand.f k l a s) (r, a', s') ∧ Src l a' s' (B + 20) ∧ LO 200 r := by
 obtain ⟨r1, a1, s1, e1, h1, m1⟩ := pick_ok (([(⟨#[97]⟩ : ByteArray), (⟨#[98, 49]⟩ : ByteArray), (⟨#[120]⟩ : ByteArray)] : List ByteArray)) h (by omega)
 have l1 : LO 2 r1 := by
  rcases m1 with m1 | ⟨m1, _⟩
  ·simp only [List.mem_cons, List.not_mem_nil, or_false] at m1
   rcases m1 with rfl | rfl | rfl
   ·exact lo_dec (by decide)
   ·exact lo_dec (by decide)
   ·exact lo_dec (by decide)
  ·cases m1
 obtain ⟨r2, a2, s2, e2, h2, b2, c2⟩ := next_ok 9 h1 (by omega)
 have c2 := c2 (by decide)
 obtain ⟨d, hd⟩ : ∃ d : Nat, r2 = (d : Int) := ⟨r2.toNat, (Int.toNat_of_nonneg b2).symm⟩
 subst hd
 have hdig := digits_ev d (by omega)
 have ldig : LO 1 (mkT (Lib.decDigits d)) := by
  rw [dd1 d (by omega)]
  have : d = 0 ∨ d = 1 ∨ d = 2 ∨ d = 3 ∨ d = 4 ∨ d = 5 ∨ d = 6 ∨ d = 7 ∨ d = 8 := by omega
  rcases this with rfl | rfl | rfl | rfl | rfl | rfl | rfl | rfl | rfl <;> exact lo_dec (by decide)
 generalize mkT (Lib.decDigits d) = t at hdig ldig
 obtain ⟨r3, a3, s3, e3, h3, l3, _⟩ := setText_ok h2 (by omega)
 obtain ⟨r4, a4, s4, e4, h4, l4, _⟩ := setText_ok h3 (by omega)
 obtain ⟨r5, a5, s5, e5, h5, l5, _⟩ := setText_ok h4 (by omega)
 have z1 : r1.size ≤ 2 := l1.1
 have zt : t.size ≤ 1 := ldig.1
 have z3 : r3.size ≤ 10 := l3.1
 have z4 : r4.size ≤ 10 := l4.1
 have z5 : r5.size ≤ 10 := l5.1
 have k1 : (⟨#[102, 101, 116, 99, 104, 32]⟩ : ByteArray).size = 6 := rfl
 have k2 : (⟨#[117, 105, 100, 32, 102, 101, 116, 99, 104, 32]⟩ : ByteArray).size = 10 := rfl
 have k3 : (⟨#[115, 116, 111, 114, 101, 32]⟩ : ByteArray).size = 6 := rfl
 have k4 : (⟨#[32]⟩ : ByteArray).size = 1 := rfl
 have key : ∀ (xs : List ByteArray) (F : ByteArray × Int × Int → Option (ByteArray × Int × Int)), (∀ x ∈ xs, LO 110 x) → (∀ r a' s', LO 110 r → F (r, a', s') = some (((r1 ++ t) ++ (⟨#[32]⟩ : ByteArray)) ++ r, a', s')) →
   ∃ out, (spec_l00Src_pick.f l a5 s5 xs).bind F = some out ∧ Src l out.2.1 out.2.2 (B + 20) ∧ LO 200 out.1 := by
  intro xs F hx hF
  obtain ⟨r, a', s', e, h', hm⟩ := pick_ok xs h5 (by omega)
  have lr : LO 110 r := by
   rcases hm with hm | ⟨_, hm⟩
   ·exact hx r hm
   ·rw [hm]; exact lo_dec (by decide)
  refine ⟨(((r1 ++ t) ++ (⟨#[32]⟩ : ByteArray)) ++ r, a', s'), ?_, h'.grow (by omega), lo_le (lo_app (lo_app (lo_app l1 ldig) (lo_dec (n := 1) (s := (⟨#[32]⟩ : ByteArray)) (by decide))) lr) (by decide)⟩
  rw [e, bS, hF r a' s' lr]
 obtain ⟨K, hK⟩ := hdig
 have main : ∃ out, spec_l00Src_imapCommand.f K l a s = some out ∧ Src l out.2.1 out.2.2 (B + 20) ∧ LO 200 out.1 := by
  have hd := hK K (Nat.le_refl _)
  simp only at hd
  simp only [spec_l00Src_imapCommand.f, e1, e2, bS, hd, e3, e4, e5]
  rw [if_pos (by omega), if_pos (by rw [app_size]; omega), if_pos (by omega), if_pos (by rw [app_size, k1]; omega), if_pos (by omega), if_pos (by rw [app_size, k2]; omega), if_pos (by omega), if_pos (by rw [app_size, k3]; omega)]
  refine key _ _ ?_ ?_
  ·repeat' (refine List.forall_mem_cons.2 ⟨?_, ?_⟩)
   all_goals first
    | exact lo_dec (by decide)
    | exact lo_lit (lo_dec (n := 50) (by decide)) l3 (lo_dec (n := 50) (by decide)) (by decide)
    | exact lo_lit (lo_dec (n := 50) (by decide)) l4 (lo_dec (n := 50) (by decide)) (by decide)
    | exact lo_lit (lo_dec (n := 50) (by decide)) l5 (lo_dec (n := 50) (by decide)) (by decide)
    | exact fun x hx => absurd hx (List.not_mem_nil)
  ·intro r a' s' lr
   have := lr.1
   show (if ((r1 ++ t) ++ (⟨#[32]⟩ : ByteArray)).size + r.size ≤ _ then some (((r1 ++ t) ++ (⟨#[32]⟩ : ByteArray)) ++ r, a', s') else none) = _
   rw [if_pos (by rw [app_size, app_size, k4]; omega)]
 obtain ⟨⟨r, a', s'⟩, ho, hS, hL⟩ := main
 refine ⟨r, a', s', ⟨K, fun k hk => ?_⟩, hS, hL⟩
 rw [← ho]
 have hd := hK K (Nat.le_refl _)
 have hd2 := hK k hk
 simp only at hd hd2
 simp only [spec_l00Src_imapCommand.f, e1, e2, bS, hd, hd2]
theorem lines_l0 {l : List Int} : ∀ (d : Nat) (xs : List ByteArray) (a s B : Int), Src l a s B → B + 20 * (d : Int) ≤ 4611686018427386000 → xs.length + d ≤ 100 → (∀ x ∈ xs, LO 200 x) →
  ∃ ys a' s', Ev (fun k => spec_l00Src_imapLines.l0 k xs (d : Int) l a s) (ys, a', s') ∧ (∀ y ∈ ys, LO 200 y) ∧ ys.length ≤ xs.length + d
 | 0, xs, a, s, B, h, hB, hl, hx => ⟨xs, a, s, Ev.step (f := fun _ => some (xs, a, s)) (fun k => by simp only [spec_l00Src_imapLines.l0]; rw [if_neg (by omega)]) (Ev.now _), hx, Nat.le_refl _⟩
 | d + 1, xs, a, s, B, h, hB, hl, hx => by
  obtain ⟨r, a1, s1, e1, h1, l1⟩ := cmd_ok h (by omega)
  obtain ⟨ys, a2, s2, e2, h2, l2⟩ := lines_l0 d (xs ++ [r]) a1 s1 (B + 20) h1 (by omega) (by rw [List.length_append]; simp only [List.length_cons, List.length_nil]; omega) (fun x hx' => by
   rcases List.mem_append.1 hx' with h | h
   ·exact hx x h
   ·rw [List.mem_singleton.1 h]; exact l1)
  refine ⟨ys, a2, s2, Ev.step (fun k => ?_) (Ev.bind (f := fun k bt => if xs.length < 8796093022208 then (spec_l00Src_imapLines.l0 k (xs ++ [bt.1]) (wrap64 ((((d + 1 : Nat)) : Int) - 1)) l bt.2.1 bt.2.2) else none) e1 (Ev.congr (fun k => ?_) e2)), h2, ?_⟩
  ·simp only [spec_l00Src_imapLines.l0]
   rw [if_pos (by omega)]
  ·have e3 : wrap64 ((((d + 1 : Nat)) : Int) - 1) = (d : Int) := by rw [w64 (by omega) (by omega)]; omega
   simp only [e3]
   rw [if_pos (by omega)]
  ·rw [List.length_append] at l2
   simp only [List.length_cons, List.length_nil] at l2
   omega
theorem imapLines_ok (l : List Int) (hl : l.length ≤ 1048576) (hw : ∀ y ∈ l, 0 ≤ y ∧ y ≤ 255) : ∃ ys, Ev (fun k => spec_ImapLinesOf.f k l) ys ∧ (∀ y ∈ ys, LO 200 y) ∧ ys.length ≤ 20 := by
 obtain ⟨s0, e0, h0⟩ := source_ok l hw
 obtain ⟨z, hz, hz1⟩ : ∃ z : Int, mn (wrap64 (1 + (wrap64 ((l.length : Int) / 12)))) 14 = z ∧ 1 ≤ z ∧ z ≤ 14 := by
  refine ⟨_, rfl, ?_⟩
  rw [w64 (n := (l.length : Int) / 12) (by omega) (by omega), w64 (by omega) (by omega)]
  unfold mn
  split <;> omega
 obtain ⟨r, a1, s1, e1, h1, b1, c1⟩ := next_ok (z + 3) h0 (by omega)
 have c1 := c1 (by omega)
 obtain ⟨d, hd⟩ : ∃ d : Nat, r = (d : Int) := ⟨r.toNat, (Int.toNat_of_nonneg b1).symm⟩
 subst hd
 obtain ⟨ys, a2, s2, e2, h2, l2⟩ := lines_l0 d (([(⟨#[97, 48, 32, 108, 111, 103, 105, 110, 32, 117, 115, 101, 114, 32, 102, 101, 101, 100]⟩ : ByteArray), (⟨#[97, 49, 32, 115, 101, 108, 101, 99, 116, 32, 110, 101, 119, 115]⟩ : ByteArray)] : List ByteArray)) a1 s1 _ h1 (by omega) (by simp only [List.length_cons, List.length_nil]; omega) (fun x hx => by
  simp only [List.mem_cons, List.not_mem_nil, or_false] at hx
  rcases hx with rfl | rfl
  ·exact lo_dec (by decide)
  ·exact lo_dec (by decide))
 refine ⟨ys, ?_, h2, by simp only [List.length_cons, List.length_nil] at l2; omega⟩
 obtain ⟨K, hK⟩ := e2
 refine ⟨K, fun k hk => ?_⟩
 have e2 := hK k hk
 simp only at e2
 have ez : wrap64 (z + 3) = z + 3 := w64 (by omega) (by omega)
 simp only [spec_ImapLinesOf.f, e0, bS, spec_l00Src_imapLines.f, spec_l00Src_size.f, hz, ez, e1, e2]
end Go.Proofs.YtcmifdcgmalnlaaDoor.P
/- Lemmas of mine: a choice out of a row's bytes always lies within its bound. Plain. -/
set_option linter.unusedVariables false
set_option linter.unusedSimpArgs false
namespace Go.Proofs.YtcmifdcgmalnlaaDoor.P
open Go.RowKit Go.Proofs.YtcmifdcgmalnlaaDoorW.PrintWords
theorem wfByteA {x : Int} (h : (Lit.int .u8 x).wf = true) : 0 ≤ x ∧ x ≤ 255 := by
 have h2 : IntKind.u8.min ≤ x ∧ x ≤ IntKind.u8.max := by simpa [Lit.wf] using h
 have e1 : IntKind.u8.min = 0 := by decide +kernel
 have e2 : IntKind.u8.max = 255 := by decide +kernel
 rw [e1, e2] at h2
 exact h2
theorem at_ok (l : List Int) (hw : ∀ y ∈ l, 0 ≤ y ∧ y ≤ 255) (hl : l.length ≤ 1048576) (i m : Nat) (hi : i ≤ 1000000000000) (hm : 2 ≤ m) (hm2 : m ≤ 1000) : ∃ n : Nat, laws_at.f l (i : Int) (m : Int) = some (n : Int) ∧ n < m := by
 simp only [laws_at.f]
 rw [if_neg (by omega)]
 have hfin : ∀ x : Int, 0 ≤ x → ∃ n : Nat, (if (m : Int) = 0 then none else some (Int.tmod x (m : Int))) = some (n : Int) ∧ n < m := by
  intro x hx
  have h1 := Int.emod_nonneg x (show (m : Int) ≠ 0 by omega)
  have h2 := Int.emod_lt_of_pos x (show (0 : Int) < (m : Int) by omega)
  refine ⟨(x % (m : Int)).toNat, ?_, ?_⟩
  ·rw [if_neg (by omega), Int.tmod_eq_emod_of_nonneg hx, Int.toNat_of_nonneg (by omega)]
  ·omega
 by_cases h0 : (l.length : Int) = 0
 ·rw [if_pos h0, w64 (n := (i : Int) * 7) (by omega) (by omega)]
  exact hfin _ (by omega)
 ·rw [if_neg h0]
  have hpos : 0 < l.length := by omega
  obtain ⟨p, hp, hp1⟩ : ∃ p : Nat, Int.tmod (i : Int) (l.length : Int) = (p : Int) ∧ p < l.length := by
   refine ⟨i % l.length, ?_, Nat.mod_lt _ hpos⟩
   rw [Int.tmod_eq_emod_of_nonneg (by omega)]
   rfl
  obtain ⟨q, hq, hq1⟩ : ∃ q : Nat, Int.tmod (((i + 1 : Nat)) : Int) (l.length : Int) = (q : Int) ∧ q < l.length := by
   refine ⟨(i + 1) % l.length, ?_, Nat.mod_lt _ hpos⟩
   rw [Int.tmod_eq_emod_of_nonneg (by omega)]
   rfl
  obtain ⟨d, hd, hd1⟩ : ∃ d : Nat, Int.tdiv (i : Int) (l.length : Int) = (d : Int) ∧ d ≤ i := by
   refine ⟨i / l.length, ?_, Nat.div_le_self _ _⟩
   rw [Int.tdiv_eq_ediv_of_nonneg (by omega)]
   rfl
  rw [w64s i (by omega), hp, hq, hd, w64n d (by omega), if_pos (by omega), if_pos (by omega), if_pos (by omega), if_pos (by omega)]
  have hr : ∀ i : Nat, i < l.length → 0 ≤ rd l (i : Int) ∧ rd l (i : Int) ≤ 255 := fun i hi => by
   unfold rd
   rw [Int.toNat_natCast, List.getD_eq_getElem?_getD, List.getElem?_eq_getElem hi]
   exact hw _ (List.getElem_mem hi)
  have h1 := hr p hp1
  have h2 := hr q hq1
  generalize rd l (p : Int) = a at h1
  generalize rd l (q : Int) = b at h2
  have e1 : wrap64 a = a := w64 (by omega) (by omega)
  have e2 : wrap64 b = b := w64 (by omega) (by omega)
  rw [e1, e2]
  clear e1 e2 hr
  have e3 : wrap64 (a * 31) = a * 31 := w64 (by omega) (by omega)
  rw [e3]
  clear e3
  have e4 : wrap64 (a * 31 + b) = a * 31 + b := w64 (by omega) (by omega)
  rw [e4]
  clear e4
  have e5 : wrap64 (a * 31 + b + (d : Int)) = a * 31 + b + (d : Int) := w64 (by omega) (by omega)
  rw [e5]
  clear e5
  exact hfin _ (by omega)
end Go.Proofs.YtcmifdcgmalnlaaDoor.P
/- The pure statement of the law FnSets: a drawn set is read back from its text, and has a number just if a range of it does. No condition. -/
set_option linter.unusedVariables false
set_option linter.unusedSimpArgs false
namespace Go.Proofs.YtcmifdcgmalnlaaDoor.P
open Go.RowKit Go.Proofs.YtcmifdcgmalnlaaDoorW.PrintWords
theorem sameR_self (ys : List S54) (h : ys.length ≤ 4611686018427387904) : Ev (fun k => laws_sameRanges.f k ys ys) true := by
 have hl : ∀ (d i : Nat), i + d = ys.length → Ev (fun k => laws_sameRanges.l0 k ys ys (i : Int)) true := by
  intro d
  induction d with
  | zero =>
   intro i hi
   exact Ev.step (f := fun _ => some _) (fun k => by simp only [laws_sameRanges.l0]; rw [if_neg (by omega)]) (Ev.now _)
  | succ d ih =>
   intro i hi
   refine Ev.step (fun k => ?_) (ih (i + 1) (by omega))
   simp only [laws_sameRanges.l0]
   rw [if_pos (by omega), if_pos (by omega), if_pos (by omega), w64s i (by omega)]
   simp
 refine Ev.congr (fun k => ?_) (hl ys.length 0 (by omega))
 simp only [laws_sameRanges.f]
 rw [if_pos trivial]
 rfl
theorem due_step (g : Bool → Option Bool) (A B n : Int) : (if A ≤ n then (if n ≤ B then g true else (if B ≤ n then g (decide (n ≤ A)) else g false)) else (if B ≤ n then g (decide (n ≤ A)) else g false)) = g (decide (mn A B ≤ n ∧ n ≤ mx A B)) := by
 have hm : (mn A B ≤ n ∧ n ≤ mx A B) ↔ ((A ≤ n ∧ n ≤ B) ∨ (B ≤ n ∧ n ≤ A)) := by
  unfold mn mx
  split <;> split <;> omega
 split
 ·split
  ·exact congrArg g (decide_eq_true (hm.2 (by omega))).symm
  ·split
   ·exact congrArg g (decide_eq_decide.2 (by rw [hm]; omega))
   ·exact congrArg g (decide_eq_false (by rw [hm]; omega)).symm
 ·split
  ·exact congrArg g (decide_eq_decide.2 (by rw [hm]; omega))
  ·exact congrArg g (decide_eq_false (by rw [hm]; omega)).symm
theorem due_one (g : Bool → Option Bool) (A n : Int) : (if A ≤ n then (if n ≤ A then g true else g (decide (n ≤ A))) else g false) = g (decide (mn A A ≤ n ∧ n ≤ mx A A)) := by
 rw [← due_step g A A n]
 by_cases h : A ≤ n
 ·rw [if_pos h, if_pos h]
  split
  ·rfl
  ·rfl
 ·rw [if_neg h, if_neg h, if_neg h]
/-- What the law says is due. -/
theorem due_l0 (l : List S54) (n top : Int) (hl : l.length ≤ 4611686018427387904) (c : Bool) : ∀ (d i : Nat) (due : Bool), i + d = l.length → c = (due || (l.drop i).any (hasR n top)) → Ev (fun k => laws_FnSets.l0 k l n top c 0 due (i : Int)) true := by
 intro d
 induction d with
 | zero =>
  intro i due hi hc
  rw [List.drop_eq_nil_of_le (by omega), List.any_nil, Bool.or_false] at hc
  refine Ev.step (f := fun _ => some true) (fun k => ?_) (Ev.now _)
  simp only [laws_FnSets.l0]
  rw [if_neg (by omega), hc]
  simp
 | succ d ih =>
  intro i due hi hc
  have hlt : i < l.length := by omega
  have hr := rdR_nat l i hlt
  rw [List.drop_eq_getElem_cons hlt, List.any_cons, ← Bool.or_assoc] at hc
  have hn := ih (i + 1) (due || hasR n top (l[i]'hlt)) (by omega) hc
  refine Ev.step (fun k => ?_) hn
  simp only [laws_FnSets.l0, hr]
  rw [if_pos (by omega), if_pos (by omega), w64s i (by omega)]
  generalize l[i]'hlt = x
  cases due with
  | true =>
   simp only [if_true, Bool.true_or]
   split <;> split <;> rfl
  | false =>
   rw [Bool.false_or]
   unfold hasR
   have hf : ∀ (α : Type) (p q : α), (if false = true then p else q) = q := fun α p q => if_neg (by decide)
   by_cases ha : x.f0 = 0
   ·have ea : endV x.f0 top = top := if_pos ha
    by_cases hb : x.f1 = 0
    ·have eb : endV x.f1 top = top := if_pos hb
     rw [if_pos ha, if_pos hb, hf, ea, eb]
     exact due_one (fun d => laws_FnSets.l0 k l n top c 0 d _) top n
    ·have eb : endV x.f1 top = x.f1 := if_neg hb
     rw [if_pos ha, if_neg hb, hf, ea, eb]
     exact due_step (fun d => laws_FnSets.l0 k l n top c 0 d _) top x.f1 n
   ·have ea : endV x.f0 top = x.f0 := if_neg ha
    by_cases hb : x.f1 = 0
    ·have eb : endV x.f1 top = top := if_pos hb
     rw [if_neg ha, if_pos hb, hf, ea, eb]
     exact due_step (fun d => laws_FnSets.l0 k l n top c 0 d _) x.f0 top n
    ·have eb : endV x.f1 top = x.f1 := if_neg hb
     rw [if_neg ha, if_neg hb, hf, ea, eb]
     exact due_step (fun d => laws_FnSets.l0 k l n top c 0 d _) x.f0 x.f1 n
end Go.Proofs.YtcmifdcgmalnlaaDoor.P
namespace Go.Proofs.YtcmifdcgmalnlaaDoor.Pure
open Go.RowKit Go.Proofs.YtcmifdcgmalnlaaDoor.P Go.Proofs.YtcmifdcgmalnlaaDoorW.PrintWords
theorem FnSets : laws_FnSets.Pure := by
 intro x y hx hy
 refine Ev.k (?_ : Ev (fun k => laws_FnSets.f k x y) true)
 have hT : Ev (fun k => laws_FnSets.j0 k x y true) true := Ev.step (f := fun _ => some true) (fun k => by simp only [laws_FnSets.j0]; exact if_pos trivial) (Ev.now _)
 by_cases h1 : (x.length : Int) > 1048576
 ·exact Ev.congr (fun k => by simp only [laws_FnSets.f]; exact if_pos h1) hT
 ·by_cases h2 : (y.length : Int) > 1048576
  ·exact Ev.congr (fun k => by simp only [laws_FnSets.f]; rw [if_neg h1, decide_eq_true h2]) hT
  ·refine Ev.congr (fun k => by simp only [laws_FnSets.f]; rw [if_neg h1, decide_eq_false h2]) ?_
   obtain ⟨s0, e0, h0⟩ := source_ok x fun z hz => wfByteA (hx.2.2 z hz)
   obtain ⟨t, a1, s1, e1, _, _, L, ⟨hf, hm⟩, hset, hsz⟩ := setText_ok h0 (by omega)
   have et : spec_SetTextOf.f x = some t := by
    simp only [spec_SetTextOf.f, e0, bS, e1]
   obtain ⟨hr1, hr2⟩ := set_at t L hsz hf
   have htx := text_at L hset
   rw [hm] at htx
   have hL := (setR_ok hset).1
   have hsame := sameR_self L (by omega)
   obtain ⟨n, hn, hn9⟩ := at_ok y (fun z hz => wfByteA (hy.2.2 z hz)) (by omega) 0 9 (by omega) (by omega) (by omega)
   obtain ⟨p, hp, hp9⟩ := at_ok y (fun z hz => wfByteA (hy.2.2 z hz)) (by omega) 1 9 (by omega) (by omega) (by omega)
   have hn' : laws_at.f y 0 9 = some (n : Int) := hn
   have hp' : laws_at.f y 1 9 = some (p : Int) := hp
   have w1 : wrap64 (1 + (n : Int)) = 1 + (n : Int) := w64 (by omega) (by omega)
   have hhas : impl_SetHas.f L (1 + (n : Int)) (p : Int) = some (L.any (hasR (1 + (n : Int)) (p : Int)), 0) := by
    have c1 : decide ((1 : Int) ≤ 1 + (n : Int) ∧ 1 + (n : Int) ≤ 4294967295) = true := decide_eq_true (by omega)
    have c2 : decide ((0 : Int) ≤ (p : Int) ∧ (p : Int) ≤ 4294967295) = true := decide_eq_true (by omega)
    have c3 : impl_setHas.f L (1 + (n : Int)) (p : Int) = some (L.any (hasR (1 + (n : Int)) (p : Int))) := if_pos (by omega)
    simp only [impl_SetHas.f, implSetOK_eq, hset, within_eq, c1, c2, c3, bS]
    rw [if_neg (by omega), if_pos trivial, if_pos trivial, if_pos trivial]
   have hdue := due_l0 L (1 + (n : Int)) (p : Int) (by omega) (L.any (hasR (1 + (n : Int)) (p : Int))) L.length 0 false (by omega) (by rw [List.drop_zero, Bool.false_or])
   have hj2 : Ev (fun k => laws_FnSets.j2 k y L false) true := by
    refine Ev.step (fun k => ?_) hdue
    simp only [laws_FnSets.j2, hn', hp', bS, w1, hhas]
    rw [if_neg (by decide)]
    rfl
   have hj1 : Ev (fun k => laws_FnSets.j1 k y L false) true := by
    obtain ⟨K1, h1⟩ := htx
    obtain ⟨K2, h2⟩ := hr2
    obtain ⟨K3, h3⟩ := hsame
    obtain ⟨K4, h4⟩ := hj2
    refine ⟨K1 + K2 + K3 + K4 + 1, fun k hk => ?_⟩
    obtain ⟨m, rfl⟩ : ∃ m, k = m + 1 := ⟨k - 1, by omega⟩
    have f1 := h1 m (by omega)
    have f2 := h2 m (by omega)
    have f3 := h3 m (by omega)
    have f4 := h4 m (by omega)
    simp only at f1 f2 f3 f4
    simp only [laws_FnSets.j1, f1, f2, f3, bS, Bool.not_true, f4]
    rw [if_neg (by decide), if_pos trivial, if_pos trivial]
   obtain ⟨K1, h1⟩ := hr1
   obtain ⟨K2, h2⟩ := hr2
   obtain ⟨K3, h3⟩ := hsame
   obtain ⟨K4, h4⟩ := hj1
   refine ⟨K1 + K2 + K3 + K4 + 1, fun k hk => ?_⟩
   obtain ⟨m, rfl⟩ : ∃ m, k = m + 1 := ⟨k - 1, by omega⟩
   have f1 := h1 m (by omega)
   have f2 := h2 m (by omega)
   have f3 := h3 m (by omega)
   have f4 := h4 m (by omega)
   simp only at f1 f2 f3 f4
   simp only [laws_FnSets.j0, et, f1, f2, f3, bS, Bool.not_true, f4]
   rw [if_neg (by decide), if_pos trivial]
end Go.Proofs.YtcmifdcgmalnlaaDoor.Pure
