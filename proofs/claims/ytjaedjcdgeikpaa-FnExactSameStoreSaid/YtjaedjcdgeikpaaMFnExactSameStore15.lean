/- Part 15 of what the law FnExactSameStore stands on; the last part ends with the law's row. No condition of mine. -/
import Derived.Test.YtjaedjcdgeikpaaMFnExactSameStore1
import Derived.Test.YtjaedjcdgeikpaaMFnExactSameStore14
import Derived.Test.YtjaedjcdgeikpaaMFnExactSameStore3
import Derived.Test.YtjaedjcdgeikpaaMFnExactSameStore2
import Derived.Test.YtjaedjcdgeikpaaMFnExactSameStore4
import Derived.Test.YtjaedjcdgeikpaaMFnExactSameStore7
import Derived.Test.YtjaedjcdgeikpaaMFnExactSameStore12
import Derived.Test.YtjaedjcdgeikpaaMFnExactSameStore10
import Derived.Test.YtjaedjcdgeikpaaMFnExactSameStore13
import Derived.Test.YtjaedjcdgeikpaaRows
import Derived.WalkKit
import Derived.ProofKit
import Derived.OpenShut
import Derived.ShutString
import Derived.ChangeOld
import Derived.Below
import Derived.SizedLaws
import Derived.Carry
namespace Go.Proofs.Ytjaedjcdgeikpaa.P
open Go.RowKit Go.Proofs.YtjaedjcdgeikpaaW.PrintWords Go.Proofs.YtjaedjcdgeikpaaW.PrintLast Go.Proofs.YtjaedjcdgeikpaaW.PrintMore
attribute [local go_sem] max2_int min2_int max_two min_two max_three min_three max_four min_four   -- for this text's walks alone
set_option linter.unusedVariables false
set_option linter.unusedSimpArgs false

/-! ### laws_heldStringS: function 46 -/
def laws_heldStringS.l0 : Nat → List ByteArray → Int → Int → Option (Int)
 | 0, _, _, _ => none
 | k + 1, x0, x1, x5 => if x5 < (x0.length : Int) then (if 0 ≤ x5 then ((laws_markText.f k x1).bind fun t102 => (if (rdOf ByteArray.empty x0 x5).toList = t102.toList then (laws_heldStringS.l0 k x0 (wrap64 (x1 + 1)) (wrap64 (x5 + 1))) else (some (-1)))) else (none)) else (some x1)
def laws_heldStringS.f (k : Nat) (l0 : List ByteArray) (a1 : Int) : Option (Int) := laws_heldStringS.l0 k l0 a1 0
theorem laws_heldStringS.mono_l : ∀ k, (∀ y0 y1 y2, LeO (laws_heldStringS.l0 k y0 y1 y2) (laws_heldStringS.l0 (k + 1) y0 y1 y2))
 | 0 => fun _ _ _ r h => by simp [laws_heldStringS.l0] at h
 | k + 1 => by
  have ih0 := laws_heldStringS.mono_l k
  ·intro y0 y1 y2
   unfold laws_heldStringS.l0
   repeat' first
   | (with_reducible exact ih0 _ _ _)
   | (with_reducible exact laws_markText.mono _ _)
   | (with_reducible exact LeO.refl _)
   | (with_reducible exact LeO.none _)
   | (with_reducible refine LeO.ite ?_ ?_)
   | (with_reducible refine LeO.bind ?_ (fun _ => ?_))
   | exact ih0 _ _ _
   | exact laws_markText.mono _ _
   | exact LeO.none _
   | refine LeO.ite ?_ ?_
   | refine LeO.bind ?_ (fun _ => ?_)
theorem laws_heldStringS.mono : ∀ a0 a1 k, LeO (laws_heldStringS.f k a0 a1) (laws_heldStringS.f (k + 1) a0 a1) := by
 intro a0 a1 k
 have ih0 := laws_heldStringS.mono_l k
 unfold laws_heldStringS.f
 repeat' first
   | (with_reducible exact ih0 _ _ _)
   | (with_reducible exact laws_markText.mono _ _)
   | (with_reducible exact LeO.refl _)
   | (with_reducible exact LeO.none _)
   | (with_reducible refine LeO.ite ?_ ?_)
   | (with_reducible refine LeO.bind ?_ (fun _ => ?_))
   | exact ih0 _ _ _
   | exact laws_markText.mono _ _
   | exact LeO.none _
   | refine LeO.ite ?_ ?_
   | refine LeO.bind ?_ (fun _ => ?_)
set_option maxHeartbeats 8000000 in
set_option maxRecDepth 100000 in
theorem laws_heldStringS.calls (k : Nat) (A0 : Option Addr) (c0 : Nat) (l0 : List ByteArray) (a1 : Int) (r : Int) (w : World) (hr0 : Kd.C Kd.string w A0 l0.length l0) (hc0 : l0.length ≤ c0) (h : laws_heldStringS.f k l0 a1 = some r) :
  Calls Try.prog 46 #[.slice A0 l0.length c0, .int .i64 a1] w fun e w' => e = .returned (.int .i64 r) ∧ Below w.heap.size w w' := by
 have HR0 := qM_ hr0
 have HC0 := qM_ hc0
 clear hr0 hc0
 have HB := qM_ (Below.refl w.heap.size w)
 have H : (laws_heldStringS.l0 k l0 a1 0) = some r := h
 clear h
 have H' := qM_ H
 clear H
 go_enter Try.func46, Try.ntmps46
 go_wp2
 go_loopg [1, 5] k (fun kq v1 v5 w' => ∃ (x1_1 : Int) (x5_1 : Int), v1 = .int .i64 x1_1 ∧ v5 = .int .i64 x5_1 ∧ Aside0 (laws_heldStringS.l0 kq l0 x1_1 x5_1 = some r) ∧ Aside0 (kq ≤ k) ∧ Aside0 (Below w.heap.size w w'))
 case atStart => exact ⟨(a1), (0), (by first | rfl | (simp; done) | (simp [*]; done)), (by first | rfl | (simp; done) | (simp [*]; done)), H', ⟨Nat.le_refl _⟩, ⟨by repeat (first | (with_reducible first | exact HB.out | apply qA_ | apply qD_ | apply qE_) | exact HB.out)⟩⟩
 case round =>
  clear H'
  try clear p2
  obtain ⟨x1_1, x5_1, rfl, rfl, HA, HK1, HB⟩ := hrel
  cases gk with
  | zero => exact absurd HA.out (by simp [laws_heldStringS.l0])
  | succ k1 =>
   have H := HA.out
   clear HA
   simp only [laws_heldStringS.l0] at H
   by_cases c3 : x5_1 < (l0.length : Int)
   ·rw [if_pos c3] at H
    have c3b0 : decide (x5_1 < (l0.length : Int)) = true := decide_eq_true c3
    clear c3
    by_cases c4 : 0 ≤ x5_1
    ·rw [if_pos c4] at H
     have c4b0 : decide (0 ≤ x5_1) = true := decide_eq_true c4
     clear c4
     replace H := Option.bind_eq_some_iff.mp H
     obtain ⟨t102, A50, H⟩ := H
     replace H : (if (rdOf ByteArray.empty l0 x5_1).toList = t102.toList then (laws_heldStringS.l0 k1 l0 (wrap64 (x1_1 + 1)) (wrap64 (x5_1 + 1))) else (some (-1))) = some r := H
     have A5 := qM_ A50
     clear A50
     by_cases c6 : (rdOf ByteArray.empty l0 x5_1).toList = t102.toList
     ·rw [if_pos c6] at H
      have c6b0 : ((rdOf ByteArray.empty l0 x5_1).toList == t102.toList) = true := beq_iff_eq.mpr c6
      have c6b1 : ((rdOf ByteArray.empty l0 x5_1).toList != t102.toList) = false := bne_eq_false_iff_eq.mpr c6
      clear c6
      have H' := qM_ H
      clear H
      try go_wp2
      have n0_ := qM_ (qE_ HB.out)
      clear HB
      have HB := n0_
      clear n0_
      have p101 : 0 ≤ (x5_1 : Int) := qT_ (by first | (with_reducible assumption) | assumption)
      have q101 : x5_1 < (l0.length : Int) := qT_ (by first | (with_reducible assumption) | assumption)
      obtain ⟨ad101, e101, hx101_0⟩ := Kd.at_string HR0.out x5_1 p101 q101
      have hw101_0 := hx101_0
      cases e101
      replace hx101_0 := (HB.out.cell (qL_ w _ hx101_0)).trans hx101_0
      replace p101 := eq_true p101
      replace q101 := eq_true q101
      refine start_ (n := 7) (S := fun w' => w'.cell? (ad101.add (x5_1).toNat) = some (.string (rdOf ByteArray.empty l0 x5_1))) (ds := []) #[false, false, false, false, false, false, false] (by kernel_rfl) rfl rfl (((HB.out.cell (qL_ w _ hw101_0)).trans hw101_0)) (fun hHeld => ?_)
      generalize wr.drew = w7 at HB hx101_0 hHeld ⊢
      refine pure_ (i := 0) (N := some 12) (v := ?_) (a' := ?_) #[true, false, false, false, false, false, false] rfl rfl (by kernel_rfl) (fun _ _ _ h => h) (Or.inl ⟨by rfl, ?_⟩) ?_ ?_
      rotate_left
      ·intro w'
       go_simp
       with_reducible rfl
      rotate_left
      ·simp only [Act.put, List.setIfInBounds_toArray, List.set_cons_zero, List.set_cons_succ, i64_w, i32_w]
       rfl
      refine pure_ (i := 1) (N := some 13) (v := ?_) (a' := ?_) #[true, true, false, false, false, false, false] rfl rfl (by kernel_rfl) (fun _ _ _ h => h) (Or.inl ⟨by rfl, ?_⟩) ?_ ?_
      rotate_left
      ·intro w'
       go_simp
       with_reducible rfl
      rotate_left
      ·simp only [Act.put, List.setIfInBounds_toArray, List.set_cons_zero, List.set_cons_succ, i64_w, i32_w]
       rfl
      refine pure_ (i := 2) (N := some 14) (v := ?_) (a' := ?_) #[true, true, true, false, false, false, false] rfl rfl (by kernel_rfl) (fun _ _ _ h => h) (Or.inl ⟨by rfl, ?_⟩) ?_ ?_
      rotate_left
      ·intro w'
       go_simp
       with_reducible rfl
      rotate_left
      ·simp only [Act.put, List.setIfInBounds_toArray, List.set_cons_zero, List.set_cons_succ, i64_w, i32_w]
       rfl
      refine pure_ (i := 4) (N := some 16) (v := ?_) (a' := ?_) #[true, true, true, false, true, false, false] rfl rfl (by kernel_rfl) (fun _ _ _ h => h) (Or.inl ⟨by rfl, ?_⟩) ?_ ?_
      rotate_left
      ·intro w'
       go_simp
       with_reducible rfl
      rotate_left
      ·simp only [Act.put, List.setIfInBounds_toArray, List.set_cons_zero, List.set_cons_succ, i64_w, i32_w]
       rfl
      refine take_ (i := 3) (N := some 15) (v := ?_) (a' := ?_) #[true, true, true, true, true, false, false] rfl rfl (by kernel_rfl) (fun _ _ _ h => h) (Or.inl ⟨by rfl, ?_⟩) hHeld ?_ ?_
      rotate_left
      ·intro w' s0
       go_simp
       with_reducible rfl
      rotate_left
      ·simp only [Act.put, List.setIfInBounds_toArray, List.set_cons_zero, List.set_cons_succ, i64_w, i32_w]
       rfl
      refine one_ (i := 5) (N := some 17) #[true, true, true, true, true, true, false] rfl rfl (by kernel_rfl) (by decide) (fun K hK => ?_)
      refine goes_ Try.func42 (by kernel_rfl) rfl #[.int .i64 x1_1] (by rfl) rfl rfl (by (try simp only [List.map_toArray, List.map_cons, List.map_nil]); first | done | rfl | (simp only [List.length_drop, List.length_take]; rfl)) ?_
      with_reducible refine (laws_markText.calls k1 x1_1 t102 _ A5.out).mono ?_
      rintro e w8 ⟨rfl, hb⟩
      refine ⟨_, rfl, ?_⟩
      have n0_ := qM_ (below_step (by repeat (first | (with_reducible first | exact HB.out | apply qA_ | apply qD_ | apply qE_) | exact HB.out)) hb)
      clear HB
      have HB := n0_
      clear n0_
      (try clear hb)
      (try clear hb2)
      (try clear hk)
      (try clear hi)
      refine hK.out _ _ (((HB.out.cell (qL_ w _ hw101_0)).trans hw101_0)) (fun hHeld => ?_)
      clear hK K
      refine norm_ (a' := ?_) ?_ ?_
      rotate_left
      ·show Act.put _ (some 17) _ = _
       simp only [Act.put, List.setIfInBounds_toArray, List.set_cons_zero, List.set_cons_succ, i64_w, i32_w]
       rfl
      refine pure_ (i := 6) (N := some 18) (v := ?_) (a' := ?_) #[true, true, true, true, true, true, true] rfl rfl (by kernel_rfl) (fun _ _ _ h => h) (Or.inl ⟨by rfl, ?_⟩) ?_ ?_
      rotate_left
      ·intro w'
       go_simp
       with_reducible rfl
      rotate_left
      ·simp only [Act.put, List.setIfInBounds_toArray, List.set_cons_zero, List.set_cons_succ, i64_w, i32_w]
       rfl
      refine done_ (by kernel_rfl) ?_
      try go_wp2
      go_roundg k1
      case measure => have := HK1.out; omega
      case rel => exact ⟨(wrap64 (x1_1 + 1)), (wrap64 (x5_1 + 1)), (by first | rfl | (simp; done) | (simp [*]; done)), (by first | rfl | (simp; done) | (simp [*]; done)), H', ⟨by have := HK1.out; omega⟩, ⟨by repeat (first | (with_reducible first | exact HB.out | apply qA_ | apply qD_ | apply qE_) | exact HB.out)⟩⟩
     ·rw [if_neg c6] at H
      have c6b0 : ((rdOf ByteArray.empty l0 x5_1).toList == t102.toList) = false := beq_eq_false_iff_ne.mpr c6
      have c6b1 : ((rdOf ByteArray.empty l0 x5_1).toList != t102.toList) = true := bne_iff_ne.mpr c6
      obtain rfl := Option.some.inj H
      try go_wp2
      have n0_ := qM_ (qE_ HB.out)
      clear HB
      have HB := n0_
      clear n0_
      have p101 : 0 ≤ (x5_1 : Int) := qT_ (by first | (with_reducible assumption) | assumption)
      have q101 : x5_1 < (l0.length : Int) := qT_ (by first | (with_reducible assumption) | assumption)
      obtain ⟨ad101, e101, hx101_0⟩ := Kd.at_string HR0.out x5_1 p101 q101
      have hw101_0 := hx101_0
      cases e101
      replace hx101_0 := (HB.out.cell (qL_ w _ hx101_0)).trans hx101_0
      replace p101 := eq_true p101
      replace q101 := eq_true q101
      refine start_ (n := 7) (S := fun w' => w'.cell? (ad101.add (x5_1).toNat) = some (.string (rdOf ByteArray.empty l0 x5_1))) (ds := []) #[false, false, false, false, false, false, false] (by kernel_rfl) rfl rfl (((HB.out.cell (qL_ w _ hw101_0)).trans hw101_0)) (fun hHeld => ?_)
      generalize wr.drew = w9 at HB hx101_0 hHeld ⊢
      refine pure_ (i := 0) (N := some 12) (v := ?_) (a' := ?_) #[true, false, false, false, false, false, false] rfl rfl (by kernel_rfl) (fun _ _ _ h => h) (Or.inl ⟨by rfl, ?_⟩) ?_ ?_
      rotate_left
      ·intro w'
       go_simp
       with_reducible rfl
      rotate_left
      ·simp only [Act.put, List.setIfInBounds_toArray, List.set_cons_zero, List.set_cons_succ, i64_w, i32_w]
       rfl
      refine pure_ (i := 1) (N := some 13) (v := ?_) (a' := ?_) #[true, true, false, false, false, false, false] rfl rfl (by kernel_rfl) (fun _ _ _ h => h) (Or.inl ⟨by rfl, ?_⟩) ?_ ?_
      rotate_left
      ·intro w'
       go_simp
       with_reducible rfl
      rotate_left
      ·simp only [Act.put, List.setIfInBounds_toArray, List.set_cons_zero, List.set_cons_succ, i64_w, i32_w]
       rfl
      refine pure_ (i := 2) (N := some 14) (v := ?_) (a' := ?_) #[true, true, true, false, false, false, false] rfl rfl (by kernel_rfl) (fun _ _ _ h => h) (Or.inl ⟨by rfl, ?_⟩) ?_ ?_
      rotate_left
      ·intro w'
       go_simp
       with_reducible rfl
      rotate_left
      ·simp only [Act.put, List.setIfInBounds_toArray, List.set_cons_zero, List.set_cons_succ, i64_w, i32_w]
       rfl
      refine pure_ (i := 4) (N := some 16) (v := ?_) (a' := ?_) #[true, true, true, false, true, false, false] rfl rfl (by kernel_rfl) (fun _ _ _ h => h) (Or.inl ⟨by rfl, ?_⟩) ?_ ?_
      rotate_left
      ·intro w'
       go_simp
       with_reducible rfl
      rotate_left
      ·simp only [Act.put, List.setIfInBounds_toArray, List.set_cons_zero, List.set_cons_succ, i64_w, i32_w]
       rfl
      refine take_ (i := 3) (N := some 15) (v := ?_) (a' := ?_) #[true, true, true, true, true, false, false] rfl rfl (by kernel_rfl) (fun _ _ _ h => h) (Or.inl ⟨by rfl, ?_⟩) hHeld ?_ ?_
      rotate_left
      ·intro w' s0
       go_simp
       with_reducible rfl
      rotate_left
      ·simp only [Act.put, List.setIfInBounds_toArray, List.set_cons_zero, List.set_cons_succ, i64_w, i32_w]
       rfl
      refine one_ (i := 5) (N := some 17) #[true, true, true, true, true, true, false] rfl rfl (by kernel_rfl) (by decide) (fun K hK => ?_)
      refine goes_ Try.func42 (by kernel_rfl) rfl #[.int .i64 x1_1] (by rfl) rfl rfl (by (try simp only [List.map_toArray, List.map_cons, List.map_nil]); first | done | rfl | (simp only [List.length_drop, List.length_take]; rfl)) ?_
      with_reducible refine (laws_markText.calls k1 x1_1 t102 _ A5.out).mono ?_
      rintro e w10 ⟨rfl, hb⟩
      refine ⟨_, rfl, ?_⟩
      have n0_ := qM_ (below_step (by repeat (first | (with_reducible first | exact HB.out | apply qA_ | apply qD_ | apply qE_) | exact HB.out)) hb)
      clear HB
      have HB := n0_
      clear n0_
      (try clear hb)
      (try clear hb2)
      (try clear hk)
      (try clear hi)
      refine hK.out _ _ (((HB.out.cell (qL_ w _ hw101_0)).trans hw101_0)) (fun hHeld => ?_)
      clear hK K
      refine norm_ (a' := ?_) ?_ ?_
      rotate_left
      ·show Act.put _ (some 17) _ = _
       simp only [Act.put, List.setIfInBounds_toArray, List.set_cons_zero, List.set_cons_succ, i64_w, i32_w]
       rfl
      refine pure_ (i := 6) (N := some 18) (v := ?_) (a' := ?_) #[true, true, true, true, true, true, true] rfl rfl (by kernel_rfl) (fun _ _ _ h => h) (Or.inl ⟨by rfl, ?_⟩) ?_ ?_
      rotate_left
      ·intro w'
       go_simp
       with_reducible rfl
      rotate_left
      ·simp only [Act.put, List.setIfInBounds_toArray, List.set_cons_zero, List.set_cons_succ, i64_w, i32_w]
       rfl
      refine done_ (by kernel_rfl) ?_
      try go_wp2
      go_ret
      exact ⟨by first | rfl | (simp [errW_none, errW_some] <;> rfl) | (simp [*, errW_none, errW_some] <;> rfl), by repeat (first | (with_reducible first | exact HB.out | apply qA_ | apply qD_ | apply qE_) | exact HB.out)⟩
    ·rw [if_neg c4] at H
     exact absurd H (by simp)
   ·rw [if_neg c3] at H
    have c3b0 : decide (x5_1 < (l0.length : Int)) = false := decide_eq_false c3
    clear c3
    obtain rfl := Option.some.inj H
    go_wp2
    go_ret
    exact ⟨by first | rfl | (simp [errW_none, errW_some] <;> rfl) | (simp [*, errW_none, errW_some] <;> rfl), by repeat (first | (with_reducible first | exact HB.out | apply qA_ | apply qD_ | apply qE_) | exact HB.out)⟩

end Go.Proofs.Ytjaedjcdgeikpaa.P
/- Lemmas of mine: the laws' marks on lists of texts: they are told, and found again. Plain. -/
set_option linter.unusedVariables false
set_option linter.unusedSimpArgs false
namespace Go.Proofs.Ytjaedjcdgeikpaa.P
open Go.RowKit Go.Proofs.YtjaedjcdgeikpaaW.PrintWords
theorem markText_l0 : ∀ (d n : Nat) (x : ByteArray), n < 10 ^ d → n ≤ 9223372036854775807 → x.size + d ≤ 1000 → ∃ t, Ev (fun k => laws_markText.l0 k (n : Int) x) t := by
 intro d
 induction d with
 | zero =>
  intro n x hn hn9 hx
  have : n = 0 := by simpa using hn
  subst this
  refine ⟨(⟨#[109]⟩ : ByteArray) ++ x, Ev.step (f := fun _ => some ((⟨#[109]⟩ : ByteArray) ++ x)) (fun k => ?_) (Ev.now _)⟩
  simp only [laws_markText.l0]
  rw [if_neg (by omega), if_pos (by omega)]
 | succ d ih =>
  intro n x hn hn9 hx
  by_cases h0 : n = 0
  ·subst h0
   refine ⟨(⟨#[109]⟩ : ByteArray) ++ x, Ev.step (f := fun _ => some ((⟨#[109]⟩ : ByteArray) ++ x)) (fun k => ?_) (Ev.now _)⟩
   simp only [laws_markText.l0]
   rw [if_neg (by omega), if_pos (by omega)]
  ·have hp : 10 ^ (d + 1) = 10 ^ d * 10 := rfl
   have hs : (strOfNums [(wrap64 (48 + (Int.tmod (n : Int) 10))) % 256]).size = 1 := by rw [strOfNums_size]; rfl
   obtain ⟨t, ht⟩ := ih (n / 10) (strOfNums [(wrap64 (48 + (Int.tmod (n : Int) 10))) % 256] ++ x) (by omega) (by omega) (by rw [ByteArray.size_append, hs]; omega)
   refine ⟨t, Ev.step (f := fun k => laws_markText.l0 k ((n / 10 : Nat) : Int) (strOfNums [(wrap64 (48 + (Int.tmod (n : Int) 10))) % 256] ++ x)) (fun k => ?_) ht⟩
   have hw : ∀ m : Int, 0 ≤ m → m ≤ n → wrap64 m = m ∨ True := fun _ _ _ => .inr trivial
   simp only [laws_markText.l0, Option.bind_some]
   rw [if_pos (by omega), if_pos (by rw [hs]; omega)]
   have hq : Int.tdiv (n : Int) 10 = ((n / 10 : Nat) : Int) := rfl
   rw [hq]
   rw [w64n _ (by omega)]
theorem markText_some (n : Nat) (hn : n < 10 ^ 18) : ∃ t, Ev (fun k => laws_markText.f k (n : Int)) t := by
 by_cases h0 : (n : Int) ≤ 0
 ·refine ⟨(⟨#[109, 48]⟩ : ByteArray), ⟨0, fun k _ => ?_⟩⟩
  simp only [laws_markText.f]
  rw [if_pos h0]
 ·obtain ⟨t, ht⟩ := markText_l0 18 n ⟨#[]⟩ hn (Nat.le_trans (Nat.le_of_lt hn) (by decide)) (by decide)
  refine ⟨t, Ev.congr (fun k => ?_) ht⟩
  simp only [laws_markText.f]
  rw [if_neg h0]
open Classical in
/-- The mark of a number. -/
noncomputable def mt (n : Nat) : ByteArray := if h : ∃ t, Ev (fun k => laws_markText.f k (n : Int)) t then h.choose else ⟨#[]⟩
theorem mt_ev (n : Nat) (hn : n < 10 ^ 18) : Ev (fun k => laws_markText.f k (n : Int)) (mt n) := by
 unfold mt
 rw [dif_pos (markText_some n hn)]
 exact (markText_some n hn).choose_spec
/-- Marks from a number on. -/
noncomputable def marks (n m : Nat) : List ByteArray := (List.range m).map fun i => mt (n + i)
theorem marks_length (n m : Nat) : (marks n m).length = m := by simp [marks]
theorem marks_get (n m i : Nat) (h : i < m) : (marks n m)[i]? = some (mt (n + i)) := by simp [marks, h]
theorem markS_l0 : ∀ (d i n : Nat) (xs : List ByteArray), i + d = xs.length → xs.length ≤ 4611686018427387904 → n + d < 10 ^ 18 →
  Ev (fun k => laws_markStringS.l0 k xs (n : Int) (i : Int)) (((n + d : Nat) : Int), xs.take i ++ marks n d) := by
 intro d
 induction d with
 | zero =>
  intro i n xs hi hx hn
  refine Ev.step (f := fun _ => some _) (fun k => ?_) (Ev.now _)
  simp only [laws_markStringS.l0]
  rw [if_neg (by omega), List.take_of_length_le (by omega)]
  simp [marks]
 | succ d ih =>
  intro i n xs hi hx hn
  obtain ⟨K1, h1⟩ := mt_ev n (by omega)
  have h2 := ih (i + 1) (n + 1) (xs.set i (mt n)) (by rw [List.length_set]; omega) (by rw [List.length_set]; omega) (by omega)
  obtain ⟨K2, h2⟩ := h2
  replace h1 : ∀ k, K1 ≤ k → laws_markText.f k (n : Int) = some (mt n) := h1
  replace h2 : ∀ k, K2 ≤ k → laws_markStringS.l0 k (xs.set i (mt n)) ((n + 1 : Nat) : Int) ((i + 1 : Nat) : Int) = _ := h2
  refine ⟨K1 + K2 + 1, fun k hk => ?_⟩
  obtain ⟨m, rfl⟩ : ∃ m, k = m + 1 := ⟨k - 1, by omega⟩
  simp only [laws_markStringS.l0, h1 m (by omega), Option.bind_some, Int.toNat_natCast]
  have hp : (10 : Nat) ^ 18 = 1000000000000000000 := by decide
  rw [if_pos (by omega), if_pos (by omega), w64s n (by omega), w64s i (by omega), h2 m (by omega)]
  have e : (xs.set i (mt n)).take (i + 1) ++ marks (n + 1) d = xs.take i ++ marks n (d + 1) := by
   rw [List.take_set, List.take_add_one, List.getElem?_eq_getElem (by omega)]
   have hl : (xs.take i).length = i := by rw [List.length_take]; omega
   rw [List.set_append_right _ _ (by omega), hl, Nat.sub_self]
   simp only [Option.toList, List.set_cons_zero, List.append_assoc, List.cons_append, List.nil_append]
   congr 1
   apply List.ext_getElem?
   intro j
   cases j with
   | zero => rw [marks_get n (d + 1) 0 (by omega)]; simp
   | succ j =>
    rw [List.getElem?_cons_succ]
    by_cases hj : j < d
    ·rw [marks_get _ _ _ hj, marks_get _ _ _ (by omega)]
     congr 2
     omega
    ·rw [List.getElem?_eq_none (by rw [marks_length]; omega), List.getElem?_eq_none (by rw [marks_length]; omega)]
  rw [e]
  congr 2
  omega
theorem markS_ev (xs : List ByteArray) (n : Nat) (hx : xs.length ≤ 4611686018427387904) (hn : n + xs.length < 10 ^ 18) : Ev (fun k => laws_markStringS.f k xs (n : Int)) (((n + xs.length : Nat) : Int), marks n xs.length) := by
 have h := markS_l0 xs.length 0 n xs (by omega) hx hn
 rw [List.take_zero, List.nil_append] at h
 exact h
theorem rdOf_get (xs : List ByteArray) (i : Nat) (x : ByteArray) (h : xs[i]? = some x) : rdOf ByteArray.empty xs (i : Int) = x := by
 simp [rdOf, List.getD_eq_getElem?_getD, h]
theorem heldS_l0 (n m : Nat) (hm : m ≤ 4611686018427387904) (hn : n + m < 10 ^ 18) : ∀ (d i : Nat), i + d = m →
  Ev (fun k => laws_heldStringS.l0 k (marks n m) ((n + i : Nat) : Int) (i : Int)) ((n + m : Nat) : Int) := by
 intro d
 induction d with
 | zero =>
  intro i hi
  refine Ev.step (f := fun _ => some _) (fun k => ?_) (Ev.now _)
  simp only [laws_heldStringS.l0, marks_length]
  rw [if_neg (by omega)]
  congr 2
  omega
 | succ d ih =>
  intro i hi
  obtain ⟨K1, h1⟩ := mt_ev (n + i) (by omega)
  obtain ⟨K2, h2⟩ := ih (i + 1) (by omega)
  refine ⟨K1 + K2 + 1, fun k hk => ?_⟩
  replace h1 : ∀ k, K1 ≤ k → laws_markText.f k ((n + i : Nat) : Int) = some (mt (n + i)) := h1
  obtain ⟨j, rfl⟩ : ∃ j, k = j + 1 := ⟨k - 1, by omega⟩
  have hp : (10 : Nat) ^ 18 = 1000000000000000000 := by decide
  simp only [laws_heldStringS.l0, h1 j (by omega), Option.bind_some, marks_length]
  rw [if_pos (by omega), if_pos (by omega), rdOf_get _ _ _ (marks_get n m i (by omega)), if_pos rfl, w64s (n + i) (by omega), w64s i (by omega)]
  exact h2 j (by omega)
theorem heldS_ev (n m : Nat) (hm : m ≤ 4611686018427387904) (hn : n + m < 10 ^ 18) : Ev (fun k => laws_heldStringS.f k (marks n m) (n : Int)) ((n + m : Nat) : Int) :=
 heldS_l0 n m hm hn m 0 (by omega)
theorem eqS_l0 (xs : List ByteArray) (hx : xs.length ≤ 4611686018427387904) : ∀ (d i : Nat), i + d = xs.length → Ev (fun k => laws_eqStringS.l0 k xs xs (i : Int)) true := by
 intro d
 induction d with
 | zero =>
  intro i hi
  refine Ev.step (f := fun _ => some _) (fun k => ?_) (Ev.now _)
  simp only [laws_eqStringS.l0]
  rw [if_neg (by omega)]
 | succ d ih =>
  intro i hi
  refine Ev.step (f := fun k => laws_eqStringS.l0 k xs xs ((i + 1 : Nat) : Int)) (fun k => ?_) (ih (i + 1) (by omega))
  simp only [laws_eqStringS.l0]
  rw [if_pos (by omega), if_pos (by omega), if_pos (by omega), if_pos trivial, w64s i (by omega)]
theorem eqS_self (xs : List ByteArray) (hx : xs.length ≤ 4611686018427387904) : Ev (fun k => laws_eqStringS.f k xs xs) true := by
 obtain ⟨K, h⟩ := eqS_l0 xs hx xs.length 0 (by omega)
 refine ⟨K, fun k hk => ?_⟩
 simp only [laws_eqStringS.f]
 rw [if_pos trivial]
 exact h k hk
end Go.Proofs.Ytjaedjcdgeikpaa.P
/- Lemmas of mine: the laws' copies of mails, keys and boxes: copied, the same, counted. Plain. -/
set_option linter.unusedVariables false
set_option linter.unusedSimpArgs false
namespace Go.Proofs.Ytjaedjcdgeikpaa.P
open Go.RowKit Go.Proofs.YtjaedjcdgeikpaaW.PrintWords
def stM (x : S67) : S28 := ⟨x.f0, x.f1, x.f2⟩
theorem toStoredS_ev (xs : List S67) (h : xs.length ≤ 8796093022208) : Ev (fun k => laws_toStoredS.f k xs) (xs.map stM) := by
 refine Ev.congr (f := fun k => laws_toStoredS.l0 k xs (List.replicate xs.length z28) ((0 : Nat) : Int)) (fun k => ?_)
  (copy_loop (fun k ys i => laws_toStoredS.l0 k xs ys i) xs stM ?_ ?_ xs.length 0 _ (by omega) (by simp) (by simp))
 ·simp only [laws_toStoredS.f, Int.toNat_natCast]
  rw [if_pos (by omega), if_pos h]
  rfl
 ·intro i ys hi hl
  refine ⟨0, fun k _ => ?_⟩
  simp only [laws_toStoredS.l0, laws_toStored.f, rd_T67, getD_nat xs _ i hi, bS]
  rw [if_pos (by omega), if_pos (by omega), if_pos (by omega), w64s i (by omega), Int.toNat_natCast]
  rfl
 ·intro ys hl
  refine ⟨0, fun k _ => ?_⟩
  simp only [laws_toStoredS.l0]
  rw [if_neg (by omega)]
theorem toStringS_ev (xs : List ByteArray) (h : xs.length ≤ 17592186044416) : Ev (fun k => laws_toStringS.f k xs) xs := by
 have hm : xs.map (fun x => x) = xs := by simp
 have := copy_loop (fun k ys i => laws_toStringS.l0 k xs ys i) xs (fun x => x) (fun i ys hi hl => ⟨0, fun k _ => by
   simp only [laws_toStringS.l0, rdOf, getD_nat xs _ i hi]
   rw [if_pos (by omega), if_pos (by omega), if_pos (by omega), w64s i (by omega), Int.toNat_natCast]⟩)
  (fun ys hl => ⟨0, fun k _ => by
   simp only [laws_toStringS.l0]
   rw [if_neg (by omega)]⟩) xs.length 0 (List.replicate xs.length (⟨#[]⟩ : ByteArray)) (by omega) (by simp) (by simp)
 rw [hm] at this
 refine Ev.congr (fun k => ?_) this
 simp only [laws_toStringS.f, Int.toNat_natCast]
 rw [if_pos (by omega), if_pos h]
 rfl
theorem eqStoredS_self (ys : List S28) (h : ys.length ≤ 4611686018427387904) : Ev (fun k => laws_eqStoredS.f k ys ys) true := by
 refine Ev.congr (f := fun k => laws_eqStoredS.l0 k ys ys ((0 : Nat) : Int)) (fun k => ?_)
  (up_loop (fun k i => laws_eqStoredS.l0 k ys ys i) ys.length true ?_ ⟨0, fun k _ => ?_⟩ ys.length 0 (by omega))
 ·unfold laws_eqStoredS.f
  exact if_pos rfl
 ·intro i hi
  refine ⟨0, fun k _ => ?_⟩
  simp only [laws_eqStoredS.l0, laws_eqStored.f, if_true, bS]
  rw [if_pos (by omega), if_pos (by omega), if_pos (by omega), w64s i (by omega)]
 ·simp only [laws_eqStoredS.l0]
  rw [if_neg (by omega)]
theorem szStored_some (a b : Int) (s : ByteArray) (n : Int) : ∃ z, laws_szStored.f a b s n = some z := by
 unfold laws_szStored.f
 split <;> exact ⟨_, rfl⟩
theorem szStoredS_some (xs : List S67) (h : xs.length ≤ 4611686018427387904) (n : Int) : ∃ z, Ev (fun k => laws_szStoredS.f k xs n) z := by
 by_cases h0 : wrap64 (n - (xs.length : Int)) < 0
 ·exact ⟨-1, 0, fun k _ => by simp only [laws_szStoredS.f]; rw [if_pos h0]⟩
 ·obtain ⟨z, hz, _⟩ := st_loop (fun k s i => laws_szStoredS.l0 k xs s i) xs.length (fun _ _ _ => True) (fun i s hi => by
    obtain ⟨z, hz⟩ := szStored_some (xs[i]'hi).f0 (xs[i]'hi).f1 (xs[i]'hi).f2 s
    have e : ∀ k, laws_szStoredS.l0 (k + 1) xs s (i : Int) = if z < 0 then some (-1) else laws_szStoredS.l0 k xs z ((i + 1 : Nat) : Int) := fun k => by
     simp only [laws_szStoredS.l0, rd_T67, getD_nat xs _ i hi, hz, bS]
     rw [if_pos (by omega), if_pos (by omega), w64s i (by omega)]
    by_cases hn : z < 0
    ·exact .inl ⟨-1, ⟨0, fun k _ => by rw [e, if_pos hn]⟩, trivial⟩
    ·exact .inr ⟨z, ⟨0, fun k _ => by rw [e, if_neg hn]⟩, fun _ _ => trivial⟩)
   (fun s => ⟨s, ⟨0, fun k _ => by simp only [laws_szStoredS.l0]; rw [if_neg (by omega)]⟩, trivial⟩) xs.length 0 (wrap64 (n - (xs.length : Int))) (by omega)
  exact ⟨z, Ev.congr (fun k => by simp only [laws_szStoredS.f]; rw [if_neg h0]; rfl) hz⟩
theorem szStringS_some (xs : List ByteArray) (h : xs.length ≤ 4611686018427387904) (n : Int) : ∃ z, Ev (fun k => laws_szStringS.f k xs n) z := by
 by_cases h0 : wrap64 (n - (xs.length : Int)) < 0
 ·exact ⟨-1, 0, fun k _ => by simp only [laws_szStringS.f]; rw [if_pos h0]⟩
 ·obtain ⟨z, hz, _⟩ := st_loop (fun k s i => laws_szStringS.l0 k xs s i) xs.length (fun _ _ _ => True) (fun i s hi => by
    obtain ⟨z, hz⟩ : ∃ z, wrap64 (s - ((xs[i]'hi).size : Int)) = z := ⟨_, rfl⟩
    have e : ∀ k, laws_szStringS.l0 (k + 1) xs s (i : Int) = if z < 0 then some (-1) else laws_szStringS.l0 k xs z ((i + 1 : Nat) : Int) := fun k => by
     simp only [laws_szStringS.l0, rdOf, getD_nat xs _ i hi, hz]
     rw [if_pos (by omega), if_pos (by omega), w64s i (by omega)]
    clear hz
    by_cases hn : z < 0
    ·exact .inl ⟨-1, ⟨0, fun k _ => by rw [e, if_pos hn]⟩, trivial⟩
    ·exact .inr ⟨z, ⟨0, fun k _ => by rw [e, if_neg hn]⟩, fun _ _ => trivial⟩)
   (fun s => ⟨s, ⟨0, fun k _ => by simp only [laws_szStringS.l0]; rw [if_neg (by omega)]⟩, trivial⟩) xs.length 0 (wrap64 (n - (xs.length : Int))) (by omega)
  exact ⟨z, Ev.congr (fun k => by simp only [laws_szStringS.f]; rw [if_neg h0]; rfl) hz⟩
theorem szBox_some (s : ByteArray) (a b : Int) (xs : List S67) (ks : List ByteArray) (h : xs.length ≤ 4611686018427387904) (h2 : ks.length ≤ 4611686018427387904) (n : Int) : ∃ z, Ev (fun k => laws_szBox.f k s a b xs ks n) z := by
 by_cases h0 : wrap64 (n - (s.size : Int)) < 0
 ·exact ⟨-1, 0, fun k _ => by simp only [laws_szBox.f]; rw [if_pos h0]⟩
 ·obtain ⟨z, K, hz⟩ := szStoredS_some xs h (wrap64 (n - (s.size : Int)))
  by_cases hn : z < 0
  ·exact ⟨-1, K, fun k hk => by simp only [laws_szBox.f, hz k hk, bS]; rw [if_neg h0, if_pos hn]⟩
  ·obtain ⟨y, K2, hy⟩ := szStringS_some ks h2 z
   by_cases hm : y < 0
   ·exact ⟨-1, K + K2, fun k hk => by simp only [laws_szBox.f, hz k (by omega), hy k (by omega), bS]; rw [if_neg h0, if_neg hn, if_pos hm]⟩
   ·exact ⟨y, K + K2, fun k hk => by simp only [laws_szBox.f, hz k (by omega), hy k (by omega), bS]; rw [if_neg h0, if_neg hn, if_neg hm]⟩
theorem toBox_ev (s : ByteArray) (a b : Int) (xs : List S67) (ks : List ByteArray) (h : xs.length ≤ 8796093022208) (h2 : ks.length ≤ 17592186044416) : Ev (fun k => laws_toBox.f k s a b xs ks) (s, a, b, xs.map stM, ks) := by
 obtain ⟨K, hK⟩ := toStoredS_ev xs h
 obtain ⟨K2, hK2⟩ := toStringS_ev ks h2
 exact ⟨K + K2, fun k hk => by simp only [laws_toBox.f, hK k (by omega), hK2 k (by omega), bS]⟩
theorem eqBox_self (s : ByteArray) (a b : Int) (ys : List S28) (ks : List ByteArray) (h : ys.length ≤ 4611686018427387904) (h2 : ks.length ≤ 4611686018427387904) : Ev (fun k => laws_eqBox.f k s a b ys ks s a b ys ks) true := by
 obtain ⟨K, hK⟩ := eqStoredS_self ys h
 obtain ⟨K2, hK2⟩ := eqS_self ks h2
 exact ⟨K + K2, fun k hk => by simp only [laws_eqBox.f, hK k (by omega), hK2 k (by omega), bS, if_true]⟩
end Go.Proofs.Ytjaedjcdgeikpaa.P
/- Lemmas of mine: lists of boxes: copied, the same, counted; the two StoreOK tell the same. Plain. -/
set_option linter.unusedVariables false
set_option linter.unusedSimpArgs false
namespace Go.Proofs.Ytjaedjcdgeikpaa.P
open Go.RowKit Go.Proofs.YtjaedjcdgeikpaaW.PrintWords
def bxM (x : S25) : S33 := ⟨x.f0, x.f1, x.f2, x.f3.map stM, x.f4⟩
/-- A box whose lists are within the bounds. -/
def boxB (x : S25) : Prop := x.f3.length ≤ 8796093022208 ∧ x.f4.length ≤ 17592186044416
def boxB2 (x : S33) : Prop := x.f3.length ≤ 8796093022208 ∧ x.f4.length ≤ 17592186044416
theorem boxB_map {xs : List S25} (h : ∀ x ∈ xs, boxB x) : ∀ y ∈ xs.map bxM, boxB2 y := by
 intro y hy
 obtain ⟨x, hx, rfl⟩ := List.mem_map.1 hy
 have := h x hx
 exact ⟨by show (x.f3.map stM).length ≤ _; rw [List.length_map]; exact this.1, this.2⟩
theorem toBoxS_ev (xs : List S25) (h : xs.length ≤ 3518437208883) (hb : ∀ x ∈ xs, boxB x) : Ev (fun k => laws_toBoxS.f k xs) (xs.map bxM) := by
 refine Ev.congr (f := fun k => laws_toBoxS.l0 k xs (List.replicate xs.length z33) ((0 : Nat) : Int)) (fun k => ?_)
  (copy_loop (fun k ys i => laws_toBoxS.l0 k xs ys i) xs bxM ?_ ?_ xs.length 0 _ (by omega) (by simp) (by simp))
 ·simp only [laws_toBoxS.f, Int.toNat_natCast]
  rw [if_pos (by omega), if_pos h]
  rfl
 ·intro i ys hi hl
  have hx := hb _ (List.getElem_mem hi)
  obtain ⟨K, hK⟩ := toBox_ev (xs[i]'hi).f0 (xs[i]'hi).f1 (xs[i]'hi).f2 (xs[i]'hi).f3 (xs[i]'hi).f4 hx.1 hx.2
  refine ⟨K, fun k hk => ?_⟩
  have e := hK k hk
  simp only at e
  simp only [laws_toBoxS.l0, rd_T25, getD_nat xs _ i hi, e, bS]
  rw [if_pos (by omega), if_pos (by omega), if_pos (by omega), w64s i (by omega), Int.toNat_natCast]
  rfl
 ·intro ys hl
  refine ⟨0, fun k _ => ?_⟩
  simp only [laws_toBoxS.l0]
  rw [if_neg (by omega)]
theorem eqBoxS_self (ys : List S33) (h : ys.length ≤ 4611686018427387904) (hb : ∀ y ∈ ys, boxB2 y) : Ev (fun k => laws_eqBoxS.f k ys ys) true := by
 refine Ev.congr (f := fun k => laws_eqBoxS.l0 k ys ys ((0 : Nat) : Int)) (fun k => ?_)
  (up_loop (fun k i => laws_eqBoxS.l0 k ys ys i) ys.length true ?_ ⟨0, fun k _ => ?_⟩ ys.length 0 (by omega))
 ·unfold laws_eqBoxS.f
  exact if_pos rfl
 ·intro i hi
  have hx := hb _ (List.getElem_mem hi)
  obtain ⟨K, hK⟩ := eqBox_self (ys[i]'hi).f0 (ys[i]'hi).f1 (ys[i]'hi).f2 (ys[i]'hi).f3 (ys[i]'hi).f4 (by have := hx.1; omega) (by have := hx.2; omega)
  refine ⟨K, fun k hk => ?_⟩
  have e := hK k hk
  simp only at e
  simp only [laws_eqBoxS.l0, rd_T33, getD_nat ys _ i hi, e, if_true, bS]
  rw [if_pos (by omega), if_pos (by omega), if_pos (by omega), w64s i (by omega)]
 ·simp only [laws_eqBoxS.l0]
  rw [if_neg (by omega)]
theorem szBoxS_some (xs : List S25) (h : xs.length ≤ 4611686018427387904) (hb : ∀ x ∈ xs, boxB x) (n : Int) : ∃ z, Ev (fun k => laws_szBoxS.f k xs n) z := by
 by_cases h0 : wrap64 (n - (xs.length : Int)) < 0
 ·exact ⟨-1, 0, fun k _ => by simp only [laws_szBoxS.f]; rw [if_pos h0]⟩
 ·obtain ⟨z, hz, _⟩ := st_loop (fun k s i => laws_szBoxS.l0 k xs s i) xs.length (fun _ _ _ => True) (fun i s hi => by
    have hx := hb _ (List.getElem_mem hi)
    obtain ⟨z, K, hK⟩ := szBox_some (xs[i]'hi).f0 (xs[i]'hi).f1 (xs[i]'hi).f2 (xs[i]'hi).f3 (xs[i]'hi).f4 (by have := hx.1; omega) (by have := hx.2; omega) s
    have e : ∀ k, K ≤ k → laws_szBoxS.l0 (k + 1) xs s (i : Int) = if z < 0 then some (-1) else laws_szBoxS.l0 k xs z ((i + 1 : Nat) : Int) := fun k hk => by
     have e := hK k hk
     simp only at e
     simp only [laws_szBoxS.l0, rd_T25, getD_nat xs _ i hi, e, bS]
     rw [if_pos (by omega), if_pos (by omega), w64s i (by omega)]
    by_cases hn : z < 0
    ·exact .inl ⟨-1, ⟨K, fun k hk => by rw [e k hk, if_pos hn]⟩, trivial⟩
    ·exact .inr ⟨z, ⟨K, fun k hk => by rw [e k hk, if_neg hn]⟩, fun _ _ => trivial⟩)
   (fun s => ⟨s, ⟨0, fun k _ => by simp only [laws_szBoxS.l0]; rw [if_neg (by omega)]⟩, trivial⟩) xs.length 0 (wrap64 (n - (xs.length : Int))) (by omega)
  exact ⟨z, Ev.congr (fun k => by simp only [laws_szBoxS.f]; rw [if_neg h0]; rfl) hz⟩
/-- A box has a name. -/
def nmB (s : ByteArray) (y : S33) : Bool := y.f0.toList == s.toList
theorem nmB_iff (s : ByteArray) (y : S33) : nmB s y = true ↔ y.f0 = s := by
 unfold nmB
 rw [beq_iff_eq, toList_iff]
/-- Right boxes behind others. -/
def storesR : List S33 → List S33 → Bool
 | _, [] => true
 | p, b :: l => boxR b.f0 b.f1 b.f2 b.f3 b.f4 && decide (b.f1 = (p.length : Int) + 1) && !(p.any (nmB b.f0)) && storesR (p ++ [b]) l
/-- A right store. -/
def storeR (l : List S33) : Bool := decide (l.length ≤ 4) && storesR [] l
theorem find_l0 (l : List S33) (s : ByteArray) (hl : l.length ≤ 4611686018427387904) : ∀ (d i : Nat), i + d = l.length → (∀ j, j < i → nmB s (l.getD j z33) = false) → Ev (fun k => spec_l09Find.l0 k l s (i : Int)) (idxOf (nmB s) l) := by
 intro d
 induction d with
 | zero =>
  intro i hi hn
  rw [idxOf_miss (nmB s) l z33 (fun j hj => hn j (by omega))]
  refine Ev.step (f := fun _ => some _) (fun k => ?_) (Ev.now _)
  simp only [spec_l09Find.l0]
  rw [if_neg (by omega)]
 | succ d ih =>
  intro i hi hn
  have hlt : i < l.length := by omega
  have hg : l.getD i z33 = l[i]'hlt := by rw [List.getD_eq_getElem?_getD, List.getElem?_eq_getElem hlt]; rfl
  have e : ∀ k, spec_l09Find.l0 (k + 1) l s (i : Int) = if (l[i]'hlt).f0 = s then some (i : Int) else spec_l09Find.l0 k l s ((i + 1 : Nat) : Int) := fun k => by
   simp only [spec_l09Find.l0, rd_T33, getD_nat l _ i hlt, toList_iff]
   rw [if_pos (by omega), if_pos (by omega), w64s i (by omega)]
  by_cases hx : (l[i]'hlt).f0 = s
  ·rw [idxOf_hit (nmB s) l z33 i hlt (by rw [hg, nmB_iff]; exact hx) hn]
   exact Ev.step (f := fun _ => some _) (fun k => by rw [e, if_pos hx]) (Ev.now _)
  ·refine Ev.step (f := fun k => spec_l09Find.l0 k l s ((i + 1 : Nat) : Int)) (fun k => by rw [e, if_neg hx]) (ih (i + 1) (by omega) (fun j hj => ?_))
   by_cases hji : j = i
   ·subst hji
    rw [hg]
    cases hb : nmB s (l[j]'hlt) with
    | false => rfl
    | true => exact absurd ((nmB_iff _ _).1 hb) hx
   ·exact hn j (by omega)
theorem find_ev (l : List S33) (s : ByteArray) (hl : l.length ≤ 4611686018427387904) : Ev (fun k => spec_l09Find.f k l s) (idxOf (nmB s) l) := find_l0 l s hl l.length 0 (by omega) (fun j hj => absurd hj (Nat.not_lt_zero _))
theorem boxIndex_eq (l : List S33) (s : ByteArray) (hl : l.length ≤ 4611686018427387904) : impl_boxIndex.f l s = some (idxOf (nmB s) l) := by
 unfold impl_boxIndex.f
 rw [if_pos (by omega)]
 rfl
theorem idx_first {α : Type} (p : α → Bool) (l : List α) (i : Nat) (hi : i < l.length) (hp : p (l[i]'hi) = true) : decide (idxOf p l = (i : Int)) = !((l.take i).any p) := by
 cases ha : (l.take i).any p with
 | false =>
  have hn : ∀ j (hj : j < i), p (l[j]'(by omega)) = false := fun j hj => by
   have := List.any_eq_false.1 ha (l[j]'(by omega)) (by
    rw [List.mem_take_iff_getElem]
    exact ⟨j, by omega, rfl⟩)
   simpa using this
  have h2 : l.findIdx? p = some i := by
   rw [List.findIdx?_eq_some_iff_getElem]
   exact ⟨hi, hp, fun j hj => by simp [hn j hj]⟩
  simp [idxOf, h2]
 | true =>
  obtain ⟨x, hx, hpx⟩ := List.any_eq_true.1 ha
  obtain ⟨j, hj, rfl⟩ := List.mem_take_iff_getElem.1 hx
  have : ¬ idxOf p l = (i : Int) := by
   intro h
   unfold idxOf at h
   cases hf : l.findIdx? p with
   | none => rw [hf] at h; simp only at h; omega
   | some m =>
    rw [hf] at h
    simp only at h
    obtain rfl : m = i := by omega
    rw [List.findIdx?_eq_some_iff_getElem] at hf
    obtain ⟨_, _, h3⟩ := hf
    exact absurd hpx (by simpa using h3 j (by omega))
  simp [this]
theorem specStore_l0 (l : List S33) (hl : l.length ≤ 4) : ∀ (d i : Nat), i + d = l.length → Ev (fun k => spec_StoreOK.l0 k l (i : Int)) (storesR (l.take i) (l.drop i)) := by
 intro d
 induction d with
 | zero =>
  intro i hi
  rw [List.drop_eq_nil_of_le (by omega)]
  refine Ev.step (f := fun _ => some _) (fun k => ?_) (Ev.now _)
  simp only [spec_StoreOK.l0]
  rw [if_neg (by omega)]
  rfl
 | succ d ih =>
  intro i hi
  have hlt : i < l.length := by omega
  have hti : (l.take i).length = i := by rw [List.length_take]; omega
  obtain ⟨K1, h1⟩ := specBox_ev (l[i]'hlt).f0 (l[i]'hlt).f1 (l[i]'hlt).f2 (l[i]'hlt).f3 (l[i]'hlt).f4
  obtain ⟨K2, h2⟩ := find_ev (l.take i) (l[i]'hlt).f0 (by omega)
  obtain ⟨K3, h3⟩ := ih (i + 1) (by omega)
  have ht : l.take (i + 1) = l.take i ++ [l[i]'hlt] := by rw [List.take_add_one, List.getElem?_eq_getElem hlt]; rfl
  rw [ht] at h3
  rw [List.drop_eq_getElem_cons hlt]
  simp only [storesR, hti, ← idxOf_any]
  refine ⟨K1 + K2 + K3 + 1, fun k hk => ?_⟩
  obtain ⟨m, rfl⟩ : ∃ m, k = m + 1 := ⟨k - 1, by omega⟩
  have e1 := h1 m (by omega)
  have e2 := h2 m (by omega)
  have e3 := h3 m (by omega)
  simp only at e1 e2 e3
  simp only [spec_StoreOK.l0, rd_T33, getD_nat l _ i hlt, e1, bS]
  simp only [Int.toNat_natCast, e2, bS]
  rw [if_pos (by omega), if_pos (by omega), w64s i (by omega), e3]
  cases boxR (l[i]'hlt).f0 (l[i]'hlt).f1 (l[i]'hlt).f2 (l[i]'hlt).f3 (l[i]'hlt).f4 with
  | false => rfl
  | true =>
   rw [if_pos rfl]
   by_cases c1 : (l[i]'hlt).f1 = (i : Int) + 1
   ·rw [if_pos (by rw [c1]; rfl), if_pos (by omega), decide_eq_true c1]
    by_cases c2 : 0 ≤ idxOf (nmB (l[i]'hlt).f0) (l.take i)
    ·rw [if_pos c2, decide_eq_true c2]; rfl
    ·rw [if_neg c2, decide_eq_false c2]; rfl
   ·rw [if_neg (fun h => c1 (by rw [h]; rfl)), decide_eq_false c1]; rfl
theorem implStore_l0 (l : List S33) (hl : l.length ≤ 4) : ∀ (d i : Nat), i + d = l.length → Ev (fun k => impl_StoreOK.l0 k l l (l.length : Int) (i : Int)) (storesR (l.take i) (l.drop i)) := by
 intro d
 induction d with
 | zero =>
  intro i hi
  rw [List.drop_eq_nil_of_le (by omega)]
  refine Ev.step (f := fun _ => some _) (fun k => ?_) (Ev.now _)
  simp only [impl_StoreOK.l0]
  rw [if_neg (by omega)]
  rfl
 | succ d ih =>
  intro i hi
  have hlt : i < l.length := by omega
  have hti : (l.take i).length = i := by rw [List.length_take]; omega
  obtain ⟨K1, h1⟩ := implBox_ev (l[i]'hlt).f0 (l[i]'hlt).f1 (l[i]'hlt).f2 (l[i]'hlt).f3 (l[i]'hlt).f4
  obtain ⟨K3, h3⟩ := ih (i + 1) (by omega)
  have ht : l.take (i + 1) = l.take i ++ [l[i]'hlt] := by rw [List.take_add_one, List.getElem?_eq_getElem hlt]; rfl
  rw [ht] at h3
  rw [List.drop_eq_getElem_cons hlt]
  have hf := idx_first (nmB (l[i]'hlt).f0) l i hlt ((nmB_iff _ _).2 rfl)
  simp only [storesR, hti, ← hf]
  refine ⟨K1 + K3 + 1, fun k hk => ?_⟩
  obtain ⟨m, rfl⟩ : ∃ m, k = m + 1 := ⟨k - 1, by omega⟩
  have e1 := h1 m (by omega)
  have e3 := h3 m (by omega)
  simp only at e1 e3
  simp only [impl_StoreOK.l0, rd_T33, getD_nat l _ i hlt, e1, boxIndex_eq l _ (show l.length ≤ 4611686018427387904 by omega), bS]
  rw [if_pos (by omega), if_pos (by omega), if_pos (by omega), w64s i (by omega), e3]
  cases boxR (l[i]'hlt).f0 (l[i]'hlt).f1 (l[i]'hlt).f2 (l[i]'hlt).f3 (l[i]'hlt).f4 with
  | false => rfl
  | true =>
   rw [if_pos rfl]
   by_cases c1 : (l[i]'hlt).f1 = (i : Int) + 1
   ·rw [if_pos (by rw [c1]; rfl), decide_eq_true c1]
    by_cases c2 : idxOf (nmB (l[i]'hlt).f0) l = (i : Int)
    ·rw [if_pos c2, decide_eq_true c2]; rfl
    ·rw [if_neg c2, decide_eq_false c2]; rfl
   ·rw [if_neg (fun h => c1 (by rw [h]; rfl)), decide_eq_false c1]; rfl
theorem specStore_ev (l : List S33) : Ev (fun k => spec_StoreOK.f k l) (storeR l) := by
 unfold storeR
 by_cases h : l.length ≤ 4
 ·rw [decide_eq_true h, Bool.true_and]
  refine Ev.congr (fun k => ?_) (specStore_l0 l h l.length 0 (by omega))
  simp only [spec_StoreOK.f]
  rw [if_neg (by omega), if_neg (by omega)]
  rfl
 ·rw [decide_eq_false h, Bool.false_and]
  refine ⟨0, fun k _ => ?_⟩
  simp only [spec_StoreOK.f]
  by_cases h2 : (l.length : Int) > 4096
  ·rw [if_pos h2]
  ·rw [if_neg h2, if_pos (by omega)]
theorem implStore_ev (l : List S33) : Ev (fun k => impl_StoreOK.f k l) (storeR l) := by
 unfold storeR
 by_cases h : l.length ≤ 4
 ·rw [decide_eq_true h, Bool.true_and]
  refine Ev.congr (fun k => ?_) (implStore_l0 l h l.length 0 (by omega))
  simp only [impl_StoreOK.f]
  rw [if_neg (by omega)]
  rfl
 ·rw [decide_eq_false h, Bool.false_and]
  refine ⟨0, fun k _ => ?_⟩
  simp only [impl_StoreOK.f]
  rw [if_pos (by omega)]
end Go.Proofs.Ytjaedjcdgeikpaa.P
/- Lemmas of mine: two stores, box by box, mail by mail: the two SameStore tell the same. Plain. -/
set_option linter.unusedVariables false
set_option linter.unusedSimpArgs false
namespace Go.Proofs.Ytjaedjcdgeikpaa.P
open Go.RowKit Go.Proofs.YtjaedjcdgeikpaaW.PrintWords
/-- From place i on, d places: all are told true. -/
def allB (p : Nat → Bool) : Nat → Nat → Bool
 | _, 0 => true
 | i, d + 1 => p i && allB p (i + 1) d
theorem all_loop (F : Nat → Int → Option Bool) (n : Nat) (p : Nat → Bool) (t : Bool) (hs : ∀ i, i < n → ∃ K, ∀ k, K ≤ k → F (k + 1) (i : Int) = if p i = true then F k ((i + 1 : Nat) : Int) else some false) (he : Ev (fun k => F k (n : Int)) t) : ∀ d i, i + d = n → Ev (fun k => F k (i : Int)) (allB p i d && t) := by
 intro d
 induction d with
 | zero =>
  intro i hi
  obtain rfl : i = n := by omega
  exact he
 | succ d ih =>
  intro i hi
  obtain ⟨K1, h1⟩ := hs i (by omega)
  obtain ⟨K2, h2⟩ := ih (i + 1) (by omega)
  refine ⟨K1 + K2 + 1, fun k hk => ?_⟩
  obtain ⟨m, rfl⟩ : ∃ m, k = m + 1 := ⟨k - 1, by omega⟩
  have e1 := h1 m (by omega)
  have e2 := h2 m (by omega)
  simp only at e2
  simp only [allB]
  rw [e1]
  cases p i with
  | true => rw [if_pos rfl, e2]; rfl
  | false => rfl
/-- Two mails are the same. -/
def stE (x y : S28) : Bool := (x.f0 == y.f0) && ((x.f1 == y.f1) && (x.f2.toList == y.f2.toList))
theorem stE_ite {α : Type} (x y : S28) (A B : α) : (if (!((x.f0) == (y.f0)) || (!((x.f1) == (y.f1)) || (!((((x.f2).toList) == ((y.f2).toList)))))) = true then B else A) = if stE x y = true then A else B := by
 unfold stE
 cases (x.f0 == y.f0) <;> cases (x.f1 == y.f1) <;> cases (x.f2.toList == y.f2.toList) <;> rfl
def stP (ms ns : List S28) (j : Nat) : Bool := stE (ms.getD j z28) (ns.getD j z28)
def txP (ks js : List ByteArray) (j : Nat) : Bool := decide ((ks.getD j ByteArray.empty).toList = (js.getD j ByteArray.empty).toList)
/-- Two boxes are the same. -/
def boxE (x y : S33) : Bool :=
 decide (x.f0.toList = y.f0.toList) && (decide (x.f1 = y.f1) && (decide (x.f2 = y.f2) && (decide (x.f3.length = y.f3.length) && (decide (x.f4.length = y.f4.length) && (allB (stP x.f3 y.f3) 0 x.f3.length && allB (txP x.f4 y.f4) 0 x.f4.length)))))
theorem rd_nat (l : List S28) (i : Nat) : rd_T28 l (i : Int) = l.getD i z28 := by simp only [rd_T28, Int.toNat_natCast]
theorem rdB_nat (l : List S33) (i : Nat) : rd_T33 l (i : Int) = l.getD i z33 := by simp only [rd_T33, Int.toNat_natCast]
theorem rdS_nat (l : List ByteArray) (i : Nat) : rdOf ByteArray.empty l (i : Int) = l.getD i ByteArray.empty := by simp only [rdOf, Int.toNat_natCast]
theorem equalM_ev (ms ns : List S28) (hm : ms.length ≤ 4611686018427387904) : Ev (fun k => slices_Equal_Stored.f k ms ns) (decide (ms.length = ns.length) && allB (stP ms ns) 0 ms.length) := by
 by_cases hl : ms.length = ns.length
 ·rw [decide_eq_true hl, Bool.true_and]
  have h := all_loop (fun k i => slices_Equal_Stored.l0 k ms ns (ms.length : Int) i) ms.length (stP ms ns) true (fun i hi => ⟨0, fun k _ => by
   simp only [slices_Equal_Stored.l0, rd_nat]
   rw [if_pos (by omega), if_pos (by omega), if_pos (by omega), if_pos (by omega), w64s i (by omega)]
   exact stE_ite _ _ _ _⟩) (Ev.step (f := fun _ => some _) (fun k => by simp only [slices_Equal_Stored.l0]; rw [if_neg (by omega)]) (Ev.now _)) ms.length 0 (by omega)
  rw [Bool.and_true] at h
  refine Ev.congr (fun k => ?_) h
  simp only [slices_Equal_Stored.f]
  rw [if_pos (by omega)]
  rfl
 ·rw [decide_eq_false hl, Bool.false_and]
  exact ⟨0, fun k _ => by simp only [slices_Equal_Stored.f]; rw [if_neg (by omega)]⟩
theorem equalT_ev (ms ns : List ByteArray) (hm : ms.length ≤ 4611686018427387904) : Ev (fun k => slices_Equal_string.f k ms ns) (decide (ms.length = ns.length) && allB (txP ms ns) 0 ms.length) := by
 by_cases hl : ms.length = ns.length
 ·rw [decide_eq_true hl, Bool.true_and]
  have h := all_loop (fun k i => slices_Equal_string.l0 k ms ns (ms.length : Int) i) ms.length (txP ms ns) true (fun i hi => ⟨0, fun k _ => by
   simp only [slices_Equal_string.l0, rdS_nat, txP, decide_eq_true_eq]
   rw [if_pos (by omega), if_pos (by omega), if_pos (by omega), if_pos (by omega), w64s i (by omega)]⟩) (Ev.step (f := fun _ => some _) (fun k => by simp only [slices_Equal_string.l0]; rw [if_neg (by omega)]) (Ev.now _)) ms.length 0 (by omega)
  rw [Bool.and_true] at h
  refine Ev.congr (fun k => ?_) h
  simp only [slices_Equal_string.f]
  rw [if_pos (by omega)]
  rfl
 ·rw [decide_eq_false hl, Bool.false_and]
  exact ⟨0, fun k _ => by simp only [slices_Equal_string.f]; rw [if_neg (by omega)]⟩
theorem sameL1_ev (x y : S33) (hx : boxB2 x) : Ev (fun k => impl_sameStore_L1.f k x.f0 x.f1 x.f2 x.f3 x.f4 y.f0 y.f1 y.f2 y.f3 y.f4) (boxE x y) := by
 obtain ⟨K1, h1⟩ := equalM_ev x.f3 y.f3 (by have := hx.1; omega)
 obtain ⟨K2, h2⟩ := equalT_ev x.f4 y.f4 (by have := hx.2; omega)
 refine ⟨K1 + K2, fun k hk => ?_⟩
 have e1 := h1 k (by omega)
 have e2 := h2 k (by omega)
 simp only at e1 e2
 simp only [impl_sameStore_L1.f, e1, e2, bS, boxE]
 by_cases c1 : x.f0.toList = y.f0.toList
 ·rw [if_pos c1, decide_eq_true c1]
  by_cases c2 : x.f1 = y.f1
  ·rw [if_pos c2, decide_eq_true c2]
   by_cases c3 : x.f2 = y.f2
   ·rw [if_pos c3, decide_eq_true c3]
    cases decide (x.f3.length = y.f3.length) <;> cases decide (x.f4.length = y.f4.length) <;> cases allB (stP x.f3 y.f3) 0 x.f3.length <;> cases allB (txP x.f4 y.f4) 0 x.f4.length <;> rfl
   ·rw [if_neg c3, decide_eq_false c3]; rfl
  ·rw [if_neg c2, decide_eq_false c2]; rfl
 ·rw [if_neg c1, decide_eq_false c1]; rfl
def bxP (xs ys : List S33) (j : Nat) : Bool := boxE (xs.getD j z33) (ys.getD j z33)
/-- Two stores are the same. -/
def sameR (xs ys : List S33) : Bool := decide (xs.length = ys.length) && allB (bxP xs ys) 0 xs.length
theorem getD_mem' {α : Type} (l : List α) (z : α) (i : Nat) (h : i < l.length) : l.getD i z ∈ l := by
 rw [List.getD_eq_getElem?_getD, List.getElem?_eq_getElem h]
 exact List.getElem_mem h
theorem implSame_ev (xs ys : List S33) (hl : xs.length ≤ 4611686018427387904) (hb : ∀ x ∈ xs, boxB2 x) : Ev (fun k => impl_sameStore.f k xs ys) (sameR xs ys) := by
 suffices h : Ev (fun k => slices_EqualFunc_Box.f k xs ys) (sameR xs ys) by
  obtain ⟨K, hK⟩ := h
  refine ⟨K, fun k hk => ?_⟩
  have e := hK k hk
  simp only at e
  simp only [impl_sameStore.f, e, bS]
 unfold sameR
 by_cases h : xs.length = ys.length
 ·rw [decide_eq_true h, Bool.true_and]
  have hh := all_loop (fun k i => slices_EqualFunc_Box.l0 k ys xs (xs.length : Int) i) xs.length (bxP xs ys) true (fun i hi => by
   obtain ⟨K, hK⟩ := sameL1_ev (xs.getD i z33) (ys.getD i z33) (hb _ (getD_mem' xs _ i hi))
   refine ⟨K, fun k hk => ?_⟩
   have e := hK k hk
   simp only at e
   simp only [slices_EqualFunc_Box.l0, rdB_nat, e, bS]
   rw [if_pos (by omega), if_pos (by omega), if_pos (by omega), if_pos (by omega), w64s i (by omega)]
   rfl) (Ev.step (f := fun _ => some _) (fun k => by simp only [slices_EqualFunc_Box.l0]; rw [if_neg (by omega)]) (Ev.now _)) xs.length 0 (by omega)
  rw [Bool.and_true] at hh
  refine Ev.congr (fun k => ?_) hh
  simp only [slices_EqualFunc_Box.f]
  rw [if_pos (by omega)]
  rfl
 ·rw [decide_eq_false h, Bool.false_and]
  exact ⟨0, fun k _ => by simp only [slices_EqualFunc_Box.f]; rw [if_neg (by omega)]⟩
theorem specTexts_l2 (xs ys : List S33) (i : Int) (x y : S33) (t : Bool) (hx : boxB2 x) (h4 : x.f4.length = y.f4.length) (ht : Ev (fun k => spec_l09Same.l0 k xs ys (wrap64 (i + 1))) t) :
  Ev (fun k => spec_l09Same.l2 k xs ys i 0 x.f0 x.f1 x.f2 x.f3 x.f4 y.f0 y.f1 y.f2 y.f3 y.f4) (allB (txP x.f4 y.f4) 0 x.f4.length && t) := by
 have hb := hx.2
 exact all_loop (fun k j => spec_l09Same.l2 k xs ys i j x.f0 x.f1 x.f2 x.f3 x.f4 y.f0 y.f1 y.f2 y.f3 y.f4) x.f4.length (txP x.f4 y.f4) t (fun j hj => ⟨0, fun k _ => by
  simp only [spec_l09Same.l2, rdS_nat, txP, decide_eq_true_eq]
  rw [if_pos (by omega), if_pos (by omega), if_pos (by omega), w64s j (by omega)]⟩) (Ev.step (f := fun k => spec_l09Same.l0 k xs ys (wrap64 (i + 1))) (fun k => by simp only [spec_l09Same.l2]; rw [if_neg (by omega)]) ht) x.f4.length 0 (by omega)
theorem specMails_l1 (xs ys : List S33) (i : Int) (x y : S33) (t : Bool) (hx : boxB2 x) (h3 : x.f3.length = y.f3.length) (h4 : x.f4.length = y.f4.length) (ht : Ev (fun k => spec_l09Same.l0 k xs ys (wrap64 (i + 1))) t) :
  Ev (fun k => spec_l09Same.l1 k xs ys i 0 x.f0 x.f1 x.f2 x.f3 x.f4 y.f0 y.f1 y.f2 y.f3 y.f4) (allB (stP x.f3 y.f3) 0 x.f3.length && (allB (txP x.f4 y.f4) 0 x.f4.length && t)) := by
 have hb := hx.1
 exact all_loop (fun k j => spec_l09Same.l1 k xs ys i j x.f0 x.f1 x.f2 x.f3 x.f4 y.f0 y.f1 y.f2 y.f3 y.f4) x.f3.length (stP x.f3 y.f3) _ (fun j hj => ⟨0, fun k _ => by
  simp only [spec_l09Same.l1, rd_nat]
  rw [if_pos (by omega), if_pos (by omega), if_pos (by omega), w64s j (by omega)]
  exact stE_ite _ _ _ _⟩) (Ev.step (f := fun k => spec_l09Same.l2 k xs ys i 0 x.f0 x.f1 x.f2 x.f3 x.f4 y.f0 y.f1 y.f2 y.f3 y.f4) (fun k => by simp only [spec_l09Same.l1]; rw [if_neg (by omega)]) (specTexts_l2 xs ys i x y t hx h4 ht)) x.f3.length 0 (by omega)
theorem specSame_l0 (xs ys : List S33) (hl : xs.length ≤ 4611686018427387904) (hb : ∀ x ∈ xs, boxB2 x) (he : xs.length = ys.length) : ∀ d i, i + d = xs.length → Ev (fun k => spec_l09Same.l0 k xs ys (i : Int)) (allB (bxP xs ys) i d) := by
 intro d
 induction d with
 | zero =>
  intro i hi
  exact Ev.step (f := fun _ => some _) (fun k => by simp only [spec_l09Same.l0]; rw [if_neg (by omega)]; rfl) (Ev.now _)
 | succ d ih =>
  intro i hi
  have ht := ih (i + 1) (by omega)
  have hx := hb _ (getD_mem' xs z33 i (by omega))
  have hw : wrap64 ((i : Int) + 1) = ((i + 1 : Nat) : Int) := w64s i (by omega)
  simp only [allB, bxP]
  generalize hX : xs.getD i z33 = x at *
  generalize hY : ys.getD i z33 = y
  rw [← hw] at ht
  generalize hT : allB (bxP xs ys) (i + 1) d = t at *
  have e : ∀ k, spec_l09Same.l0 (k + 1) xs ys (i : Int) = if x.f0.toList = y.f0.toList then (if x.f1 = y.f1 then (if x.f2 = y.f2 then (if x.f3.length = y.f3.length then spec_l09Same.j1 k xs ys (i : Int) ((x.f4.length : Int) != (y.f4.length : Int)) x.f0 x.f1 x.f2 x.f3 x.f4 y.f0 y.f1 y.f2 y.f3 y.f4 else spec_l09Same.j1 k xs ys (i : Int) true x.f0 x.f1 x.f2 x.f3 x.f4 y.f0 y.f1 y.f2 y.f3 y.f4) else spec_l09Same.j1 k xs ys (i : Int) true x.f0 x.f1 x.f2 x.f3 x.f4 y.f0 y.f1 y.f2 y.f3 y.f4) else spec_l09Same.j1 k xs ys (i : Int) true x.f0 x.f1 x.f2 x.f3 x.f4 y.f0 y.f1 y.f2 y.f3 y.f4) else spec_l09Same.j1 k xs ys (i : Int) true x.f0 x.f1 x.f2 x.f3 x.f4 y.f0 y.f1 y.f2 y.f3 y.f4 := fun k => by
   simp only [spec_l09Same.l0, rdB_nat, hX, hY, Int.ofNat_inj]
   rw [if_pos (by omega), if_pos (by omega), if_pos (by omega)]
  have ej : Ev (fun k => spec_l09Same.j1 k xs ys (i : Int) true x.f0 x.f1 x.f2 x.f3 x.f4 y.f0 y.f1 y.f2 y.f3 y.f4) false :=
   Ev.step (f := fun _ => some _) (fun k => by simp only [spec_l09Same.j1]; exact if_pos trivial) (Ev.now _)
  unfold boxE
  by_cases c1 : x.f0.toList = y.f0.toList
  ·by_cases c2 : x.f1 = y.f1
   ·by_cases c3 : x.f2 = y.f2
    ·by_cases c4 : x.f3.length = y.f3.length
     ·by_cases c5 : x.f4.length = y.f4.length
      ·have hj : ((x.f4.length : Int) != (y.f4.length : Int)) = false := by rw [c5]; simp
       rw [decide_eq_true c1, decide_eq_true c2, decide_eq_true c3, decide_eq_true c4, decide_eq_true c5]
       simp only [Bool.true_and, Bool.and_assoc]
       refine Ev.step (f := fun k => spec_l09Same.j1 k xs ys (i : Int) false x.f0 x.f1 x.f2 x.f3 x.f4 y.f0 y.f1 y.f2 y.f3 y.f4) (fun k => by rw [e, if_pos c1, if_pos c2, if_pos c3, if_pos c4, hj]) ?_
       refine Ev.step (f := fun k => spec_l09Same.l1 k xs ys (i : Int) 0 x.f0 x.f1 x.f2 x.f3 x.f4 y.f0 y.f1 y.f2 y.f3 y.f4) (fun k => by simp only [spec_l09Same.j1]; rw [if_neg (by decide)]) ?_
       exact specMails_l1 xs ys (i : Int) x y t hx c4 c5 ht
      ·have hj : ((x.f4.length : Int) != (y.f4.length : Int)) = true := by simp; omega
       rw [decide_eq_false c5]
       simp only [Bool.false_and, Bool.and_false]
       exact Ev.step (f := fun k => spec_l09Same.j1 k xs ys (i : Int) true x.f0 x.f1 x.f2 x.f3 x.f4 y.f0 y.f1 y.f2 y.f3 y.f4) (fun k => by rw [e, if_pos c1, if_pos c2, if_pos c3, if_pos c4, hj]) ej
     ·rw [decide_eq_false c4]
      simp only [Bool.false_and, Bool.and_false]
      exact Ev.step (f := fun k => spec_l09Same.j1 k xs ys (i : Int) true x.f0 x.f1 x.f2 x.f3 x.f4 y.f0 y.f1 y.f2 y.f3 y.f4) (fun k => by rw [e, if_pos c1, if_pos c2, if_pos c3, if_neg c4]) ej
    ·rw [decide_eq_false c3]
     simp only [Bool.false_and, Bool.and_false]
     exact Ev.step (f := fun k => spec_l09Same.j1 k xs ys (i : Int) true x.f0 x.f1 x.f2 x.f3 x.f4 y.f0 y.f1 y.f2 y.f3 y.f4) (fun k => by rw [e, if_pos c1, if_pos c2, if_neg c3]) ej
   ·rw [decide_eq_false c2]
    simp only [Bool.false_and, Bool.and_false]
    exact Ev.step (f := fun k => spec_l09Same.j1 k xs ys (i : Int) true x.f0 x.f1 x.f2 x.f3 x.f4 y.f0 y.f1 y.f2 y.f3 y.f4) (fun k => by rw [e, if_pos c1, if_neg c2]) ej
  ·rw [decide_eq_false c1]
   simp only [Bool.false_and, Bool.and_false]
   exact Ev.step (f := fun k => spec_l09Same.j1 k xs ys (i : Int) true x.f0 x.f1 x.f2 x.f3 x.f4 y.f0 y.f1 y.f2 y.f3 y.f4) (fun k => by rw [e, if_neg c1]) ej
theorem specSame_ev (xs ys : List S33) (hl : xs.length ≤ 4611686018427387904) (hb : ∀ x ∈ xs, boxB2 x) : Ev (fun k => spec_l09Same.f k xs ys) (sameR xs ys) := by
 unfold sameR
 by_cases h : xs.length = ys.length
 ·rw [decide_eq_true h, Bool.true_and]
  refine Ev.congr (fun k => ?_) (specSame_l0 xs ys hl hb h xs.length 0 (by omega))
  simp only [spec_l09Same.f]
  rw [if_pos (by omega)]
  rfl
 ·rw [decide_eq_false h, Bool.false_and]
  exact ⟨0, fun k _ => by simp only [spec_l09Same.f]; rw [if_neg (by omega)]⟩
theorem code_ev (l : List S33) (h : l.length ≤ 4096) : Ev (fun k => spec_l09Code.f k l) (if storeR l = true then 0 else 1) := by
 obtain ⟨K, hK⟩ := specStore_ev l
 refine ⟨K, fun k hk => ?_⟩
 have e := hK k hk
 simp only at e
 simp only [spec_l09Code.f, e, bS]
 rw [if_neg (by omega)]
 split <;> rfl
def sameO (a b : List S33) : Bool × Int := if a.length > 4096 ∨ b.length > 4096 then (false, 2) else if storeR a = true ∧ storeR b = true then (sameR a b, 0) else (false, 1)
theorem implSameO_ev (a b : List S33) (hb : ∀ x ∈ a, boxB2 x) : Ev (fun k => impl_SameStore.f k a b) (sameO a b) := by
 unfold sameO
 by_cases hl : a.length > 4096 ∨ b.length > 4096
 ·rw [if_pos hl]
  refine Ev.congr (f := fun k => impl_SameStore.j0 k a b true) (fun k => ?_) (Ev.step (f := fun _ => some _) (fun k => by simp only [impl_SameStore.j0]; exact if_pos trivial) (Ev.now _))
  simp only [impl_SameStore.f]
  by_cases h1 : a.length > 4096
  ·rw [if_pos (by omega)]
  ·rw [if_neg (by omega), decide_eq_true (show (b.length : Int) > 4096 by omega)]
 ·rw [if_neg hl]
  have e0 : ∀ k, impl_SameStore.f k a b = impl_SameStore.j0 k a b false := fun k => by
   simp only [impl_SameStore.f]
   rw [if_neg (by omega), decide_eq_false (show ¬ (b.length : Int) > 4096 by omega)]
  obtain ⟨K1, h1⟩ := implStore_ev a
  obtain ⟨K2, h2⟩ := implStore_ev b
  obtain ⟨K3, h3⟩ := implSame_ev a b (by omega) hb
  refine ⟨K1 + K2 + K3 + 1, fun k hk => ?_⟩
  obtain ⟨m, rfl⟩ : ∃ m, k = m + 1 := ⟨k - 1, by omega⟩
  have e1 := h1 m (by omega)
  have e2 := h2 m (by omega)
  have e3 := h3 m (by omega)
  simp only at e1 e2 e3
  simp only [e0, impl_SameStore.j0, e1, e2, e3, bS]
  cases storeR a <;> cases storeR b <;> rfl
theorem specSameO_ev (a b : List S33) (hb : ∀ x ∈ a, boxB2 x) : Ev (fun k => spec_SameStore.f k a b) (sameO a b) := by
 unfold sameO
 by_cases hl : a.length > 4096 ∨ b.length > 4096
 ·rw [if_pos hl]
  refine Ev.congr (f := fun k => spec_SameStore.j0 k a b true) (fun k => ?_) (Ev.step (f := fun _ => some _) (fun k => by simp only [spec_SameStore.j0]; exact if_pos trivial) (Ev.now _))
  simp only [spec_SameStore.f]
  by_cases h1 : a.length > 4096
  ·rw [if_pos (by omega)]
  ·rw [if_neg (by omega), decide_eq_true (show (b.length : Int) > 4096 by omega)]
 ·rw [if_neg hl]
  have e0 : ∀ k, spec_SameStore.f k a b = spec_SameStore.j0 k a b false := fun k => by
   simp only [spec_SameStore.f]
   rw [if_neg (by omega), decide_eq_false (show ¬ (b.length : Int) > 4096 by omega)]
  obtain ⟨K1, h1⟩ := code_ev a (by omega)
  obtain ⟨K2, h2⟩ := code_ev b (by omega)
  obtain ⟨K3, h3⟩ := specSame_ev a b (by omega) hb
  refine ⟨K1 + K2 + K3 + 1, fun k hk => ?_⟩
  obtain ⟨m, rfl⟩ : ∃ m, k = m + 1 := ⟨k - 1, by omega⟩
  have e1 := h1 m (by omega)
  have e2 := h2 m (by omega)
  have e3 := h3 m (by omega)
  simp only at e1 e2 e3
  simp only [e0, spec_SameStore.j0, e1, e2, e3, bS]
  cases storeR a <;> cases storeR b <;> rfl
end Go.Proofs.Ytjaedjcdgeikpaa.P
/- The pure statement of the law FnExactSameStore: the two SameStore tell the same. No condition. -/
set_option linter.unusedVariables false
set_option linter.unusedSimpArgs false
namespace Go.Proofs.Ytjaedjcdgeikpaa.P
open Go.RowKit Go.Proofs.YtjaedjcdgeikpaaW.PrintWords
theorem boxB_okS {x : S25} (h : ok25 x) : boxB x := by
 obtain ⟨_, _, _, ⟨_, hl, _⟩, _, hl2, _⟩ := h
 exact ⟨by omega, by omega⟩
end Go.Proofs.Ytjaedjcdgeikpaa.P
namespace Go.Proofs.Ytjaedjcdgeikpaa.Pure
open Go.RowKit Go.Proofs.Ytjaedjcdgeikpaa.P Go.Proofs.YtjaedjcdgeikpaaW.PrintWords
theorem FnExactSameStore : laws_FnExactSameStore.Pure := by
 intro a b ha hb
 obtain ⟨_, hla, hya⟩ := ha
 obtain ⟨_, hlb, hyb⟩ := hb
 have ha2 : ∀ x ∈ a, boxB x := fun x hx => boxB_okS (hya x hx)
 have hb2 : ∀ x ∈ b, boxB x := fun x hx => boxB_okS (hyb x hx)
 obtain ⟨z, K0, h0⟩ := szBoxS_some a (by omega) ha2 1048576
 obtain ⟨z2, L0, i0⟩ := szBoxS_some b (by omega) hb2 z
 obtain ⟨K1, h1⟩ := toBoxS_ev a (by omega) ha2
 obtain ⟨L1, i1⟩ := toBoxS_ev b (by omega) hb2
 obtain ⟨K2, h2⟩ := specSameO_ev (a.map bxM) (b.map bxM) (boxB_map ha2)
 obtain ⟨K3, h3⟩ := implSameO_ev (a.map bxM) (b.map bxM) (boxB_map ha2)
 obtain ⟨K4, h4⟩ := eqBoxS_self (a.map bxM) (by rw [List.length_map]; omega) (boxB_map ha2)
 obtain ⟨L4, i4⟩ := eqBoxS_self (b.map bxM) (by rw [List.length_map]; omega) (boxB_map hb2)
 obtain ⟨K, hK⟩ : ∃ K, K0 + K1 + K2 + K3 + K4 + L0 + L1 + L4 = K := ⟨_, rfl⟩
 refine ⟨K + 1, ?_⟩
 have e0 := h0 (K + 1) (by omega)
 have j0 := i0 (K + 1) (by omega)
 have e1 := h1 (K + 1) (by omega)
 have j1 := i1 (K + 1) (by omega)
 have e2 := h2 (K + 1) (by omega)
 have e3 := h3 (K + 1) (by omega)
 have f1 := h1 K (by omega)
 have g1 := i1 K (by omega)
 have f4 := h4 K (by omega)
 have g4 := i4 K (by omega)
 simp only at e0 j0 e1 j1 e2 e3 f1 g1 f4 g4
 have ej : laws_FnExactSameStore.j0 (K + 1) a b (a.map bxM) (b.map bxM) false = some true := by
  simp only [laws_FnExactSameStore.j0, f1, g1, f4, g4, bS, if_true]
  rw [if_neg (by decide)]
 generalize sameO (a.map bxM) (b.map bxM) = o at *
 have hb1 : (o.1 != o.1) = false := by simp
 have hb2' : (o.2 != o.2) = false := by simp
 simp only [laws_FnExactSameStore.f, e0, j0, e1, j1, e2, e3, bS, hb1, hb2', ej]
 split
 ·rfl
 ·split
  ·rfl
  ·rw [if_neg (by decide)]
end Go.Proofs.Ytjaedjcdgeikpaa.Pure
/- The row of the law FnExactSameStore: for every input the call returns true and each argument reads behind the call as it read before. No condition of mine. -/
namespace Go.Proofs.Ytjaedjcdgeikpaa.fnExactSameStore
open Go.ChangeShapes Go.WideShapes Go.ChangeAt Go.RowKit Go.Proofs.Ytjaedjcdgeikpaa.P Go.Proofs.YtjaedjcdgeikpaaW.PrintWords
open Go.ChangeMaps (open_string shut_string)
set_option linter.unusedVariables false
theorem own : ownKnob Try.prog.godebug = none := by kernel_rfl
theorem laidOut : laidOutB Try.prog = true := by kernel_rfl
set_option maxRecDepth 100000 in
theorem lifted (os : Os) (started : os.Started) (H : Type) (enc : TypeId × Value → H) :
    ReturnsInHanded {} Try.checked os 5 .any (Rows.fnExactSameStoreSpec.pre6 enc Try.prog Try.f5 Rows.fnExactSameStoreRow.domain false) (Rows.fnExactSameStoreSpec.post enc Try.prog Try.f5 false true false false) := by
  refine returnsInHanded_of_change_sized (C := Try.checked) own started (by kernel_rfl) Try.func5
    (ChangeSpec.witness6 (enc := enc) (C := Try.checked) false ⟨#[], #[.slice none 0 0, .slice none 0 0], []⟩ 8 (by kernel_rfl) (by kernel_rfl) (by kernel_rfl) (by kernel_rfl)) ?_
  intro W base args ds gs before hval0 hW hcnd hsz0 _
  have hsz : (DataW.weightsEach Try.prog (Try.f5.params.toList ++ Rows.fnExactSameStoreSpec.plain.varTypes Try.prog) (ds ++ gs)).all (· ≤ reachBytes) = true := hsz0
  have hval : ∀ (j : Nat) t v, Try.f5.params[j]? = some t → args[j]? = some v → Value.okWide Try.prog W .any base t v := hval0
  have hW' := hW
  obtain ⟨p, q, hA0, hV, rfl, hfz, hnd⟩ := hW
  have hA : DataW.TrodAll enc Try.prog W 0 (fun _ => true) true Try.f5.params.toList args.toList ds p := hA0
  rw [Try.params5] at hA hval hsz
  obtain ⟨v0, vs0, d0, ds0, p0, q0, hargs, rfl, rfl, h0, r0⟩ := trodAll_cons hA
  obtain ⟨v1, vs1, d1, ds1, p1, q1, rfl, rfl, rfl, h1, r1⟩ := trodAll_cons r0
  obtain ⟨rfl, rfl, rfl⟩ := trodAll_nil r1
  obtain rfl : args = #[v0, v1] := by cases args; simp_all
  obtain ⟨rfl, rfl⟩ := trodVars_none hV
  have kk0 := h0
  have lt0 : ∀ x ∈ p0, x.block < W.heap.size := by obtain ⟨m, hm⟩ := kk0; exact DataW.trod_lt m _ _ _ hm
  obtain ⟨x0, hK0, hS0⟩ := Tells.arg (Tells.slice (b := 80) Try.underlying38 (by kernel_rfl) (by kernel_rfl) tells25) h0 hsz (j := 0) (t := 38) rfl rfl
  obtain ⟨a0, len0, cap0, rfl⟩ := okWide_slice Try.underlying38 (hval 0 38 v0 rfl rfl)
  obtain ⟨A0, c0, hq0, hl0, hC0⟩ := hK0
  obtain ⟨rfl, rfl, rfl⟩ : a0 = A0 ∧ len0 = x0.length ∧ cap0 = c0 := by simpa [Value.cells] using hq0
  have kk1 := h1
  have lt1 : ∀ x ∈ p1, x.block < W.heap.size := by obtain ⟨m, hm⟩ := kk1; exact DataW.trod_lt m _ _ _ hm
  obtain ⟨x1, hK1, hS1⟩ := Tells.arg (Tells.slice (b := 80) Try.underlying38 (by kernel_rfl) (by kernel_rfl) tells25) h1 hsz (j := 1) (t := 38) rfl rfl
  obtain ⟨a1, len1, cap1, rfl⟩ := okWide_slice Try.underlying38 (hval 1 38 v1 rfl rfl)
  obtain ⟨A1, c1, hq1, hl1, hC1⟩ := hK1
  obtain ⟨rfl, rfl, rfl⟩ : a1 = A1 ∧ len1 = x1.length ∧ cap1 = c1 := by simpa [Value.cells] using hq1
  clear hA0 hval0 hsz0 hsz
  obtain ⟨k, h⟩ := Pure.FnExactSameStore x0 x1 hS0 hS1
  refine (laws_FnExactSameStore.calls k _ _ x0 _ _ x1 true W hC0 hl0 hC1 hl1 h).mono fun e W' ⟨he, bel0⟩ => ?_
  have bel : Below W.heap.size W W' := bel0
  subst he
  exact ⟨_, rfl, _, _, _, [], _, [], hW', trodAll_mk1 (shut_bool Try.underlying4 _), (trodAll_cons_mk (Below.trod laidOut (by kernel_rfl) (of_decide_eq_true (by kernel_rfl)) kk0 bel lt0) (trodAll_cons_mk (Below.trod laidOut (by kernel_rfl) (of_decide_eq_true (by kernel_rfl)) kk1 bel lt1) trodAll_mk0)), rfl, bel.frame _, fun h => by cases h⟩
theorem over : Rows.fnExactSameStoreRow.holds Try.pinned (OpenSpec.ofChange Rows.fnExactSameStoreSpec) :=
  OpenClaim.holds_of_wide 5 Try.f5 rfl rfl rfl rfl rfl rfl rfl ⟨rfl, rfl, rfl, rfl, rfl⟩ rfl rfl rfl rfl rfl (by kernel_rfl) Try.func5 (by kernel_rfl)
    (of_decide_eq_true (by kernel_rfl)) (by unfold Func.isWrapper; first | (rw [if_pos (by decide +kernel)]; kernel_rfl) | (rw [if_neg (by decide +kernel)]; exact ⟨rfl, rfl⟩))
    (fun os started H enc _ => lifted os started H enc)
theorem proved : Rows.FnExactSameStoreSaid := over
#print axioms proved
end Go.Proofs.Ytjaedjcdgeikpaa.fnExactSameStore
namespace Go.Proofs.Ytjaedjcdgeikpaa
/-- The row, under a short name, for the claim. -/
theorem fnExactSameStore_holds : Rows.FnExactSameStoreSaid := fnExactSameStore.proved
end Go.Proofs.Ytjaedjcdgeikpaa
