/- Part 2 of what the law FnExactBoxAt stands on; the last part ends with the law's row. No condition of mine. -/
import Derived.Test.YtflfbaffapbpiaaMFnExactBoxAt1
import Derived.Shelf.Abstract
namespace Go.Proofs.Ytflfbaffapbpiaa.P
open Go.RowKit Go.Proofs.YtflfbaffapbpiaaW.PrintWords Go.Proofs.YtflfbaffapbpiaaW.PrintLast Go.Proofs.YtflfbaffapbpiaaW.PrintMore
attribute [local go_sem] max2_int min2_int max_two min_two max_three min_three max_four min_four   -- for this text's walks alone
set_option linter.unusedVariables false
set_option linter.unusedSimpArgs false

/-! ### impl_within: function 69 -/
def impl_within.f (a0 : Int) (a1 : Int) (a2 : Int) : Option (Bool) := if a0 ≥ a1 then (some (decide (a0 ≤ a2))) else (some false)
set_option maxHeartbeats 8000000 in
set_option maxRecDepth 100000 in
theorem impl_within.calls (a0 : Int) (a1 : Int) (a2 : Int) (r : Bool) (w : World) (h : impl_within.f a0 a1 a2 = some r) :
  Calls Try.prog 69 #[.int .i64 a0, .int .i64 a1, .int .i64 a2] w fun e w' => e = .returned (.bool r) ∧ Drawn0 w w' := by
 have H : (if a0 ≥ a1 then (some (decide (a0 ≤ a2))) else (some false)) = some r := h
 clear h
 by_cases c4 : a0 ≥ a1
 ·rw [if_pos c4] at H
  have c4b0 : decide (a1 ≤ a0) = true := decide_eq_true c4; clear c4; obtain rfl := Option.some.inj H; go_enter Try.func69, Try.ntmps69
  go_wp2
  go_ret; exact ⟨by first | rfl | (simp; done) | (simp [*]; done), by repeat (first | exact Drawn0.refl _ | apply Drawn0.step)⟩
 ·rw [if_neg c4] at H
  have c4b0 : decide (a1 ≤ a0) = false := decide_eq_false c4; clear c4; obtain rfl := Option.some.inj H; go_enter Try.func69, Try.ntmps69
  go_wp2
  go_ret; exact ⟨by first | rfl | (simp; done) | (simp [*]; done), by repeat (first | exact Drawn0.refl _ | apply Drawn0.step)⟩


/-! ### impl_isDigit: function 114 -/
def impl_isDigit.f (a0 : Int) : Option (Bool) := if a0 ≥ 48 then (some (decide (a0 ≤ 57))) else (some false)
set_option maxHeartbeats 8000000 in
set_option maxRecDepth 100000 in
theorem impl_isDigit.calls (a0 : Int) (r : Bool) (w : World) (h : impl_isDigit.f a0 = some r) :
  Calls Try.prog 114 #[.int .u8 a0] w fun e w' => e = .returned (.bool r) ∧ Drawn0 w w' := by
 have H : (if a0 ≥ 48 then (some (decide (a0 ≤ 57))) else (some false)) = some r := h
 clear h
 by_cases c2 : a0 ≥ 48
 ·rw [if_pos c2] at H
  have c2b0 : decide (48 ≤ a0) = true := decide_eq_true c2; clear c2; obtain rfl := Option.some.inj H; go_enter Try.func114, Try.ntmps114
  go_wp2
  go_ret; exact ⟨by first | rfl | (simp; done) | (simp [*]; done), by repeat (first | exact Drawn0.refl _ | apply Drawn0.step)⟩
 ·rw [if_neg c2] at H
  have c2b0 : decide (48 ≤ a0) = false := decide_eq_false c2; clear c2; obtain rfl := Option.some.inj H; go_enter Try.func114, Try.ntmps114
  go_wp2
  go_ret; exact ⟨by first | rfl | (simp; done) | (simp [*]; done), by repeat (first | exact Drawn0.refl _ | apply Drawn0.step)⟩


/-! ### impl_isLetter: function 115 -/
def impl_isLetter.f (a0 : Int) : Option (Bool) := if a0 ≥ 97 then (if a0 ≤ 122 then (some true) else (if a0 ≥ 65 then (some (decide (a0 ≤ 90))) else (some false))) else (if a0 ≥ 65 then (some (decide (a0 ≤ 90))) else (some false))
set_option maxHeartbeats 8000000 in
set_option maxRecDepth 100000 in
theorem impl_isLetter.calls (a0 : Int) (r : Bool) (w : World) (h : impl_isLetter.f a0 = some r) :
  Calls Try.prog 115 #[.int .u8 a0] w fun e w' => e = .returned (.bool r) ∧ Drawn0 w w' := by
 have H : (if a0 ≥ 97 then (if a0 ≤ 122 then (some true) else (if a0 ≥ 65 then (some (decide (a0 ≤ 90))) else (some false))) else (if a0 ≥ 65 then (some (decide (a0 ≤ 90))) else (some false))) = some r := h
 clear h
 by_cases c2 : a0 ≥ 97
 ·rw [if_pos c2] at H
  have c2b0 : decide (97 ≤ a0) = true := decide_eq_true c2; clear c2; by_cases c3 : a0 ≤ 122
  ·rw [if_pos c3] at H
   have c3b0 : decide (a0 ≤ 122) = true := decide_eq_true c3; clear c3; obtain rfl := Option.some.inj H; go_enter Try.func115, Try.ntmps115
   go_wp2
   go_ret; exact ⟨by first | rfl | (simp; done) | (simp [*]; done), by repeat (first | exact Drawn0.refl _ | apply Drawn0.step)⟩
  ·rw [if_neg c3] at H
   have c3b0 : decide (a0 ≤ 122) = false := decide_eq_false c3; clear c3; by_cases c4 : a0 ≥ 65
   ·rw [if_pos c4] at H
    have c4b0 : decide (65 ≤ a0) = true := decide_eq_true c4; clear c4; obtain rfl := Option.some.inj H; go_enter Try.func115, Try.ntmps115
    go_wp2
    go_ret; exact ⟨by first | rfl | (simp; done) | (simp [*]; done), by repeat (first | exact Drawn0.refl _ | apply Drawn0.step)⟩
   ·rw [if_neg c4] at H
    have c4b0 : decide (65 ≤ a0) = false := decide_eq_false c4; clear c4; obtain rfl := Option.some.inj H; go_enter Try.func115, Try.ntmps115
    go_wp2
    go_ret; exact ⟨by first | rfl | (simp; done) | (simp [*]; done), by repeat (first | exact Drawn0.refl _ | apply Drawn0.step)⟩
 ·rw [if_neg c2] at H
  have c2b0 : decide (97 ≤ a0) = false := decide_eq_false c2; clear c2; by_cases c5 : a0 ≥ 65
  ·rw [if_pos c5] at H
   have c5b0 : decide (65 ≤ a0) = true := decide_eq_true c5; clear c5; obtain rfl := Option.some.inj H; go_enter Try.func115, Try.ntmps115
   go_wp2
   go_ret; exact ⟨by first | rfl | (simp; done) | (simp [*]; done), by repeat (first | exact Drawn0.refl _ | apply Drawn0.step)⟩
  ·rw [if_neg c5] at H
   have c5b0 : decide (65 ≤ a0) = false := decide_eq_false c5; clear c5; obtain rfl := Option.some.inj H; go_enter Try.func115, Try.ntmps115
   go_wp2
   go_ret; exact ⟨by first | rfl | (simp; done) | (simp [*]; done), by repeat (first | exact Drawn0.refl _ | apply Drawn0.step)⟩


/-! ### impl_NameOK: function 74 -/
mutual
def impl_NameOK.j0 : Nat → ByteArray → Bool → Option (Bool)
 | 0, _, _ => none
 | k + 1, x0, x12 => if x12 = true then (some false) else (impl_NameOK.l0 k x0 (x0.size : Int) 0)
def impl_NameOK.l0 : Nat → ByteArray → Int → Int → Option (Bool)
 | 0, _, _, _ => none
 | k + 1, x0, x14, x15 => if x15 < x14 then (if 0 ≤ x15 then (if x15 < (x0.size : Int) then ((impl_isLetter.f (bt x0 x15)).bind fun t103 => (if t103 = true then (impl_NameOK.l0 k x0 x14 (wrap64 (x15 + 1))) else ((impl_isDigit.f (bt x0 x15)).bind fun t104 => (if t104 = true then (impl_NameOK.l0 k x0 x14 (wrap64 (x15 + 1))) else (if (bt x0 x15) = 95 then (impl_NameOK.l0 k x0 x14 (wrap64 (x15 + 1))) else (some false)))))) else (none)) else (none)) else (some true)
end
def impl_NameOK.f (k : Nat) (a0 : ByteArray) : Option (Bool) := (impl_within.f (a0.size : Int) 1 40).bind fun t101 => (if t101 = true then (if 0 < (a0.size : Int) then ((impl_isDigit.f (bt a0 0)).bind fun t102 => (impl_NameOK.j0 k a0 t102)) else (none)) else (impl_NameOK.j0 k a0 true))
theorem impl_NameOK.mono_l : ∀ k, (∀ y0 y1, LeO (impl_NameOK.j0 k y0 y1) (impl_NameOK.j0 (k + 1) y0 y1)) ∧ (∀ y0 y1 y2, LeO (impl_NameOK.l0 k y0 y1 y2) (impl_NameOK.l0 (k + 1) y0 y1 y2))
 | 0 => ⟨fun _ _ r h => by simp [impl_NameOK.j0] at h, fun _ _ _ r h => by simp [impl_NameOK.l0] at h⟩
 | k + 1 => by
  obtain ⟨ih0, ih1⟩ := impl_NameOK.mono_l k; refine ⟨?_, ?_⟩
  ·intro y0 y1
   unfold impl_NameOK.j0
   repeat' first
   | (with_reducible exact ih0 _ _)
   | (with_reducible exact ih1 _ _ _)
   | (with_reducible exact LeO.refl _)
   | (with_reducible exact LeO.none _)
   | (with_reducible refine LeO.ite ?_ ?_)
   | (with_reducible refine LeO.bind ?_ (fun _ => ?_))
   | exact ih0 _ _
   | exact ih1 _ _ _
   | exact LeO.none _
   | refine LeO.ite ?_ ?_
   | refine LeO.bind ?_ (fun _ => ?_)
  ·intro y0 y1 y2
   unfold impl_NameOK.l0
   repeat' first
   | (with_reducible exact ih0 _ _)
   | (with_reducible exact ih1 _ _ _)
   | (with_reducible exact LeO.refl _)
   | (with_reducible exact LeO.none _)
   | (with_reducible refine LeO.ite ?_ ?_)
   | (with_reducible refine LeO.bind ?_ (fun _ => ?_))
   | exact ih0 _ _
   | exact ih1 _ _ _
   | exact LeO.none _
   | refine LeO.ite ?_ ?_
   | refine LeO.bind ?_ (fun _ => ?_)
theorem impl_NameOK.mono : ∀ a0 k, LeO (impl_NameOK.f k a0) (impl_NameOK.f (k + 1) a0) := by
 intro a0 k
 obtain ⟨ih0, ih1⟩ := impl_NameOK.mono_l k
 unfold impl_NameOK.f
 repeat' first
   | (with_reducible exact ih0 _ _)
   | (with_reducible exact ih1 _ _ _)
   | (with_reducible exact LeO.refl _)
   | (with_reducible exact LeO.none _)
   | (with_reducible refine LeO.ite ?_ ?_)
   | (with_reducible refine LeO.bind ?_ (fun _ => ?_))
   | exact ih0 _ _
   | exact ih1 _ _ _
   | exact LeO.none _
   | refine LeO.ite ?_ ?_
   | refine LeO.bind ?_ (fun _ => ?_)
set_option maxHeartbeats 8000000 in
set_option maxRecDepth 100000 in
theorem impl_NameOK.calls (k : Nat) (a0 : ByteArray) (r : Bool) (w : World) (h : impl_NameOK.f k a0 = some r) :
  Calls Try.prog 74 #[.string a0] w fun e w' => e = .returned (.bool r) ∧ Drawn0 w w' := by
 have H : ((impl_within.f (a0.size : Int) 1 40).bind fun t101 => (if t101 = true then (if 0 < (a0.size : Int) then ((impl_isDigit.f (bt a0 0)).bind fun t102 => (impl_NameOK.j0 k a0 t102)) else (none)) else (impl_NameOK.j0 k a0 true))) = some r := h
 clear h
 have HC2 := Aside0.mk H
 clear H
 go_enter Try.func74, Try.ntmps74
 go_upto_region 1 with (fail)
 go_cut [12] (fun v12 wc => ∃ (kq : Nat) (x12_1 : Bool), v12 = .bool x12_1 ∧ Aside0 (impl_NameOK.j0 kq a0 x12_1 = some r) ∧ Aside0 (kq ≤ k) ∧ Drawn0 w wc)
 case first =>
  have H := HC2.out; clear HC2; replace H := Option.bind_eq_some_iff.mp H; obtain ⟨t101, A30, H⟩ := H; have A3 := Aside0.mk A30; clear A30; by_cases c4 : t101 = true
  ·subst c4
   have H1 : (if 0 < (a0.size : Int) then ((impl_isDigit.f (bt a0 0)).bind fun t102 => (impl_NameOK.j0 k a0 t102)) else (none)) = some r := by rw [if_pos rfl] at H; exact H
   clear H; have H := H1; clear H1; by_cases c5 : 0 < (a0.size : Int)
   ·rw [if_pos c5] at H
    have c5b0 : decide (0 < (a0.size : Int)) = true := decide_eq_true c5; have c5b1 : decide (0 < a0.size) = true := decide_eq_true (by omega); clear c5
    (first | rw [c5b0] | (simp only [i64_w, i32_w]; rw [c5b0]) | skip)
    replace H := Option.bind_eq_some_iff.mp H; obtain ⟨t102, A70, H⟩ := H; have A7 := Aside0.mk A70; clear A70; have H' := Aside0.mk H; clear H
    go_wp2_with (first | ((with_reducible refine gate_callee (f := 69) rfl ?_); refine goesL_ (some 6) rfl rfl Try.func69 qK rfl #[.int .i64 (a0.size : Int), .int .i64 1, .int .i64 40] rfl qll_ ?_; (with_reducible refine (impl_within.calls (a0.size : Int) 1 40 true _ A3.out).mono ?_); rintro e w' ⟨rfl, ⟨nd, rfl⟩⟩; refine ⟨_, rfl, ?_⟩; have p6 : 0 ≤ (0 : Int) := (by omega); have q6 : 0 < a0.size := (by have : (0 : Int) < (a0.size : Int) := qd_; omega); have hx6 : ∀ h : 0 < a0.size, ((a0[0]'h).toNat : Int) = bt a0 0 := bt_at a0 0; clear p6; have qi6 : (0 < (a0.size : Int)) = True := eq_true (qd_); replace q6 := eq_true q6) | (go_at_call 114; (with_reducible refine (impl_isDigit.calls (bt a0 0) t102 _ A7.out).mono ?_); rintro e w' ⟨rfl, ⟨nd, rfl⟩⟩))
    go_meet
    case rel => exact ⟨_, (t102), qff_, H', ⟨by first | omega | exact Nat.le_refl _⟩, by repeat (first | exact Drawn0.refl _ | apply Drawn0.step)⟩
   ·rw [if_neg c5] at H
    exact absurd H (by simp)
  ·replace c4 := Bool.eq_false_iff.mpr c4
   subst c4
   have H1 : (impl_NameOK.j0 k a0 true) = some r := by rw [if_neg (show ¬ (false = true) by decide)] at H; exact H
   clear H; have H := H1; clear H1; have H' := Aside0.mk H; clear H
   go_wp2_with (first | ((with_reducible refine gate_callee (f := 69) rfl ?_); refine goesL_ (some 6) rfl rfl Try.func69 qK rfl #[.int .i64 (a0.size : Int), .int .i64 1, .int .i64 40] rfl qll_ ?_; (with_reducible refine (impl_within.calls (a0.size : Int) 1 40 false _ A3.out).mono ?_); rintro e w' ⟨rfl, ⟨nd, rfl⟩⟩; refine ⟨_, rfl, ?_⟩))
   go_meet
   case rel => exact ⟨_, (true), qff_, H', ⟨by first | omega | exact Nat.le_refl _⟩, by repeat (first | exact Drawn0.refl _ | apply Drawn0.step)⟩
 case rest =>
  clear HC2
  try clear p2
  try clear c4
  try clear c5
  try clear c5b0
  try clear c5b1
  try clear c6
  try clear p6
  try clear q6
  try clear hx6
  try clear qi6
  try clear c7
  try clear p6
  try clear q6
  obtain ⟨kq, x12_1, rfl, HA, HJ1, ⟨mc1, rfl⟩⟩ := hcut
  cases kq with
  | zero => exact absurd HA.out (by simp [impl_NameOK.j0])
  | succ kj1 =>
   have H := HA.out; clear HA; simp only [impl_NameOK.j0] at H; by_cases c8 : x12_1 = true
   ·subst c8
    have H1 : (some false) = some r := by rw [if_pos rfl] at H; exact H
    clear H; have H := H1; clear H1; obtain rfl := Option.some.inj H
    go_wp2
    go_ret; exact ⟨by first | rfl | (simp; done) | (simp [*]; done), by repeat (first | exact Drawn0.refl _ | apply Drawn0.step)⟩
   ·replace c8 := Bool.eq_false_iff.mpr c8
    subst c8
    have H1 : (impl_NameOK.l0 kj1 a0 (a0.size : Int) 0) = some r := by rw [if_neg (show ¬ (false = true) by decide)] at H; exact H
    clear H; have H := H1; clear H1; have H' := Aside0.mk H; clear H
    go_wp2
    go_loopg [15] kj1 (fun kq v15 w' => ∃ (x15_2 : Int), v15 = .int .i64 x15_2 ∧ Aside0 (impl_NameOK.l0 kq a0 (a0.size : Int) x15_2 = some r) ∧ Aside0 (kq ≤ kj1) ∧ Drawn0 w w')
    case atStart => exact ⟨(0), qff_, H', ⟨Nat.le_refl _⟩, by repeat (first | exact Drawn0.refl _ | apply Drawn0.step)⟩
    case round =>
     clear H'
     try clear c1
     try clear p2
     try clear c4
     try clear c5
     try clear c5b0
     try clear c5b1
     try clear c6
     try clear p6
     try clear q6
     try clear hx6
     try clear qi6
     try clear c7
     try clear c8
     try clear p2
     try clear p6
     try clear q6
     obtain ⟨x15_2, rfl, HA, HK2, ⟨m2, rfl⟩⟩ := hrel
     cases gk with
     | zero => exact absurd HA.out (by simp [impl_NameOK.l0])
     | succ k2 =>
      have H := HA.out; clear HA; simp only [impl_NameOK.l0] at H; by_cases c9 : x15_2 < (a0.size : Int)
      ·rw [if_pos c9] at H
       have c9b0 : decide (x15_2 < (a0.size : Int)) = true := decide_eq_true c9; clear c9; by_cases c10 : 0 ≤ x15_2
       ·rw [if_pos c10] at H
        have c10b0 : decide (0 ≤ x15_2) = true := decide_eq_true c10; clear c10; by_cases c11 : x15_2 < (a0.size : Int)
        ·rw [if_pos c11] at H
         have c11b0 : decide (x15_2 < (a0.size : Int)) = true := decide_eq_true c11; clear c11; replace H := Option.bind_eq_some_iff.mp H; obtain ⟨t103, A130, H⟩ := H; have A13 := Aside0.mk A130; clear A130; by_cases c14 : t103 = true
         ·subst c14
          have H1 : (impl_NameOK.l0 k2 a0 (a0.size : Int) (wrap64 (x15_2 + 1))) = some r := by rw [if_pos rfl] at H; exact H
          clear H; have H := H1; clear H1; have H' := Aside0.mk H; clear H; have p12 : 0 ≤ (x15_2 : Int) := qd_; have q12 : x15_2 < (a0.size : Int) := qd_; have hx12 := bt_at a0 x15_2; replace p12 := eq_true p12; replace q12 := eq_true q12
          go_wp2_with (first | ((with_reducible refine gate_callee (f := 115) rfl ?_); refine goesL_ (some 21) rfl rfl Try.func115 qK rfl #[.int .u8 (bt a0 x15_2)] rfl qll_ ?_; (with_reducible refine (impl_isLetter.calls (bt a0 x15_2) true _ A13.out).mono ?_); rintro e w' ⟨rfl, ⟨nd, rfl⟩⟩; refine ⟨_, rfl, ?_⟩))
          go_roundg k2
          case measure => have := HJ1.out; have := HK2.out; omega
          case rel => exact ⟨(wrap64 (x15_2 + 1)), qff_, H', ⟨by have := HJ1.out; have := HK2.out; omega⟩, by repeat (first | exact Drawn0.refl _ | apply Drawn0.step)⟩
         ·replace c14 := Bool.eq_false_iff.mpr c14
          subst c14
          have H1 : ((impl_isDigit.f (bt a0 x15_2)).bind fun t104 => (if t104 = true then (impl_NameOK.l0 k2 a0 (a0.size : Int) (wrap64 (x15_2 + 1))) else (if (bt a0 x15_2) = 95 then (impl_NameOK.l0 k2 a0 (a0.size : Int) (wrap64 (x15_2 + 1))) else (some false)))) = some r := by rw [if_neg (show ¬ (false = true) by decide)] at H; exact H
          clear H; have H := H1; clear H1; replace H := Option.bind_eq_some_iff.mp H; obtain ⟨t104, A160, H⟩ := H; have A16 := Aside0.mk A160; clear A160; by_cases c17 : t104 = true
          ·subst c17
           have H1 : (impl_NameOK.l0 k2 a0 (a0.size : Int) (wrap64 (x15_2 + 1))) = some r := by rw [if_pos rfl] at H; exact H
           clear H; have H := H1; clear H1; have H' := Aside0.mk H; clear H; have p12 : 0 ≤ (x15_2 : Int) := qd_; have q12 : x15_2 < (a0.size : Int) := qd_; have hx12 := bt_at a0 x15_2; replace p12 := eq_true p12; replace q12 := eq_true q12
           go_wp2_with (first | ((with_reducible refine gate_callee (f := 115) rfl ?_); refine goesL_ (some 21) rfl rfl Try.func115 qK rfl #[.int .u8 (bt a0 x15_2)] rfl qll_ ?_; (with_reducible refine (impl_isLetter.calls (bt a0 x15_2) false _ A13.out).mono ?_); rintro e w' ⟨rfl, ⟨nd, rfl⟩⟩; refine ⟨_, rfl, ?_⟩; have p15 : 0 ≤ (x15_2 : Int) := qd_; have q15 : x15_2 < (a0.size : Int) := qd_; have hx15 := bt_at a0 x15_2; replace p15 := eq_true p15; replace q15 := eq_true q15) | (go_at_call 114; (with_reducible refine (impl_isDigit.calls (bt a0 x15_2) true _ A16.out).mono ?_); rintro e w' ⟨rfl, ⟨nd, rfl⟩⟩))
           go_roundg k2
           case measure => have := HJ1.out; have := HK2.out; omega
           case rel => exact ⟨(wrap64 (x15_2 + 1)), qff_, H', ⟨by have := HJ1.out; have := HK2.out; omega⟩, by repeat (first | exact Drawn0.refl _ | apply Drawn0.step)⟩
          ·replace c17 := Bool.eq_false_iff.mpr c17
           subst c17
           have H1 : (if (bt a0 x15_2) = 95 then (impl_NameOK.l0 k2 a0 (a0.size : Int) (wrap64 (x15_2 + 1))) else (some false)) = some r := by rw [if_neg (show ¬ (false = true) by decide)] at H; exact H
           clear H; have H := H1; clear H1; by_cases c19 : (bt a0 x15_2) = 95
           ·rw [if_pos c19] at H
            have c19b0 : ((bt a0 x15_2) == 95) = true := beq_iff_eq.mpr c19; have c19b1 : ((bt a0 x15_2) != 95) = false := bne_eq_false_iff_eq.mpr c19; clear c19; have H' := Aside0.mk H; clear H; have p12 : 0 ≤ (x15_2 : Int) := qd_; have q12 : x15_2 < (a0.size : Int) := qd_; have hx12 := bt_at a0 x15_2; replace p12 := eq_true p12; replace q12 := eq_true q12
            go_wp2_with (first | ((with_reducible refine gate_callee (f := 115) rfl ?_); refine goesL_ (some 21) rfl rfl Try.func115 qK rfl #[.int .u8 (bt a0 x15_2)] rfl qll_ ?_; (with_reducible refine (impl_isLetter.calls (bt a0 x15_2) false _ A13.out).mono ?_); rintro e w' ⟨rfl, ⟨nd, rfl⟩⟩; refine ⟨_, rfl, ?_⟩; have p15 : 0 ≤ (x15_2 : Int) := qd_; have q15 : x15_2 < (a0.size : Int) := qd_; have hx15 := bt_at a0 x15_2; replace p15 := eq_true p15; replace q15 := eq_true q15) | (go_at_call 114; (with_reducible refine (impl_isDigit.calls (bt a0 x15_2) false _ A16.out).mono ?_); rintro e w' ⟨rfl, ⟨nd, rfl⟩⟩; have p18 : 0 ≤ (x15_2 : Int) := qd_; have q18 : x15_2 < (a0.size : Int) := qd_; have hx18 := bt_at a0 x15_2; replace p18 := eq_true p18; replace q18 := eq_true q18))
            go_roundg k2
            case measure => have := HJ1.out; have := HK2.out; omega
            case rel => exact ⟨(wrap64 (x15_2 + 1)), qff_, H', ⟨by have := HJ1.out; have := HK2.out; omega⟩, by repeat (first | exact Drawn0.refl _ | apply Drawn0.step)⟩
           ·rw [if_neg c19] at H
            have c19b0 : ((bt a0 x15_2) == 95) = false := beq_eq_false_iff_ne.mpr c19; have c19b1 : ((bt a0 x15_2) != 95) = true := bne_iff_ne.mpr c19; obtain rfl := Option.some.inj H; have p12 : 0 ≤ (x15_2 : Int) := qd_; have q12 : x15_2 < (a0.size : Int) := qd_; have hx12 := bt_at a0 x15_2; replace p12 := eq_true p12; replace q12 := eq_true q12
            go_wp2_with (first | ((with_reducible refine gate_callee (f := 115) rfl ?_); refine goesL_ (some 21) rfl rfl Try.func115 qK rfl #[.int .u8 (bt a0 x15_2)] rfl qll_ ?_; (with_reducible refine (impl_isLetter.calls (bt a0 x15_2) false _ A13.out).mono ?_); rintro e w' ⟨rfl, ⟨nd, rfl⟩⟩; refine ⟨_, rfl, ?_⟩; have p15 : 0 ≤ (x15_2 : Int) := qd_; have q15 : x15_2 < (a0.size : Int) := qd_; have hx15 := bt_at a0 x15_2; replace p15 := eq_true p15; replace q15 := eq_true q15) | (go_at_call 114; (with_reducible refine (impl_isDigit.calls (bt a0 x15_2) false _ A16.out).mono ?_); rintro e w' ⟨rfl, ⟨nd, rfl⟩⟩; have p18 : 0 ≤ (x15_2 : Int) := qd_; have q18 : x15_2 < (a0.size : Int) := qd_; have hx18 := bt_at a0 x15_2; replace p18 := eq_true p18; replace q18 := eq_true q18))
            go_ret; exact ⟨by first | rfl | (simp; done) | (simp [*]; done), by repeat (first | exact Drawn0.refl _ | apply Drawn0.step)⟩
        ·rw [if_neg c11] at H
         exact absurd H (by simp)
       ·rw [if_neg c10] at H
        exact absurd H (by simp)
      ·rw [if_neg c9] at H
       have c9b0 : decide (x15_2 < (a0.size : Int)) = false := decide_eq_false c9; clear c9; obtain rfl := Option.some.inj H
       go_wp2
       go_ret; exact ⟨by first | rfl | (simp; done) | (simp [*]; done), by repeat (first | exact Drawn0.refl _ | apply Drawn0.step)⟩


/-! ### impl_keyOK: function 75 -/
def impl_keyOK.f (a0 : ByteArray) : Option (Bool) := (impl_within.f (a0.size : Int) 1 200).bind fun t101 => (some t101)
set_option maxHeartbeats 8000000 in
set_option maxRecDepth 100000 in
theorem impl_keyOK.calls (a0 : ByteArray) (r : Bool) (w : World) (h : impl_keyOK.f a0 = some r) :
  Calls Try.prog 75 #[.string a0] w fun e w' => e = .returned (.bool r) ∧ Drawn0 w w' := by
 have H : ((impl_within.f (a0.size : Int) 1 200).bind fun t101 => (some t101)) = some r := h
 clear h
 replace H := Option.bind_eq_some_iff.mp H
 obtain ⟨t101, A20, H⟩ := H
 have A2 := Aside0.mk A20
 clear A20
 obtain rfl := Option.some.inj H
 go_enter Try.func75, Try.ntmps75
 go_wp2_with (first | ((with_reducible refine gate_callee (f := 69) rfl ?_); refine goesL_ (some 5) rfl rfl Try.func69 qK rfl #[.int .i64 (a0.size : Int), .int .i64 1, .int .i64 200] rfl qll_ ?_; (with_reducible refine (impl_within.calls (a0.size : Int) 1 200 t101 _ A2.out).mono ?_); rintro e w' ⟨rfl, ⟨nd, rfl⟩⟩; refine ⟨_, rfl, ?_⟩))
 go_ret
 exact ⟨by first | rfl | (simp; done) | (simp [*]; done), by repeat (first | exact Drawn0.refl _ | apply Drawn0.step)⟩


/-! ### slices_Index_string: function 116 -/
def slices_Index_string.l0 : Nat → List ByteArray → ByteArray → Int → Int → Option (Int)
 | 0, _, _, _, _ => none
 | k + 1, x0, x1, x7, x8 => if x8 < x7 then (if 0 ≤ x8 then (if x8 < (x0.length : Int) then (if x1.toList = (rdOf ByteArray.empty x0 x8).toList then (some x8) else (slices_Index_string.l0 k x0 x1 x7 (wrap64 (x8 + 1)))) else (none)) else (none)) else (some (-1))
def slices_Index_string.f (k : Nat) (l0 : List ByteArray) (a1 : ByteArray) : Option (Int) := slices_Index_string.l0 k l0 a1 (l0.length : Int) 0
theorem slices_Index_string.mono_l : ∀ k, (∀ y0 y1 y2 y3, LeO (slices_Index_string.l0 k y0 y1 y2 y3) (slices_Index_string.l0 (k + 1) y0 y1 y2 y3))
 | 0 => fun _ _ _ _ r h => by simp [slices_Index_string.l0] at h
 | k + 1 => by
  have ih0 := slices_Index_string.mono_l k
  ·intro y0 y1 y2 y3
   unfold slices_Index_string.l0
   repeat' first
   | (with_reducible exact ih0 _ _ _ _)
   | (with_reducible exact LeO.refl _)
   | (with_reducible exact LeO.none _)
   | (with_reducible refine LeO.ite ?_ ?_)
   | (with_reducible refine LeO.bind ?_ (fun _ => ?_))
   | exact ih0 _ _ _ _
   | exact LeO.none _
   | refine LeO.ite ?_ ?_
   | refine LeO.bind ?_ (fun _ => ?_)
theorem slices_Index_string.mono : ∀ a0 a1 k, LeO (slices_Index_string.f k a0 a1) (slices_Index_string.f (k + 1) a0 a1) := by
 intro a0 a1 k
 have ih0 := slices_Index_string.mono_l k
 unfold slices_Index_string.f
 repeat' first
   | (with_reducible exact ih0 _ _ _ _)
   | (with_reducible exact LeO.refl _)
   | (with_reducible exact LeO.none _)
   | (with_reducible refine LeO.ite ?_ ?_)
   | (with_reducible refine LeO.bind ?_ (fun _ => ?_))
   | exact ih0 _ _ _ _
   | exact LeO.none _
   | refine LeO.ite ?_ ?_
   | refine LeO.bind ?_ (fun _ => ?_)
set_option maxHeartbeats 8000000 in
set_option maxRecDepth 100000 in
theorem slices_Index_string.calls (k : Nat) (A0 : Option Addr) (c0 : Nat) (l0 : List ByteArray) (a1 : ByteArray) (r : Int) (w : World) (hr0 : Kd.C Kd.string w A0 l0.length l0) (hc0 : l0.length ≤ c0) (h : slices_Index_string.f k l0 a1 = some r) :
  Calls Try.prog 116 #[.slice A0 l0.length c0, .string a1] w fun e w' => e = .returned (.int .i64 r) ∧ Drawn0 w w' := by
 have HR0 := Aside0.mk hr0
 have HC0 := Aside0.mk hc0
 clear hr0 hc0
 have H : (slices_Index_string.l0 k l0 a1 (l0.length : Int) 0) = some r := h
 clear h
 have H' := Aside0.mk H
 clear H
 go_enter Try.func116, Try.ntmps116
 go_wp2
 go_loopg [8] k (fun kq v8 w' => ∃ (x8_1 : Int), v8 = .int .i64 x8_1 ∧ Aside0 (slices_Index_string.l0 kq l0 a1 (l0.length : Int) x8_1 = some r) ∧ Aside0 (kq ≤ k) ∧ Drawn0 w w')
 case atStart => exact ⟨(0), qff_, H', ⟨Nat.le_refl _⟩, by repeat (first | exact Drawn0.refl _ | apply Drawn0.step)⟩
 case round =>
  clear H'
  try clear c1
  try clear p2
  obtain ⟨x8_1, rfl, HA, HK1, ⟨m1, rfl⟩⟩ := hrel
  cases gk with
  | zero => exact absurd HA.out (by simp [slices_Index_string.l0])
  | succ k1 =>
   have H := HA.out; clear HA; simp only [slices_Index_string.l0] at H; by_cases c3 : x8_1 < (l0.length : Int)
   ·rw [if_pos c3] at H
    have c3b0 : decide (x8_1 < (l0.length : Int)) = true := decide_eq_true c3; clear c3; by_cases c4 : 0 ≤ x8_1
    ·rw [if_pos c4] at H
     have c4b0 : decide (0 ≤ x8_1) = true := decide_eq_true c4; clear c4; by_cases c5 : x8_1 < (l0.length : Int)
     ·rw [if_pos c5] at H
      have c5b0 : decide (x8_1 < (l0.length : Int)) = true := decide_eq_true c5; clear c5; by_cases c6 : a1.toList = (rdOf ByteArray.empty l0 x8_1).toList
      ·rw [if_pos c6] at H
       have c6b0 : (a1.toList == (rdOf ByteArray.empty l0 x8_1).toList) = true := beq_iff_eq.mpr c6; have c6b1 : (a1.toList != (rdOf ByteArray.empty l0 x8_1).toList) = false := bne_eq_false_iff_eq.mpr c6; clear c6; obtain rfl := Option.some.inj H; have p101 : 0 ≤ (x8_1 : Int) := qd_; have q101 : x8_1 < (l0.length : Int) := qd_; obtain ⟨ad101, e101, hx101_0⟩ := Kd.at_string HR0.out x8_1 p101 q101; cases e101; replace p101 := eq_true p101; replace q101 := eq_true q101
       go_wp2
       go_ret; exact ⟨by first | rfl | (simp; done) | (simp [*]; done), by repeat (first | exact Drawn0.refl _ | apply Drawn0.step)⟩
      ·rw [if_neg c6] at H
       have c6b0 : (a1.toList == (rdOf ByteArray.empty l0 x8_1).toList) = false := beq_eq_false_iff_ne.mpr c6; have c6b1 : (a1.toList != (rdOf ByteArray.empty l0 x8_1).toList) = true := bne_iff_ne.mpr c6; have H' := Aside0.mk H; clear H; have p101 : 0 ≤ (x8_1 : Int) := qd_; have q101 : x8_1 < (l0.length : Int) := qd_; obtain ⟨ad101, e101, hx101_0⟩ := Kd.at_string HR0.out x8_1 p101 q101; cases e101; replace p101 := eq_true p101; replace q101 := eq_true q101
       go_wp2
       go_roundg k1
       case measure => have := HK1.out; omega
       case rel => exact ⟨(wrap64 (x8_1 + 1)), qff_, H', ⟨by have := HK1.out; omega⟩, by repeat (first | exact Drawn0.refl _ | apply Drawn0.step)⟩
     ·rw [if_neg c5] at H
      exact absurd H (by simp)
    ·rw [if_neg c4] at H
     exact absurd H (by simp)
   ·rw [if_neg c3] at H
    have c3b0 : decide (x8_1 < (l0.length : Int)) = false := decide_eq_false c3; clear c3; obtain rfl := Option.some.inj H
    go_wp2
    go_ret; exact ⟨by first | rfl | (simp; done) | (simp [*]; done), by repeat (first | exact Drawn0.refl _ | apply Drawn0.step)⟩


/-! ### slices_Contains_string: function 76 -/
def slices_Contains_string.f (k : Nat) (l0 : List ByteArray) (a1 : ByteArray) : Option (Bool) := (slices_Index_string.f k l0 a1).bind fun t101 => (some (decide (t101 ≥ 0)))
theorem slices_Contains_string.mono : ∀ a0 a1 k, LeO (slices_Contains_string.f k a0 a1) (slices_Contains_string.f (k + 1) a0 a1) := by
 intro a0 a1 k
 unfold slices_Contains_string.f
 repeat' first
   | (with_reducible exact slices_Index_string.mono _ _ _)
   | (with_reducible exact LeO.refl _)
   | (with_reducible exact LeO.none _)
   | (with_reducible refine LeO.ite ?_ ?_)
   | (with_reducible refine LeO.bind ?_ (fun _ => ?_))
   | exact slices_Index_string.mono _ _ _
   | exact LeO.none _
   | refine LeO.ite ?_ ?_
   | refine LeO.bind ?_ (fun _ => ?_)
set_option maxHeartbeats 8000000 in
set_option maxRecDepth 100000 in
theorem slices_Contains_string.calls (k : Nat) (A0 : Option Addr) (c0 : Nat) (l0 : List ByteArray) (a1 : ByteArray) (r : Bool) (w : World) (hr0 : Kd.C Kd.string w A0 l0.length l0) (hc0 : l0.length ≤ c0) (h : slices_Contains_string.f k l0 a1 = some r) :
  Calls Try.prog 76 #[.slice A0 l0.length c0, .string a1] w fun e w' => e = .returned (.bool r) ∧ Drawn0 w w' := by
 have HR0 := Aside0.mk hr0
 have HC0 := Aside0.mk hc0
 clear hr0 hc0
 have H : ((slices_Index_string.f k l0 a1).bind fun t101 => (some (decide (t101 ≥ 0)))) = some r := h
 clear h
 replace H := Option.bind_eq_some_iff.mp H
 obtain ⟨t101, A30, H⟩ := H
 have A3 := Aside0.mk A30
 clear A30
 obtain rfl := Option.some.inj H
 go_enter Try.func76, Try.ntmps76
 go_wp2_with (first | ((with_reducible refine gate_callee (f := 116) rfl ?_); refine goesL_ (some 7) rfl rfl Try.func116 qK rfl #[.slice A0 l0.length c0, .string a1] rfl qll_ ?_; (with_reducible refine (slices_Index_string.calls k _ _ l0 a1 t101 _ ?side1 ?side2 A3.out).mono ?_); (case side1 => exact qcc_ (HR0.out)); (case side2 => exact HC0.out); rintro e w' ⟨rfl, ⟨nd, rfl⟩⟩; refine ⟨_, rfl, ?_⟩))
 go_ret
 exact ⟨by first | rfl | (simp; done) | (simp [*]; done), by repeat (first | exact Drawn0.refl _ | apply Drawn0.step)⟩


/-! ### impl_BoxOK: function 35 -/
mutual
def impl_BoxOK.j0 : Nat → Bool → ByteArray → Int → Int → List (S68) → List ByteArray → Option (Bool)
 | 0, _, _, _, _, _, _ => none
 | k + 1, x23, x102000, x102001, x102002, x102003, x102004 => if x23 = true then (some false) else (if (x102003.length : Int) > 30 then (impl_BoxOK.j1 k true x102000 x102001 x102002 x102003 x102004) else (if (x102004.length : Int) > 60 then (impl_BoxOK.j1 k true x102000 x102001 x102002 x102003 x102004) else (impl_BoxOK.j1 k ((x102004.length : Int) != (wrap64 (x102002 - 1))) x102000 x102001 x102002 x102003 x102004)))
def impl_BoxOK.j1 : Nat → Bool → ByteArray → Int → Int → List (S68) → List ByteArray → Option (Bool)
 | 0, _, _, _, _, _, _ => none
 | k + 1, x42, x102000, x102001, x102002, x102003, x102004 => if x42 = true then (some false) else (impl_BoxOK.l0 k 0 x102003 (x102003.length : Int) 0 x102000 x102001 x102002 x102003 x102004)
def impl_BoxOK.l0 : Nat → Int → List (S68) → Int → Int → ByteArray → Int → Int → List (S68) → List ByteArray → Option (Bool)
 | 0, _, _, _, _, _, _, _, _, _ => none
 | k + 1, x3, x44, x45, x46, x102000, x102001, x102002, x102003, x102004 => if x46 < x45 then (if 0 ≤ x46 then (if x46 < (x44.length : Int) then ((impl_within.f ((rd_T68 x44 x46).f0) (wrap64 (x3 + 1)) (wrap64 (x102002 - 1))).bind fun t107 => (if t107 = true then ((impl_within.f ((rd_T68 x44 x46).f1) 0 31).bind fun t108 => (if t108 = true then (if (((rd_T68 x44 x46).f2).size : Int) > 4000 then (some false) else (impl_BoxOK.l0 k ((rd_T68 x44 x46).f0) x44 x45 (wrap64 (x46 + 1)) x102000 x102001 x102002 x102003 x102004)) else (some false))) else (some false))) else (none)) else (none)) else (impl_BoxOK.l1 k x102004 (x102004.length : Int) 0 x102000 x102001 x102002 x102003 x102004)
def impl_BoxOK.l1 : Nat → List ByteArray → Int → Int → ByteArray → Int → Int → List (S68) → List ByteArray → Option (Bool)
 | 0, _, _, _, _, _, _, _, _ => none
 | k + 1, x75, x76, x77, x102000, x102001, x102002, x102003, x102004 => if x77 < x76 then (if 0 ≤ x77 then (if x77 < (x75.length : Int) then ((impl_keyOK.f (rdOf ByteArray.empty x75 x77)).bind fun t110 => (if t110 = true then (if x77 ≤ (x102004.length : Int) then ((slices_Contains_string.f k (x102004.take (x77 : Int).toNat) (rdOf ByteArray.empty x75 x77)).bind fun t112 => (if t112 = true then (some false) else (impl_BoxOK.l1 k x75 x76 (wrap64 (x77 + 1)) x102000 x102001 x102002 x102003 x102004))) else (none)) else (some false))) else (none)) else (none)) else (some true)
end
def impl_BoxOK.f (k : Nat) (a0_0 : ByteArray) (a0_1 : Int) (a0_2 : Int) (l0_3 : List (S68)) (l0_4 : List ByteArray) : Option (Bool) := (impl_NameOK.f k a0_0).bind fun t102 => (if t102 = true then ((impl_within.f a0_1 1 1000000).bind fun t103 => (if t103 = true then ((impl_within.f a0_2 1 1001).bind fun t104 => (impl_BoxOK.j0 k (!t104) a0_0 a0_1 a0_2 l0_3 l0_4)) else (impl_BoxOK.j0 k true a0_0 a0_1 a0_2 l0_3 l0_4))) else (impl_BoxOK.j0 k true a0_0 a0_1 a0_2 l0_3 l0_4))
theorem impl_BoxOK.mono_l : ∀ k, (∀ y0 y1 y2 y3 y4 y5, LeO (impl_BoxOK.j0 k y0 y1 y2 y3 y4 y5) (impl_BoxOK.j0 (k + 1) y0 y1 y2 y3 y4 y5)) ∧ (∀ y0 y1 y2 y3 y4 y5, LeO (impl_BoxOK.j1 k y0 y1 y2 y3 y4 y5) (impl_BoxOK.j1 (k + 1) y0 y1 y2 y3 y4 y5)) ∧ (∀ y0 y1 y2 y3 y4 y5 y6 y7 y8, LeO (impl_BoxOK.l0 k y0 y1 y2 y3 y4 y5 y6 y7 y8) (impl_BoxOK.l0 (k + 1) y0 y1 y2 y3 y4 y5 y6 y7 y8)) ∧ (∀ y0 y1 y2 y3 y4 y5 y6 y7, LeO (impl_BoxOK.l1 k y0 y1 y2 y3 y4 y5 y6 y7) (impl_BoxOK.l1 (k + 1) y0 y1 y2 y3 y4 y5 y6 y7))
 | 0 => ⟨fun _ _ _ _ _ _ r h => by simp [impl_BoxOK.j0] at h, fun _ _ _ _ _ _ r h => by simp [impl_BoxOK.j1] at h, fun _ _ _ _ _ _ _ _ _ r h => by simp [impl_BoxOK.l0] at h, fun _ _ _ _ _ _ _ _ r h => by simp [impl_BoxOK.l1] at h⟩
 | k + 1 => by
  obtain ⟨ih0, ih1, ih2, ih3⟩ := impl_BoxOK.mono_l k; refine ⟨?_, ?_, ?_, ?_⟩
  ·intro y0 y1 y2 y3 y4 y5
   unfold impl_BoxOK.j0
   repeat' first
   | (with_reducible exact ih0 _ _ _ _ _ _)
   | (with_reducible exact ih1 _ _ _ _ _ _)
   | (with_reducible exact ih2 _ _ _ _ _ _ _ _ _)
   | (with_reducible exact ih3 _ _ _ _ _ _ _ _)
   | (with_reducible exact impl_NameOK.mono _ _)
   | (with_reducible exact slices_Contains_string.mono _ _ _)
   | (with_reducible exact LeO.refl _)
   | (with_reducible exact LeO.none _)
   | (with_reducible refine LeO.ite ?_ ?_)
   | (with_reducible refine LeO.bind ?_ (fun _ => ?_))
   | exact ih0 _ _ _ _ _ _
   | exact ih1 _ _ _ _ _ _
   | exact ih2 _ _ _ _ _ _ _ _ _
   | exact ih3 _ _ _ _ _ _ _ _
   | exact impl_NameOK.mono _ _
   | exact slices_Contains_string.mono _ _ _
   | exact LeO.none _
   | refine LeO.ite ?_ ?_
   | refine LeO.bind ?_ (fun _ => ?_)
  ·intro y0 y1 y2 y3 y4 y5
   unfold impl_BoxOK.j1
   repeat' first
   | (with_reducible exact ih0 _ _ _ _ _ _)
   | (with_reducible exact ih1 _ _ _ _ _ _)
   | (with_reducible exact ih2 _ _ _ _ _ _ _ _ _)
   | (with_reducible exact ih3 _ _ _ _ _ _ _ _)
   | (with_reducible exact impl_NameOK.mono _ _)
   | (with_reducible exact slices_Contains_string.mono _ _ _)
   | (with_reducible exact LeO.refl _)
   | (with_reducible exact LeO.none _)
   | (with_reducible refine LeO.ite ?_ ?_)
   | (with_reducible refine LeO.bind ?_ (fun _ => ?_))
   | exact ih0 _ _ _ _ _ _
   | exact ih1 _ _ _ _ _ _
   | exact ih2 _ _ _ _ _ _ _ _ _
   | exact ih3 _ _ _ _ _ _ _ _
   | exact impl_NameOK.mono _ _
   | exact slices_Contains_string.mono _ _ _
   | exact LeO.none _
   | refine LeO.ite ?_ ?_
   | refine LeO.bind ?_ (fun _ => ?_)
  ·intro y0 y1 y2 y3 y4 y5 y6 y7 y8
   unfold impl_BoxOK.l0
   repeat' first
   | (with_reducible exact ih0 _ _ _ _ _ _)
   | (with_reducible exact ih1 _ _ _ _ _ _)
   | (with_reducible exact ih2 _ _ _ _ _ _ _ _ _)
   | (with_reducible exact ih3 _ _ _ _ _ _ _ _)
   | (with_reducible exact impl_NameOK.mono _ _)
   | (with_reducible exact slices_Contains_string.mono _ _ _)
   | (with_reducible exact LeO.refl _)
   | (with_reducible exact LeO.none _)
   | (with_reducible refine LeO.ite ?_ ?_)
   | (with_reducible refine LeO.bind ?_ (fun _ => ?_))
   | exact ih0 _ _ _ _ _ _
   | exact ih1 _ _ _ _ _ _
   | exact ih2 _ _ _ _ _ _ _ _ _
   | exact ih3 _ _ _ _ _ _ _ _
   | exact impl_NameOK.mono _ _
   | exact slices_Contains_string.mono _ _ _
   | exact LeO.none _
   | refine LeO.ite ?_ ?_
   | refine LeO.bind ?_ (fun _ => ?_)
  ·intro y0 y1 y2 y3 y4 y5 y6 y7
   unfold impl_BoxOK.l1
   repeat' first
   | (with_reducible exact ih0 _ _ _ _ _ _)
   | (with_reducible exact ih1 _ _ _ _ _ _)
   | (with_reducible exact ih2 _ _ _ _ _ _ _ _ _)
   | (with_reducible exact ih3 _ _ _ _ _ _ _ _)
   | (with_reducible exact impl_NameOK.mono _ _)
   | (with_reducible exact slices_Contains_string.mono _ _ _)
   | (with_reducible exact LeO.refl _)
   | (with_reducible exact LeO.none _)
   | (with_reducible refine LeO.ite ?_ ?_)
   | (with_reducible refine LeO.bind ?_ (fun _ => ?_))
   | exact ih0 _ _ _ _ _ _
   | exact ih1 _ _ _ _ _ _
   | exact ih2 _ _ _ _ _ _ _ _ _
   | exact ih3 _ _ _ _ _ _ _ _
   | exact impl_NameOK.mono _ _
   | exact slices_Contains_string.mono _ _ _
   | exact LeO.none _
   | refine LeO.ite ?_ ?_
   | refine LeO.bind ?_ (fun _ => ?_)
theorem impl_BoxOK.mono : ∀ a0 a1 a2 a3 a4 k, LeO (impl_BoxOK.f k a0 a1 a2 a3 a4) (impl_BoxOK.f (k + 1) a0 a1 a2 a3 a4) := by
 intro a0 a1 a2 a3 a4 k
 obtain ⟨ih0, ih1, ih2, ih3⟩ := impl_BoxOK.mono_l k
 unfold impl_BoxOK.f
 repeat' first
   | (with_reducible exact ih0 _ _ _ _ _ _)
   | (with_reducible exact ih1 _ _ _ _ _ _)
   | (with_reducible exact ih2 _ _ _ _ _ _ _ _ _)
   | (with_reducible exact ih3 _ _ _ _ _ _ _ _)
   | (with_reducible exact impl_NameOK.mono _ _)
   | (with_reducible exact slices_Contains_string.mono _ _ _)
   | (with_reducible exact LeO.refl _)
   | (with_reducible exact LeO.none _)
   | (with_reducible refine LeO.ite ?_ ?_)
   | (with_reducible refine LeO.bind ?_ (fun _ => ?_))
   | exact ih0 _ _ _ _ _ _
   | exact ih1 _ _ _ _ _ _
   | exact ih2 _ _ _ _ _ _ _ _ _
   | exact ih3 _ _ _ _ _ _ _ _
   | exact impl_NameOK.mono _ _
   | exact slices_Contains_string.mono _ _ _
   | exact LeO.none _
   | refine LeO.ite ?_ ?_
   | refine LeO.bind ?_ (fun _ => ?_)
set_option maxHeartbeats 8000000 in
set_option maxRecDepth 100000 in
theorem impl_BoxOK.calls (k : Nat) (a0_0 : ByteArray) (a0_1 : Int) (a0_2 : Int) (A0_3 : Option Addr) (c0_3 : Nat) (l0_3 : List (S68)) (A0_4 : Option Addr) (c0_4 : Nat) (l0_4 : List ByteArray) (r : Bool) (w : World) (hr0_3 : Kd.C k68 w A0_3 l0_3.length l0_3) (hc0_3 : l0_3.length ≤ c0_3) (hr0_4 : Kd.C Kd.string w A0_4 l0_4.length l0_4) (hc0_4 : l0_4.length ≤ c0_4) (h : impl_BoxOK.f k a0_0 a0_1 a0_2 l0_3 l0_4 = some r) :
  Calls Try.prog 35 #[.agg #[.string a0_0, .int .i64 a0_1, .int .i64 a0_2, .slice A0_3 l0_3.length c0_3, .slice A0_4 l0_4.length c0_4]] w fun e w' => e = .returned (.bool r) ∧ Below w.heap.size w w' := by
 have hu27 := Try.underlying27
 have hu68 := Try.underlying68
 have HR0_3 := Aside0.mk hr0_3
 have HC0_3 := Aside0.mk hc0_3
 clear hr0_3 hc0_3
 have HR0_4 := Aside0.mk hr0_4
 have HC0_4 := Aside0.mk hc0_4
 clear hr0_4 hc0_4
 have HB := Aside0.mk (Below.refl w.heap.size w)
 have H : ((impl_NameOK.f k a0_0).bind fun t102 => (if t102 = true then ((impl_within.f a0_1 1 1000000).bind fun t103 => (if t103 = true then ((impl_within.f a0_2 1 1001).bind fun t104 => (impl_BoxOK.j0 k (!t104) a0_0 a0_1 a0_2 l0_3 l0_4)) else (impl_BoxOK.j0 k true a0_0 a0_1 a0_2 l0_3 l0_4))) else (impl_BoxOK.j0 k true a0_0 a0_1 a0_2 l0_3 l0_4))) = some r := h
 clear h
 have HC2 := Aside0.mk H
 clear H
 go_enter Try.func35, Try.ntmps35
 go_upto_region 1 with (first | ((with_reducible refine gate_dst (N := 1) rfl ?_); (try (refine gate_guard (by rfl) ?_; dsimp only)); refine box_event ?Hg (N := 1) ?Hd (cs := #[.string a0_0, .int .i64 a0_1, .int .i64 a0_2, .slice A0_3 l0_3.length c0_3, .slice A0_4 l0_4.length c0_4]) (t := 27) ?Hr ?_; (case Hd => rfl); (case Hg => rfl); (case Hr => first | (go_simp; done) | (go_simp; rfl)); intro gb101 hg w3 hbox hb; have BK101 := Aside0.mk (hbox); have GW101 := Aside0.mk ((by rw [hg]; exact (below_size qBHB) : w.heap.size ≤ gb101)); have GE101 := Aside0.mk ((by rw [hg]; exact (below_size qBHB) : w.heap.size ≤ gb101)); replace HB := Aside0.mk (below_step qBHB hb); clear hb hbox hg))
 (try simp only [Act.put, List.setIfInBounds_toArray, List.set_cons_zero, List.set_cons_succ])
 go_cut [23] (fun v23 wc => ∃ (kq : Nat) (x23_1 : Bool), v23 = .bool x23_1 ∧ Aside0 (impl_BoxOK.j0 kq x23_1 a0_0 a0_1 a0_2 l0_3 l0_4 = some r) ∧ Aside0 (kq ≤ k) ∧ Aside0 (wc.heap[gb101]? = some (.cells #[.string a0_0, .int .i64 a0_1, .int .i64 a0_2, (.slice A0_3 l0_3.length c0_3), (.slice A0_4 l0_4.length c0_4)] 27 (0, 0))) ∧ Aside0 (Below w.heap.size w wc))
 case first =>
  have H := HC2.out; clear HC2; replace H := Option.bind_eq_some_iff.mp H; obtain ⟨t102, A40, H⟩ := H; have A4 := Aside0.mk A40; clear A40; by_cases c5 : t102 = true
  ·subst c5
   have H1 : ((impl_within.f a0_1 1 1000000).bind fun t103 => (if t103 = true then ((impl_within.f a0_2 1 1001).bind fun t104 => (impl_BoxOK.j0 k (!t104) a0_0 a0_1 a0_2 l0_3 l0_4)) else (impl_BoxOK.j0 k true a0_0 a0_1 a0_2 l0_3 l0_4))) = some r := by rw [if_pos rfl] at H; exact H
   clear H; have H := H1; clear H1; replace H := Option.bind_eq_some_iff.mp H; obtain ⟨t103, A60, H⟩ := H; have A6 := Aside0.mk A60; clear A60; by_cases c7 : t103 = true
   ·subst c7
    have H1 : ((impl_within.f a0_2 1 1001).bind fun t104 => (impl_BoxOK.j0 k (!t104) a0_0 a0_1 a0_2 l0_3 l0_4)) = some r := by rw [if_pos rfl] at H; exact H
    clear H; have H := H1; clear H1; replace H := Option.bind_eq_some_iff.mp H; obtain ⟨t104, A80, H⟩ := H; have A8 := Aside0.mk A80; clear A80; have H' := Aside0.mk H; clear H; obtain ⟨hcz9_0, hcz9_1, hcz9_2, hcz9_3, hcz9_4, hfz9_0⟩ := qc5_ BK101
    go_wp2_with (first | ((with_reducible refine gate_callee (f := 74) rfl ?_); refine goesL_ (some 10) rfl rfl Try.func74 qK rfl #[.string a0_0] rfl qll_ ?_; (with_reducible refine (impl_NameOK.calls k a0_0 true _ A4.out).mono ?_); rintro e w' ⟨rfl, ⟨nd, rfl⟩⟩; refine ⟨_, rfl, ?_⟩) | (go_at_call 69; (with_reducible refine (impl_within.calls a0_1 1 1000000 true _ A6.out).mono ?_); rintro e w' ⟨rfl, ⟨nd, rfl⟩⟩) | (go_at_call 69; (with_reducible refine (impl_within.calls a0_2 1 1001 t104 _ A8.out).mono ?_); rintro e w' ⟨rfl, ⟨nd, rfl⟩⟩))
    go_meet
    case rel => exact ⟨_, (!t104), qff_, H', ⟨by first | omega | exact Nat.le_refl _⟩, ⟨qk_ BK101⟩, ⟨qBHB⟩⟩
   ·replace c7 := Bool.eq_false_iff.mpr c7
    subst c7
    have H1 : (impl_BoxOK.j0 k true a0_0 a0_1 a0_2 l0_3 l0_4) = some r := by rw [if_neg (show ¬ (false = true) by decide)] at H; exact H
    clear H; have H := H1; clear H1; have H' := Aside0.mk H; clear H; obtain ⟨hcz10_0, hcz10_1, hcz10_2, hcz10_3, hcz10_4, hfz10_0⟩ := qc5_ BK101
    go_wp2_with (first | ((with_reducible refine gate_callee (f := 74) rfl ?_); refine goesL_ (some 10) rfl rfl Try.func74 qK rfl #[.string a0_0] rfl qll_ ?_; (with_reducible refine (impl_NameOK.calls k a0_0 true _ A4.out).mono ?_); rintro e w' ⟨rfl, ⟨nd, rfl⟩⟩; refine ⟨_, rfl, ?_⟩) | (go_at_call 69; (with_reducible refine (impl_within.calls a0_1 1 1000000 false _ A6.out).mono ?_); rintro e w' ⟨rfl, ⟨nd, rfl⟩⟩))
    go_meet
    case rel => exact ⟨_, (true), qff_, H', ⟨by first | omega | exact Nat.le_refl _⟩, ⟨qk_ BK101⟩, ⟨qBHB⟩⟩
  ·replace c5 := Bool.eq_false_iff.mpr c5
   subst c5
   have H1 : (impl_BoxOK.j0 k true a0_0 a0_1 a0_2 l0_3 l0_4) = some r := by rw [if_neg (show ¬ (false = true) by decide)] at H; exact H
   clear H; have H := H1; clear H1; have H' := Aside0.mk H; clear H; obtain ⟨hcz11_0, hcz11_1, hcz11_2, hcz11_3, hcz11_4, hfz11_0⟩ := qc5_ BK101
   go_wp2_with (first | ((with_reducible refine gate_callee (f := 74) rfl ?_); refine goesL_ (some 10) rfl rfl Try.func74 qK rfl #[.string a0_0] rfl qll_ ?_; (with_reducible refine (impl_NameOK.calls k a0_0 false _ A4.out).mono ?_); rintro e w' ⟨rfl, ⟨nd, rfl⟩⟩; refine ⟨_, rfl, ?_⟩))
   go_meet
   case rel => exact ⟨_, (true), qff_, H', ⟨by first | omega | exact Nat.le_refl _⟩, ⟨qk_ BK101⟩, ⟨qBHB⟩⟩
 case rest =>
  clear HC2
  try clear p2
  try clear c3
  try clear c5
  try clear c7
  try clear hcz10_0 hcz10_1 hcz10_2 hcz10_3 hcz10_4
  try clear hcz11_0 hcz11_1 hcz11_2 hcz11_3 hcz11_4
  try clear hcz9_0 hcz9_1 hcz9_2 hcz9_3 hcz9_4
  try clear hfz10_0
  try clear hfz11_0
  try clear hfz9_0
  obtain ⟨kq, x23_1, rfl, HA, HJ1, BK101, HB⟩ := hcut
  cases kq with
  | zero => exact absurd HA.out (by simp [impl_BoxOK.j0])
  | succ kj1 =>
   have H := HA.out; clear HA; simp only [impl_BoxOK.j0] at H; by_cases c12 : x23_1 = true
   ·subst c12
    have H1 : (some false) = some r := by rw [if_pos rfl] at H; exact H
    clear H; have H := H1; clear H1; obtain rfl := Option.some.inj H
    go_wp2
    go_ret; exact ⟨qee_, qBHB⟩
   ·replace c12 := Bool.eq_false_iff.mpr c12
    subst c12
    have H1 : (if (l0_3.length : Int) > 30 then (impl_BoxOK.j1 kj1 true a0_0 a0_1 a0_2 l0_3 l0_4) else (if (l0_4.length : Int) > 60 then (impl_BoxOK.j1 kj1 true a0_0 a0_1 a0_2 l0_3 l0_4) else (impl_BoxOK.j1 kj1 ((l0_4.length : Int) != (wrap64 (a0_2 - 1))) a0_0 a0_1 a0_2 l0_3 l0_4))) = some r := by rw [if_neg (show ¬ (false = true) by decide)] at H; exact H
    clear H; have H := H1; clear H1; have HC13 := Aside0.mk H; clear H
    go_upto_region 3 with (fail)
    go_cut [42] (fun v42 wc => ∃ (kq : Nat) (x42_12 : Bool), v42 = .bool x42_12 ∧ Aside0 (impl_BoxOK.j1 kq x42_12 a0_0 a0_1 a0_2 l0_3 l0_4 = some r) ∧ Aside0 (kq ≤ kj1) ∧ Aside0 (wc.heap[gb101]? = some (.cells #[.string a0_0, .int .i64 a0_1, .int .i64 a0_2, (.slice A0_3 l0_3.length c0_3), (.slice A0_4 l0_4.length c0_4)] 27 (0, 0))) ∧ Aside0 (Below w.heap.size w wc))
    case first =>
     have H := HC13.out; clear HC13; by_cases c14 : (l0_3.length : Int) > 30
     ·rw [if_pos c14] at H
      have c14b0 : decide (30 < (l0_3.length : Int)) = true := decide_eq_true c14; have c14b1 : decide (30 < l0_3.length) = true := decide_eq_true (by omega); clear c14
      (first | rw [c14b0] | (simp only [i64_w, i32_w]; rw [c14b0]) | skip)
      have H' := Aside0.mk H; clear H; obtain ⟨hcz15_0, hcz15_1, hcz15_2, hcz15_3, hcz15_4, hfz15_0⟩ := qc5_ BK101
      go_wp2
      go_meet
      case rel => exact ⟨_, (true), qff_, H', ⟨by have := HJ1.out; first | omega | exact Nat.le_refl _⟩, ⟨qk_ BK101⟩, ⟨qBHB⟩⟩
     ·rw [if_neg c14] at H
      have c14b0 : decide (30 < (l0_3.length : Int)) = false := decide_eq_false c14; have c14b1 : decide (30 < l0_3.length) = false := decide_eq_false (by omega); clear c14
      (first | rw [c14b0] | (simp only [i64_w, i32_w]; rw [c14b0]) | skip)
      by_cases c16 : (l0_4.length : Int) > 60
      ·rw [if_pos c16] at H
       have c16b0 : decide (60 < (l0_4.length : Int)) = true := decide_eq_true c16; have c16b1 : decide (60 < l0_4.length) = true := decide_eq_true (by omega); clear c16; have H' := Aside0.mk H; clear H; obtain ⟨hcz17_0, hcz17_1, hcz17_2, hcz17_3, hcz17_4, hfz17_0⟩ := qc5_ BK101
       go_wp2
       go_meet
       case rel => exact ⟨_, (true), qff_, H', ⟨by have := HJ1.out; first | omega | exact Nat.le_refl _⟩, ⟨qk_ BK101⟩, ⟨qBHB⟩⟩
      ·rw [if_neg c16] at H
       have c16b0 : decide (60 < (l0_4.length : Int)) = false := decide_eq_false c16; have c16b1 : decide (60 < l0_4.length) = false := decide_eq_false (by omega); clear c16; have H' := Aside0.mk H; clear H; obtain ⟨hcz18_0, hcz18_1, hcz18_2, hcz18_3, hcz18_4, hfz18_0⟩ := qc5_ BK101
       go_wp2
       go_meet
       case rel => exact ⟨_, (((l0_4.length : Int) != (wrap64 (a0_2 - 1)))), qff_, H', ⟨by have := HJ1.out; first | omega | exact Nat.le_refl _⟩, ⟨qk_ BK101⟩, ⟨qBHB⟩⟩
    case rest =>
     clear HC13
     try clear c1
     try clear p2
     try clear c3
     try clear c5
     try clear p6
     try clear c7
     try clear c12
     try clear c14
     try clear c14b0
     try clear c14b1
     try clear c16
     try clear c16b0
     try clear c16b1
     try clear hcz10_0 hcz10_1 hcz10_2 hcz10_3 hcz10_4
     try clear hcz11_0 hcz11_1 hcz11_2 hcz11_3 hcz11_4
     try clear hcz15_0 hcz15_1 hcz15_2 hcz15_3 hcz15_4
     try clear hcz17_0 hcz17_1 hcz17_2 hcz17_3 hcz17_4
     try clear hcz18_0 hcz18_1 hcz18_2 hcz18_3 hcz18_4
     try clear hcz9_0 hcz9_1 hcz9_2 hcz9_3 hcz9_4
     try clear hfz10_0
     try clear hfz11_0
     try clear hfz15_0
     try clear hfz17_0
     try clear hfz18_0
     try clear hfz9_0
     try clear p2
     obtain ⟨kq, x42_12, rfl, HA, HJ12, BK101, HB⟩ := hcut
     cases kq with
     | zero => exact absurd HA.out (by simp [impl_BoxOK.j1])
     | succ kj12 =>
      have H := HA.out; clear HA; simp only [impl_BoxOK.j1] at H; by_cases c19 : x42_12 = true
      ·subst c19
       have H1 : (some false) = some r := by rw [if_pos rfl] at H; exact H
       clear H; have H := H1; clear H1; obtain rfl := Option.some.inj H
       go_wp2
       go_ret; exact ⟨qee_, qBHB⟩
      ·replace c19 := Bool.eq_false_iff.mpr c19
       subst c19
       have H1 : (impl_BoxOK.l0 kj12 0 l0_3 (l0_3.length : Int) 0 a0_0 a0_1 a0_2 l0_3 l0_4) = some r := by rw [if_neg (show ¬ (false = true) by decide)] at H; exact H
       clear H; have H := H1; clear H1; have H' := Aside0.mk H; clear H; obtain ⟨hcz20_0, hcz20_1, hcz20_2, hcz20_3, hcz20_4, hfz20_0⟩ := qc5_ BK101
       go_wp2
       go_loopg [3, 46] kj12 (fun kq v3 v46 w' => ∃ (x3_3 : Int) (x46_3 : Int), v3 = .int .i64 x3_3 ∧ v46 = .int .i64 x46_3 ∧ Aside0 (impl_BoxOK.l0 kq x3_3 l0_3 (l0_3.length : Int) x46_3 a0_0 a0_1 a0_2 l0_3 l0_4 = some r) ∧ Aside0 (kq ≤ kj12) ∧ Aside0 (w'.heap[gb101]? = some (.cells #[.string a0_0, .int .i64 a0_1, .int .i64 a0_2, (.slice A0_3 l0_3.length c0_3), (.slice A0_4 l0_4.length c0_4)] 27 (0, 0))) ∧ Aside0 (Below w.heap.size w w'))
       case atStart => exact ⟨(0), (0), qff_, qff_, H', ⟨Nat.le_refl _⟩, ⟨qk_ BK101⟩, ⟨qBHB⟩⟩
       case round =>
        clear H'
        try clear c1
        try clear p2
        try clear c3
        try clear c5
        try clear p6
        try clear c7
        try clear c12
        try clear c14
        try clear c14b0
        try clear c14b1
        try clear c16
        try clear c16b0
        try clear c16b1
        try clear c19
        try clear hcz10_0 hcz10_1 hcz10_2 hcz10_3 hcz10_4
        try clear hcz11_0 hcz11_1 hcz11_2 hcz11_3 hcz11_4
        try clear hcz15_0 hcz15_1 hcz15_2 hcz15_3 hcz15_4
        try clear hcz17_0 hcz17_1 hcz17_2 hcz17_3 hcz17_4
        try clear hcz18_0 hcz18_1 hcz18_2 hcz18_3 hcz18_4
        try clear hcz20_0 hcz20_1 hcz20_2 hcz20_3 hcz20_4
        try clear hcz9_0 hcz9_1 hcz9_2 hcz9_3 hcz9_4
        try clear hfz10_0
        try clear hfz11_0
        try clear hfz15_0
        try clear hfz17_0
        try clear hfz18_0
        try clear hfz20_0
        try clear hfz9_0
        try clear p2
        try clear p6
        obtain ⟨x3_3, x46_3, rfl, rfl, HA, HK3, BK101, HB⟩ := hrel
        cases gk with
        | zero => exact absurd HA.out (by simp [impl_BoxOK.l0])
        | succ k3 =>
         have H := HA.out; clear HA; simp only [impl_BoxOK.l0] at H; by_cases c21 : x46_3 < (l0_3.length : Int)
         ·rw [if_pos c21] at H
          have c21b0 : decide (x46_3 < (l0_3.length : Int)) = true := decide_eq_true c21; clear c21; by_cases c22 : 0 ≤ x46_3
          ·rw [if_pos c22] at H
           have c22b0 : decide (0 ≤ x46_3) = true := decide_eq_true c22; clear c22; by_cases c23 : x46_3 < (l0_3.length : Int)
           ·rw [if_pos c23] at H
            have c23b0 : decide (x46_3 < (l0_3.length : Int)) = true := decide_eq_true c23; clear c23; replace H := Option.bind_eq_some_iff.mp H; obtain ⟨t107, A240, H⟩ := H; have A24 := Aside0.mk A240; clear A240; by_cases c25 : t107 = true
            ·subst c25
             have H1 : ((impl_within.f ((rd_T68 l0_3 x46_3).f1) 0 31).bind fun t108 => (if t108 = true then (if (((rd_T68 l0_3 x46_3).f2).size : Int) > 4000 then (some false) else (impl_BoxOK.l0 k3 ((rd_T68 l0_3 x46_3).f0) l0_3 (l0_3.length : Int) (wrap64 (x46_3 + 1)) a0_0 a0_1 a0_2 l0_3 l0_4)) else (some false))) = some r := by rw [if_pos rfl] at H; exact H
             clear H; have H := H1; clear H1; replace H := Option.bind_eq_some_iff.mp H; obtain ⟨t108, A260, H⟩ := H; have A26 := Aside0.mk A260; clear A260; by_cases c27 : t108 = true
             ·subst c27
              have H1 : (if (((rd_T68 l0_3 x46_3).f2).size : Int) > 4000 then (some false) else (impl_BoxOK.l0 k3 ((rd_T68 l0_3 x46_3).f0) l0_3 (l0_3.length : Int) (wrap64 (x46_3 + 1)) a0_0 a0_1 a0_2 l0_3 l0_4)) = some r := by rw [if_pos rfl] at H; exact H
              clear H; have H := H1; clear H1; by_cases c28 : (((rd_T68 l0_3 x46_3).f2).size : Int) > 4000
              ·rw [if_pos c28] at H
               have c28b0 : decide (4000 < (((rd_T68 l0_3 x46_3).f2).size : Int)) = true := decide_eq_true c28; have c28b1 : decide (4000 < ((rd_T68 l0_3 x46_3).f2).size) = true := decide_eq_true (by omega); clear c28; obtain rfl := Option.some.inj H; have p105 : 0 ≤ (x46_3 : Int) := qd_; have q105 : x46_3 < (l0_3.length : Int) := qd_; obtain ⟨ad105, e105, hx105_0, hx105_1, hx105_2⟩ := at_T68 HR0_3.out x46_3 p105 q105; cases e105; replace hx105_0 := (HB.out.cell (World.block_lt_of_cell? w _ hx105_0)).trans hx105_0; replace hx105_1 := (HB.out.cell (World.block_lt_of_cell? w _ hx105_1)).trans hx105_1; replace hx105_2 := (HB.out.cell (World.block_lt_of_cell? w _ hx105_2)).trans hx105_2; replace p105 := eq_true p105; replace q105 := eq_true q105
               go_wp2_with (first | ((with_reducible refine gate_dst (N := 5) rfl ?_); (try (refine gate_guard (by rfl) ?_; dsimp only)); refine box_event ?Hg (N := 5) ?Hd (cs := #[.int .i64 0, .int .i64 0, .string (⟨#[]⟩ : BA_)]) (t := 68) ?Hr ?_; (case Hd => rfl); (case Hg => rfl); (case Hr => first | (go_simp; done) | (go_simp; rfl)); intro gb106 hg w29 hbox hb; have BK106 := Aside0.mk (hbox); have GW106 := Aside0.mk ((by rw [hg]; exact (below_size qBHB) : w.heap.size ≤ gb106)); have GE106 := Aside0.mk ((by rw [hg]; exact (below_size qBHB) : w.heap.size ≤ gb106)); replace HB := Aside0.mk (below_step qBHB hb); have NB101_106 := Aside0.mk ((by rw [hg]; exact Nat.ne_of_lt (blk_lt (qk_ BK101)) : gb101 ≠ gb106)); have NB106_101 := Aside0.mk ((by rw [hg]; exact Nat.ne_of_gt (blk_lt (qk_ BK101)) : gb106 ≠ gb101)); replace BK101 := Aside0.mk (blk_below (qk_ BK101) hb); clear hb hbox hg; have hnb30 := NB106_101.out; have hnc30 := NB101_106.out; obtain ⟨hcz31_0, hcz31_1, hcz31_2, hfz31_0⟩ := qc3_ BK106; obtain ⟨hcz32_0, hcz32_1, hcz32_2, hcz32_3, hcz32_4, hfz32_0⟩ := qc5_ BK101) | ((with_reducible refine gate_callee (f := 69) rfl ?_); refine goesL_ (some 57) rfl rfl Try.func69 qK rfl #[.int .i64 ((rd_T68 l0_3 x46_3).f0), .int .i64 (wrap64 (x3_3 + 1)), .int .i64 (wrap64 (a0_2 - 1))] rfl qll_ ?_; (with_reducible refine (impl_within.calls ((rd_T68 l0_3 x46_3).f0) (wrap64 (x3_3 + 1)) (wrap64 (a0_2 - 1)) true _ A24.out).mono ?_); rintro e w' ⟨rfl, ⟨nd, rfl⟩⟩; refine ⟨_, rfl, ?_⟩) | (go_at_call 69; (with_reducible refine (impl_within.calls ((rd_T68 l0_3 x46_3).f1) 0 31 true _ A26.out).mono ?_); rintro e w' ⟨rfl, ⟨nd, rfl⟩⟩))
               go_ret; exact ⟨qee_, qBHB⟩
              ·rw [if_neg c28] at H
               have c28b0 : decide (4000 < (((rd_T68 l0_3 x46_3).f2).size : Int)) = false := decide_eq_false c28; have c28b1 : decide (4000 < ((rd_T68 l0_3 x46_3).f2).size) = false := decide_eq_false (by omega); clear c28; have H' := Aside0.mk H; clear H; have p105 : 0 ≤ (x46_3 : Int) := qd_; have q105 : x46_3 < (l0_3.length : Int) := qd_; obtain ⟨ad105, e105, hx105_0, hx105_1, hx105_2⟩ := at_T68 HR0_3.out x46_3 p105 q105; cases e105; replace hx105_0 := (HB.out.cell (World.block_lt_of_cell? w _ hx105_0)).trans hx105_0; replace hx105_1 := (HB.out.cell (World.block_lt_of_cell? w _ hx105_1)).trans hx105_1; replace hx105_2 := (HB.out.cell (World.block_lt_of_cell? w _ hx105_2)).trans hx105_2; replace p105 := eq_true p105; replace q105 := eq_true q105
               go_wp2_with (first | ((with_reducible refine gate_dst (N := 5) rfl ?_); (try (refine gate_guard (by rfl) ?_; dsimp only)); refine box_event ?Hg (N := 5) ?Hd (cs := #[.int .i64 0, .int .i64 0, .string (⟨#[]⟩ : BA_)]) (t := 68) ?Hr ?_; (case Hd => rfl); (case Hg => rfl); (case Hr => first | (go_simp; done) | (go_simp; rfl)); intro gb106 hg w33 hbox hb; have BK106 := Aside0.mk (hbox); have GW106 := Aside0.mk ((by rw [hg]; exact (below_size qBHB) : w.heap.size ≤ gb106)); have GE106 := Aside0.mk ((by rw [hg]; exact (below_size qBHB) : w.heap.size ≤ gb106)); replace HB := Aside0.mk (below_step qBHB hb); have NB101_106 := Aside0.mk ((by rw [hg]; exact Nat.ne_of_lt (blk_lt (qk_ BK101)) : gb101 ≠ gb106)); have NB106_101 := Aside0.mk ((by rw [hg]; exact Nat.ne_of_gt (blk_lt (qk_ BK101)) : gb106 ≠ gb101)); replace BK101 := Aside0.mk (blk_below (qk_ BK101) hb); clear hb hbox hg; have hnb34 := NB106_101.out; have hnc34 := NB101_106.out; obtain ⟨hcz35_0, hcz35_1, hcz35_2, hfz35_0⟩ := qc3_ BK106; obtain ⟨hcz36_0, hcz36_1, hcz36_2, hcz36_3, hcz36_4, hfz36_0⟩ := qc5_ BK101) | ((with_reducible refine gate_callee (f := 69) rfl ?_); refine goesL_ (some 57) rfl rfl Try.func69 qK rfl #[.int .i64 ((rd_T68 l0_3 x46_3).f0), .int .i64 (wrap64 (x3_3 + 1)), .int .i64 (wrap64 (a0_2 - 1))] rfl qll_ ?_; (with_reducible refine (impl_within.calls ((rd_T68 l0_3 x46_3).f0) (wrap64 (x3_3 + 1)) (wrap64 (a0_2 - 1)) true _ A24.out).mono ?_); rintro e w' ⟨rfl, ⟨nd, rfl⟩⟩; refine ⟨_, rfl, ?_⟩) | (go_at_call 69; (with_reducible refine (impl_within.calls ((rd_T68 l0_3 x46_3).f1) 0 31 true _ A26.out).mono ?_); rintro e w' ⟨rfl, ⟨nd, rfl⟩⟩))
               go_roundg k3
               case measure => have := HJ1.out; have := HJ12.out; have := HK3.out; omega
               case rel => exact ⟨((rd_T68 l0_3 x46_3).f0), (wrap64 (x46_3 + 1)), qff_, qff_, H', ⟨by have := HJ1.out; have := HJ12.out; have := HK3.out; omega⟩, ⟨qp_ BK101⟩, ⟨qBHB⟩⟩
             ·replace c27 := Bool.eq_false_iff.mpr c27
              subst c27
              have H1 : (some false) = some r := by rw [if_neg (show ¬ (false = true) by decide)] at H; exact H
              clear H; have H := H1; clear H1; obtain rfl := Option.some.inj H; have p105 : 0 ≤ (x46_3 : Int) := qd_; have q105 : x46_3 < (l0_3.length : Int) := qd_; obtain ⟨ad105, e105, hx105_0, hx105_1, hx105_2⟩ := at_T68 HR0_3.out x46_3 p105 q105; cases e105; replace hx105_0 := (HB.out.cell (World.block_lt_of_cell? w _ hx105_0)).trans hx105_0; replace hx105_1 := (HB.out.cell (World.block_lt_of_cell? w _ hx105_1)).trans hx105_1; replace hx105_2 := (HB.out.cell (World.block_lt_of_cell? w _ hx105_2)).trans hx105_2; replace p105 := eq_true p105; replace q105 := eq_true q105
              go_wp2_with (first | ((with_reducible refine gate_dst (N := 5) rfl ?_); (try (refine gate_guard (by rfl) ?_; dsimp only)); refine box_event ?Hg (N := 5) ?Hd (cs := #[.int .i64 0, .int .i64 0, .string (⟨#[]⟩ : BA_)]) (t := 68) ?Hr ?_; (case Hd => rfl); (case Hg => rfl); (case Hr => first | (go_simp; done) | (go_simp; rfl)); intro gb106 hg w37 hbox hb; have BK106 := Aside0.mk (hbox); have GW106 := Aside0.mk ((by rw [hg]; exact (below_size qBHB) : w.heap.size ≤ gb106)); have GE106 := Aside0.mk ((by rw [hg]; exact (below_size qBHB) : w.heap.size ≤ gb106)); replace HB := Aside0.mk (below_step qBHB hb); have NB101_106 := Aside0.mk ((by rw [hg]; exact Nat.ne_of_lt (blk_lt (qk_ BK101)) : gb101 ≠ gb106)); have NB106_101 := Aside0.mk ((by rw [hg]; exact Nat.ne_of_gt (blk_lt (qk_ BK101)) : gb106 ≠ gb101)); replace BK101 := Aside0.mk (blk_below (qk_ BK101) hb); clear hb hbox hg; have hnb38 := NB106_101.out; have hnc38 := NB101_106.out; obtain ⟨hcz39_0, hcz39_1, hcz39_2, hfz39_0⟩ := qc3_ BK106; obtain ⟨hcz40_0, hcz40_1, hcz40_2, hcz40_3, hcz40_4, hfz40_0⟩ := qc5_ BK101) | ((with_reducible refine gate_callee (f := 69) rfl ?_); refine goesL_ (some 57) rfl rfl Try.func69 qK rfl #[.int .i64 ((rd_T68 l0_3 x46_3).f0), .int .i64 (wrap64 (x3_3 + 1)), .int .i64 (wrap64 (a0_2 - 1))] rfl qll_ ?_; (with_reducible refine (impl_within.calls ((rd_T68 l0_3 x46_3).f0) (wrap64 (x3_3 + 1)) (wrap64 (a0_2 - 1)) true _ A24.out).mono ?_); rintro e w' ⟨rfl, ⟨nd, rfl⟩⟩; refine ⟨_, rfl, ?_⟩) | (go_at_call 69; (with_reducible refine (impl_within.calls ((rd_T68 l0_3 x46_3).f1) 0 31 false _ A26.out).mono ?_); rintro e w' ⟨rfl, ⟨nd, rfl⟩⟩))
              go_ret; exact ⟨qee_, qBHB⟩
            ·replace c25 := Bool.eq_false_iff.mpr c25
             subst c25
             have H1 : (some false) = some r := by rw [if_neg (show ¬ (false = true) by decide)] at H; exact H
             clear H; have H := H1; clear H1; obtain rfl := Option.some.inj H; have p105 : 0 ≤ (x46_3 : Int) := qd_; have q105 : x46_3 < (l0_3.length : Int) := qd_; obtain ⟨ad105, e105, hx105_0, hx105_1, hx105_2⟩ := at_T68 HR0_3.out x46_3 p105 q105; cases e105; replace hx105_0 := (HB.out.cell (World.block_lt_of_cell? w _ hx105_0)).trans hx105_0; replace hx105_1 := (HB.out.cell (World.block_lt_of_cell? w _ hx105_1)).trans hx105_1; replace hx105_2 := (HB.out.cell (World.block_lt_of_cell? w _ hx105_2)).trans hx105_2; replace p105 := eq_true p105; replace q105 := eq_true q105
             go_wp2_with (first | ((with_reducible refine gate_dst (N := 5) rfl ?_); (try (refine gate_guard (by rfl) ?_; dsimp only)); refine box_event ?Hg (N := 5) ?Hd (cs := #[.int .i64 0, .int .i64 0, .string (⟨#[]⟩ : BA_)]) (t := 68) ?Hr ?_; (case Hd => rfl); (case Hg => rfl); (case Hr => first | (go_simp; done) | (go_simp; rfl)); intro gb106 hg w41 hbox hb; have BK106 := Aside0.mk (hbox); have GW106 := Aside0.mk ((by rw [hg]; exact (below_size qBHB) : w.heap.size ≤ gb106)); have GE106 := Aside0.mk ((by rw [hg]; exact (below_size qBHB) : w.heap.size ≤ gb106)); replace HB := Aside0.mk (below_step qBHB hb); have NB101_106 := Aside0.mk ((by rw [hg]; exact Nat.ne_of_lt (blk_lt (qk_ BK101)) : gb101 ≠ gb106)); have NB106_101 := Aside0.mk ((by rw [hg]; exact Nat.ne_of_gt (blk_lt (qk_ BK101)) : gb106 ≠ gb101)); replace BK101 := Aside0.mk (blk_below (qk_ BK101) hb); clear hb hbox hg; have hnb42 := NB106_101.out; have hnc42 := NB101_106.out; obtain ⟨hcz43_0, hcz43_1, hcz43_2, hfz43_0⟩ := qc3_ BK106; obtain ⟨hcz44_0, hcz44_1, hcz44_2, hcz44_3, hcz44_4, hfz44_0⟩ := qc5_ BK101) | ((with_reducible refine gate_callee (f := 69) rfl ?_); refine goesL_ (some 57) rfl rfl Try.func69 qK rfl #[.int .i64 ((rd_T68 l0_3 x46_3).f0), .int .i64 (wrap64 (x3_3 + 1)), .int .i64 (wrap64 (a0_2 - 1))] rfl qll_ ?_; (with_reducible refine (impl_within.calls ((rd_T68 l0_3 x46_3).f0) (wrap64 (x3_3 + 1)) (wrap64 (a0_2 - 1)) false _ A24.out).mono ?_); rintro e w' ⟨rfl, ⟨nd, rfl⟩⟩; refine ⟨_, rfl, ?_⟩))
             go_ret; exact ⟨qee_, qBHB⟩
           ·rw [if_neg c23] at H
            exact absurd H (by simp)
          ·rw [if_neg c22] at H
           exact absurd H (by simp)
         ·rw [if_neg c21] at H
          have c21b0 : decide (x46_3 < (l0_3.length : Int)) = false := decide_eq_false c21; clear c21; have H' := Aside0.mk H; clear H; obtain ⟨hcz45_0, hcz45_1, hcz45_2, hcz45_3, hcz45_4, hfz45_0⟩ := qc5_ BK101
          go_wp2
          go_loopg [77] k3 (fun kq v77 w' => ∃ (x77_4 : Int), v77 = .int .i64 x77_4 ∧ Aside0 (impl_BoxOK.l1 kq l0_4 (l0_4.length : Int) x77_4 a0_0 a0_1 a0_2 l0_3 l0_4 = some r) ∧ Aside0 (kq ≤ k3) ∧ Aside0 (w'.heap[gb101]? = some (.cells #[.string a0_0, .int .i64 a0_1, .int .i64 a0_2, (.slice A0_3 l0_3.length c0_3), (.slice A0_4 l0_4.length c0_4)] 27 (0, 0))) ∧ Aside0 (Below w.heap.size w w'))
          case atStart => exact ⟨(0), qff_, H', ⟨Nat.le_refl _⟩, ⟨qk_ BK101⟩, ⟨qBHB⟩⟩
          case round =>
           clear H'
           try clear c1
           try clear p1
           try clear q1
           try clear hx1
           try clear c2
           try clear p2
           try clear c3
           try clear c4
           try clear c5
           try clear c6
           try clear p6
           try clear c7
           try clear p10
           try clear q10
           try clear hx10
           try clear c12
           try clear c14
           try clear c14b0
           try clear c14b1
           try clear c16
           try clear c16b0
           try clear c16b1
           try clear c19
           try clear c21
           try clear c21b0
           try clear c22
           try clear c22b0
           try clear c23
           try clear c23b0
           try clear c25
           try clear c27
           try clear c28
           try clear c28b0
           try clear c28b1
           try clear c30
           try clear c34
           try clear c35
           try clear c38
           try clear c42
           try clear hcz10_0 hcz10_1 hcz10_2 hcz10_3 hcz10_4
           try clear hcz11_0 hcz11_1 hcz11_2 hcz11_3 hcz11_4
           try clear hcz15_0 hcz15_1 hcz15_2 hcz15_3 hcz15_4
           try clear hcz17_0 hcz17_1 hcz17_2 hcz17_3 hcz17_4
           try clear hcz18_0 hcz18_1 hcz18_2 hcz18_3 hcz18_4
           try clear hcz20_0 hcz20_1 hcz20_2 hcz20_3 hcz20_4
           try clear hcz31_0 hcz31_1 hcz31_2
           try clear hcz32_0 hcz32_1 hcz32_2 hcz32_3 hcz32_4
           try clear hcz35_0 hcz35_1 hcz35_2
           try clear hcz36_0 hcz36_1 hcz36_2 hcz36_3 hcz36_4
           try clear hcz39_0 hcz39_1 hcz39_2
           try clear hcz40_0 hcz40_1 hcz40_2 hcz40_3 hcz40_4
           try clear hcz43_0 hcz43_1 hcz43_2
           try clear hcz44_0 hcz44_1 hcz44_2 hcz44_3 hcz44_4
           try clear hcz45_0 hcz45_1 hcz45_2 hcz45_3 hcz45_4
           try clear hcz9_0 hcz9_1 hcz9_2 hcz9_3 hcz9_4
           try clear hfz10_0
           try clear hfz11_0
           try clear hfz15_0
           try clear hfz17_0
           try clear hfz18_0
           try clear hfz20_0
           try clear hfz31_0
           try clear hfz32_0
           try clear hfz35_0
           try clear hfz36_0
           try clear hfz39_0
           try clear hfz40_0
           try clear hfz43_0
           try clear hfz44_0
           try clear hfz45_0
           try clear hfz9_0
           try clear hx105_0
           try clear hx105_1
           try clear hx105_2
           try clear p105
           try clear p2
           try clear p6
           try clear q105
           obtain ⟨x77_4, rfl, HA, HK4, BK101, HB⟩ := hrel
           cases gk with
           | zero => exact absurd HA.out (by simp [impl_BoxOK.l1])
           | succ k4 =>
            have H := HA.out; clear HA; simp only [impl_BoxOK.l1] at H; by_cases c46 : x77_4 < (l0_4.length : Int)
            ·rw [if_pos c46] at H
             have c46b0 : decide (x77_4 < (l0_4.length : Int)) = true := decide_eq_true c46; clear c46; by_cases c47 : 0 ≤ x77_4
             ·rw [if_pos c47] at H
              have c47b0 : decide (0 ≤ x77_4) = true := decide_eq_true c47; clear c47; by_cases c48 : x77_4 < (l0_4.length : Int)
              ·rw [if_pos c48] at H
               have c48b0 : decide (x77_4 < (l0_4.length : Int)) = true := decide_eq_true c48; clear c48; replace H := Option.bind_eq_some_iff.mp H; obtain ⟨t110, A490, H⟩ := H; have A49 := Aside0.mk A490; clear A490; by_cases c50 : t110 = true
               ·subst c50
                have H1 : (if x77_4 ≤ (l0_4.length : Int) then ((slices_Contains_string.f k4 (l0_4.take (x77_4 : Int).toNat) (rdOf ByteArray.empty l0_4 x77_4)).bind fun t112 => (if t112 = true then (some false) else (impl_BoxOK.l1 k4 l0_4 (l0_4.length : Int) (wrap64 (x77_4 + 1)) a0_0 a0_1 a0_2 l0_3 l0_4))) else (none)) = some r := by rw [if_pos rfl] at H; exact H
                clear H; have H := H1; clear H1; have c51b0 := eq_true (qd_ : 0 ≤ x77_4); by_cases c52 : x77_4 ≤ (l0_4.length : Int)
                ·rw [if_pos c52] at H
                 have c52b0 := eq_true c52; have c52b1 : decide (x77_4 ≤ (l0_4.length : Int)) = true := decide_eq_true c52; clear c52; replace H := Option.bind_eq_some_iff.mp H; obtain ⟨t112, A530, H⟩ := H; have A53 := Aside0.mk A530; clear A530; by_cases c54 : t112 = true
                 ·subst c54
                  have H1 : (some false) = some r := by rw [if_pos rfl] at H; exact H
                  clear H; have H := H1; clear H1; obtain rfl := Option.some.inj H; have p109 : 0 ≤ (x77_4 : Int) := qd_; have q109 : x77_4 < (l0_4.length : Int) := qd_; obtain ⟨ad109, e109, hx109_0⟩ := Kd.at_string HR0_4.out x77_4 p109 q109; cases e109; replace hx109_0 := (HB.out.cell (World.block_lt_of_cell? w _ hx109_0)).trans hx109_0; replace p109 := eq_true p109; replace q109 := eq_true q109
                  go_wp2_with (first | ((with_reducible refine gate_callee (f := 75) rfl ?_); refine goesL_ (some 83) rfl rfl Try.func75 qK rfl #[.string (rdOf ByteArray.empty l0_4 x77_4)] rfl qll_ ?_; (with_reducible refine (impl_keyOK.calls (rdOf ByteArray.empty l0_4 x77_4) true _ A49.out).mono ?_); rintro e w' ⟨rfl, ⟨nd, rfl⟩⟩; refine ⟨_, rfl, ?_⟩; obtain ⟨hcz55_0, hcz55_1, hcz55_2, hcz55_3, hcz55_4, hfz55_0⟩ := qc5_ BK101; obtain ⟨i056, hi056, _, hsz56, _⟩ := info_parts info9; obtain ⟨hcut56, hA56, hC56⟩ := print_take_of (P := Try.prog) Value.string (⟨#[]⟩ : BA_) 25 9 .i64 Try.underlying25 hi056 hsz56 (some ad109) c0_4 l0_4 x77_4 (qd_) (qd_) HC0_4.out; have HR111 := Aside0.mk (Kd.C_of_reads (h1 := fun _ => rfl) (hA56 _ (Kd.reads_of_C HR0_4.out))); have HC111 := Aside0.mk hC56; clear hA56 hC56 hi056 hsz56) | (go_at_call 76; refine calls_of_args (args' := #[.slice _ (l0_4.take (x77_4 : Int).toNat).length _, .string (rdOf ByteArray.empty l0_4 x77_4)]) (by first | (rw [show (l0_4.take (x77_4 : Int).toNat).length = x77_4.toNat from (by rw [List.length_take]; have h_ : (x77_4 : Int) ≤ (l0_4.length : Int) := qd_; omega)] <;> rfl) | rfl) ?_; (with_reducible refine (slices_Contains_string.calls k4 _ _ (l0_4.take (x77_4 : Int).toNat) (rdOf ByteArray.empty l0_4 x77_4) true _ ?side1 ?side2 A53.out).mono ?_); (case side1 => exact qcc_ (Kd.C_below HR111.out qBHB)); (case side2 => exact HC111.out); rintro e w' ⟨rfl, ⟨nd, rfl⟩⟩))
                  go_ret; exact ⟨qee_, qBHB⟩
                 ·replace c54 := Bool.eq_false_iff.mpr c54
                  subst c54
                  have H1 : (impl_BoxOK.l1 k4 l0_4 (l0_4.length : Int) (wrap64 (x77_4 + 1)) a0_0 a0_1 a0_2 l0_3 l0_4) = some r := by rw [if_neg (show ¬ (false = true) by decide)] at H; exact H
                  clear H; have H := H1; clear H1; have H' := Aside0.mk H; clear H; have p109 : 0 ≤ (x77_4 : Int) := qd_; have q109 : x77_4 < (l0_4.length : Int) := qd_; obtain ⟨ad109, e109, hx109_0⟩ := Kd.at_string HR0_4.out x77_4 p109 q109; cases e109; replace hx109_0 := (HB.out.cell (World.block_lt_of_cell? w _ hx109_0)).trans hx109_0; replace p109 := eq_true p109; replace q109 := eq_true q109
                  go_wp2_with (first | ((with_reducible refine gate_callee (f := 75) rfl ?_); refine goesL_ (some 83) rfl rfl Try.func75 qK rfl #[.string (rdOf ByteArray.empty l0_4 x77_4)] rfl qll_ ?_; (with_reducible refine (impl_keyOK.calls (rdOf ByteArray.empty l0_4 x77_4) true _ A49.out).mono ?_); rintro e w' ⟨rfl, ⟨nd, rfl⟩⟩; refine ⟨_, rfl, ?_⟩; obtain ⟨hcz57_0, hcz57_1, hcz57_2, hcz57_3, hcz57_4, hfz57_0⟩ := qc5_ BK101; obtain ⟨i058, hi058, _, hsz58, _⟩ := info_parts info9; obtain ⟨hcut58, hA58, hC58⟩ := print_take_of (P := Try.prog) Value.string (⟨#[]⟩ : BA_) 25 9 .i64 Try.underlying25 hi058 hsz58 (some ad109) c0_4 l0_4 x77_4 (qd_) (qd_) HC0_4.out; have HR111 := Aside0.mk (Kd.C_of_reads (h1 := fun _ => rfl) (hA58 _ (Kd.reads_of_C HR0_4.out))); have HC111 := Aside0.mk hC58; clear hA58 hC58 hi058 hsz58) | (go_at_call 76; refine calls_of_args (args' := #[.slice _ (l0_4.take (x77_4 : Int).toNat).length _, .string (rdOf ByteArray.empty l0_4 x77_4)]) (by first | (rw [show (l0_4.take (x77_4 : Int).toNat).length = x77_4.toNat from (by rw [List.length_take]; have h_ : (x77_4 : Int) ≤ (l0_4.length : Int) := qd_; omega)] <;> rfl) | rfl) ?_; (with_reducible refine (slices_Contains_string.calls k4 _ _ (l0_4.take (x77_4 : Int).toNat) (rdOf ByteArray.empty l0_4 x77_4) false _ ?side1 ?side2 A53.out).mono ?_); (case side1 => exact qcc_ (Kd.C_below HR111.out qBHB)); (case side2 => exact HC111.out); rintro e w' ⟨rfl, ⟨nd, rfl⟩⟩))
                  go_roundg k4
                  case measure => have := HJ1.out; have := HJ12.out; have := HK3.out; have := HK4.out; omega
                  case rel => exact ⟨(wrap64 (x77_4 + 1)), qff_, H', ⟨by have := HJ1.out; have := HJ12.out; have := HK3.out; have := HK4.out; omega⟩, ⟨qk_ BK101⟩, ⟨qBHB⟩⟩
                ·rw [if_neg c52] at H
                 exact absurd H (by simp)
               ·replace c50 := Bool.eq_false_iff.mpr c50
                subst c50
                have H1 : (some false) = some r := by rw [if_neg (show ¬ (false = true) by decide)] at H; exact H
                clear H; have H := H1; clear H1; obtain rfl := Option.some.inj H; have p109 : 0 ≤ (x77_4 : Int) := qd_; have q109 : x77_4 < (l0_4.length : Int) := qd_; obtain ⟨ad109, e109, hx109_0⟩ := Kd.at_string HR0_4.out x77_4 p109 q109; cases e109; replace hx109_0 := (HB.out.cell (World.block_lt_of_cell? w _ hx109_0)).trans hx109_0; replace p109 := eq_true p109; replace q109 := eq_true q109
                go_wp2_with (first | ((with_reducible refine gate_callee (f := 75) rfl ?_); refine goesL_ (some 83) rfl rfl Try.func75 qK rfl #[.string (rdOf ByteArray.empty l0_4 x77_4)] rfl qll_ ?_; (with_reducible refine (impl_keyOK.calls (rdOf ByteArray.empty l0_4 x77_4) false _ A49.out).mono ?_); rintro e w' ⟨rfl, ⟨nd, rfl⟩⟩; refine ⟨_, rfl, ?_⟩))
                go_ret; exact ⟨qee_, qBHB⟩
              ·rw [if_neg c48] at H
               exact absurd H (by simp)
             ·rw [if_neg c47] at H
              exact absurd H (by simp)
            ·rw [if_neg c46] at H
             have c46b0 : decide (x77_4 < (l0_4.length : Int)) = false := decide_eq_false c46; clear c46; obtain rfl := Option.some.inj H
             go_wp2
             go_ret; exact ⟨qee_, qBHB⟩


/-! ### slices_IndexFunc_Box: function 83 (a text of mine) -/
def slices_IndexFunc_Box.f (p : S27 → Bool) (l0 : List S27) : Option Int := if l0.length ≤ 9223372036854775807 then some (idxOf p l0) else none
set_option maxHeartbeats 8000000 in
set_option maxRecDepth 100000 in
theorem slices_IndexFunc_Box.calls0 (p : S27 → Bool) (g : Nat) (lb : Array Value) (eg : ∀ args w, (callFunc g args).run Try.prog w = .ok (.enter g args) w) (A0 : Option Addr) (c0 : Nat) (l0 : List S27) (w : World)
  (hp : ∀ (W : World) (i_ : Int) (A3_ : Option Addr) (c3_ : Nat) (A4_ : Option Addr) (c4_ : Nat), 0 ≤ i_ → i_ < (l0.length : Int) → Below w.heap.size w W → Calls Try.prog g (#[.agg #[.string ((rd_T27 l0 i_).f0), .int .i64 ((rd_T27 l0 i_).f1), .int .i64 ((rd_T27 l0 i_).f2), .slice A3_ (rd_T27 l0 i_).f3.length c3_, .slice A4_ (rd_T27 l0 i_).f4.length c4_]] ++ lb) W fun e w' => e = .returned (.bool (p (rd_T27 l0 i_))) ∧ Below w.heap.size w w')
  (hr0 : Kd.C k27 w A0 l0.length l0) (hn0 : l0.length ≤ 9223372036854775807) :
  Calls Try.prog 83 #[.slice A0 l0.length c0, .func (.func g) #[] lb] w fun e w' => e = .returned (.int .i64 (idxOf p l0)) ∧ Below w.heap.size w w' := by
 have hu27 := Try.underlying27
 have HR0 := Aside0.mk hr0
 have HN0 := Aside0.mk hn0
 have HP0 := Aside0.mk hp
 clear hr0 hn0 hp
 go_enter Try.func83, Try.ntmps83
 go_wp2
 go_loopg [5, 8] l0.length (fun gg _ s8 wr => ∃ x5 : Int, s8 = .int .i64 x5 ∧ Aside0 (0 ≤ x5 ∧ x5 ≤ l0.length ∧ l0.length - x5.toNat ≤ gg) ∧ Aside0 (Below w.heap.size w wr) ∧ Aside0 (∀ j, j < x5.toNat → p (l0.getD j z27) = false))
 case atStart => exact ⟨0, rfl, ⟨by omega, by omega, by omega⟩, ⟨Below.refl _ w⟩, ⟨fun j hj => absurd hj (Nat.not_lt_zero _)⟩⟩
 case round =>
  obtain ⟨x5, rfl, HK, HB, HA⟩ := hrel; by_cases hlt : x5 < (l0.length : Int)
  ·have p101 : 0 ≤ (x5 : Int) := HK.out.1
   have q101 : x5 < (l0.length : Int) := hlt
   have hb5 : wrap64 (x5 + 1) = x5 + 1 := by have := HN0.out; unfold wrap64; omega
   have HW := Aside0.mk hb5; clear hb5; obtain ⟨ad101, A3_, c3_, A4_, c4_, e101, hx101_0, hx101_1, hx101_2, hx101_3, hx101_4, hl101_3, hC101_3, hl101_4, hC101_4⟩ := at_T27 HR0.out x5 p101 q101; cases e101; replace hx101_0 := (HB.out.cell (World.block_lt_of_cell? w _ hx101_0)).trans hx101_0; replace hx101_1 := (HB.out.cell (World.block_lt_of_cell? w _ hx101_1)).trans hx101_1; replace hx101_2 := (HB.out.cell (World.block_lt_of_cell? w _ hx101_2)).trans hx101_2; replace hx101_3 := (HB.out.cell (World.block_lt_of_cell? w _ hx101_3)).trans hx101_3; replace hx101_4 := (HB.out.cell (World.block_lt_of_cell? w _ hx101_4)).trans hx101_4; have hcall := HP0.out _ x5 A3_ c3_ A4_ c4_ p101 q101 HB.out; have hlt' : decide (x5 < (l0.length : Int)) = true := decide_eq_true hlt; have H1 := Aside0.mk hlt; clear hlt; replace p101 := eq_true p101; replace q101 := eq_true q101
   cases hq : p (rd_T27 l0 x5) with
   | true =>
    rw [hq] at hcall; have HQ := Aside0.mk hq; clear hq
    go_wp2_with (go_at_fn g; refine hcall.mono ?_; rintro e w' ⟨rfl, hb'⟩)
    go_ret; refine ⟨?_, hb'⟩; rw [idxOf_hit p l0 z27 x5.toNat (by have := HK.out; have := H1.out; omega) HQ.out HA.out, Int.toNat_of_nonneg HK.out.1]
    rfl
   | false =>
    rw [hq] at hcall; have HQ := Aside0.mk hq; clear hq
    go_wp2_with (go_at_fn g; refine hcall.mono ?_; rintro e w' ⟨rfl, hb'⟩)
    go_roundg (l0.length - (x5.toNat + 1))
    case measure => have := HK.out; have := H1.out; omega
    case rel =>
     refine ⟨x5 + 1, (by first | rfl | (rw [HW.out]; done) | (simp [HW.out]; done)), ⟨⟨by have := HK.out; omega, by have := H1.out; omega, by have := HK.out; omega⟩⟩, ⟨hb'⟩, ⟨fun j hj => ?_⟩⟩; by_cases e : j = x5.toNat
     ·subst e; exact HQ.out
     ·exact HA.out j (by have := HK.out; omega)
  ·have hlt' : decide (x5 < (l0.length : Int)) = false := decide_eq_false hlt
   have H1 := Aside0.mk hlt; clear hlt
   go_wp2
   go_ret; refine ⟨?_, HB.out⟩; rw [idxOf_miss p l0 z27 (fun j hj => HA.out j (by have := HK.out; have := H1.out; omega))]
   rfl
theorem slices_IndexFunc_Box.calls (p : S27 → Bool) (g : Nat) (lb : Array Value) (eg : ∀ args w, (callFunc g args).run Try.prog w = .ok (.enter g args) w) (A0 : Option Addr) (c0 : Nat) (l0 : List S27) (w : World)
  (hp : ∀ (W : World) (i_ : Int) (A3_ : Option Addr) (c3_ : Nat) (A4_ : Option Addr) (c4_ : Nat), 0 ≤ i_ → i_ < (l0.length : Int) → Below w.heap.size w W → Calls Try.prog g (#[.agg #[.string ((rd_T27 l0 i_).f0), .int .i64 ((rd_T27 l0 i_).f1), .int .i64 ((rd_T27 l0 i_).f2), .slice A3_ (rd_T27 l0 i_).f3.length c3_, .slice A4_ (rd_T27 l0 i_).f4.length c4_]] ++ lb) W fun e w' => e = .returned (.bool (p (rd_T27 l0 i_))) ∧ Below w.heap.size w w')
  (hr0 : Kd.C k27 w A0 l0.length l0) (hc0 : l0.length ≤ c0) (hn0 : l0.length ≤ 9223372036854775807) :
  Calls Try.prog 83 #[.slice A0 l0.length c0, .func (.func g) #[] lb] w fun e w' => e = .returned (.int .i64 (idxOf p l0)) ∧ Below w.heap.size w w' :=
 slices_IndexFunc_Box.calls0 p g lb eg A0 c0 l0 w hp hr0 hn0


/-! ### impl_boxIndex: function 42 (a text of mine) -/
def impl_boxIndex.f (l0 : List S27) (a1 : ByteArray) : Option Int := if l0.length ≤ 9223372036854775807 then some (idxOf (fun x => x.f0.toList == a1.toList) l0) else none
set_option maxHeartbeats 8000000 in
set_option maxRecDepth 100000 in
theorem boxIndex_in (x : S27) (A3 : Option Addr) (c3 : Nat) (A4 : Option Addr) (c4 : Nat) (s : ByteArray) (b : Nat) (w : World) (hb : w.cell? ⟨b, 0, none⟩ = some (.string s)) :
  Calls Try.prog 84 #[.agg #[.string x.f0, .int .i64 x.f1, .int .i64 x.f2, .slice A3 x.f3.length c3, .slice A4 x.f4.length c4], .pointer (some ⟨b, 0, none⟩)] w fun e w' => e = .returned (.bool (x.f0.toList == s.toList)) ∧ Below w.heap.size w w' := by
 have hu := Try.underlying27
 have hl := World.block_lt_of_cell? _ _ hb
 have h2 : ∀ o : Obj, (w.alloc o).cell? ⟨b, 0, none⟩ = some (.string s) := fun o => (World.cell?_alloc_lt _ _ _ hl).trans hb
 clear hb
 go_enter Try.func84, Try.ntmps84
 go_wp2
 go_ret
 exact ⟨rfl, below_alloc (Below.refl _ _) _⟩
set_option maxHeartbeats 8000000 in
set_option maxRecDepth 100000 in
theorem boxIndex_call (T : Nat) (A0 : Option Addr) (c0 : Nat) (l0 : List S27) (s : ByteArray) (w : World) (hr0 : Kd.C k27 w A0 l0.length l0) (hn : l0.length ≤ 9223372036854775807) :
  Calls Try.prog 83 #[.slice A0 l0.length c0, .func (.func 84) #[] #[.pointer (some ⟨w.heap.size, 0, none⟩)]] (w.alloc (.cells #[.string s] T))
   fun e w' => e = .returned (.int .i64 (idxOf (fun x => x.f0.toList == s.toList) l0)) ∧ Below w.heap.size w w' := by
 have c1 : (w.alloc (.cells #[.string s] T)).cell? ⟨w.heap.size, 0, none⟩ = some (.string s) := (blk_cell (heap_alloc_new w _) 0).trans rfl
 have hbw : Below w.heap.size w (w.alloc (.cells #[.string s] T)) := below_alloc (Below.refl _ _) _
 refine (slices_IndexFunc_Box.calls0 (fun x => x.f0.toList == s.toList) 84 #[.pointer (some ⟨w.heap.size, 0, none⟩)] (enters_ Try.func84 qK rfl) A0 c0 l0 _ (fun W i_ A3 c3 A4 c4 h0_ h1_ hB_ => ?_) (Kd.C_alloc hr0 _) hn).mono (fun e w' ⟨he, hb⟩ => ⟨he, below_step hbw hb⟩)
 exact (boxIndex_in (rd_T27 l0 i_) A3 c3 A4 c4 s w.heap.size W ((hB_.cell (World.block_lt_of_cell? _ _ c1)).trans c1)).mono (fun e w' ⟨he, hb⟩ => ⟨he, below_step hB_ hb⟩)
set_option maxHeartbeats 8000000 in
set_option maxRecDepth 100000 in
theorem impl_boxIndex.calls (A0 : Option Addr) (c0 : Nat) (l0 : List S27) (a1 : ByteArray) (r : Int) (w : World) (hr0 : Kd.C k27 w A0 l0.length l0) (hc0 : l0.length ≤ c0) (h : impl_boxIndex.f l0 a1 = some r) :
  Calls Try.prog 42 #[.slice A0 l0.length c0, .string a1] w fun e w' => e = .returned (.int .i64 r) ∧ Below w.heap.size w w' := by
 unfold impl_boxIndex.f at h
 split at h
 ·rename_i hn
  obtain rfl := Option.some.inj h; clear h hc0; have HR := Aside0.mk hr0; have HN := Aside0.mk hn; clear hr0 hn; go_enter Try.func42, Try.ntmps42
  go_wp2_with (go_at_call 83; refine (boxIndex_call _ A0 c0 l0 a1 w HR.out HN.out).mono ?_; rintro e w' ⟨rfl, hb⟩)
  go_ret; exact ⟨rfl, hb⟩
 ·cases h


/-! ### impl_StoreOK: function 29 -/
def impl_StoreOK.l0 : Nat → List (S27) → List (S27) → Int → Int → Option (Bool)
 | 0, _, _, _, _ => none
 | k + 1, x0, x8, x9, x10 => if x10 < x9 then (if 0 ≤ x10 then (if x10 < (x8.length : Int) then ((impl_BoxOK.f k ((rd_T27 x8 x10).f0) ((rd_T27 x8 x10).f1) ((rd_T27 x8 x10).f2) ((rd_T27 x8 x10).f3) ((rd_T27 x8 x10).f4)).bind fun t103 => (if t103 = true then (if ((rd_T27 x8 x10).f1) = (wrap64 (x10 + 1)) then ((impl_boxIndex.f x0 ((rd_T27 x8 x10).f0)).bind fun t104 => (if t104 = x10 then (impl_StoreOK.l0 k x0 x8 x9 (wrap64 (x10 + 1))) else (some false))) else (some false)) else (some false))) else (none)) else (none)) else (some true)
def impl_StoreOK.f (k : Nat) (l0 : List (S27)) : Option (Bool) := if (l0.length : Int) > 4 then (some false) else (impl_StoreOK.l0 k l0 l0 (l0.length : Int) 0)
theorem impl_StoreOK.mono_l : ∀ k, (∀ y0 y1 y2 y3, LeO (impl_StoreOK.l0 k y0 y1 y2 y3) (impl_StoreOK.l0 (k + 1) y0 y1 y2 y3))
 | 0 => fun _ _ _ _ r h => by simp [impl_StoreOK.l0] at h
 | k + 1 => by
  have ih0 := impl_StoreOK.mono_l k
  ·intro y0 y1 y2 y3
   unfold impl_StoreOK.l0
   repeat' first
   | (with_reducible exact ih0 _ _ _ _)
   | (with_reducible exact impl_BoxOK.mono _ _ _ _ _ _)
   | (with_reducible exact LeO.refl _)
   | (with_reducible exact LeO.none _)
   | (with_reducible refine LeO.ite ?_ ?_)
   | (with_reducible refine LeO.bind ?_ (fun _ => ?_))
   | exact ih0 _ _ _ _
   | exact impl_BoxOK.mono _ _ _ _ _ _
   | exact LeO.none _
   | refine LeO.ite ?_ ?_
   | refine LeO.bind ?_ (fun _ => ?_)
theorem impl_StoreOK.mono : ∀ a0 k, LeO (impl_StoreOK.f k a0) (impl_StoreOK.f (k + 1) a0) := by
 intro a0 k
 have ih0 := impl_StoreOK.mono_l k
 unfold impl_StoreOK.f
 repeat' first
   | (with_reducible exact ih0 _ _ _ _)
   | (with_reducible exact impl_BoxOK.mono _ _ _ _ _ _)
   | (with_reducible exact LeO.refl _)
   | (with_reducible exact LeO.none _)
   | (with_reducible refine LeO.ite ?_ ?_)
   | (with_reducible refine LeO.bind ?_ (fun _ => ?_))
   | exact ih0 _ _ _ _
   | exact impl_BoxOK.mono _ _ _ _ _ _
   | exact LeO.none _
   | refine LeO.ite ?_ ?_
   | refine LeO.bind ?_ (fun _ => ?_)
abbrev impl_StoreOK.b0 : Array Value := #[.string (⟨#[]⟩ : ByteArray), .int .i64 0, .int .i64 0, .slice none 0 0, .slice none 0 0]
set_option maxHeartbeats 8000000 in
set_option maxRecDepth 100000 in
theorem impl_StoreOK.calls (k : Nat) (A0 : Option Addr) (c0 : Nat) (l0 : List (S27)) (r : Bool) (w : World) (hr0 : Kd.C k27 w A0 l0.length l0) (hc0 : l0.length ≤ c0) (h : impl_StoreOK.f k l0 = some r) :
  Calls Try.prog 29 #[.slice A0 l0.length c0] w fun e w' => e = .returned (.bool r) ∧ Below w.heap.size w w' := by
 have hu27 := Try.underlying27
 have HR0 := Aside0.mk hr0
 have HC0 := Aside0.mk hc0
 clear hr0 hc0
 have HB := Aside0.mk (Below.refl w.heap.size w)
 have H : (if (l0.length : Int) > 4 then (some false) else (impl_StoreOK.l0 k l0 l0 (l0.length : Int) 0)) = some r := h
 clear h
 by_cases c2 : (l0.length : Int) > 4
 ·rw [if_pos c2] at H
  have c2b0 : decide (4 < (l0.length : Int)) = true := decide_eq_true c2; have c2b1 : decide (4 < l0.length) = true := decide_eq_true (by omega); clear c2; obtain rfl := Option.some.inj H; go_enter Try.func29, Try.ntmps29
  go_wp2
  go_ret; exact ⟨qee_, qBHB⟩
 ·rw [if_neg c2] at H
  have c2b0 : decide (4 < (l0.length : Int)) = false := decide_eq_false c2; have c2b1 : decide (4 < l0.length) = false := decide_eq_false (by omega); clear c2; have H' := Aside0.mk H; clear H; go_enter Try.func29, Try.ntmps29
  go_wp2
  go_loopg [10] k (fun kq v10 w' => ∃ (x10_1 : Int), v10 = .int .i64 x10_1 ∧ Aside0 (impl_StoreOK.l0 kq l0 l0 (l0.length : Int) x10_1 = some r) ∧ Aside0 (kq ≤ k) ∧ Aside0 (Below w.heap.size w w'))
  case atStart => exact ⟨(0), qff_, H', ⟨Nat.le_refl _⟩, ⟨qBHB⟩⟩
  case round =>
   clear H'
   try clear c2
   try clear c2b0
   try clear c2b1
   try clear p2
   obtain ⟨x10_1, rfl, HA, HK1, HB⟩ := hrel
   cases gk with
   | zero => exact absurd HA.out (by simp [impl_StoreOK.l0])
   | succ k1 =>
    have H := HA.out; clear HA; simp only [impl_StoreOK.l0] at H; by_cases c3 : x10_1 < (l0.length : Int)
    ·rw [if_pos c3] at H
     have c3b0 : decide (x10_1 < (l0.length : Int)) = true := decide_eq_true c3; clear c3; by_cases c4 : 0 ≤ x10_1
     ·rw [if_pos c4] at H
      have c4b0 : decide (0 ≤ x10_1) = true := decide_eq_true c4; clear c4; by_cases c5 : x10_1 < (l0.length : Int)
      ·rw [if_pos c5] at H
       have c5b0 : decide (x10_1 < (l0.length : Int)) = true := decide_eq_true c5; clear c5; replace H := Option.bind_eq_some_iff.mp H; obtain ⟨t103, A60, H⟩ := H; have A6 := Aside0.mk A60; clear A60; by_cases c7 : t103 = true
       ·subst c7
        have H1 : (if ((rd_T27 l0 x10_1).f1) = (wrap64 (x10_1 + 1)) then ((impl_boxIndex.f l0 ((rd_T27 l0 x10_1).f0)).bind fun t104 => (if t104 = x10_1 then (impl_StoreOK.l0 k1 l0 l0 (l0.length : Int) (wrap64 (x10_1 + 1))) else (some false))) else (some false)) = some r := by rw [if_pos rfl] at H; exact H
        clear H; have H := H1; clear H1; by_cases c8 : ((rd_T27 l0 x10_1).f1) = (wrap64 (x10_1 + 1))
        ·rw [if_pos c8] at H
         have c8b0 : (((rd_T27 l0 x10_1).f1) == (wrap64 (x10_1 + 1))) = true := beq_iff_eq.mpr c8; have c8b1 : (((rd_T27 l0 x10_1).f1) != (wrap64 (x10_1 + 1))) = false := bne_eq_false_iff_eq.mpr c8; clear c8; replace H := Option.bind_eq_some_iff.mp H; obtain ⟨t104, A90, H⟩ := H; have A9 := Aside0.mk A90; clear A90; by_cases c10 : t104 = x10_1
         ·rw [if_pos c10] at H
          have c10b0 : (t104 == x10_1) = true := beq_iff_eq.mpr c10; have c10b1 : (t104 != x10_1) = false := bne_eq_false_iff_eq.mpr c10; clear c10; have H' := Aside0.mk H; clear H; have p101 : 0 ≤ (x10_1 : Int) := qd_; have q101 : x10_1 < (l0.length : Int) := qd_; obtain ⟨ad101, A101_3, c101_3, A101_4, c101_4, e101, hx101_0, hx101_1, hx101_2, hx101_3, hx101_4, hl101_3, hi101_3, hl101_4, hi101_4⟩ := at_T27 HR0.out x10_1 p101 q101; cases e101; replace hx101_0 := (HB.out.cell (World.block_lt_of_cell? w _ hx101_0)).trans hx101_0; replace hx101_1 := (HB.out.cell (World.block_lt_of_cell? w _ hx101_1)).trans hx101_1; replace hx101_2 := (HB.out.cell (World.block_lt_of_cell? w _ hx101_2)).trans hx101_2; replace hx101_3 := (HB.out.cell (World.block_lt_of_cell? w _ hx101_3)).trans hx101_3; replace hx101_4 := (HB.out.cell (World.block_lt_of_cell? w _ hx101_4)).trans hx101_4; have HR101_3 := Aside0.mk hi101_3; have HC101_3 := Aside0.mk hl101_3; clear hi101_3 hl101_3; have HR101_4 := Aside0.mk hi101_4; have HC101_4 := Aside0.mk hl101_4; clear hi101_4 hl101_4; replace p101 := eq_true p101; replace q101 := eq_true q101
          go_wp2_with (first | ((with_reducible refine gate_dst (N := 4) rfl ?_); refine box_event ?Hg (N := 4) ?Hd (cs := impl_StoreOK.b0) (t := 27) ?Hr ?_; (case Hd => rfl); (case Hg => rfl); (case Hr => first | (go_simp; done) | (go_simp; rfl)); intro gb102 hg w11 hbox hb; have BK102 := Aside0.mk (hbox); have GW102 := Aside0.mk ((by rw [hg]; exact (below_size qBHB) : w.heap.size ≤ gb102)); have GE102 := Aside0.mk ((by rw [hg]; exact (below_size qBHB) : w.heap.size ≤ gb102)); replace HB := Aside0.mk (below_step qBHB hb); clear hb hbox hg; obtain ⟨hcz12_0, hcz12_1, hcz12_2, hcz12_3, hcz12_4, hfz12_0⟩ := qc5_ BK102) | ((with_reducible refine gate_callee (f := 35) rfl ?_); refine goesL_ (some 16) rfl rfl Try.func35 qK rfl #[.agg #[.string ((rd_T27 l0 x10_1).f0), .int .i64 ((rd_T27 l0 x10_1).f1), .int .i64 ((rd_T27 l0 x10_1).f2), .slice A101_3 ((rd_T27 l0 x10_1).f3).length c101_3, .slice A101_4 ((rd_T27 l0 x10_1).f4).length c101_4]] rfl qll_ ?_; (with_reducible refine (impl_BoxOK.calls k1 ((rd_T27 l0 x10_1).f0) ((rd_T27 l0 x10_1).f1) ((rd_T27 l0 x10_1).f2) _ _ ((rd_T27 l0 x10_1).f3) _ _ ((rd_T27 l0 x10_1).f4) true _ ?side1 ?side2 ?side3 ?side4 A6.out).mono ?_); (case side1 => exact Kd.C_below HR101_3.out qBHB); (case side2 => exact HC101_3.out); (case side3 => exact Kd.C_below HR101_4.out qBHB); (case side4 => exact HC101_4.out); rintro e w13 ⟨rfl, hb⟩; refine ⟨_, rfl, ?_⟩; replace BK102 := Aside0.mk (blk_below (g := gb102) (o := .cells #[.string ((rd_T27 l0 x10_1).f0), .int .i64 ((rd_T27 l0 x10_1).f1), .int .i64 ((rd_T27 l0 x10_1).f2), .slice A101_3 ((rd_T27 l0 x10_1).f3).length c101_3, .slice A101_4 ((rd_T27 l0 x10_1).f4).length c101_4] 27 (0, 0)) (qp_ BK102) hb); replace HB := Aside0.mk (below_step qBHB hb); (try clear hb); (try clear hb2); (try clear hk); (try clear hi); obtain ⟨hcz14_0, hcz14_1, hcz14_2, hcz14_3, hcz14_4, hfz14_0⟩ := qc5_ BK102) | (go_at_call 42; (with_reducible refine (impl_boxIndex.calls _ _ l0 ((rd_T27 l0 x10_1).f0) t104 _ ?side1 ?side2 A9.out).mono ?_); (case side1 => exact qcc_ (Kd.C_below HR0.out HB.out)); (case side2 => exact HC0.out); rintro e w15 ⟨rfl, hb⟩; replace BK102 := Aside0.mk (blk_below (qk_ BK102) hb); replace HB := Aside0.mk (below_step qBHB hb); (try clear hb); (try clear hb2); (try clear hk); (try clear hi)))
          go_roundg k1
          case measure => have := HK1.out; omega
          case rel => exact ⟨(wrap64 (x10_1 + 1)), qff_, H', ⟨by have := HK1.out; omega⟩, ⟨qBHB⟩⟩
         ·rw [if_neg c10] at H
          have c10b0 : (t104 == x10_1) = false := beq_eq_false_iff_ne.mpr c10; have c10b1 : (t104 != x10_1) = true := bne_iff_ne.mpr c10; obtain rfl := Option.some.inj H; have p101 : 0 ≤ (x10_1 : Int) := qd_; have q101 : x10_1 < (l0.length : Int) := qd_; obtain ⟨ad101, A101_3, c101_3, A101_4, c101_4, e101, hx101_0, hx101_1, hx101_2, hx101_3, hx101_4, hl101_3, hi101_3, hl101_4, hi101_4⟩ := at_T27 HR0.out x10_1 p101 q101; cases e101; replace hx101_0 := (HB.out.cell (World.block_lt_of_cell? w _ hx101_0)).trans hx101_0; replace hx101_1 := (HB.out.cell (World.block_lt_of_cell? w _ hx101_1)).trans hx101_1; replace hx101_2 := (HB.out.cell (World.block_lt_of_cell? w _ hx101_2)).trans hx101_2; replace hx101_3 := (HB.out.cell (World.block_lt_of_cell? w _ hx101_3)).trans hx101_3; replace hx101_4 := (HB.out.cell (World.block_lt_of_cell? w _ hx101_4)).trans hx101_4; have HR101_3 := Aside0.mk hi101_3; have HC101_3 := Aside0.mk hl101_3; clear hi101_3 hl101_3; have HR101_4 := Aside0.mk hi101_4; have HC101_4 := Aside0.mk hl101_4; clear hi101_4 hl101_4; replace p101 := eq_true p101; replace q101 := eq_true q101
          go_wp2_with (first | ((with_reducible refine gate_dst (N := 4) rfl ?_); refine box_event ?Hg (N := 4) ?Hd (cs := impl_StoreOK.b0) (t := 27) ?Hr ?_; (case Hd => rfl); (case Hg => rfl); (case Hr => first | (go_simp; done) | (go_simp; rfl)); intro gb102 hg w16 hbox hb; have BK102 := Aside0.mk (hbox); have GW102 := Aside0.mk ((by rw [hg]; exact (below_size qBHB) : w.heap.size ≤ gb102)); have GE102 := Aside0.mk ((by rw [hg]; exact (below_size qBHB) : w.heap.size ≤ gb102)); replace HB := Aside0.mk (below_step qBHB hb); clear hb hbox hg; obtain ⟨hcz17_0, hcz17_1, hcz17_2, hcz17_3, hcz17_4, hfz17_0⟩ := qc5_ BK102) | ((with_reducible refine gate_callee (f := 35) rfl ?_); refine goesL_ (some 16) rfl rfl Try.func35 qK rfl #[.agg #[.string ((rd_T27 l0 x10_1).f0), .int .i64 ((rd_T27 l0 x10_1).f1), .int .i64 ((rd_T27 l0 x10_1).f2), .slice A101_3 ((rd_T27 l0 x10_1).f3).length c101_3, .slice A101_4 ((rd_T27 l0 x10_1).f4).length c101_4]] rfl qll_ ?_; (with_reducible refine (impl_BoxOK.calls k1 ((rd_T27 l0 x10_1).f0) ((rd_T27 l0 x10_1).f1) ((rd_T27 l0 x10_1).f2) _ _ ((rd_T27 l0 x10_1).f3) _ _ ((rd_T27 l0 x10_1).f4) true _ ?side1 ?side2 ?side3 ?side4 A6.out).mono ?_); (case side1 => exact Kd.C_below HR101_3.out qBHB); (case side2 => exact HC101_3.out); (case side3 => exact Kd.C_below HR101_4.out qBHB); (case side4 => exact HC101_4.out); rintro e w18 ⟨rfl, hb⟩; refine ⟨_, rfl, ?_⟩; replace BK102 := Aside0.mk (blk_below (g := gb102) (o := .cells #[.string ((rd_T27 l0 x10_1).f0), .int .i64 ((rd_T27 l0 x10_1).f1), .int .i64 ((rd_T27 l0 x10_1).f2), .slice A101_3 ((rd_T27 l0 x10_1).f3).length c101_3, .slice A101_4 ((rd_T27 l0 x10_1).f4).length c101_4] 27 (0, 0)) (qp_ BK102) hb); replace HB := Aside0.mk (below_step qBHB hb); (try clear hb); (try clear hb2); (try clear hk); (try clear hi); obtain ⟨hcz19_0, hcz19_1, hcz19_2, hcz19_3, hcz19_4, hfz19_0⟩ := qc5_ BK102) | (go_at_call 42; (with_reducible refine (impl_boxIndex.calls _ _ l0 ((rd_T27 l0 x10_1).f0) t104 _ ?side1 ?side2 A9.out).mono ?_); (case side1 => exact qcc_ (Kd.C_below HR0.out HB.out)); (case side2 => exact HC0.out); rintro e w20 ⟨rfl, hb⟩; replace BK102 := Aside0.mk (blk_below (qk_ BK102) hb); replace HB := Aside0.mk (below_step qBHB hb); (try clear hb); (try clear hb2); (try clear hk); (try clear hi)))
          go_ret; exact ⟨qee_, qBHB⟩
        ·rw [if_neg c8] at H
         have c8b0 : (((rd_T27 l0 x10_1).f1) == (wrap64 (x10_1 + 1))) = false := beq_eq_false_iff_ne.mpr c8; have c8b1 : (((rd_T27 l0 x10_1).f1) != (wrap64 (x10_1 + 1))) = true := bne_iff_ne.mpr c8; obtain rfl := Option.some.inj H; have p101 : 0 ≤ (x10_1 : Int) := qd_; have q101 : x10_1 < (l0.length : Int) := qd_; obtain ⟨ad101, A101_3, c101_3, A101_4, c101_4, e101, hx101_0, hx101_1, hx101_2, hx101_3, hx101_4, hl101_3, hi101_3, hl101_4, hi101_4⟩ := at_T27 HR0.out x10_1 p101 q101; cases e101; replace hx101_0 := (HB.out.cell (World.block_lt_of_cell? w _ hx101_0)).trans hx101_0; replace hx101_1 := (HB.out.cell (World.block_lt_of_cell? w _ hx101_1)).trans hx101_1; replace hx101_2 := (HB.out.cell (World.block_lt_of_cell? w _ hx101_2)).trans hx101_2; replace hx101_3 := (HB.out.cell (World.block_lt_of_cell? w _ hx101_3)).trans hx101_3; replace hx101_4 := (HB.out.cell (World.block_lt_of_cell? w _ hx101_4)).trans hx101_4; have HR101_3 := Aside0.mk hi101_3; have HC101_3 := Aside0.mk hl101_3; clear hi101_3 hl101_3; have HR101_4 := Aside0.mk hi101_4; have HC101_4 := Aside0.mk hl101_4; clear hi101_4 hl101_4; replace p101 := eq_true p101; replace q101 := eq_true q101
         go_wp2_with (first | ((with_reducible refine gate_dst (N := 4) rfl ?_); refine box_event ?Hg (N := 4) ?Hd (cs := impl_StoreOK.b0) (t := 27) ?Hr ?_; (case Hd => rfl); (case Hg => rfl); (case Hr => first | (go_simp; done) | (go_simp; rfl)); intro gb102 hg w21 hbox hb; have BK102 := Aside0.mk (hbox); have GW102 := Aside0.mk ((by rw [hg]; exact (below_size qBHB) : w.heap.size ≤ gb102)); have GE102 := Aside0.mk ((by rw [hg]; exact (below_size qBHB) : w.heap.size ≤ gb102)); replace HB := Aside0.mk (below_step qBHB hb); clear hb hbox hg; obtain ⟨hcz22_0, hcz22_1, hcz22_2, hcz22_3, hcz22_4, hfz22_0⟩ := qc5_ BK102) | ((with_reducible refine gate_callee (f := 35) rfl ?_); refine goesL_ (some 16) rfl rfl Try.func35 qK rfl #[.agg #[.string ((rd_T27 l0 x10_1).f0), .int .i64 ((rd_T27 l0 x10_1).f1), .int .i64 ((rd_T27 l0 x10_1).f2), .slice A101_3 ((rd_T27 l0 x10_1).f3).length c101_3, .slice A101_4 ((rd_T27 l0 x10_1).f4).length c101_4]] rfl qll_ ?_; (with_reducible refine (impl_BoxOK.calls k1 ((rd_T27 l0 x10_1).f0) ((rd_T27 l0 x10_1).f1) ((rd_T27 l0 x10_1).f2) _ _ ((rd_T27 l0 x10_1).f3) _ _ ((rd_T27 l0 x10_1).f4) true _ ?side1 ?side2 ?side3 ?side4 A6.out).mono ?_); (case side1 => exact Kd.C_below HR101_3.out qBHB); (case side2 => exact HC101_3.out); (case side3 => exact Kd.C_below HR101_4.out qBHB); (case side4 => exact HC101_4.out); rintro e w23 ⟨rfl, hb⟩; refine ⟨_, rfl, ?_⟩; replace BK102 := Aside0.mk (blk_below (g := gb102) (o := .cells #[.string ((rd_T27 l0 x10_1).f0), .int .i64 ((rd_T27 l0 x10_1).f1), .int .i64 ((rd_T27 l0 x10_1).f2), .slice A101_3 ((rd_T27 l0 x10_1).f3).length c101_3, .slice A101_4 ((rd_T27 l0 x10_1).f4).length c101_4] 27 (0, 0)) (qp_ BK102) hb); replace HB := Aside0.mk (below_step qBHB hb); (try clear hb); (try clear hb2); (try clear hk); (try clear hi); obtain ⟨hcz24_0, hcz24_1, hcz24_2, hcz24_3, hcz24_4, hfz24_0⟩ := qc5_ BK102))
         go_ret; exact ⟨qee_, qBHB⟩
       ·replace c7 := Bool.eq_false_iff.mpr c7
        subst c7
        have H1 : (some false) = some r := by rw [if_neg (show ¬ (false = true) by decide)] at H; exact H
        clear H; have H := H1; clear H1; obtain rfl := Option.some.inj H; have p101 : 0 ≤ (x10_1 : Int) := qd_; have q101 : x10_1 < (l0.length : Int) := qd_; obtain ⟨ad101, A101_3, c101_3, A101_4, c101_4, e101, hx101_0, hx101_1, hx101_2, hx101_3, hx101_4, hl101_3, hi101_3, hl101_4, hi101_4⟩ := at_T27 HR0.out x10_1 p101 q101; cases e101; replace hx101_0 := (HB.out.cell (World.block_lt_of_cell? w _ hx101_0)).trans hx101_0; replace hx101_1 := (HB.out.cell (World.block_lt_of_cell? w _ hx101_1)).trans hx101_1; replace hx101_2 := (HB.out.cell (World.block_lt_of_cell? w _ hx101_2)).trans hx101_2; replace hx101_3 := (HB.out.cell (World.block_lt_of_cell? w _ hx101_3)).trans hx101_3; replace hx101_4 := (HB.out.cell (World.block_lt_of_cell? w _ hx101_4)).trans hx101_4; have HR101_3 := Aside0.mk hi101_3; have HC101_3 := Aside0.mk hl101_3; clear hi101_3 hl101_3; have HR101_4 := Aside0.mk hi101_4; have HC101_4 := Aside0.mk hl101_4; clear hi101_4 hl101_4; replace p101 := eq_true p101; replace q101 := eq_true q101
        go_wp2_with (first | ((with_reducible refine gate_dst (N := 4) rfl ?_); refine box_event ?Hg (N := 4) ?Hd (cs := impl_StoreOK.b0) (t := 27) ?Hr ?_; (case Hd => rfl); (case Hg => rfl); (case Hr => first | (go_simp; done) | (go_simp; rfl)); intro gb102 hg w25 hbox hb; have BK102 := Aside0.mk (hbox); have GW102 := Aside0.mk ((by rw [hg]; exact (below_size qBHB) : w.heap.size ≤ gb102)); have GE102 := Aside0.mk ((by rw [hg]; exact (below_size qBHB) : w.heap.size ≤ gb102)); replace HB := Aside0.mk (below_step qBHB hb); clear hb hbox hg; obtain ⟨hcz26_0, hcz26_1, hcz26_2, hcz26_3, hcz26_4, hfz26_0⟩ := qc5_ BK102) | ((with_reducible refine gate_callee (f := 35) rfl ?_); refine goesL_ (some 16) rfl rfl Try.func35 qK rfl #[.agg #[.string ((rd_T27 l0 x10_1).f0), .int .i64 ((rd_T27 l0 x10_1).f1), .int .i64 ((rd_T27 l0 x10_1).f2), .slice A101_3 ((rd_T27 l0 x10_1).f3).length c101_3, .slice A101_4 ((rd_T27 l0 x10_1).f4).length c101_4]] rfl qll_ ?_; (with_reducible refine (impl_BoxOK.calls k1 ((rd_T27 l0 x10_1).f0) ((rd_T27 l0 x10_1).f1) ((rd_T27 l0 x10_1).f2) _ _ ((rd_T27 l0 x10_1).f3) _ _ ((rd_T27 l0 x10_1).f4) false _ ?side1 ?side2 ?side3 ?side4 A6.out).mono ?_); (case side1 => exact Kd.C_below HR101_3.out qBHB); (case side2 => exact HC101_3.out); (case side3 => exact Kd.C_below HR101_4.out qBHB); (case side4 => exact HC101_4.out); rintro e w27 ⟨rfl, hb⟩; refine ⟨_, rfl, ?_⟩; replace BK102 := Aside0.mk (blk_below (g := gb102) (o := .cells #[.string ((rd_T27 l0 x10_1).f0), .int .i64 ((rd_T27 l0 x10_1).f1), .int .i64 ((rd_T27 l0 x10_1).f2), .slice A101_3 ((rd_T27 l0 x10_1).f3).length c101_3, .slice A101_4 ((rd_T27 l0 x10_1).f4).length c101_4] 27 (0, 0)) (qp_ BK102) hb); replace HB := Aside0.mk (below_step qBHB hb); (try clear hb); (try clear hb2); (try clear hk); (try clear hi)))
        go_ret; exact ⟨qee_, qBHB⟩
      ·rw [if_neg c5] at H
       exact absurd H (by simp)
     ·rw [if_neg c4] at H
      exact absurd H (by simp)
    ·rw [if_neg c3] at H
     have c3b0 : decide (x10_1 < (l0.length : Int)) = false := decide_eq_false c3; clear c3; obtain rfl := Option.some.inj H
     go_wp2
     go_ret; exact ⟨qee_, qBHB⟩


/-! ### slices_Clone_Stored: function 85 (a text of mine) -/
def slices_Clone_Stored.f (l0 : List S68) : Option (List S68) := if l0.length < 4398046511104 then some l0 else none
set_option maxHeartbeats 2000000 in
set_option maxRecDepth 100000 in
theorem slices_Clone_Stored.calls (A0 : Option Addr) (c0 : Nat) (l0 : List S68) (r : List S68) (w : World) (hr0 : Kd.C k68 w A0 l0.length l0) (hc0 : l0.length ≤ c0) (h : slices_Clone_Stored.f l0 = some r) :
  Calls Try.prog 85 #[.slice A0 l0.length c0] w fun e w' => ∃ v0_ : Value, e = .returned (v0_) ∧ Kd.R k68 68 w' w.heap.size (fun _ => True) v0_ r ∧ Below w.heap.size w w' := by
 unfold slices_Clone_Stored.f at h
 split at h
 ·rename_i hl
  obtain rfl := Option.some.inj h; have HL := Aside0.mk hl; have HR := Aside0.mk hr0; clear h hl hr0 hc0
  cases A0 with
  | none =>
   obtain rfl : l0 = [] := by
    cases l0 with
    | nil => rfl
    | cons x l =>
     obtain ⟨ad, _, e, _⟩ := Kd.C_get HR.out x 0 (by decide) (by simp); cases e
   clear HL HR
   have he : ∀ w : World, (binOp .eql 24 (.slice none 0 c0) (.slice none 0 0)).run Try.prog w = .ok (.bool true) w := fun _ => rfl
   go_enter Try.func85, Try.ntmps85
   go_wp2
   go_ret; exact ⟨_, rfl, Kd.R_nil _ _ _ _ _, Below.refl _ _⟩
  | some ad =>
   have HB := Aside0.mk (Below.refl w.heap.size w)
   have he : ∀ w : World, (binOp .eql 24 (.slice (some ad) l0.length c0) (.slice none 0 0)).run Try.prog w = .ok (.bool false) w := fun _ => rfl
   go_enter Try.func85, Try.ntmps85
   go_wp2_with (first | ((with_reducible refine gate_dst (N := 5) rfl ?_); refine Kd.R_lit k68 _ 68 ?Hg (N := 5) ?Hd (xs := ([] : List S68)) (inner := []) (ok := fun _ => True) (okp := fun _ => True) ?Hr ?Hp (fun _ hk => hk) trivial (Below.refl _ _) (Nat.le_refl _) (by simp) ?_; (case Hd => rfl); (case Hg => rfl); (case Hr => first | (go_simp; done) | (go_simp; rfl)); (case Hp => exact (Reps.none _ _)); intro v104 w6 ho7 hb hg_ hnew_; clear hg_ hnew_; have HO105 := Aside0.mk ho7; replace HB := Aside0.mk hb; clear hb ho7) | ((with_reducible refine gate_builtin (b := .append) (xs := #[.tmp 5, .tmp 6]) rfl ?_); at_builtin; refine Kd.R_append_rows k68 (w0 := w) w.heap.size rfl (.tmp 5) (.tmp 6) 24 68 (.agg #[(.int .i64 0), (.int .i64 0), (.string ⟨#[]⟩)]) 32 rfl Try.underlying24 info68 rfl (by decide) (by omega) v104 [] l0 _ _ _ (fun _ => True) (fun _ => False) rfl rfl ?aO ?aR (fun _ _ h => h) (fun _ h => h.elim) ?aF ?aB ?aS ?aL ?_; (case aR => exact Kd.C_below HR.out HB.out); (case aB => exact HB.out); (case aF => exact (fun _ _ => trivial)); (case aO => exact HO105.out); (case aS => exact HB.out.size); (case aL => have := HL.out; simp only [List.length_nil]; omega); intro v107 w10 ho hb hg hat; rw [List.nil_append] at ho; replace HB := Aside0.mk (hb); have HO108 := Aside0.mk (ho); clear HO105; clear ho hb hg hat))
   go_ret; exact ⟨_, rfl, HO108.out, HB.out⟩
 ·cases h


/-! ### slices_Clone_string: function 86 (a text of mine) -/
def slices_Clone_string.f (l0 : List ByteArray) : Option (List ByteArray) := if l0.length < 8796093022208 then some l0 else none
set_option maxHeartbeats 2000000 in
set_option maxRecDepth 100000 in
theorem slices_Clone_string.calls (A0 : Option Addr) (c0 : Nat) (l0 : List ByteArray) (r : List ByteArray) (w : World) (hr0 : Kd.C Kd.string w A0 l0.length l0) (hc0 : l0.length ≤ c0) (h : slices_Clone_string.f l0 = some r) :
  Calls Try.prog 86 #[.slice A0 l0.length c0] w fun e w' => ∃ v0_ : Value, e = .returned (v0_) ∧ Kd.R Kd.string 9 w' w.heap.size (fun _ => True) v0_ r ∧ Below w.heap.size w w' := by
 unfold slices_Clone_string.f at h
 split at h
 ·rename_i hl
  obtain rfl := Option.some.inj h; have HL := Aside0.mk hl; have HR := Aside0.mk hr0; clear h hl hr0 hc0
  cases A0 with
  | none =>
   obtain rfl : l0 = [] := by
    cases l0 with
    | nil => rfl
    | cons x l =>
     obtain ⟨ad, _, e, _⟩ := Kd.C_get HR.out x 0 (by decide) (by simp); cases e
   clear HL HR
   have he : ∀ w : World, (binOp .eql 25 (.slice none 0 c0) (.slice none 0 0)).run Try.prog w = .ok (.bool true) w := fun _ => rfl
   go_enter Try.func86, Try.ntmps86
   go_wp2
   go_ret; exact ⟨_, rfl, Kd.R_nil _ _ _ _ _, Below.refl _ _⟩
  | some ad =>
   have HB := Aside0.mk (Below.refl w.heap.size w)
   have he : ∀ w : World, (binOp .eql 25 (.slice (some ad) l0.length c0) (.slice none 0 0)).run Try.prog w = .ok (.bool false) w := fun _ => rfl
   go_enter Try.func86, Try.ntmps86
   go_wp2_with (first | ((with_reducible refine gate_dst (N := 5) rfl ?_); refine Kd.R_lit Kd.string _ 9 ?Hg (N := 5) ?Hd (xs := ([] : List ByteArray)) (inner := []) (ok := fun _ => True) (okp := fun _ => True) ?Hr ?Hp (fun _ hk => hk) trivial (Below.refl _ _) (Nat.le_refl _) (by simp) ?_; (case Hd => rfl); (case Hg => rfl); (case Hr => first | (go_simp; done) | (go_simp; rfl)); (case Hp => exact (Reps.none _ _)); intro v104 w6 ho7 hb hg_ hnew_; clear hg_ hnew_; have HO105 := Aside0.mk ho7; replace HB := Aside0.mk hb; clear hb ho7) | ((with_reducible refine gate_builtin (b := .append) (xs := #[.tmp 5, .tmp 6]) rfl ?_); at_builtin; refine Kd.R_append_rows Kd.string (w0 := w) w.heap.size rfl (.tmp 5) (.tmp 6) 25 9 (.string ⟨#[]⟩) 16 rfl Try.underlying25 info9 rfl (by decide) (by omega) v104 [] l0 _ _ _ (fun _ => True) (fun _ => False) rfl rfl ?aO ?aR (fun _ _ h => h) (fun _ h => h.elim) ?aF ?aB ?aS ?aL ?_; (case aR => exact Kd.C_below HR.out HB.out); (case aB => exact HB.out); (case aF => exact (fun _ _ => trivial)); (case aO => exact HO105.out); (case aS => exact HB.out.size); (case aL => have := HL.out; simp only [List.length_nil]; omega); intro v107 w10 ho hb hg hat; rw [List.nil_append] at ho; replace HB := Aside0.mk (hb); have HO108 := Aside0.mk (ho); clear HO105; clear ho hb hg hat))
   go_ret; exact ⟨_, rfl, HO108.out, HB.out⟩
 ·cases h

end Go.Proofs.Ytflfbaffapbpiaa.P
