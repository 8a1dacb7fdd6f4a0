/- Part 3 of what the law FnExactReadSearch stands on; the last part ends with the law's row. No condition of mine. -/
import Derived.Test.YtoieoimfkimedaaDoorMFnExactReadSearch1
namespace Go.Proofs.YtoieoimfkimedaaDoor.P
open Go.RowKit Go.Proofs.YtoieoimfkimedaaDoorW.PrintWords Go.Proofs.YtoieoimfkimedaaDoorW.PrintLast Go.Proofs.YtoieoimfkimedaaDoorW.PrintMore
attribute [local go_sem] max2_int min2_int max_two min_two max_three min_three max_four min_four   -- for this text's walks alone
set_option linter.unusedVariables false
set_option linter.unusedSimpArgs false

/-! ### spec_l06Has: function 25 -/
def spec_l06Has.l0 : Nat → List ByteArray → ByteArray → Int → Option (Bool)
 | 0, _, _, _ => none
 | k + 1, x0, x1, x5 => if x5 < (x0.length : Int) then (if 0 ≤ x5 then (if (rdOf ByteArray.empty x0 x5).toList = x1.toList then (some true) else (spec_l06Has.l0 k x0 x1 (wrap64 (x5 + 1)))) else (none)) else (some false)
def spec_l06Has.f (k : Nat) (l0 : List ByteArray) (a1 : ByteArray) : Option (Bool) := spec_l06Has.l0 k l0 a1 0
theorem spec_l06Has.mono_l : ∀ k, (∀ y0 y1 y2, LeO (spec_l06Has.l0 k y0 y1 y2) (spec_l06Has.l0 (k + 1) y0 y1 y2))
 | 0 => fun _ _ _ r h => by simp [spec_l06Has.l0] at h
 | k + 1 => by
  have ih0 := spec_l06Has.mono_l k
  ·intro y0 y1 y2
   unfold spec_l06Has.l0
   repeat' first
   | (with_reducible exact ih0 _ _ _)
   | (with_reducible exact LeO.refl _)
   | (with_reducible exact LeO.none _)
   | (with_reducible refine LeO.ite ?_ ?_)
   | (with_reducible refine LeO.bind ?_ (fun _ => ?_))
   | exact ih0 _ _ _
   | exact LeO.none _
   | refine LeO.ite ?_ ?_
   | refine LeO.bind ?_ (fun _ => ?_)
theorem spec_l06Has.mono : ∀ a0 a1 k, LeO (spec_l06Has.f k a0 a1) (spec_l06Has.f (k + 1) a0 a1) := by
 intro a0 a1 k
 have ih0 := spec_l06Has.mono_l k
 unfold spec_l06Has.f
 repeat' first
   | (with_reducible exact ih0 _ _ _)
   | (with_reducible exact LeO.refl _)
   | (with_reducible exact LeO.none _)
   | (with_reducible refine LeO.ite ?_ ?_)
   | (with_reducible refine LeO.bind ?_ (fun _ => ?_))
   | exact ih0 _ _ _
   | exact LeO.none _
   | refine LeO.ite ?_ ?_
   | refine LeO.bind ?_ (fun _ => ?_)
set_option maxHeartbeats 8000000 in
set_option maxRecDepth 100000 in
theorem spec_l06Has.calls (k : Nat) (A0 : Option Addr) (c0 : Nat) (l0 : List ByteArray) (a1 : ByteArray) (r : Bool) (w : World) (hr0 : Kd.C Kd.string w A0 l0.length l0) (hc0 : l0.length ≤ c0) (h : spec_l06Has.f k l0 a1 = some r) :
  Calls Tryd.prog 25 #[.slice A0 l0.length c0, .string a1] w fun e w' => e = .returned (.bool r) ∧ Drawn0 w w' := by
 have HR0 := Aside0.mk hr0
 have HC0 := Aside0.mk hc0
 clear hr0 hc0
 have H : (spec_l06Has.l0 k l0 a1 0) = some r := h
 clear h
 have H' := Aside0.mk H
 clear H
 go_enter Tryd.func25, Tryd.ntmps25
 go_wp2
 go_loopg [5] k (fun kq v5 w' => ∃ (x5_1 : Int), v5 = .int .i64 x5_1 ∧ Aside0 (spec_l06Has.l0 kq l0 a1 x5_1 = some r) ∧ Aside0 (kq ≤ k) ∧ Drawn0 w w')
 case atStart => exact ⟨(0), qff_, H', ⟨Nat.le_refl _⟩, by repeat (first | exact Drawn0.refl _ | apply Drawn0.step)⟩
 case round =>
  clear H'
  try clear c2
  try clear p2
  obtain ⟨x5_1, rfl, HA, HK1, ⟨m1, rfl⟩⟩ := hrel
  cases gk with
  | zero => exact absurd HA.out (by simp [spec_l06Has.l0])
  | succ k1 =>
   have H := HA.out; clear HA; simp only [spec_l06Has.l0] at H; by_cases c3 : x5_1 < (l0.length : Int)
   ·rw [if_pos c3] at H
    have c3b0 : decide (x5_1 < (l0.length : Int)) = true := decide_eq_true c3; clear c3; by_cases c4 : 0 ≤ x5_1
    ·rw [if_pos c4] at H
     have c4b0 : decide (0 ≤ x5_1) = true := decide_eq_true c4; clear c4; by_cases c5 : (rdOf ByteArray.empty l0 x5_1).toList = a1.toList
     ·rw [if_pos c5] at H
      have c5b0 : ((rdOf ByteArray.empty l0 x5_1).toList == a1.toList) = true := beq_iff_eq.mpr c5; have c5b1 : ((rdOf ByteArray.empty l0 x5_1).toList != a1.toList) = false := bne_eq_false_iff_eq.mpr c5; clear c5; obtain rfl := Option.some.inj H; have p101 : 0 ≤ (x5_1 : Int) := qd_; have q101 : x5_1 < (l0.length : Int) := qd_; obtain ⟨ad101, e101, hx101_0⟩ := Kd.at_string HR0.out x5_1 p101 q101; cases e101; replace p101 := eq_true p101; replace q101 := eq_true q101
      go_wp2
      go_ret; exact ⟨by first | rfl | (simp; done) | (simp [*]; done), by repeat (first | exact Drawn0.refl _ | apply Drawn0.step)⟩
     ·rw [if_neg c5] at H
      have c5b0 : ((rdOf ByteArray.empty l0 x5_1).toList == a1.toList) = false := beq_eq_false_iff_ne.mpr c5; have c5b1 : ((rdOf ByteArray.empty l0 x5_1).toList != a1.toList) = true := bne_iff_ne.mpr c5; have H' := Aside0.mk H; clear H; have p101 : 0 ≤ (x5_1 : Int) := qd_; have q101 : x5_1 < (l0.length : Int) := qd_; obtain ⟨ad101, e101, hx101_0⟩ := Kd.at_string HR0.out x5_1 p101 q101; cases e101; replace p101 := eq_true p101; replace q101 := eq_true q101
      go_wp2
      go_roundg k1
      case measure => have := HK1.out; omega
      case rel => exact ⟨(wrap64 (x5_1 + 1)), qff_, H', ⟨by have := HK1.out; omega⟩, by repeat (first | exact Drawn0.refl _ | apply Drawn0.step)⟩
    ·rw [if_neg c4] at H
     exact absurd H (by simp)
   ·rw [if_neg c3] at H
    have c3b0 : decide (x5_1 < (l0.length : Int)) = false := decide_eq_false c3; clear c3; obtain rfl := Option.some.inj H
    go_wp2
    go_ret; exact ⟨by first | rfl | (simp; done) | (simp [*]; done), by repeat (first | exact Drawn0.refl _ | apply Drawn0.step)⟩


/-! ### spec_l11Bare: function 20 -/
def spec_l11Bare.f (k : Nat) (a0 : ByteArray) : Option (Bool) := (spec_l06Has.f k (([(⟨#[65, 76, 76]⟩ : ByteArray), (⟨#[83, 69, 69, 78]⟩ : ByteArray), (⟨#[85, 78, 83, 69, 69, 78]⟩ : ByteArray), (⟨#[65, 78, 83, 87, 69, 82, 69, 68]⟩ : ByteArray), (⟨#[70, 76, 65, 71, 71, 69, 68]⟩ : ByteArray), (⟨#[68, 69, 76, 69, 84, 69, 68]⟩ : ByteArray), (⟨#[85, 78, 68, 69, 76, 69, 84, 69, 68]⟩ : ByteArray), (⟨#[68, 82, 65, 70, 84]⟩ : ByteArray)] : List ByteArray)) a0).bind fun t104 => (some t104)
theorem spec_l11Bare.mono : ∀ a0 k, LeO (spec_l11Bare.f k a0) (spec_l11Bare.f (k + 1) a0) := by
 intro a0 k
 unfold spec_l11Bare.f
 repeat' first
   | (with_reducible exact spec_l06Has.mono _ _ _)
   | (with_reducible exact LeO.refl _)
   | (with_reducible exact LeO.none _)
   | (with_reducible refine LeO.ite ?_ ?_)
   | (with_reducible refine LeO.bind ?_ (fun _ => ?_))
   | exact spec_l06Has.mono _ _ _
   | exact LeO.none _
   | refine LeO.ite ?_ ?_
   | refine LeO.bind ?_ (fun _ => ?_)
set_option maxHeartbeats 8000000 in
set_option maxRecDepth 100000 in
theorem spec_l11Bare.calls (k : Nat) (a0 : ByteArray) (r : Bool) (w : World) (h : spec_l11Bare.f k a0 = some r) :
  Calls Tryd.prog 20 #[.string a0] w fun e w' => e = .returned (.bool r) ∧ Below w.heap.size w w' := by
 have HB := Aside0.mk (Below.refl w.heap.size w)
 have H : ((spec_l06Has.f k (([(⟨#[65, 76, 76]⟩ : BA_), (⟨#[83, 69, 69, 78]⟩ : BA_), (⟨#[85, 78, 83, 69, 69, 78]⟩ : BA_), (⟨#[65, 78, 83, 87, 69, 82, 69, 68]⟩ : BA_), (⟨#[70, 76, 65, 71, 71, 69, 68]⟩ : BA_), (⟨#[68, 69, 76, 69, 84, 69, 68]⟩ : BA_), (⟨#[85, 78, 68, 69, 76, 69, 84, 69, 68]⟩ : BA_), (⟨#[68, 82, 65, 70, 84]⟩ : BA_)] : List ByteArray)) a0).bind fun t104 => (some t104)) = some r := h
 clear h
 obtain ⟨y101, hy101⟩ : ∃ y_ : List ByteArray, y_ = (([(⟨#[65, 76, 76]⟩ : BA_), (⟨#[83, 69, 69, 78]⟩ : BA_), (⟨#[85, 78, 83, 69, 69, 78]⟩ : BA_), (⟨#[65, 78, 83, 87, 69, 82, 69, 68]⟩ : BA_), (⟨#[70, 76, 65, 71, 71, 69, 68]⟩ : BA_), (⟨#[68, 69, 76, 69, 84, 69, 68]⟩ : BA_), (⟨#[85, 78, 68, 69, 76, 69, 84, 69, 68]⟩ : BA_), (⟨#[68, 82, 65, 70, 84]⟩ : BA_)] : List ByteArray)) := ⟨_, rfl⟩
 replace H : ((spec_l06Has.f k y101 a0).bind fun t104 => (some t104)) = some r := qh_ hy101 H
 have Ny101 := Aside0.mk hy101
 clear hy101
 replace H := Option.bind_eq_some_iff.mp H
 obtain ⟨t104, A20, H⟩ := H
 have A2 := Aside0.mk A20
 clear A20
 obtain rfl := Option.some.inj H
 go_enter Tryd.func20, Tryd.ntmps20
 go_wp2_with (first | ((with_reducible refine gate_dst (N := 3) rfl ?_); refine Kd.R_lit Kd.string _ 9 ?Hg (N := 3) ?Hd (xs := ([(⟨#[65, 76, 76]⟩ : BA_), (⟨#[83, 69, 69, 78]⟩ : BA_), (⟨#[85, 78, 83, 69, 69, 78]⟩ : BA_), (⟨#[65, 78, 83, 87, 69, 82, 69, 68]⟩ : BA_), (⟨#[70, 76, 65, 71, 71, 69, 68]⟩ : BA_), (⟨#[68, 69, 76, 69, 84, 69, 68]⟩ : BA_), (⟨#[85, 78, 68, 69, 76, 69, 84, 69, 68]⟩ : BA_), (⟨#[68, 82, 65, 70, 84]⟩ : BA_)] : List ByteArray)) (inner := [.string (⟨#[65, 76, 76]⟩ : BA_), .string (⟨#[83, 69, 69, 78]⟩ : BA_), .string (⟨#[85, 78, 83, 69, 69, 78]⟩ : BA_), .string (⟨#[65, 78, 83, 87, 69, 82, 69, 68]⟩ : BA_), .string (⟨#[70, 76, 65, 71, 71, 69, 68]⟩ : BA_), .string (⟨#[68, 69, 76, 69, 84, 69, 68]⟩ : BA_), .string (⟨#[85, 78, 68, 69, 76, 69, 84, 69, 68]⟩ : BA_), .string (⟨#[68, 82, 65, 70, 84]⟩ : BA_)]) (ok := fun _ => True) (okp := fun _ => True) ?Hr ?Hp (fun _ hk => hk) trivial (Below.refl _ _) (Nat.le_refl _) (by simp) ?_; (case Hd => rfl); (case Hg => rfl); (case Hr => first | (go_simp; done) | (go_simp; rfl)); (case Hp => exact (Reps.one rfl (Reps.one rfl (Reps.one rfl (Reps.one rfl (Reps.one rfl (Reps.one rfl (Reps.one rfl (Reps.one rfl (Reps.none _ _)))))))))); intro v102 w3 ho4 hb hg_ hnew_; clear hg_ hnew_; (first | rw [← Ny101.out] at ho4 | (simp only [Int.reduceToNat] at ho4; rw [← Ny101.out] at ho4)); have HO103 := Aside0.mk (Kd.R_lower ho4 (below_size qBHB)); replace HB := Aside0.mk (below_step qBHB hb); clear hb ho4; obtain ⟨Ao5, co5, eo5⟩ := Kd.R_slice HO103.out; subst eo5) | ((with_reducible refine gate_callee (f := 25) rfl ?_); refine goesL_ (some 5) rfl rfl Tryd.func25 qK rfl #[.slice Ao5 y101.length co5, .string a0] rfl qll_ ?_; (with_reducible refine (spec_l06Has.calls k _ _ y101 a0 t104 _ ?side1 ?side2 A2.out).mono ?_); (case side1 => exact qcc_ (Kd.R_reads' HO103.out).2.2); (case side2 => exact (Kd.R_reads' HO103.out).2.1); rintro e w' ⟨rfl, ⟨nd, rfl⟩⟩; refine ⟨_, rfl, ?_⟩))
 go_ret
 exact ⟨qee_, qBHB⟩


/-! ### spec_l00Cut: function 26 -/
def spec_l00Cut.l0 : Nat → ByteArray → Int → List ByteArray → Int → Int → Option (List ByteArray)
 | 0, _, _, _, _, _ => none
 | k + 1, x0, x1, x5, x6, x7 => if x7 < (x0.size : Int) then (if 0 ≤ x7 then (if (bt x0 x7) = x1 then (if 0 ≤ x6 then (if x6 ≤ x7 then (if x7 ≤ (x0.size : Int) then (if x5.length < 8796093022208 then (spec_l00Cut.l0 k x0 x1 (x5 ++ [x0.extract (x6 : Int).toNat (x7 : Int).toNat]) (wrap64 (x7 + 1)) (wrap64 (x7 + 1))) else (none)) else (none)) else (none)) else (none)) else (spec_l00Cut.l0 k x0 x1 x5 x6 (wrap64 (x7 + 1)))) else (none)) else (if 0 ≤ x6 then (if x6 ≤ (x0.size : Int) then (if x5.length < 8796093022208 then (some (x5 ++ [x0.extract (x6 : Int).toNat x0.size])) else (none)) else (none)) else (none))
def spec_l00Cut.f (k : Nat) (a0 : ByteArray) (a1 : Int) : Option (List ByteArray) := spec_l00Cut.l0 k a0 a1 (([] : List ByteArray)) 0 0
theorem spec_l00Cut.mono_l : ∀ k, (∀ y0 y1 y2 y3 y4, LeO (spec_l00Cut.l0 k y0 y1 y2 y3 y4) (spec_l00Cut.l0 (k + 1) y0 y1 y2 y3 y4))
 | 0 => fun _ _ _ _ _ r h => by simp [spec_l00Cut.l0] at h
 | k + 1 => by
  have ih0 := spec_l00Cut.mono_l k
  ·intro y0 y1 y2 y3 y4
   unfold spec_l00Cut.l0
   repeat' first
   | (with_reducible exact ih0 _ _ _ _ _)
   | (with_reducible exact LeO.refl _)
   | (with_reducible exact LeO.none _)
   | (with_reducible refine LeO.ite ?_ ?_)
   | (with_reducible refine LeO.bind ?_ (fun _ => ?_))
   | exact ih0 _ _ _ _ _
   | exact LeO.none _
   | refine LeO.ite ?_ ?_
   | refine LeO.bind ?_ (fun _ => ?_)
theorem spec_l00Cut.mono : ∀ a0 a1 k, LeO (spec_l00Cut.f k a0 a1) (spec_l00Cut.f (k + 1) a0 a1) := by
 intro a0 a1 k
 have ih0 := spec_l00Cut.mono_l k
 unfold spec_l00Cut.f
 repeat' first
   | (with_reducible exact ih0 _ _ _ _ _)
   | (with_reducible exact LeO.refl _)
   | (with_reducible exact LeO.none _)
   | (with_reducible refine LeO.ite ?_ ?_)
   | (with_reducible refine LeO.bind ?_ (fun _ => ?_))
   | exact ih0 _ _ _ _ _
   | exact LeO.none _
   | refine LeO.ite ?_ ?_
   | refine LeO.bind ?_ (fun _ => ?_)
set_option maxHeartbeats 8000000 in
set_option maxRecDepth 100000 in
theorem spec_l00Cut.calls (k : Nat) (a0 : ByteArray) (a1 : Int) (r : List ByteArray) (w : World) (h : spec_l00Cut.f k a0 a1 = some r) :
  Calls Tryd.prog 26 #[.string a0, .int .u8 a1] w fun e w' => ∃ v0_ : Value, e = .returned (v0_) ∧ Kd.R Kd.string 9 w' w.heap.size (fun _ => True) v0_ r ∧ Below w.heap.size w w' := by
 have HB := Aside0.mk (Below.refl w.heap.size w)
 have H : (spec_l00Cut.l0 k a0 a1 (([] : List ByteArray)) 0 0) = some r := h
 clear h
 obtain ⟨y101, hy101⟩ : ∃ y_ : List ByteArray, y_ = (([] : List ByteArray)) := ⟨_, rfl⟩
 replace H : (spec_l00Cut.l0 k a0 a1 y101 0 0) = some r := qh_ hy101 H
 have Ny101 := Aside0.mk hy101
 clear hy101
 have H' := Aside0.mk H
 clear H
 go_enter Tryd.func26, Tryd.ntmps26
 go_wp2_with (first | ((with_reducible refine gate_dst (N := 8) rfl ?_); refine Kd.R_lit Kd.string _ 9 ?Hg (N := 8) ?Hd (xs := ([] : List ByteArray)) (inner := []) (ok := fun _ => True) (okp := fun _ => True) ?Hr ?Hp (fun _ hk => hk) trivial (Below.refl _ _) (Nat.le_refl _) (by simp) ?_; (case Hd => rfl); (case Hg => rfl); (case Hr => first | (go_simp; done) | (go_simp; rfl)); (case Hp => exact (Reps.none _ _)); intro v102 w3 ho4 hb hg_ hnew_; clear hg_ hnew_; (first | rw [← Ny101.out] at ho4 | (simp only [Int.reduceToNat] at ho4; rw [← Ny101.out] at ho4)); have HO103 := Aside0.mk (Kd.R_lower ho4 (below_size qBHB)); replace HB := Aside0.mk (below_step qBHB hb); clear hb ho4))
 go_loopg [5, 6, 7] k (fun kq v5 v6 v7 w' => ∃ (x5_1 : List ByteArray) (x6_1 : Int) (x7_1 : Int), v6 = .int .i64 x6_1 ∧ v7 = .int .i64 x7_1 ∧ Aside0 (spec_l00Cut.l0 kq a0 a1 x5_1 x6_1 x7_1 = some r) ∧ Aside0 (kq ≤ k) ∧ Aside0 (Kd.R Kd.string 9 w' w.heap.size (fun _ => True) v5 x5_1) ∧ Aside0 (Below w.heap.size w w'))
 case atStart => exact ⟨(y101), (0), (0), qff_, qff_, H', ⟨Nat.le_refl _⟩, ⟨qr_ HO103⟩, ⟨qBHB⟩⟩
 case round =>
  clear H'
  try clear c2
  try clear p2
  obtain ⟨x5_1, x6_1, x7_1, rfl, rfl, HA, HK1, HO_5, HB⟩ := hrel
  cases gk with
  | zero => exact absurd HA.out (by simp [spec_l00Cut.l0])
  | succ k1 =>
   have H := HA.out; clear HA; simp only [spec_l00Cut.l0] at H; by_cases c5 : x7_1 < (a0.size : Int)
   ·rw [if_pos c5] at H
    have c5b0 : decide (x7_1 < (a0.size : Int)) = true := decide_eq_true c5; clear c5; by_cases c6 : 0 ≤ x7_1
    ·rw [if_pos c6] at H
     have c6b0 : decide (0 ≤ x7_1) = true := decide_eq_true c6; clear c6; by_cases c8 : (bt a0 x7_1) = a1
     ·rw [if_pos c8] at H
      have c8b0 : ((bt a0 x7_1) == a1) = true := beq_iff_eq.mpr c8; have c8b1 : ((bt a0 x7_1) != a1) = false := bne_eq_false_iff_eq.mpr c8; clear c8; by_cases c9 : 0 ≤ x6_1
      ·rw [if_pos c9] at H
       have c9b0 := eq_true c9; have c9b1 : decide (0 ≤ x6_1) = true := decide_eq_true c9; clear c9; by_cases c10 : x6_1 ≤ x7_1
       ·rw [if_pos c10] at H
        have c10b0 := eq_true c10; have c10b1 : decide (x6_1 ≤ x7_1) = true := decide_eq_true c10; clear c10; by_cases c11 : x7_1 ≤ (a0.size : Int)
        ·rw [if_pos c11] at H
         have c11b0 := eq_true c11; have c11b1 : decide (x7_1 ≤ (a0.size : Int)) = true := decide_eq_true c11; clear c11; by_cases c12 : x5_1.length < 8796093022208
         ·rw [if_pos c12] at H
          have LMc12 := Aside0.mk c12; clear c12
          obtain ⟨y104, hy104⟩ : ∃ y_ : List ByteArray, y_ = (x5_1 ++ [a0.extract (x6_1 : Int).toNat (x7_1 : Int).toNat]) := ⟨_, rfl⟩
          replace H : (spec_l00Cut.l0 k1 a0 a1 y104 (wrap64 (x7_1 + 1)) (wrap64 (x7_1 + 1))) = some r := qh_ hy104 H; have Ny104 := Aside0.mk hy104; clear hy104; have H' := Aside0.mk H; clear H; have p7 : 0 ≤ (x7_1 : Int) := qd_; have q7 : x7_1 < (a0.size : Int) := qd_; have hx7 := bt_at a0 x7_1; replace p7 := eq_true p7; replace q7 := eq_true q7
          go_wp2_with (first | ((with_reducible refine gate_builtin (b := .append) (xs := #[.tmp 20, .tmp 25]) rfl ?_); at_builtin; refine Kd.R_append Kd.string (w0 := w) w.heap.size rfl (.tmp 20) (.tmp 25) 22 9 (.string ⟨#[]⟩) 16 rfl Tryd.underlying22 info9 rfl (by decide) (by omega) u5 x5_1 (a0.extract (x6_1 : Int).toNat (x7_1 : Int).toNat) [.string (a0.extract (x6_1 : Int).toNat (x7_1 : Int).toNat)] (fun _ => True) (fun _ => False) rfl rfl ?aP (fun _ hk => hk.elim) ?aF ?aO ?aB ?aS ?aL ?_; (case aP => exact rfl); (case aB => exact qBHB); (case aF => exact (fun _ _ => trivial)); (case aO => exact (qr_ HO_5)); (case aS => exact (below_size qBHB)); (case aL => have := LMc12.out; omega); intro v105 w13 ho hb hg hat; rw [← Ny104.out] at ho; replace HB := Aside0.mk (hb); have HO106 := Aside0.mk (ho); clear HO_5; clear ho hb hg hat))
          go_roundg k1
          case measure => have := HK1.out; omega
          case rel => exact ⟨(y104), (wrap64 (x7_1 + 1)), (wrap64 (x7_1 + 1)), qff_, qff_, H', ⟨by have := HK1.out; omega⟩, ⟨qr_ HO106⟩, ⟨qBHB⟩⟩
         ·rw [if_neg c12] at H
          exact absurd H (by simp)
        ·rw [if_neg c11] at H
         exact absurd H (by simp)
       ·rw [if_neg c10] at H
        exact absurd H (by simp)
      ·rw [if_neg c9] at H
       exact absurd H (by simp)
     ·rw [if_neg c8] at H
      have c8b0 : ((bt a0 x7_1) == a1) = false := beq_eq_false_iff_ne.mpr c8; have c8b1 : ((bt a0 x7_1) != a1) = true := bne_iff_ne.mpr c8; have H' := Aside0.mk H; clear H; have p7 : 0 ≤ (x7_1 : Int) := qd_; have q7 : x7_1 < (a0.size : Int) := qd_; have hx7 := bt_at a0 x7_1; replace p7 := eq_true p7; replace q7 := eq_true q7
      go_wp2
      go_roundg k1
      case measure => have := HK1.out; omega
      case rel => exact ⟨(x5_1), (x6_1), (wrap64 (x7_1 + 1)), qff_, qff_, H', ⟨by have := HK1.out; omega⟩, ⟨qr_ HO_5⟩, ⟨qBHB⟩⟩
    ·rw [if_neg c6] at H
     exact absurd H (by simp)
   ·rw [if_neg c5] at H
    have c5b0 : decide (x7_1 < (a0.size : Int)) = false := decide_eq_false c5; clear c5; by_cases c14 : 0 ≤ x6_1
    ·rw [if_pos c14] at H
     have c14b0 := eq_true c14; have c14b1 : decide (0 ≤ x6_1) = true := decide_eq_true c14; clear c14; by_cases c15 : x6_1 ≤ (a0.size : Int)
     ·rw [if_pos c15] at H
      have c15b0 := eq_true c15; have c15b1 : decide (x6_1 ≤ (a0.size : Int)) = true := decide_eq_true c15; clear c15; by_cases c16 : x5_1.length < 8796093022208
      ·rw [if_pos c16] at H
       have LMc16 := Aside0.mk c16; clear c16
       obtain ⟨y107, hy107⟩ : ∃ y_ : List ByteArray, y_ = (x5_1 ++ [a0.extract (x6_1 : Int).toNat a0.size]) := ⟨_, rfl⟩
       replace H : (some y107) = some r := qh_ hy107 H; have Ny107 := Aside0.mk hy107; clear hy107; obtain rfl := Option.some.inj H
       go_wp2_with (first | ((with_reducible refine gate_builtin (b := .append) (xs := #[.tmp 29, .tmp 33]) rfl ?_); at_builtin; refine Kd.R_append Kd.string (w0 := w) w.heap.size rfl (.tmp 29) (.tmp 33) 22 9 (.string ⟨#[]⟩) 16 rfl Tryd.underlying22 info9 rfl (by decide) (by omega) u5 x5_1 (a0.extract (x6_1 : Int).toNat a0.size) [.string (a0.extract (x6_1 : Int).toNat a0.size)] (fun _ => True) (fun _ => False) rfl rfl ?aP (fun _ hk => hk.elim) ?aF ?aO ?aB ?aS ?aL ?_; (case aP => exact rfl); (case aB => exact qBHB); (case aF => exact (fun _ _ => trivial)); (case aO => exact (qr_ HO_5)); (case aS => exact (below_size qBHB)); (case aL => have := LMc16.out; omega); intro v108 w17 ho hb hg hat; rw [← Ny107.out] at ho; replace HB := Aside0.mk (hb); have HO109 := Aside0.mk (ho); clear HO_5; clear ho hb hg hat))
       go_ret; exact ⟨_, qee_, qr_ HO109, qBHB⟩
      ·rw [if_neg c16] at H
       exact absurd H (by simp)
     ·rw [if_neg c15] at H
      exact absurd H (by simp)
    ·rw [if_neg c14] at H
     exact absurd H (by simp)


/-! ### spec_l00Number: function 32 -/
mutual
def spec_l00Number.j0 : Nat → ByteArray → Int → Bool → Option (Int × Bool)
 | 0, _, _, _ => none
 | k + 1, x0, x4, x14 => if x14 = true then (if 1 ≤ (x0.size : Int) then (spec_l00Number.j1 k (x0.extract 1 x0.size) (-1)) else (none)) else (spec_l00Number.j1 k x0 x4)
def spec_l00Number.j1 : Nat → ByteArray → Int → Option (Int × Bool)
 | 0, _, _ => none
 | k + 1, x0, x4 => if (x0.size : Int) = 0 then (spec_l00Number.j2 k x0 x4 true) else (if (x0.size : Int) > 18 then (spec_l00Number.j2 k x0 x4 true) else (if 0 < (x0.size : Int) then (if (bt x0 0) = 48 then (if (x0.size : Int) > 1 then (spec_l00Number.j2 k x0 x4 true) else (spec_l00Number.j2 k x0 x4 (decide (x4 < 0)))) else (spec_l00Number.j2 k x0 x4 false)) else (none)))
def spec_l00Number.j2 : Nat → ByteArray → Int → Bool → Option (Int × Bool)
 | 0, _, _, _ => none
 | k + 1, x0, x4, x38 => if x38 = true then (some (0, false)) else (spec_l00Number.l0 k x0 x4 0 0)
def spec_l00Number.l0 : Nat → ByteArray → Int → Int → Int → Option (Int × Bool)
 | 0, _, _, _, _ => none
 | k + 1, x0, x4, x5, x6 => if x6 < (x0.size : Int) then (if 0 ≤ x6 then (if (bt x0 x6) < 48 then (some (0, false)) else (if (bt x0 x6) > 57 then (some (0, false)) else (spec_l00Number.l0 k x0 x4 (wrap64 ((wrap64 ((wrap64 (x5 * 10)) + (wrap64 (bt x0 x6)))) - 48)) (wrap64 (x6 + 1))))) else (none)) else (some (wrap64 (x4 * x5), true))
end
def spec_l00Number.f (k : Nat) (a0 : ByteArray) : Option (Int × Bool) := if (a0.size : Int) > 0 then (if 0 < (a0.size : Int) then (spec_l00Number.j0 k a0 1 ((bt a0 0) == 45)) else (none)) else (spec_l00Number.j0 k a0 1 false)
theorem spec_l00Number.mono_l : ∀ k, (∀ y0 y1 y2, LeO (spec_l00Number.j0 k y0 y1 y2) (spec_l00Number.j0 (k + 1) y0 y1 y2)) ∧ (∀ y0 y1, LeO (spec_l00Number.j1 k y0 y1) (spec_l00Number.j1 (k + 1) y0 y1)) ∧ (∀ y0 y1 y2, LeO (spec_l00Number.j2 k y0 y1 y2) (spec_l00Number.j2 (k + 1) y0 y1 y2)) ∧ (∀ y0 y1 y2 y3, LeO (spec_l00Number.l0 k y0 y1 y2 y3) (spec_l00Number.l0 (k + 1) y0 y1 y2 y3))
 | 0 => ⟨fun _ _ _ r h => by simp [spec_l00Number.j0] at h, fun _ _ r h => by simp [spec_l00Number.j1] at h, fun _ _ _ r h => by simp [spec_l00Number.j2] at h, fun _ _ _ _ r h => by simp [spec_l00Number.l0] at h⟩
 | k + 1 => by
  obtain ⟨ih0, ih1, ih2, ih3⟩ := spec_l00Number.mono_l k; refine ⟨?_, ?_, ?_, ?_⟩
  ·intro y0 y1 y2
   unfold spec_l00Number.j0
   repeat' first
   | (with_reducible exact ih0 _ _ _)
   | (with_reducible exact ih1 _ _)
   | (with_reducible exact ih2 _ _ _)
   | (with_reducible exact ih3 _ _ _ _)
   | (with_reducible exact LeO.refl _)
   | (with_reducible exact LeO.none _)
   | (with_reducible refine LeO.ite ?_ ?_)
   | (with_reducible refine LeO.bind ?_ (fun _ => ?_))
   | exact ih0 _ _ _
   | exact ih1 _ _
   | exact ih2 _ _ _
   | exact ih3 _ _ _ _
   | exact LeO.none _
   | refine LeO.ite ?_ ?_
   | refine LeO.bind ?_ (fun _ => ?_)
  ·intro y0 y1
   unfold spec_l00Number.j1
   repeat' first
   | (with_reducible exact ih0 _ _ _)
   | (with_reducible exact ih1 _ _)
   | (with_reducible exact ih2 _ _ _)
   | (with_reducible exact ih3 _ _ _ _)
   | (with_reducible exact LeO.refl _)
   | (with_reducible exact LeO.none _)
   | (with_reducible refine LeO.ite ?_ ?_)
   | (with_reducible refine LeO.bind ?_ (fun _ => ?_))
   | exact ih0 _ _ _
   | exact ih1 _ _
   | exact ih2 _ _ _
   | exact ih3 _ _ _ _
   | exact LeO.none _
   | refine LeO.ite ?_ ?_
   | refine LeO.bind ?_ (fun _ => ?_)
  ·intro y0 y1 y2
   unfold spec_l00Number.j2
   repeat' first
   | (with_reducible exact ih0 _ _ _)
   | (with_reducible exact ih1 _ _)
   | (with_reducible exact ih2 _ _ _)
   | (with_reducible exact ih3 _ _ _ _)
   | (with_reducible exact LeO.refl _)
   | (with_reducible exact LeO.none _)
   | (with_reducible refine LeO.ite ?_ ?_)
   | (with_reducible refine LeO.bind ?_ (fun _ => ?_))
   | exact ih0 _ _ _
   | exact ih1 _ _
   | exact ih2 _ _ _
   | exact ih3 _ _ _ _
   | exact LeO.none _
   | refine LeO.ite ?_ ?_
   | refine LeO.bind ?_ (fun _ => ?_)
  ·intro y0 y1 y2 y3
   unfold spec_l00Number.l0
   repeat' first
   | (with_reducible exact ih0 _ _ _)
   | (with_reducible exact ih1 _ _)
   | (with_reducible exact ih2 _ _ _)
   | (with_reducible exact ih3 _ _ _ _)
   | (with_reducible exact LeO.refl _)
   | (with_reducible exact LeO.none _)
   | (with_reducible refine LeO.ite ?_ ?_)
   | (with_reducible refine LeO.bind ?_ (fun _ => ?_))
   | exact ih0 _ _ _
   | exact ih1 _ _
   | exact ih2 _ _ _
   | exact ih3 _ _ _ _
   | exact LeO.none _
   | refine LeO.ite ?_ ?_
   | refine LeO.bind ?_ (fun _ => ?_)
theorem spec_l00Number.mono : ∀ a0 k, LeO (spec_l00Number.f k a0) (spec_l00Number.f (k + 1) a0) := by
 intro a0 k
 obtain ⟨ih0, ih1, ih2, ih3⟩ := spec_l00Number.mono_l k
 unfold spec_l00Number.f
 repeat' first
   | (with_reducible exact ih0 _ _ _)
   | (with_reducible exact ih1 _ _)
   | (with_reducible exact ih2 _ _ _)
   | (with_reducible exact ih3 _ _ _ _)
   | (with_reducible exact LeO.refl _)
   | (with_reducible exact LeO.none _)
   | (with_reducible refine LeO.ite ?_ ?_)
   | (with_reducible refine LeO.bind ?_ (fun _ => ?_))
   | exact ih0 _ _ _
   | exact ih1 _ _
   | exact ih2 _ _ _
   | exact ih3 _ _ _ _
   | exact LeO.none _
   | refine LeO.ite ?_ ?_
   | refine LeO.bind ?_ (fun _ => ?_)
set_option maxHeartbeats 8000000 in
set_option maxRecDepth 100000 in
theorem spec_l00Number.calls (k : Nat) (a0 : ByteArray) (r1 : Int) (r2 : Bool) (w : World) (h : spec_l00Number.f k a0 = some (r1, r2)) :
  Calls Tryd.prog 32 #[.string a0] w fun e w' => e = .returned (.tuple #[.int .i64 r1, .bool r2]) ∧ Drawn0 w w' := by
 have H : (if (a0.size : Int) > 0 then (if 0 < (a0.size : Int) then (spec_l00Number.j0 k a0 1 ((bt a0 0) == 45)) else (none)) else (spec_l00Number.j0 k a0 1 false)) = some (r1, r2) := h
 clear h
 have HC2 := Aside0.mk H
 clear H
 go_enter Tryd.func32, Tryd.ntmps32
 go_upto_region 2 with (fail)
 go_cut [14] (fun v14 wc => ∃ (kq : Nat) (x14_1 : Bool), v14 = .bool x14_1 ∧ Aside0 (spec_l00Number.j0 kq a0 1 x14_1 = some (r1, r2)) ∧ Aside0 (kq ≤ k) ∧ Drawn0 w wc)
 case first =>
  have H := HC2.out; clear HC2; by_cases c3 : (a0.size : Int) > 0
  ·rw [if_pos c3] at H
   have c3b0 : decide (0 < (a0.size : Int)) = true := decide_eq_true c3; have c3b1 : decide (0 < a0.size) = true := decide_eq_true (by omega); clear c3
   (first | rw [c3b0] | (simp only [i64_w, i32_w]; rw [c3b0]) | skip)
   by_cases c4 : 0 < (a0.size : Int)
   ·rw [if_pos c4] at H
    have c4b0 : decide (0 < (a0.size : Int)) = true := decide_eq_true c4; have c4b1 : decide (0 < a0.size) = true := decide_eq_true (by omega); clear c4; have H' := Aside0.mk H; clear H; have p5 : 0 ≤ (0 : Int) := (by omega); have q5 : 0 < a0.size := (by have : (0 : Int) < (a0.size : Int) := qd_; omega)
    have hx5 : ∀ h : 0 < a0.size, ((a0[0]'h).toNat : Int) = bt a0 0 := bt_at a0 0
    clear p5; have qi5 : (0 < (a0.size : Int)) = True := eq_true (qd_); replace q5 := eq_true q5
    go_wp2
    go_meet
    case rel => exact ⟨_, (((bt a0 0) == 45)), qff_, H', ⟨by first | omega | exact Nat.le_refl _⟩, by repeat (first | exact Drawn0.refl _ | apply Drawn0.step)⟩
   ·rw [if_neg c4] at H
    exact absurd H (by simp)
  ·rw [if_neg c3] at H
   have c3b0 : decide (0 < (a0.size : Int)) = false := decide_eq_false c3; have c3b1 : decide (0 < a0.size) = false := decide_eq_false (by omega); clear c3
   (first | rw [c3b0] | (simp only [i64_w, i32_w]; rw [c3b0]) | skip)
   have H' := Aside0.mk H; clear H
   go_wp2
   go_meet
   case rel => exact ⟨_, (false), qff_, H', ⟨by first | omega | exact Nat.le_refl _⟩, by repeat (first | exact Drawn0.refl _ | apply Drawn0.step)⟩
 case rest =>
  clear HC2
  try clear p2
  try clear c3
  try clear c3b0
  try clear c3b1
  try clear c4
  try clear c4b0
  try clear c4b1
  try clear p5
  try clear q5
  try clear hx5
  try clear qi5
  try clear p5
  try clear q5
  obtain ⟨kq, x14_1, rfl, HA, HJ1, ⟨mc1, rfl⟩⟩ := hcut
  cases kq with
  | zero => exact absurd HA.out (by simp [spec_l00Number.j0])
  | succ kj1 =>
   have H := HA.out; clear HA; simp only [spec_l00Number.j0] at H; have HC6 := Aside0.mk H; clear H
   go_upto_if 14 with (fail)
   go_cut [0, 4] (fun v0 v4 wc => ∃ (kq : Nat) (x0_5 : ByteArray) (x4_5 : Int), v0 = .string x0_5 ∧ v4 = .int .i64 x4_5 ∧ Aside0 (spec_l00Number.j1 kq x0_5 x4_5 = some (r1, r2)) ∧ Aside0 (kq ≤ kj1) ∧ Drawn0 w wc)
   case first =>
    have H := HC6.out; clear HC6; by_cases c7 : x14_1 = true
    ·subst c7
     have H1 : (if 1 ≤ (a0.size : Int) then (spec_l00Number.j1 kj1 (a0.extract 1 a0.size) (-1)) else (none)) = some (r1, r2) := by rw [if_pos rfl] at H; exact H
     clear H; have H := H1; clear H1; by_cases c8 : 1 ≤ (a0.size : Int)
     ·rw [if_pos c8] at H
      have c8b0 := eq_true c8; have c8b1 : decide (1 ≤ (a0.size : Int)) = true := decide_eq_true c8; clear c8; have H' := Aside0.mk H; clear H
      go_wp2
      go_meet
      case rel => exact ⟨_, (a0.extract 1 a0.size), ((-1)), qff_, qff_, H', ⟨by have := HJ1.out; first | omega | exact Nat.le_refl _⟩, by repeat (first | exact Drawn0.refl _ | apply Drawn0.step)⟩
     ·rw [if_neg c8] at H
      exact absurd H (by simp)
    ·replace c7 := Bool.eq_false_iff.mpr c7
     subst c7
     have H1 : (spec_l00Number.j1 kj1 a0 1) = some (r1, r2) := by rw [if_neg (show ¬ (false = true) by decide)] at H; exact H
     clear H; have H := H1; clear H1; have H' := Aside0.mk H; clear H
     go_wp2
     go_meet
     case rel => exact ⟨_, (a0), (1), qff_, qff_, H', ⟨by have := HJ1.out; first | omega | exact Nat.le_refl _⟩, by repeat (first | exact Drawn0.refl _ | apply Drawn0.step)⟩
   case rest =>
    clear HC6
    try clear c1
    try clear p2
    try clear c3
    try clear c3b0
    try clear c3b1
    try clear c4
    try clear c4b0
    try clear c4b1
    try clear p5
    try clear q5
    try clear hx5
    try clear qi5
    try clear c7
    try clear c8
    try clear c8b0
    try clear c8b1
    try clear p2
    try clear p5
    try clear q5
    obtain ⟨kq, x0_5, x4_5, rfl, rfl, HA, HJ5, ⟨mc5, rfl⟩⟩ := hcut
    cases kq with
    | zero => exact absurd HA.out (by simp [spec_l00Number.j1])
    | succ kj5 =>
     have H := HA.out; clear HA; simp only [spec_l00Number.j1] at H; have HC9 := Aside0.mk H; clear H
     go_upto_region 5 with (fail)
     go_cut [38] (fun v38 wc => ∃ (kq : Nat) (x38_8 : Bool), v38 = .bool x38_8 ∧ Aside0 (spec_l00Number.j2 kq x0_5 x4_5 x38_8 = some (r1, r2)) ∧ Aside0 (kq ≤ kj5) ∧ Drawn0 w wc)
     case first =>
      have H := HC9.out; clear HC9; by_cases c10 : (x0_5.size : Int) = 0
      ·rw [if_pos c10] at H
       have c10b0 : ((x0_5.size : Int) == 0) = true := beq_iff_eq.mpr c10; have c10b1 : ((x0_5.size : Int) != 0) = false := bne_eq_false_iff_eq.mpr c10; clear c10
       (first | rw [c10b0] | (simp only [i64_w, i32_w]; rw [c10b0]) | skip)
       have H' := Aside0.mk H; clear H
       go_wp2
       go_meet
       case rel => exact ⟨_, (true), qff_, H', ⟨by have := HJ1.out; have := HJ5.out; first | omega | exact Nat.le_refl _⟩, by repeat (first | exact Drawn0.refl _ | apply Drawn0.step)⟩
      ·rw [if_neg c10] at H
       have c10b0 : ((x0_5.size : Int) == 0) = false := beq_eq_false_iff_ne.mpr c10; have c10b1 : ((x0_5.size : Int) != 0) = true := bne_iff_ne.mpr c10
       (first | rw [c10b0] | (simp only [i64_w, i32_w]; rw [c10b0]) | skip)
       by_cases c11 : (x0_5.size : Int) > 18
       ·rw [if_pos c11] at H
        have c11b0 : decide (18 < (x0_5.size : Int)) = true := decide_eq_true c11; have c11b1 : decide (18 < x0_5.size) = true := decide_eq_true (by omega); clear c11; have H' := Aside0.mk H; clear H
        go_wp2
        go_meet
        case rel => exact ⟨_, (true), qff_, H', ⟨by have := HJ1.out; have := HJ5.out; first | omega | exact Nat.le_refl _⟩, by repeat (first | exact Drawn0.refl _ | apply Drawn0.step)⟩
       ·rw [if_neg c11] at H
        have c11b0 : decide (18 < (x0_5.size : Int)) = false := decide_eq_false c11; have c11b1 : decide (18 < x0_5.size) = false := decide_eq_false (by omega); clear c11; by_cases c12 : 0 < (x0_5.size : Int)
        ·rw [if_pos c12] at H
         have c12b0 : decide (0 < (x0_5.size : Int)) = true := decide_eq_true c12; have c12b1 : decide (0 < x0_5.size) = true := decide_eq_true (by omega); clear c12; by_cases c14 : (bt x0_5 0) = 48
         ·rw [if_pos c14] at H
          have c14b0 : ((bt x0_5 0) == 48) = true := beq_iff_eq.mpr c14; have c14b1 : ((bt x0_5 0) != 48) = false := bne_eq_false_iff_eq.mpr c14; clear c14; by_cases c15 : (x0_5.size : Int) > 1
          ·rw [if_pos c15] at H
           have c15b0 : decide (1 < (x0_5.size : Int)) = true := decide_eq_true c15; have c15b1 : decide (1 < x0_5.size) = true := decide_eq_true (by omega); clear c15; have H' := Aside0.mk H; clear H; have p13 : 0 ≤ (0 : Int) := (by omega); have q13 : 0 < x0_5.size := (by have : (0 : Int) < (x0_5.size : Int) := qd_; omega)
           have hx13 : ∀ h : 0 < x0_5.size, ((x0_5[0]'h).toNat : Int) = bt x0_5 0 := bt_at x0_5 0
           clear p13; have qi13 : (0 < (x0_5.size : Int)) = True := eq_true (qd_); replace q13 := eq_true q13
           go_wp2
           go_meet
           case rel => exact ⟨_, (true), qff_, H', ⟨by have := HJ1.out; have := HJ5.out; first | omega | exact Nat.le_refl _⟩, by repeat (first | exact Drawn0.refl _ | apply Drawn0.step)⟩
          ·rw [if_neg c15] at H
           have c15b0 : decide (1 < (x0_5.size : Int)) = false := decide_eq_false c15; have c15b1 : decide (1 < x0_5.size) = false := decide_eq_false (by omega); clear c15; have H' := Aside0.mk H; clear H; have p13 : 0 ≤ (0 : Int) := (by omega); have q13 : 0 < x0_5.size := (by have : (0 : Int) < (x0_5.size : Int) := qd_; omega)
           have hx13 : ∀ h : 0 < x0_5.size, ((x0_5[0]'h).toNat : Int) = bt x0_5 0 := bt_at x0_5 0
           clear p13; have qi13 : (0 < (x0_5.size : Int)) = True := eq_true (qd_); replace q13 := eq_true q13
           go_wp2
           go_meet
           case rel => exact ⟨_, (decide (x4_5 < 0)), qff_, H', ⟨by have := HJ1.out; have := HJ5.out; first | omega | exact Nat.le_refl _⟩, by repeat (first | exact Drawn0.refl _ | apply Drawn0.step)⟩
         ·rw [if_neg c14] at H
          have c14b0 : ((bt x0_5 0) == 48) = false := beq_eq_false_iff_ne.mpr c14; have c14b1 : ((bt x0_5 0) != 48) = true := bne_iff_ne.mpr c14; have H' := Aside0.mk H; clear H; have p13 : 0 ≤ (0 : Int) := (by omega); have q13 : 0 < x0_5.size := (by have : (0 : Int) < (x0_5.size : Int) := qd_; omega)
          have hx13 : ∀ h : 0 < x0_5.size, ((x0_5[0]'h).toNat : Int) = bt x0_5 0 := bt_at x0_5 0
          clear p13; have qi13 : (0 < (x0_5.size : Int)) = True := eq_true (qd_); replace q13 := eq_true q13
          go_wp2
          go_meet
          case rel => exact ⟨_, (false), qff_, H', ⟨by have := HJ1.out; have := HJ5.out; first | omega | exact Nat.le_refl _⟩, by repeat (first | exact Drawn0.refl _ | apply Drawn0.step)⟩
        ·rw [if_neg c12] at H
         exact absurd H (by simp)
     case rest =>
      clear HC9
      try clear c1
      try clear p1
      try clear q1
      try clear hx1
      try clear qi1
      try clear p2
      try clear c3
      try clear c3b0
      try clear c3b1
      try clear c4
      try clear c4b0
      try clear c4b1
      try clear c5
      try clear p5
      try clear q5
      try clear hx5
      try clear qi5
      try clear c7
      try clear c8
      try clear c8b0
      try clear c8b1
      try clear c10
      try clear c10b0
      try clear c10b1
      try clear c11
      try clear c11b0
      try clear c11b1
      try clear c12
      try clear c12b0
      try clear c12b1
      try clear p13
      try clear q13
      try clear hx13
      try clear qi13
      try clear c14
      try clear c14b0
      try clear c14b1
      try clear c15
      try clear c15b0
      try clear c15b1
      try clear p13
      try clear p2
      try clear p5
      try clear q13
      try clear q5
      obtain ⟨kq, x38_8, rfl, HA, HJ8, ⟨mc8, rfl⟩⟩ := hcut
      cases kq with
      | zero => exact absurd HA.out (by simp [spec_l00Number.j2])
      | succ kj8 =>
       have H := HA.out; clear HA; simp only [spec_l00Number.j2] at H; by_cases c16 : x38_8 = true
       ·subst c16
        have H1 : (some (0, false)) = some (r1, r2) := by rw [if_pos rfl] at H; exact H
        clear H; have H := H1; clear H1; simp only [Option.some.injEq, Prod.mk.injEq] at H; obtain ⟨rfl, rfl⟩ := H
        go_wp2
        go_ret2
        exact ⟨by first | rfl | (simp; done) | (simp [*]; done), by repeat (first | exact Drawn0.refl _ | apply Drawn0.step)⟩
       ·replace c16 := Bool.eq_false_iff.mpr c16
        subst c16
        have H1 : (spec_l00Number.l0 kj8 x0_5 x4_5 0 0) = some (r1, r2) := by rw [if_neg (show ¬ (false = true) by decide)] at H; exact H
        clear H; have H := H1; clear H1; have H' := Aside0.mk H; clear H
        go_wp2
        go_loopg [5, 6] kj8 (fun kq v5 v6 w' => ∃ (x5_4 : Int) (x6_4 : Int), v5 = .int .i64 x5_4 ∧ v6 = .int .i64 x6_4 ∧ Aside0 (spec_l00Number.l0 kq x0_5 x4_5 x5_4 x6_4 = some (r1, r2)) ∧ Aside0 (kq ≤ kj8) ∧ Drawn0 w w')
        case atStart => exact ⟨(0), (0), qff_, qff_, H', ⟨Nat.le_refl _⟩, by repeat (first | exact Drawn0.refl _ | apply Drawn0.step)⟩
        case round =>
         clear H'
         try clear c1
         try clear p1
         try clear q1
         try clear hx1
         try clear qi1
         try clear p2
         try clear c3
         try clear c3b0
         try clear c3b1
         try clear c4
         try clear c4b0
         try clear c4b1
         try clear c5
         try clear p5
         try clear q5
         try clear hx5
         try clear qi5
         try clear c7
         try clear c8
         try clear c8b0
         try clear c8b1
         try clear c10
         try clear c10b0
         try clear c10b1
         try clear c11
         try clear c11b0
         try clear c11b1
         try clear c12
         try clear c12b0
         try clear c12b1
         try clear p13
         try clear q13
         try clear hx13
         try clear qi13
         try clear c14
         try clear c14b0
         try clear c14b1
         try clear c15
         try clear c15b0
         try clear c15b1
         try clear c16
         try clear p1
         try clear p13
         try clear p2
         try clear p5
         try clear q1
         try clear q13
         try clear q5
         obtain ⟨x5_4, x6_4, rfl, rfl, HA, HK4, ⟨m4, rfl⟩⟩ := hrel
         cases gk with
         | zero => exact absurd HA.out (by simp [spec_l00Number.l0])
         | succ k4 =>
          have H := HA.out; clear HA; simp only [spec_l00Number.l0] at H; by_cases c17 : x6_4 < (x0_5.size : Int)
          ·rw [if_pos c17] at H
           have c17b0 : decide (x6_4 < (x0_5.size : Int)) = true := decide_eq_true c17; clear c17; by_cases c18 : 0 ≤ x6_4
           ·rw [if_pos c18] at H
            have c18b0 : decide (0 ≤ x6_4) = true := decide_eq_true c18; clear c18; by_cases c20 : (bt x0_5 x6_4) < 48
            ·rw [if_pos c20] at H
             have c20b0 : decide ((bt x0_5 x6_4) < 48) = true := decide_eq_true c20; clear c20; simp only [Option.some.injEq, Prod.mk.injEq] at H; obtain ⟨rfl, rfl⟩ := H; have p19 : 0 ≤ (x6_4 : Int) := qd_; have q19 : x6_4 < (x0_5.size : Int) := qd_; have hx19 := bt_at x0_5 x6_4; replace p19 := eq_true p19; replace q19 := eq_true q19
             go_wp2
             go_ret2
             exact ⟨by first | rfl | (simp; done) | (simp [*]; done), by repeat (first | exact Drawn0.refl _ | apply Drawn0.step)⟩
            ·rw [if_neg c20] at H
             have c20b0 : decide ((bt x0_5 x6_4) < 48) = false := decide_eq_false c20; clear c20; by_cases c22 : (bt x0_5 x6_4) > 57
             ·rw [if_pos c22] at H
              have c22b0 : decide (57 < (bt x0_5 x6_4)) = true := decide_eq_true c22; clear c22; simp only [Option.some.injEq, Prod.mk.injEq] at H; obtain ⟨rfl, rfl⟩ := H; have p19 : 0 ≤ (x6_4 : Int) := qd_; have q19 : x6_4 < (x0_5.size : Int) := qd_; have hx19 := bt_at x0_5 x6_4; replace p19 := eq_true p19; replace q19 := eq_true q19; have p21 : 0 ≤ (x6_4 : Int) := qd_; have q21 : x6_4 < (x0_5.size : Int) := qd_; have hx21 := bt_at x0_5 x6_4; replace p21 := eq_true p21; replace q21 := eq_true q21
              go_wp2
              go_ret2
              exact ⟨by first | rfl | (simp; done) | (simp [*]; done), by repeat (first | exact Drawn0.refl _ | apply Drawn0.step)⟩
             ·rw [if_neg c22] at H
              have c22b0 : decide (57 < (bt x0_5 x6_4)) = false := decide_eq_false c22; clear c22; have H' := Aside0.mk H; clear H; have p19 : 0 ≤ (x6_4 : Int) := qd_; have q19 : x6_4 < (x0_5.size : Int) := qd_; have hx19 := bt_at x0_5 x6_4; replace p19 := eq_true p19; replace q19 := eq_true q19; have p21 : 0 ≤ (x6_4 : Int) := qd_; have q21 : x6_4 < (x0_5.size : Int) := qd_; have hx21 := bt_at x0_5 x6_4; replace p21 := eq_true p21; replace q21 := eq_true q21; have p23 : 0 ≤ (x6_4 : Int) := qd_; have q23 : x6_4 < (x0_5.size : Int) := qd_; have hx23 := bt_at x0_5 x6_4; replace p23 := eq_true p23; replace q23 := eq_true q23
              go_wp2
              go_roundg k4
              case measure => have := HJ1.out; have := HJ5.out; have := HJ8.out; have := HK4.out; omega
              case rel => exact ⟨(wrap64 ((wrap64 ((wrap64 (x5_4 * 10)) + (wrap64 (bt x0_5 x6_4)))) - 48)), (wrap64 (x6_4 + 1)), qff_, qff_, H', ⟨by have := HJ1.out; have := HJ5.out; have := HJ8.out; have := HK4.out; omega⟩, by repeat (first | exact Drawn0.refl _ | apply Drawn0.step)⟩
           ·rw [if_neg c18] at H
            exact absurd H (by simp)
          ·rw [if_neg c17] at H
           have c17b0 : decide (x6_4 < (x0_5.size : Int)) = false := decide_eq_false c17; clear c17; simp only [Option.some.injEq, Prod.mk.injEq] at H; obtain ⟨rfl, rfl⟩ := H
           go_wp2
           go_ret2
           exact ⟨by first | rfl | (simp; done) | (simp [*]; done), by repeat (first | exact Drawn0.refl _ | apply Drawn0.step)⟩


/-! ### spec_l01In: function 33 -/
def spec_l01In.f (a0 : Int) (a1 : Int) (a2 : Int) : Option (Bool) := if a0 ≥ a1 then (some (decide (a0 ≤ a2))) else (some false)
set_option maxHeartbeats 8000000 in
set_option maxRecDepth 100000 in
theorem spec_l01In.calls (a0 : Int) (a1 : Int) (a2 : Int) (r : Bool) (w : World) (h : spec_l01In.f a0 a1 a2 = some r) :
  Calls Tryd.prog 33 #[.int .i64 a0, .int .i64 a1, .int .i64 a2] w fun e w' => e = .returned (.bool r) ∧ Drawn0 w w' := by
 have H : (if a0 ≥ a1 then (some (decide (a0 ≤ a2))) else (some false)) = some r := h
 clear h
 by_cases c4 : a0 ≥ a1
 ·rw [if_pos c4] at H
  have c4b0 : decide (a1 ≤ a0) = true := decide_eq_true c4; clear c4; obtain rfl := Option.some.inj H; go_enter Tryd.func33, Tryd.ntmps33
  go_wp2
  go_ret; exact ⟨by first | rfl | (simp; done) | (simp [*]; done), by repeat (first | exact Drawn0.refl _ | apply Drawn0.step)⟩
 ·rw [if_neg c4] at H
  have c4b0 : decide (a1 ≤ a0) = false := decide_eq_false c4; clear c4; obtain rfl := Option.some.inj H; go_enter Tryd.func33, Tryd.ntmps33
  go_wp2
  go_ret; exact ⟨by first | rfl | (simp; done) | (simp [*]; done), by repeat (first | exact Drawn0.refl _ | apply Drawn0.step)⟩


/-! ### spec_l11One: function 27 -/
def spec_l11One.f (k : Nat) (a0 : ByteArray) : Option (Int × Bool) := if a0.toList = ([42] : List UInt8) then (some (0, true)) else ((spec_l00Number.f k a0).bind fun bt101 => (if bt101.2 = true then ((spec_l01In.f bt101.1 1 4294967295).bind fun t103 => (some (bt101.1, t103))) else (some (bt101.1, false))))
theorem spec_l11One.mono : ∀ a0 k, LeO (spec_l11One.f k a0) (spec_l11One.f (k + 1) a0) := by
 intro a0 k
 unfold spec_l11One.f
 repeat' first
   | (with_reducible exact spec_l00Number.mono _ _)
   | (with_reducible exact LeO.refl _)
   | (with_reducible exact LeO.none _)
   | (with_reducible refine LeO.ite ?_ ?_)
   | (with_reducible refine LeO.bind ?_ (fun _ => ?_))
   | exact spec_l00Number.mono _ _
   | exact LeO.none _
   | refine LeO.ite ?_ ?_
   | refine LeO.bind ?_ (fun _ => ?_)
set_option maxHeartbeats 8000000 in
set_option maxRecDepth 100000 in
theorem spec_l11One.calls (k : Nat) (a0 : ByteArray) (r1 : Int) (r2 : Bool) (w : World) (h : spec_l11One.f k a0 = some (r1, r2)) :
  Calls Tryd.prog 27 #[.string a0] w fun e w' => e = .returned (.tuple #[.int .i64 r1, .bool r2]) ∧ Drawn0 w w' := by
 have H : (if a0.toList = ([42] : List UInt8) then (some (0, true)) else ((spec_l00Number.f k a0).bind fun bt101 => (if bt101.2 = true then ((spec_l01In.f bt101.1 1 4294967295).bind fun t103 => (some (bt101.1, t103))) else (some (bt101.1, false))))) = some (r1, r2) := h
 clear h
 by_cases c2 : a0.toList = ([42] : List UInt8)
 ·rw [if_pos c2] at H
  have c2b0 : (a0.toList == ([42] : List UInt8)) = true := beq_iff_eq.mpr c2; have c2b1 : (a0.toList != ([42] : List UInt8)) = false := bne_eq_false_iff_eq.mpr c2; clear c2; simp only [Option.some.injEq, Prod.mk.injEq] at H; obtain ⟨rfl, rfl⟩ := H; go_enter Tryd.func27, Tryd.ntmps27
  go_wp2
  go_ret2
  exact ⟨by first | rfl | (simp; done) | (simp [*]; done), by repeat (first | exact Drawn0.refl _ | apply Drawn0.step)⟩
 ·rw [if_neg c2] at H
  have c2b0 : (a0.toList == ([42] : List UInt8)) = false := beq_eq_false_iff_ne.mpr c2; have c2b1 : (a0.toList != ([42] : List UInt8)) = true := bne_iff_ne.mpr c2; replace H := Option.bind_eq_some_iff.mp H; obtain ⟨⟨t101, t102⟩, A30, H⟩ := H; dsimp only at H; have A3 := Aside0.mk A30; clear A30; by_cases c4 : t102 = true
  ·subst c4
   have H1 : ((spec_l01In.f t101 1 4294967295).bind fun t103 => (some (t101, t103))) = some (r1, r2) := by rw [if_pos rfl] at H; exact H
   clear H; have H := H1; clear H1; replace H := Option.bind_eq_some_iff.mp H; obtain ⟨t103, A50, H⟩ := H; have A5 := Aside0.mk A50; clear A50; simp only [Option.some.injEq, Prod.mk.injEq] at H; obtain ⟨rfl, rfl⟩ := H; go_enter Tryd.func27, Tryd.ntmps27
   go_wp2_with (first | ((with_reducible refine gate_callee (f := 32) rfl ?_); refine goesL_ (some 10) rfl rfl Tryd.func32 qK rfl #[.string a0] rfl qll_ ?_; (with_reducible refine (spec_l00Number.calls k a0 t101 true _ A3.out).mono ?_); rintro e w' ⟨rfl, ⟨nd, rfl⟩⟩; refine ⟨_, rfl, ?_⟩) | (go_at_call 33; (with_reducible refine (spec_l01In.calls t101 1 4294967295 t103 _ A5.out).mono ?_); rintro e w' ⟨rfl, ⟨nd, rfl⟩⟩))
   go_ret2
   exact ⟨by first | rfl | (simp; done) | (simp [*]; done), by repeat (first | exact Drawn0.refl _ | apply Drawn0.step)⟩
  ·replace c4 := Bool.eq_false_iff.mpr c4
   subst c4
   have H1 : (some (t101, false)) = some (r1, r2) := by rw [if_neg (show ¬ (false = true) by decide)] at H; exact H
   clear H; have H := H1; clear H1; simp only [Option.some.injEq, Prod.mk.injEq] at H; obtain ⟨rfl, rfl⟩ := H; go_enter Tryd.func27, Tryd.ntmps27
   go_wp2_with (first | ((with_reducible refine gate_callee (f := 32) rfl ?_); refine goesL_ (some 10) rfl rfl Tryd.func32 qK rfl #[.string a0] rfl qll_ ?_; (with_reducible refine (spec_l00Number.calls k a0 t101 false _ A3.out).mono ?_); rintro e w' ⟨rfl, ⟨nd, rfl⟩⟩; refine ⟨_, rfl, ?_⟩))
   go_ret2
   exact ⟨by first | rfl | (simp; done) | (simp [*]; done), by repeat (first | exact Drawn0.refl _ | apply Drawn0.step)⟩


/-! ### spec_l11Set: function 21 -/
mutual
def spec_l11Set.l0 : Nat → List (S49) → List ByteArray → Int → Option ((List (S49)) × Bool)
 | 0, _, _, _ => none
 | k + 1, x4, x5, x6 => if x6 < (x5.length : Int) then (if 0 ≤ x6 then ((spec_l00Cut.f k (rdOf ByteArray.empty x5 x6) 58).bind fun t108 => (if 0 < (t108.length : Int) then ((spec_l11One.f k (rdOf ByteArray.empty t108 0)).bind fun bt112 => (if bt112.2 = true then (if (t108.length : Int) > 2 then (spec_l11Set.j1 k x4 x5 x6 t108 bt112.1 true) else (spec_l11Set.j1 k x4 x5 x6 t108 bt112.1 ((x4.length : Int) == 50))) else (spec_l11Set.j1 k x4 x5 x6 t108 bt112.1 true))) else (none))) else (none)) else (some (x4, true))
def spec_l11Set.j1 : Nat → List (S49) → List ByteArray → Int → List ByteArray → Int → Bool → Option ((List (S49)) × Bool)
 | 0, _, _, _, _, _, _ => none
 | k + 1, x4, x5, x6, x7, x8, x45 => if x45 = true then (some ((([] : List (S49))), false)) else (if (x7.length : Int) = 2 then (if 1 < (x7.length : Int) then ((spec_l11One.f k (rdOf ByteArray.empty x7 1)).bind fun bt118 => (if bt118.2 = true then (if x4.length < 8796093022208 then (spec_l11Set.l0 k (x4 ++ [(⟨x8, bt118.1⟩ : S49)]) x5 (wrap64 (x6 + 1))) else (none)) else (some ((([] : List (S49))), false)))) else (none)) else (if x4.length < 8796093022208 then (spec_l11Set.l0 k (x4 ++ [(⟨x8, x8⟩ : S49)]) x5 (wrap64 (x6 + 1))) else (none)))
end
def spec_l11Set.f (k : Nat) (a0 : ByteArray) : Option ((List (S49)) × Bool) := (spec_l00Cut.f k a0 44).bind fun t104 => (spec_l11Set.l0 k (([] : List (S49))) t104 0)
theorem spec_l11Set.mono_l : ∀ k, (∀ y0 y1 y2, LeO (spec_l11Set.l0 k y0 y1 y2) (spec_l11Set.l0 (k + 1) y0 y1 y2)) ∧ (∀ y0 y1 y2 y3 y4 y5, LeO (spec_l11Set.j1 k y0 y1 y2 y3 y4 y5) (spec_l11Set.j1 (k + 1) y0 y1 y2 y3 y4 y5))
 | 0 => ⟨fun _ _ _ r h => by simp [spec_l11Set.l0] at h, fun _ _ _ _ _ _ r h => by simp [spec_l11Set.j1] at h⟩
 | k + 1 => by
  obtain ⟨ih0, ih1⟩ := spec_l11Set.mono_l k; refine ⟨?_, ?_⟩
  ·intro y0 y1 y2
   unfold spec_l11Set.l0
   repeat' first
   | (with_reducible exact ih0 _ _ _)
   | (with_reducible exact ih1 _ _ _ _ _ _)
   | (with_reducible exact spec_l00Cut.mono _ _ _)
   | (with_reducible exact spec_l11One.mono _ _)
   | (with_reducible exact LeO.refl _)
   | (with_reducible exact LeO.none _)
   | (with_reducible refine LeO.ite ?_ ?_)
   | (with_reducible refine LeO.bind ?_ (fun _ => ?_))
   | exact ih0 _ _ _
   | exact ih1 _ _ _ _ _ _
   | exact spec_l00Cut.mono _ _ _
   | exact spec_l11One.mono _ _
   | exact LeO.none _
   | refine LeO.ite ?_ ?_
   | refine LeO.bind ?_ (fun _ => ?_)
  ·intro y0 y1 y2 y3 y4 y5
   unfold spec_l11Set.j1
   repeat' first
   | (with_reducible exact ih0 _ _ _)
   | (with_reducible exact ih1 _ _ _ _ _ _)
   | (with_reducible exact spec_l00Cut.mono _ _ _)
   | (with_reducible exact spec_l11One.mono _ _)
   | (with_reducible exact LeO.refl _)
   | (with_reducible exact LeO.none _)
   | (with_reducible refine LeO.ite ?_ ?_)
   | (with_reducible refine LeO.bind ?_ (fun _ => ?_))
   | exact ih0 _ _ _
   | exact ih1 _ _ _ _ _ _
   | exact spec_l00Cut.mono _ _ _
   | exact spec_l11One.mono _ _
   | exact LeO.none _
   | refine LeO.ite ?_ ?_
   | refine LeO.bind ?_ (fun _ => ?_)
theorem spec_l11Set.mono : ∀ a0 k, LeO (spec_l11Set.f k a0) (spec_l11Set.f (k + 1) a0) := by
 intro a0 k
 obtain ⟨ih0, ih1⟩ := spec_l11Set.mono_l k
 unfold spec_l11Set.f
 repeat' first
   | (with_reducible exact ih0 _ _ _)
   | (with_reducible exact ih1 _ _ _ _ _ _)
   | (with_reducible exact spec_l00Cut.mono _ _ _)
   | (with_reducible exact spec_l11One.mono _ _)
   | (with_reducible exact LeO.refl _)
   | (with_reducible exact LeO.none _)
   | (with_reducible refine LeO.ite ?_ ?_)
   | (with_reducible refine LeO.bind ?_ (fun _ => ?_))
   | exact ih0 _ _ _
   | exact ih1 _ _ _ _ _ _
   | exact spec_l00Cut.mono _ _ _
   | exact spec_l11One.mono _ _
   | exact LeO.none _
   | refine LeO.ite ?_ ?_
   | refine LeO.bind ?_ (fun _ => ?_)
set_option maxHeartbeats 8000000 in
set_option maxRecDepth 100000 in
theorem spec_l11Set.calls (k : Nat) (a0 : ByteArray) (r1 : List (S49)) (r2 : Bool) (w : World) (h : spec_l11Set.f k a0 = some (r1, r2)) :
  Calls Tryd.prog 21 #[.string a0] w fun e w' => ∃ v0_ : Value, e = .returned (.tuple #[v0_, .bool r2]) ∧ Kd.R k49 49 w' w.heap.size (fun _ => True) v0_ r1 ∧ Below w.heap.size w w' := by
 have hu49 := Tryd.underlying49
 have HB := Aside0.mk (Below.refl w.heap.size w)
 have H : ((spec_l00Cut.f k a0 44).bind fun t104 => (spec_l11Set.l0 k (([] : List (S49))) t104 0)) = some (r1, r2) := h
 clear h
 obtain ⟨y101, hy101⟩ : ∃ y_ : List (S49), y_ = (([] : List (S49))) := ⟨_, rfl⟩
 replace H : ((spec_l00Cut.f k a0 44).bind fun t104 => (spec_l11Set.l0 k y101 t104 0)) = some (r1, r2) := qh_ hy101 H
 have Ny101 := Aside0.mk hy101
 clear hy101
 replace H := Option.bind_eq_some_iff.mp H
 obtain ⟨t104, A20, H⟩ := H
 have A2 := Aside0.mk A20
 clear A20
 have H' := Aside0.mk H
 clear H
 go_enter Tryd.func21, Tryd.ntmps21
 go_wp2_with (first | ((with_reducible refine gate_dst (N := 13) rfl ?_); (try (refine gate_guard (by rfl) ?_; dsimp only)); refine Kd.R_lit k49 _ 49 ?Hg (N := 13) ?Hd (xs := ([] : List (S49))) (inner := []) (ok := fun _ => True) (okp := fun _ => True) ?Hr ?Hp (fun _ hk => hk) trivial (Below.refl _ _) (Nat.le_refl _) (by simp) ?_; (case Hd => rfl); (case Hg => rfl); (case Hr => first | (go_simp; done) | (go_simp; rfl)); (case Hp => exact (Reps.none _ _)); intro v102 w3 ho4 hb hg_ hnew_; clear hg_ hnew_; (first | rw [← Ny101.out] at ho4 | (simp only [Int.reduceToNat] at ho4; rw [← Ny101.out] at ho4)); have HO103 := Aside0.mk (Kd.R_lower ho4 (below_size qBHB)); replace HB := Aside0.mk (below_step qBHB hb); clear hb ho4) | ((with_reducible refine gate_callee (f := 26) rfl ?_); refine goesL_ (some 15) rfl rfl Tryd.func26 qK rfl #[.string a0, .int .u8 44] rfl qll_ ?_; (with_reducible refine (spec_l00Cut.calls k a0 44 t104 _ A2.out).mono ?_); rintro e w5 ⟨v105, rfl, ho0, hb⟩; refine ⟨_, rfl, ?_⟩; replace HO103 := Aside0.mk (Kd.R_below (qr_ HO103) hb); have HO106 := Aside0.mk (Kd.R_lower ho0 (below_size qBHB)); replace HB := Aside0.mk (below_step qBHB hb); (try clear hb); (try clear hb2); (try clear hk); (try clear hi); (try clear ho0)))
 go_loopg [4, 6] k (fun kq v4 v6 w' => ∃ (x4_1 : List (S49)) (x6_1 : Int), v6 = .int .i64 x6_1 ∧ Aside0 (spec_l11Set.l0 kq x4_1 t104 x6_1 = some (r1, r2)) ∧ Aside0 (kq ≤ k) ∧ Aside0 (Kd.R k49 49 w' w.heap.size (fun _ => True) v4 x4_1) ∧ Aside0 (Kd.R Kd.string 9 w' w.heap.size (fun _ => True) v105 t104) ∧ Aside0 (Below w.heap.size w w'))
 case atStart => exact ⟨(y101), (0), qff_, H', ⟨Nat.le_refl _⟩, ⟨qr_ HO103⟩, ⟨qr_ HO106⟩, ⟨qBHB⟩⟩
 case round =>
  clear H'
  try clear c2
  try clear p2
  obtain ⟨x4_1, x6_1, rfl, HA, HK1, HO_4, HO_5, HB⟩ := hrel
  cases gk with
  | zero => exact absurd HA.out (by simp [spec_l11Set.l0])
  | succ k1 =>
   have H := HA.out; clear HA; simp only [spec_l11Set.l0] at H; by_cases c6 : x6_1 < (t104.length : Int)
   ·rw [if_pos c6] at H
    have c6b0 : decide (x6_1 < (t104.length : Int)) = true := decide_eq_true c6; clear c6; by_cases c7 : 0 ≤ x6_1
    ·rw [if_pos c7] at H
     have c7b0 : decide (0 ≤ x6_1) = true := decide_eq_true c7; clear c7; replace H := Option.bind_eq_some_iff.mp H; obtain ⟨t108, A80, H⟩ := H; have A8 := Aside0.mk A80; clear A80; by_cases c9 : 0 < (t108.length : Int)
     ·rw [if_pos c9] at H
      have c9b0 : decide (0 < (t108.length : Int)) = true := decide_eq_true c9; have c9b1 : decide (0 < t108.length) = true := decide_eq_true (by omega); clear c9; replace H := Option.bind_eq_some_iff.mp H; obtain ⟨⟨t112, t113⟩, A100, H⟩ := H; dsimp only at H; have A10 := Aside0.mk A100; clear A100; have HC11 := Aside0.mk H; clear H; obtain ⟨Ao12, co12, eo12⟩ := Kd.R_slice HO_5.out; subst eo12; have p107 : 0 ≤ (x6_1 : Int) := qd_; have q107 : x6_1 < (t104.length : Int) := qd_; obtain ⟨ad107, e107, hx107_0⟩ := Kd.at_string (Kd.R_reads' HO_5.out).2.2 x6_1 p107 q107; cases e107; replace p107 := eq_true p107; replace q107 := eq_true q107
      go_upto_region 8 with (first | ((with_reducible refine gate_callee (f := 26) rfl ?_); refine goesL_ (some 26) rfl rfl Tryd.func26 qK rfl #[.string (rdOf ByteArray.empty t104 x6_1), .int .u8 58] rfl qll_ ?_; (with_reducible refine (spec_l00Cut.calls k1 (rdOf ByteArray.empty t104 x6_1) 58 t108 _ A8.out).mono ?_); rintro e w13 ⟨v109, rfl, ho0, hb⟩; refine ⟨_, rfl, ?_⟩; replace HO_4 := Aside0.mk (Kd.R_below (qr_ HO_4) hb); have HO110 := Aside0.mk (Kd.R_lower (Kd.R_new' ho0 (Kd.R_lt (qr_ HO_5))) (below_size qBHB)); replace HO_5 := Aside0.mk (Kd.R_elder' (qr_ HO_5) (Kd.R_base ho0) hb); replace HB := Aside0.mk (below_step qBHB hb); (try clear hb); (try clear hb2); (try clear hk); (try clear hi); (try clear ho0); obtain ⟨Ao14, co14, eo14⟩ := Kd.R_slice HO110.out; subst eo14; have p111 : 0 ≤ (0 : Int) := (by omega); have q111 : 0 < (t108.length : Int) := qd_; obtain ⟨ad111, e111, hx111_0⟩ := Kd.at_string (Kd.R_reads' HO110.out).2.2 0 p111 q111; cases e111; have qi111 : (0 < t108.length) = True := eq_true (by omega); (try rw [show ((0 : Int)).toNat = 0 from rfl] at hx111_0); (try rw [Addr.add_zero'] at hx111_0); replace p111 := eq_true p111; replace q111 := eq_true q111) | ((with_reducible refine gate_callee (f := 27) rfl ?_); refine goesL_ (some 31) rfl rfl Tryd.func27 qK rfl #[.string (rdOf ByteArray.empty t108 0)] rfl qll_ ?_; (with_reducible refine (spec_l11One.calls k1 (rdOf ByteArray.empty t108 0) t112 t113 _ A10.out).mono ?_); rintro e w' ⟨rfl, ⟨nd, rfl⟩⟩; refine ⟨_, rfl, ?_⟩))
      (try simp only [Act.put, List.setIfInBounds_toArray, List.set_cons_zero, List.set_cons_succ])
      go_cut [45] (fun v45 wc => ∃ (kq : Nat) (x45_10 : Bool), v45 = .bool x45_10 ∧ Aside0 (spec_l11Set.j1 kq x4_1 t104 x6_1 t108 t112 x45_10 = some (r1, r2)) ∧ Aside0 (kq ≤ k1) ∧ Aside0 (Kd.R k49 49 wc w.heap.size (fun _ => True) u4 x4_1) ∧ Aside0 (Kd.R Kd.string 9 wc w.heap.size (fun k_ => some k_ ≠ ((.slice (some ad111) t108.length co14) : Value).ownBlock) (.slice (some ad107) t104.length co12) t104) ∧ Aside0 (Kd.R Kd.string 9 wc w.heap.size (fun k_ => some k_ ≠ ((.slice (some ad107) t104.length co12) : Value).ownBlock) (.slice (some ad111) t108.length co14) t108) ∧ Aside0 (Below w.heap.size w wc))
      case first =>
       have H := HC11.out; clear HC11; by_cases c15 : t113 = true
       ·subst c15
        have H1 : (if (t108.length : Int) > 2 then (spec_l11Set.j1 k1 x4_1 t104 x6_1 t108 t112 true) else (spec_l11Set.j1 k1 x4_1 t104 x6_1 t108 t112 ((x4_1.length : Int) == 50))) = some (r1, r2) := by rw [if_pos rfl] at H; exact H
        clear H; have H := H1; clear H1; by_cases c16 : (t108.length : Int) > 2
        ·rw [if_pos c16] at H
         have c16b0 : decide (2 < (t108.length : Int)) = true := decide_eq_true c16; have c16b1 : decide (2 < t108.length) = true := decide_eq_true (by omega); clear c16
         (first | rw [c16b0] | (simp only [i64_w, i32_w]; rw [c16b0]) | skip)
         have H' := Aside0.mk H; clear H
         go_wp2
         go_meet
         case rel => exact ⟨_, (true), qff_, H', ⟨by have := HK1.out; first | omega | exact Nat.le_refl _⟩, ⟨qr_ HO_4⟩, ⟨by (with_reducible repeat (first | apply Kd.R_alloc | apply Kd.R_drewN | apply Kd.R_drew)); exact Kd.R_mono HO_5.out (fun _ hk => hk.2)⟩, ⟨by (with_reducible repeat (first | apply Kd.R_alloc | apply Kd.R_drewN | apply Kd.R_drew)); exact Kd.R_mono HO110.out (fun _ hk => hk.2)⟩, ⟨qBHB⟩⟩
        ·rw [if_neg c16] at H
         have c16b0 : decide (2 < (t108.length : Int)) = false := decide_eq_false c16; have c16b1 : decide (2 < t108.length) = false := decide_eq_false (by omega); clear c16
         (first | rw [c16b0] | (simp only [i64_w, i32_w]; rw [c16b0]) | skip)
         have H' := Aside0.mk H; clear H; obtain ⟨Ao17, co17, eo17⟩ := Kd.R_slice HO_4.out; subst eo17
         go_wp2
         go_meet
         case rel => exact ⟨_, (((x4_1.length : Int) == 50)), qff_, H', ⟨by have := HK1.out; first | omega | exact Nat.le_refl _⟩, ⟨qr_ HO_4⟩, ⟨by (with_reducible repeat (first | apply Kd.R_alloc | apply Kd.R_drewN | apply Kd.R_drew)); exact Kd.R_mono HO_5.out (fun _ hk => hk.2)⟩, ⟨by (with_reducible repeat (first | apply Kd.R_alloc | apply Kd.R_drewN | apply Kd.R_drew)); exact Kd.R_mono HO110.out (fun _ hk => hk.2)⟩, ⟨qBHB⟩⟩
       ·replace c15 := Bool.eq_false_iff.mpr c15
        subst c15
        have H1 : (spec_l11Set.j1 k1 x4_1 t104 x6_1 t108 t112 true) = some (r1, r2) := by rw [if_neg (show ¬ (false = true) by decide)] at H; exact H
        clear H; have H := H1; clear H1; have H' := Aside0.mk H; clear H
        go_wp2
        go_meet
        case rel => exact ⟨_, (true), qff_, H', ⟨by have := HK1.out; first | omega | exact Nat.le_refl _⟩, ⟨qr_ HO_4⟩, ⟨by (with_reducible repeat (first | apply Kd.R_alloc | apply Kd.R_drewN | apply Kd.R_drew)); exact Kd.R_mono HO_5.out (fun _ hk => hk.2)⟩, ⟨by (with_reducible repeat (first | apply Kd.R_alloc | apply Kd.R_drewN | apply Kd.R_drew)); exact Kd.R_mono HO110.out (fun _ hk => hk.2)⟩, ⟨qBHB⟩⟩
      case rest =>
       clear HC11
       try clear c1
       try clear p1
       try clear q1
       try clear hx1
       try clear qi1
       try clear c2
       try clear p2
       try clear c6
       try clear c6b0
       try clear c7
       try clear c7b0
       try clear c9
       try clear c9b0
       try clear c9b1
       try clear p10
       try clear q10
       try clear hx10
       try clear p11
       try clear q11
       try clear hx11
       try clear qi11
       try clear c15
       try clear c16
       try clear c16b0
       try clear c16b1
       try clear hx107_0
       try clear hx111_0
       try clear p107
       try clear p111
       try clear p2
       try clear q107
       try clear q111
       obtain ⟨kq, x45_10, rfl, HA, HJ10, HO_4, HO_5, HO_7, HB⟩ := hcut
       cases kq with
       | zero => exact absurd HA.out (by simp [spec_l11Set.j1])
       | succ kj10 =>
        have H := HA.out; clear HA; simp only [spec_l11Set.j1] at H; by_cases c18 : x45_10 = true
        ·subst c18
         have H1 : (some ((([] : List (S49))), false)) = some (r1, r2) := by rw [if_pos rfl] at H; exact H
         clear H; have H := H1; clear H1
         obtain ⟨y114, hy114⟩ : ∃ y_ : List (S49), y_ = (([] : List (S49))) := ⟨_, rfl⟩
         replace H : (some (y114, false)) = some (r1, r2) := qh_ hy114 H; have Ny114 := Aside0.mk hy114; clear hy114; simp only [Option.some.injEq, Prod.mk.injEq] at H; obtain ⟨rfl, rfl⟩ := H
         go_wp2_with (first | ((with_reducible refine gate_dst (N := 46) rfl ?_); (try (refine gate_guard (by rfl) ?_; dsimp only)); refine Kd.R_lit k49 _ 49 ?Hg (N := 46) ?Hd (xs := ([] : List (S49))) (inner := []) (ok := fun _ => True) (okp := fun _ => True) ?Hr ?Hp (fun _ hk => hk) trivial (Below.refl _ _) (Nat.le_refl _) (by simp) ?_; (case Hd => rfl); (case Hg => rfl); (case Hr => first | (go_simp; done) | (go_simp; rfl)); (case Hp => exact (Reps.none _ _)); intro v115 w19 ho20 hb hg_ hnew_; clear hg_ hnew_; (first | rw [← Ny114.out] at ho20 | (simp only [Int.reduceToNat] at ho20; rw [← Ny114.out] at ho20)); replace HO_5 := Aside0.mk (Kd.R_below (qr_ HO_5) hb); replace HO_7 := Aside0.mk (Kd.R_below (qr_ HO_7) hb); have HO116 := Aside0.mk (Kd.R_lower (Kd.R_new' ho20 (Kd.R_lt (qr_ HO_4))) (below_size qBHB)); replace HO_4 := Aside0.mk (Kd.R_elder' (qr_ HO_4) (Kd.R_base ho20) hb); replace HB := Aside0.mk (below_step qBHB hb); clear hb ho20))
         go_ret2
         exact ⟨_, qee_, by (with_reducible repeat (first | apply Kd.R_alloc | apply Kd.R_drewN | apply Kd.R_drew)); exact Kd.R_mono HO116.out (fun _ hk => trivial), qBHB⟩
        ·replace c18 := Bool.eq_false_iff.mpr c18
         subst c18
         have H1 : (if (t108.length : Int) = 2 then (if 1 < (t108.length : Int) then ((spec_l11One.f kj10 (rdOf ByteArray.empty t108 1)).bind fun bt118 => (if bt118.2 = true then (if x4_1.length < 8796093022208 then (spec_l11Set.l0 kj10 (x4_1 ++ [(⟨t112, bt118.1⟩ : S49)]) t104 (wrap64 (x6_1 + 1))) else (none)) else (some ((([] : List (S49))), false)))) else (none)) else (if x4_1.length < 8796093022208 then (spec_l11Set.l0 kj10 (x4_1 ++ [(⟨t112, t112⟩ : S49)]) t104 (wrap64 (x6_1 + 1))) else (none))) = some (r1, r2) := by rw [if_neg (show ¬ (false = true) by decide)] at H; exact H
         clear H; have H := H1; clear H1; by_cases c21 : (t108.length : Int) = 2
         ·rw [if_pos c21] at H
          have c21b0 : ((t108.length : Int) == 2) = true := beq_iff_eq.mpr c21; have c21b1 : ((t108.length : Int) != 2) = false := bne_eq_false_iff_eq.mpr c21; clear c21; by_cases c22 : 1 < (t108.length : Int)
          ·rw [if_pos c22] at H
           have c22b0 : decide (1 < (t108.length : Int)) = true := decide_eq_true c22; have c22b1 : decide (1 < t108.length) = true := decide_eq_true (by omega); clear c22; replace H := Option.bind_eq_some_iff.mp H; obtain ⟨⟨t118, t119⟩, A230, H⟩ := H; dsimp only at H; have A23 := Aside0.mk A230; clear A230; by_cases c24 : t119 = true
           ·subst c24
            have H1 : (if x4_1.length < 8796093022208 then (spec_l11Set.l0 kj10 (x4_1 ++ [(⟨t112, t118⟩ : S49)]) t104 (wrap64 (x6_1 + 1))) else (none)) = some (r1, r2) := by rw [if_pos rfl] at H; exact H
            clear H; have H := H1; clear H1; by_cases c25 : x4_1.length < 8796093022208
            ·rw [if_pos c25] at H
             have LMc25 := Aside0.mk c25; clear c25
             obtain ⟨y120, hy120⟩ : ∃ y_ : List (S49), y_ = (x4_1 ++ [(⟨t112, t118⟩ : S49)]) := ⟨_, rfl⟩
             replace H : (spec_l11Set.l0 kj10 y120 t104 (wrap64 (x6_1 + 1))) = some (r1, r2) := qh_ hy120 H; have Ny120 := Aside0.mk hy120; clear hy120; have H' := Aside0.mk H; clear H; have p117 : 0 ≤ (1 : Int) := (by omega); have q117 : 1 < (t108.length : Int) := qd_; obtain ⟨ad117, e117, hx117_0⟩ := Kd.at_string (Kd.R_reads' HO_7.out).2.2 1 p117 q117; obtain rfl : ad111 = ad117 := (by injection e117)
             (try simp only [show (1 : Int).toNat = 1 from rfl, Nat.reduceMul, Nat.reduceEqDiff, Go.Addr.add, ↓reduceIte] at hx117_0)
             have qi117 : (1 < t108.length) = True := eq_true (by omega)
             (try rw [show ((1 : Int)).toNat = 1 from rfl] at hx117_0)
             replace p117 := eq_true p117; replace q117 := eq_true q117
             go_wp2_with (first | ((with_reducible refine gate_callee (f := 27) rfl ?_); refine goesL_ (some 55) rfl rfl Tryd.func27 qK rfl #[.string (rdOf ByteArray.empty t108 1)] rfl qll_ ?_; (with_reducible refine (spec_l11One.calls kj10 (rdOf ByteArray.empty t108 1) t118 true _ A23.out).mono ?_); rintro e w' ⟨rfl, ⟨nd, rfl⟩⟩; refine ⟨_, rfl, ?_⟩) | ((with_reducible refine gate_builtin (b := .append) (xs := #[.tmp 62, .tmp 66]) rfl ?_); (try (refine gate_guard (by rfl) ?_; dsimp only)); at_builtin; refine Kd.R_append k49 (w0 := w) w.heap.size rfl (.tmp 62) (.tmp 66) 35 49 (.agg #[(.int .i64 0), (.int .i64 0)]) 16 rfl Tryd.underlying35 info49 rfl (by decide) (by omega) u4 x4_1 (⟨t112, t118⟩ : S49) [.int .i64 t112, .int .i64 t118] (fun _ => True) (fun _ => False) rfl rfl ?aP (fun _ hk => hk.elim) ?aF ?aO ?aB ?aS ?aL ?_; (case aP => exact k49_mkM _ _ _ (⟨t112, t118⟩ : S49)); (case aB => exact qBHB); (case aF => exact (fun _ _ => trivial)); (case aO => exact (qr_ HO_4)); (case aS => exact (below_size qBHB)); (case aL => have := LMc25.out; omega); intro v121 w26 ho hb hg hat; rw [← Ny120.out] at ho; replace HO_5 := Aside0.mk (Kd.R_over' (qr_ HO_5) (Kd.R_typed (qr_ HO_4)) (by decide) hg); replace HO_7 := Aside0.mk (Kd.R_over' (qr_ HO_7) (Kd.R_typed (qr_ HO_4)) (by decide) hg); replace HB := Aside0.mk (hb); have HO122 := Aside0.mk (ho); clear HO_4; clear ho hb hg hat))
             go_roundg kj10
             case measure => have := HK1.out; have := HJ10.out; omega
             case rel => exact ⟨(y120), (wrap64 (x6_1 + 1)), qff_, H', ⟨by have := HK1.out; have := HJ10.out; omega⟩, ⟨qr_ HO122⟩, ⟨by (with_reducible repeat (first | apply Kd.R_alloc | apply Kd.R_drewN | apply Kd.R_drew)); exact Kd.R_mono HO_5.out (fun _ hk => trivial)⟩, ⟨qBHB⟩⟩
            ·rw [if_neg c25] at H
             exact absurd H (by simp)
           ·replace c24 := Bool.eq_false_iff.mpr c24
            subst c24
            have H1 : (some ((([] : List (S49))), false)) = some (r1, r2) := by rw [if_neg (show ¬ (false = true) by decide)] at H; exact H
            clear H; have H := H1; clear H1
            obtain ⟨y123, hy123⟩ : ∃ y_ : List (S49), y_ = (([] : List (S49))) := ⟨_, rfl⟩
            replace H : (some (y123, false)) = some (r1, r2) := qh_ hy123 H; have Ny123 := Aside0.mk hy123; clear hy123; simp only [Option.some.injEq, Prod.mk.injEq] at H; obtain ⟨rfl, rfl⟩ := H; have p117 : 0 ≤ (1 : Int) := (by omega); have q117 : 1 < (t108.length : Int) := qd_; obtain ⟨ad117, e117, hx117_0⟩ := Kd.at_string (Kd.R_reads' HO_7.out).2.2 1 p117 q117; obtain rfl : ad111 = ad117 := (by injection e117)
            (try simp only [show (1 : Int).toNat = 1 from rfl, Nat.reduceMul, Nat.reduceEqDiff, Go.Addr.add, ↓reduceIte] at hx117_0)
            have qi117 : (1 < t108.length) = True := eq_true (by omega)
            (try rw [show ((1 : Int)).toNat = 1 from rfl] at hx117_0)
            replace p117 := eq_true p117; replace q117 := eq_true q117
            go_wp2_with (first | ((with_reducible refine gate_callee (f := 27) rfl ?_); refine goesL_ (some 55) rfl rfl Tryd.func27 qK rfl #[.string (rdOf ByteArray.empty t108 1)] rfl qll_ ?_; (with_reducible refine (spec_l11One.calls kj10 (rdOf ByteArray.empty t108 1) t118 false _ A23.out).mono ?_); rintro e w' ⟨rfl, ⟨nd, rfl⟩⟩; refine ⟨_, rfl, ?_⟩) | ((with_reducible refine gate_dst (N := 60) rfl ?_); (try (refine gate_guard (by rfl) ?_; dsimp only)); refine Kd.R_lit k49 _ 49 ?Hg (N := 60) ?Hd (xs := ([] : List (S49))) (inner := []) (ok := fun _ => True) (okp := fun _ => True) ?Hr ?Hp (fun _ hk => hk) trivial (Below.refl _ _) (Nat.le_refl _) (by simp) ?_; (case Hd => rfl); (case Hg => rfl); (case Hr => first | (go_simp; done) | (go_simp; rfl)); (case Hp => exact (Reps.none _ _)); intro v124 w27 ho28 hb hg_ hnew_; clear hg_ hnew_; (first | rw [← Ny123.out] at ho28 | (simp only [Int.reduceToNat] at ho28; rw [← Ny123.out] at ho28)); replace HO_5 := Aside0.mk (Kd.R_below (qr_ HO_5) hb); replace HO_7 := Aside0.mk (Kd.R_below (qr_ HO_7) hb); have HO125 := Aside0.mk (Kd.R_lower (Kd.R_new' ho28 (Kd.R_lt (qr_ HO_4))) (below_size qBHB)); replace HO_4 := Aside0.mk (Kd.R_elder' (qr_ HO_4) (Kd.R_base ho28) hb); replace HB := Aside0.mk (below_step qBHB hb); clear hb ho28))
            go_ret2
            exact ⟨_, qee_, by (with_reducible repeat (first | apply Kd.R_alloc | apply Kd.R_drewN | apply Kd.R_drew)); exact Kd.R_mono HO125.out (fun _ hk => trivial), qBHB⟩
          ·rw [if_neg c22] at H
           exact absurd H (by simp)
         ·rw [if_neg c21] at H
          have c21b0 : ((t108.length : Int) == 2) = false := beq_eq_false_iff_ne.mpr c21; have c21b1 : ((t108.length : Int) != 2) = true := bne_iff_ne.mpr c21; by_cases c29 : x4_1.length < 8796093022208
          ·rw [if_pos c29] at H
           have LMc29 := Aside0.mk c29; clear c29
           obtain ⟨y126, hy126⟩ : ∃ y_ : List (S49), y_ = (x4_1 ++ [(⟨t112, t112⟩ : S49)]) := ⟨_, rfl⟩
           replace H : (spec_l11Set.l0 kj10 y126 t104 (wrap64 (x6_1 + 1))) = some (r1, r2) := qh_ hy126 H; have Ny126 := Aside0.mk hy126; clear hy126; have H' := Aside0.mk H; clear H
           go_wp2_with (first | ((with_reducible refine gate_builtin (b := .append) (xs := #[.tmp 62, .tmp 66]) rfl ?_); (try (refine gate_guard (by rfl) ?_; dsimp only)); at_builtin; refine Kd.R_append k49 (w0 := w) w.heap.size rfl (.tmp 62) (.tmp 66) 35 49 (.agg #[(.int .i64 0), (.int .i64 0)]) 16 rfl Tryd.underlying35 info49 rfl (by decide) (by omega) u4 x4_1 (⟨t112, t112⟩ : S49) [.int .i64 t112, .int .i64 t112] (fun _ => True) (fun _ => False) rfl rfl ?aP (fun _ hk => hk.elim) ?aF ?aO ?aB ?aS ?aL ?_; (case aP => exact k49_mkM _ _ _ (⟨t112, t112⟩ : S49)); (case aB => exact qBHB); (case aF => exact (fun _ _ => trivial)); (case aO => exact (qr_ HO_4)); (case aS => exact (below_size qBHB)); (case aL => have := LMc29.out; omega); intro v127 w30 ho hb hg hat; rw [← Ny126.out] at ho; replace HO_5 := Aside0.mk (Kd.R_over' (qr_ HO_5) (Kd.R_typed (qr_ HO_4)) (by decide) hg); replace HO_7 := Aside0.mk (Kd.R_over' (qr_ HO_7) (Kd.R_typed (qr_ HO_4)) (by decide) hg); replace HB := Aside0.mk (hb); have HO128 := Aside0.mk (ho); clear HO_4; clear ho hb hg hat))
           go_roundg kj10
           case measure => have := HK1.out; have := HJ10.out; omega
           case rel => exact ⟨(y126), (wrap64 (x6_1 + 1)), qff_, H', ⟨by have := HK1.out; have := HJ10.out; omega⟩, ⟨qr_ HO128⟩, ⟨by (with_reducible repeat (first | apply Kd.R_alloc | apply Kd.R_drewN | apply Kd.R_drew)); exact Kd.R_mono HO_5.out (fun _ hk => trivial)⟩, ⟨qBHB⟩⟩
          ·rw [if_neg c29] at H
           exact absurd H (by simp)
     ·rw [if_neg c9] at H
      exact absurd H (by simp)
    ·rw [if_neg c7] at H
     exact absurd H (by simp)
   ·rw [if_neg c6] at H
    have c6b0 : decide (x6_1 < (t104.length : Int)) = false := decide_eq_false c6; clear c6; simp only [Option.some.injEq, Prod.mk.injEq] at H; obtain ⟨rfl, rfl⟩ := H; obtain ⟨Ao31, co31, eo31⟩ := Kd.R_slice HO_5.out; subst eo31
    go_wp2
    go_ret2
    exact ⟨_, qee_, qr_ HO_4, qBHB⟩

end Go.Proofs.YtoieoimfkimedaaDoor.P
