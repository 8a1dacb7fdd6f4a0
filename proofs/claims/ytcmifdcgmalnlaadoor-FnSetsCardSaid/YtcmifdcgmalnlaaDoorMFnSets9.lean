/- Part 9 of what the law FnSets stands on; the last part ends with the law's row. No condition of mine. -/
import Derived.Test.YtcmifdcgmalnlaaDoorMFnSets1
import Derived.Test.YtcmifdcgmalnlaaDoorMFnSets8
import Derived.Test.YtcmifdcgmalnlaaDoorMFnSets4
import Derived.Shelf.Strings.Search3
import Derived.Shelf.Strings.Shaped
namespace Go.Proofs.YtcmifdcgmalnlaaDoor.P
open Go.RowKit Go.Proofs.YtcmifdcgmalnlaaDoorW.PrintWords Go.Proofs.YtcmifdcgmalnlaaDoorW.PrintLast Go.Proofs.YtcmifdcgmalnlaaDoorW.PrintMore
attribute [local go_sem] max2_int min2_int max_two min_two max_three min_three max_four min_four   -- for this text's walks alone
set_option linter.unusedVariables false
set_option linter.unusedSimpArgs false

/-! ### spec_l12Take: function 71 -/
mutual
def spec_l12Take.l0 : Nat → ByteArray → Int → Int → Option (ByteArray × ByteArray × Int)
 | 0, _, _, _ => none
 | k + 1, x0, x5, x6 => if (wrap64 (x6 + 1)) < (x0.size : Int) then (if x6 > 4000 then (some ((⟨#[]⟩ : ByteArray), x0, 4)) else (if 0 ≤ x6 then (if x6 < (x0.size : Int) then (if (bt x0 x6) = 13 then (if 0 ≤ (wrap64 (x6 + 1)) then (spec_l12Take.j1 k x0 x5 x6 ((bt x0 (wrap64 (x6 + 1))) != 10)) else (none)) else (spec_l12Take.j1 k x0 x5 x6 true)) else (none)) else (none))) else (if (x0.size : Int) > 4002 then (some ((⟨#[]⟩ : ByteArray), x0, 4)) else (if x5 > 4000 then (some ((⟨#[]⟩ : ByteArray), x0, 4)) else (some ((⟨#[]⟩ : ByteArray), x0, 18))))
def spec_l12Take.j1 : Nat → ByteArray → Int → Int → Bool → Option (ByteArray × ByteArray × Int)
 | 0, _, _, _, _ => none
 | k + 1, x0, x5, x6, x29 => if x29 = true then (spec_l12Take.l0 k x0 x5 (wrap64 (x6 + 1))) else (if 0 ≤ x5 then (if x5 ≤ x6 then (if x6 ≤ (x0.size : Int) then ((spec_l12Literal.f k (x0.extract (x5 : Int).toNat (x6 : Int).toNat)).bind fun bt101 => (if bt101.2 = true then (if bt101.1 > 4000 then (some ((⟨#[]⟩ : ByteArray), x0, 4)) else (spec_l12Take.l0 k x0 (wrap64 ((wrap64 (x6 + 2)) + bt101.1)) (wrap64 ((wrap64 ((wrap64 ((wrap64 (x6 + 2)) + bt101.1)) - 1)) + 1)))) else (if 0 ≤ x6 then (if 0 ≤ (wrap64 (x6 + 2)) then (if (wrap64 (x6 + 2)) ≤ (x0.size : Int) then (some (x0.extract 0 (x6 : Int).toNat, x0.extract ((wrap64 (x6 + 2)) : Int).toNat x0.size, 0)) else (none)) else (none)) else (none)))) else (none)) else (none)) else (none))
end
def spec_l12Take.f (k : Nat) (a0 : ByteArray) : Option (ByteArray × ByteArray × Int) := spec_l12Take.l0 k a0 0 0
theorem spec_l12Take.mono_l : ∀ k, (∀ y0 y1 y2, LeO (spec_l12Take.l0 k y0 y1 y2) (spec_l12Take.l0 (k + 1) y0 y1 y2)) ∧ (∀ y0 y1 y2 y3, LeO (spec_l12Take.j1 k y0 y1 y2 y3) (spec_l12Take.j1 (k + 1) y0 y1 y2 y3))
 | 0 => ⟨fun _ _ _ r h => by simp [spec_l12Take.l0] at h, fun _ _ _ _ r h => by simp [spec_l12Take.j1] at h⟩
 | k + 1 => by
  obtain ⟨ih0, ih1⟩ := spec_l12Take.mono_l k
  refine ⟨?_, ?_⟩
  ·intro y0 y1 y2
   unfold spec_l12Take.l0
   repeat' first
   | (with_reducible exact ih0 _ _ _)
   | (with_reducible exact ih1 _ _ _ _)
   | (with_reducible exact spec_l12Literal.mono _ _)
   | (with_reducible exact LeO.refl _)
   | (with_reducible exact LeO.none _)
   | (with_reducible refine LeO.ite ?_ ?_)
   | (with_reducible refine LeO.bind ?_ (fun _ => ?_))
   | exact ih0 _ _ _
   | exact ih1 _ _ _ _
   | exact spec_l12Literal.mono _ _
   | exact LeO.none _
   | refine LeO.ite ?_ ?_
   | refine LeO.bind ?_ (fun _ => ?_)
  ·intro y0 y1 y2 y3
   unfold spec_l12Take.j1
   repeat' first
   | (with_reducible exact ih0 _ _ _)
   | (with_reducible exact ih1 _ _ _ _)
   | (with_reducible exact spec_l12Literal.mono _ _)
   | (with_reducible exact LeO.refl _)
   | (with_reducible exact LeO.none _)
   | (with_reducible refine LeO.ite ?_ ?_)
   | (with_reducible refine LeO.bind ?_ (fun _ => ?_))
   | exact ih0 _ _ _
   | exact ih1 _ _ _ _
   | exact spec_l12Literal.mono _ _
   | exact LeO.none _
   | refine LeO.ite ?_ ?_
   | refine LeO.bind ?_ (fun _ => ?_)
theorem spec_l12Take.mono : ∀ a0 k, LeO (spec_l12Take.f k a0) (spec_l12Take.f (k + 1) a0) := by
 intro a0 k
 obtain ⟨ih0, ih1⟩ := spec_l12Take.mono_l k
 unfold spec_l12Take.f
 repeat' first
   | (with_reducible exact ih0 _ _ _)
   | (with_reducible exact ih1 _ _ _ _)
   | (with_reducible exact spec_l12Literal.mono _ _)
   | (with_reducible exact LeO.refl _)
   | (with_reducible exact LeO.none _)
   | (with_reducible refine LeO.ite ?_ ?_)
   | (with_reducible refine LeO.bind ?_ (fun _ => ?_))
   | exact ih0 _ _ _
   | exact ih1 _ _ _ _
   | exact spec_l12Literal.mono _ _
   | exact LeO.none _
   | refine LeO.ite ?_ ?_
   | refine LeO.bind ?_ (fun _ => ?_)
set_option maxHeartbeats 8000000 in
set_option maxRecDepth 100000 in
theorem spec_l12Take.calls (k : Nat) (a0 : ByteArray) (r1 : ByteArray) (r2 : ByteArray) (r3 : Int) (w : World) (h : spec_l12Take.f k a0 = some (r1, r2, r3)) :
  Calls Tryd.prog 71 #[.string a0] w fun e w' => e = .returned (.tuple #[.string r1, .string r2, .int .i64 r3]) ∧ Drawn0 w w' := by
 have H : (spec_l12Take.l0 k a0 0 0) = some (r1, r2, r3) := h
 clear h
 have H' := Aside0.mk H
 clear H
 go_enter Tryd.func71, Tryd.ntmps71
 go_wp2
 repeat (go_quiet (fail); try go_wp2)
 go_loopg [5, 6] k (fun kq v5 v6 w' => ∃ (x5_1 : Int) (x6_1 : Int), v5 = .int .i64 x5_1 ∧ v6 = .int .i64 x6_1 ∧ Aside0 (spec_l12Take.l0 kq a0 x5_1 x6_1 = some (r1, r2, r3)) ∧ Aside0 (kq ≤ k) ∧ Drawn0 w w')
 case atStart => exact ⟨(0), (0), (by first | rfl | (simp; done) | (simp [*]; done)), (by first | rfl | (simp; done) | (simp [*]; done)), H', ⟨Nat.le_refl _⟩, by repeat (first | exact Drawn0.refl _ | apply Drawn0.step)⟩
 case round =>
  clear H'
  obtain ⟨x5_1, x6_1, rfl, rfl, HA, HK1, ⟨m1, rfl⟩⟩ := hrel
  cases gk with
  | zero => exact absurd HA.out (by simp [spec_l12Take.l0])
  | succ k1 =>
   have H := HA.out
   clear HA
   simp only [spec_l12Take.l0] at H
   by_cases c2 : (wrap64 (x6_1 + 1)) < (a0.size : Int)
   ·rw [if_pos c2] at H
    have c2b0 : decide ((wrap64 (x6_1 + 1)) < (a0.size : Int)) = true := decide_eq_true c2
    clear c2
    by_cases c3 : x6_1 > 4000
    ·rw [if_pos c3] at H
     have c3b0 : decide (4000 < x6_1) = true := decide_eq_true c3
     clear c3
     simp only [Option.some.injEq, Prod.mk.injEq] at H
     obtain ⟨rfl, rfl, rfl⟩ := H
     go_wp2
     repeat (go_quiet (fail); try go_wp2)
     go_ret3
     exact ⟨by first | rfl | (simp; done) | (simp [*]; done), by repeat (first | exact Drawn0.refl _ | apply Drawn0.step)⟩
    ·rw [if_neg c3] at H
     have c3b0 : decide (4000 < x6_1) = false := decide_eq_false c3
     clear c3
     have HC4 := Aside0.mk H
     clear H
     go_upto_region 7 with (fail)
     repeat (go_quiet (fail); go_upto_region 7 with (fail))
     go_cut [29] (fun v29 wc => ∃ (kq : Nat) (x29_3 : Bool), v29 = .bool x29_3 ∧ Aside0 (spec_l12Take.j1 kq a0 x5_1 x6_1 x29_3 = some (r1, r2, r3)) ∧ Aside0 (kq ≤ k1) ∧ Drawn0 w wc)
     case first =>
      have H := HC4.out
      clear HC4
      by_cases c5 : 0 ≤ x6_1
      ·rw [if_pos c5] at H
       have c5b0 : decide (0 ≤ x6_1) = true := decide_eq_true c5
       clear c5
       (first | rw [c5b0] | (simp only [i64_w, i32_w]; rw [c5b0]) | skip)
       by_cases c6 : x6_1 < (a0.size : Int)
       ·rw [if_pos c6] at H
        have c6b0 : decide (x6_1 < (a0.size : Int)) = true := decide_eq_true c6
        clear c6
        by_cases c8 : (bt a0 x6_1) = 13
        ·rw [if_pos c8] at H
         have c8b0 : ((bt a0 x6_1) == 13) = true := beq_iff_eq.mpr c8
         have c8b1 : ((bt a0 x6_1) != 13) = false := bne_eq_false_iff_eq.mpr c8
         clear c8
         obtain ⟨ji9, hji9⟩ : ∃ j_ : Int, (wrap64 (x6_1 + 1)) = j_ := ⟨_, rfl⟩
         replace H : (if 0 ≤ (ji9) then (spec_l12Take.j1 k1 a0 x5_1 x6_1 ((bt a0 (ji9)) != 10)) else (none)) = some (r1, r2, r3) := by first | (rw [hji9] at H; exact H) | (simp only [hji9] at H ⊢; exact H)
         (try rw [hji9] at c2b0)
         have hji9w : (IntKind.i64.wrap (x6_1 + 1)) = ji9 := (i64_w _).trans hji9
         by_cases c10 : 0 ≤ (ji9)
         ·rw [if_pos c10] at H
          have c10b0 : decide (0 ≤ (ji9)) = true := decide_eq_true c10
          clear c10
          have H' := Aside0.mk H
          clear H
          have p7 : 0 ≤ (x6_1 : Int) := of_decide_eq_true (by first | (with_reducible assumption) | assumption)
          have q7 : x6_1 < (a0.size : Int) := of_decide_eq_true (by first | (with_reducible assumption) | assumption)
          have hx7 := bt_at a0 x6_1
          replace p7 := eq_true p7
          replace q7 := eq_true q7
          have p11 : 0 ≤ ((ji9) : Int) := of_decide_eq_true (by first | (with_reducible assumption) | assumption)
          have q11 : (ji9) < (a0.size : Int) := of_decide_eq_true (by first | (with_reducible assumption) | assumption)
          have hx11 := bt_at a0 (ji9)
          replace p11 := eq_true p11
          replace q11 := eq_true q11
          go_wp2
          repeat (go_quiet (fail); try go_wp2)
          go_meet
          case rel => exact ⟨_, (((bt a0 (ji9)) != 10)), (by first | rfl | (simp; done) | (simp only [← hji9] <;> (first | rfl | simp)) | (simp [*]; done)), H', ⟨by have := HK1.out; first | omega | exact Nat.le_refl _⟩, by repeat (first | exact Drawn0.refl _ | apply Drawn0.step)⟩
         ·rw [if_neg c10] at H
          exact absurd H (by simp)
        ·rw [if_neg c8] at H
         have c8b0 : ((bt a0 x6_1) == 13) = false := beq_eq_false_iff_ne.mpr c8
         have c8b1 : ((bt a0 x6_1) != 13) = true := bne_iff_ne.mpr c8
         have H' := Aside0.mk H
         clear H
         have p7 : 0 ≤ (x6_1 : Int) := of_decide_eq_true (by first | (with_reducible assumption) | assumption)
         have q7 : x6_1 < (a0.size : Int) := of_decide_eq_true (by first | (with_reducible assumption) | assumption)
         have hx7 := bt_at a0 x6_1
         replace p7 := eq_true p7
         replace q7 := eq_true q7
         go_wp2
         repeat (go_quiet (fail); try go_wp2)
         go_meet
         case rel => exact ⟨_, (true), (by first | rfl | (simp; done) | (simp [*]; done)), H', ⟨by have := HK1.out; first | omega | exact Nat.le_refl _⟩, by repeat (first | exact Drawn0.refl _ | apply Drawn0.step)⟩
       ·rw [if_neg c6] at H
        exact absurd H (by simp)
      ·rw [if_neg c5] at H
       exact absurd H (by simp)
     case rest =>
      clear HC4
      try clear c1
      try clear p1
      try clear q1
      try clear hx1
      try clear c2
      try clear c2b0
      try clear p2
      try clear c3
      try clear c3b0
      try clear c5
      try clear c5b0
      try clear c6
      try clear c6b0
      try clear p6
      try clear c7
      try clear p7
      try clear q7
      try clear hx7
      try clear c8
      try clear c8b0
      try clear c8b1
      try clear c10
      try clear c10b0
      try clear p11
      try clear q11
      try clear hx11
      try clear p11
      try clear p7
      try clear q11
      try clear q7
      obtain ⟨kq, x29_3, rfl, HA, HJ3, ⟨mc3, rfl⟩⟩ := hcut
      cases kq with
      | zero => exact absurd HA.out (by simp [spec_l12Take.j1])
      | succ kj3 =>
       have H := HA.out
       clear HA
       simp only [spec_l12Take.j1] at H
       by_cases c12 : x29_3 = true
       ·subst c12
        have H1 : (spec_l12Take.l0 kj3 a0 x5_1 (wrap64 (x6_1 + 1))) = some (r1, r2, r3) := by rw [if_pos rfl] at H; exact H
        clear H
        have H := H1
        clear H1
        have H' := Aside0.mk H
        clear H
        go_wp2
        repeat (go_quiet (fail); try go_wp2)
        go_roundg kj3
        case measure => have := HK1.out; have := HJ3.out; omega
        case rel => exact ⟨(x5_1), (wrap64 (x6_1 + 1)), (by first | rfl | (simp; done) | (simp [*]; done)), (by first | rfl | (simp; done) | (simp [*]; done)), H', ⟨by have := HK1.out; have := HJ3.out; omega⟩, by repeat (first | exact Drawn0.refl _ | apply Drawn0.step)⟩
       ·replace c12 := Bool.eq_false_iff.mpr c12
        subst c12
        have H1 : (if 0 ≤ x5_1 then (if x5_1 ≤ x6_1 then (if x6_1 ≤ (a0.size : Int) then ((spec_l12Literal.f kj3 (a0.extract (x5_1 : Int).toNat (x6_1 : Int).toNat)).bind fun bt101 => (if bt101.2 = true then (if bt101.1 > 4000 then (some ((⟨#[]⟩ : ByteArray), a0, 4)) else (spec_l12Take.l0 kj3 a0 (wrap64 ((wrap64 (x6_1 + 2)) + bt101.1)) (wrap64 ((wrap64 ((wrap64 ((wrap64 (x6_1 + 2)) + bt101.1)) - 1)) + 1)))) else (if 0 ≤ x6_1 then (if 0 ≤ (wrap64 (x6_1 + 2)) then (if (wrap64 (x6_1 + 2)) ≤ (a0.size : Int) then (some (a0.extract 0 (x6_1 : Int).toNat, a0.extract ((wrap64 (x6_1 + 2)) : Int).toNat a0.size, 0)) else (none)) else (none)) else (none)))) else (none)) else (none)) else (none)) = some (r1, r2, r3) := by rw [if_neg (show ¬ (false = true) by decide)] at H; exact H
        clear H
        have H := H1
        clear H1
        by_cases c13 : 0 ≤ x5_1
        ·rw [if_pos c13] at H
         have c13b0 := eq_true c13
         have c13b1 : decide (0 ≤ x5_1) = true := decide_eq_true c13
         clear c13
         by_cases c14 : x5_1 ≤ x6_1
         ·rw [if_pos c14] at H
          have c14b0 := eq_true c14
          have c14b1 : decide (x5_1 ≤ x6_1) = true := decide_eq_true c14
          clear c14
          by_cases c15 : x6_1 ≤ (a0.size : Int)
          ·rw [if_pos c15] at H
           have c15b0 := eq_true c15
           have c15b1 : decide (x6_1 ≤ (a0.size : Int)) = true := decide_eq_true c15
           clear c15
           replace H := Option.bind_eq_some_iff.mp H
           obtain ⟨⟨t101, t102⟩, A160, H⟩ := H
           replace H : (if t102 = true then (if t101 > 4000 then (some ((⟨#[]⟩ : ByteArray), a0, 4)) else (spec_l12Take.l0 kj3 a0 (wrap64 ((wrap64 (x6_1 + 2)) + t101)) (wrap64 ((wrap64 ((wrap64 ((wrap64 (x6_1 + 2)) + t101)) - 1)) + 1)))) else (if 0 ≤ x6_1 then (if 0 ≤ (wrap64 (x6_1 + 2)) then (if (wrap64 (x6_1 + 2)) ≤ (a0.size : Int) then (some (a0.extract 0 (x6_1 : Int).toNat, a0.extract ((wrap64 (x6_1 + 2)) : Int).toNat a0.size, 0)) else (none)) else (none)) else (none))) = some (r1, r2, r3) := H
           have A16 := Aside0.mk A160
           clear A160
           by_cases c17 : t102 = true
           ·subst c17
            have H1 : (if t101 > 4000 then (some ((⟨#[]⟩ : ByteArray), a0, 4)) else (spec_l12Take.l0 kj3 a0 (wrap64 ((wrap64 (x6_1 + 2)) + t101)) (wrap64 ((wrap64 ((wrap64 ((wrap64 (x6_1 + 2)) + t101)) - 1)) + 1)))) = some (r1, r2, r3) := by rw [if_pos rfl] at H; exact H
            clear H
            have H := H1
            clear H1
            by_cases c18 : t101 > 4000
            ·rw [if_pos c18] at H
             have c18b0 : decide (4000 < t101) = true := decide_eq_true c18
             clear c18
             simp only [Option.some.injEq, Prod.mk.injEq] at H
             obtain ⟨rfl, rfl, rfl⟩ := H
             go_wp2_with (first | (go_at_call 102; (with_reducible refine (spec_l12Literal.calls kj3 (a0.extract (x5_1 : Int).toNat (x6_1 : Int).toNat) t101 true _ A16.out).mono ?_); rintro e w' ⟨rfl, ⟨nd, rfl⟩⟩; (try first | exact ⟨rfl, _, World.drewN_drewN _ _ _⟩ | exact ⟨rfl, _, Eq.trans (World.drewN_drewN _ _ _) (congrArg (World.drewN _) (Nat.add_assoc _ _ _))⟩)))
             repeat (go_quiet (first | (go_at_call 102; (with_reducible refine (spec_l12Literal.calls kj3 (a0.extract (x5_1 : Int).toNat (x6_1 : Int).toNat) t101 true _ A16.out).mono ?_); rintro e w' ⟨rfl, ⟨nd, rfl⟩⟩; (try first | exact ⟨rfl, _, World.drewN_drewN _ _ _⟩ | exact ⟨rfl, _, Eq.trans (World.drewN_drewN _ _ _) (congrArg (World.drewN _) (Nat.add_assoc _ _ _))⟩))); try go_wp2_with (first | (go_at_call 102; (with_reducible refine (spec_l12Literal.calls kj3 (a0.extract (x5_1 : Int).toNat (x6_1 : Int).toNat) t101 true _ A16.out).mono ?_); rintro e w' ⟨rfl, ⟨nd, rfl⟩⟩; (try first | exact ⟨rfl, _, World.drewN_drewN _ _ _⟩ | exact ⟨rfl, _, Eq.trans (World.drewN_drewN _ _ _) (congrArg (World.drewN _) (Nat.add_assoc _ _ _))⟩))))
             go_ret3
             exact ⟨by first | rfl | (simp; done) | (simp [*]; done), by repeat (first | exact Drawn0.refl _ | apply Drawn0.step)⟩
            ·rw [if_neg c18] at H
             have c18b0 : decide (4000 < t101) = false := decide_eq_false c18
             clear c18
             have H' := Aside0.mk H
             clear H
             go_wp2_with (first | (go_at_call 102; (with_reducible refine (spec_l12Literal.calls kj3 (a0.extract (x5_1 : Int).toNat (x6_1 : Int).toNat) t101 true _ A16.out).mono ?_); rintro e w' ⟨rfl, ⟨nd, rfl⟩⟩; (try first | exact ⟨rfl, _, World.drewN_drewN _ _ _⟩ | exact ⟨rfl, _, Eq.trans (World.drewN_drewN _ _ _) (congrArg (World.drewN _) (Nat.add_assoc _ _ _))⟩)))
             repeat (go_quiet (first | (go_at_call 102; (with_reducible refine (spec_l12Literal.calls kj3 (a0.extract (x5_1 : Int).toNat (x6_1 : Int).toNat) t101 true _ A16.out).mono ?_); rintro e w' ⟨rfl, ⟨nd, rfl⟩⟩; (try first | exact ⟨rfl, _, World.drewN_drewN _ _ _⟩ | exact ⟨rfl, _, Eq.trans (World.drewN_drewN _ _ _) (congrArg (World.drewN _) (Nat.add_assoc _ _ _))⟩))); try go_wp2_with (first | (go_at_call 102; (with_reducible refine (spec_l12Literal.calls kj3 (a0.extract (x5_1 : Int).toNat (x6_1 : Int).toNat) t101 true _ A16.out).mono ?_); rintro e w' ⟨rfl, ⟨nd, rfl⟩⟩; (try first | exact ⟨rfl, _, World.drewN_drewN _ _ _⟩ | exact ⟨rfl, _, Eq.trans (World.drewN_drewN _ _ _) (congrArg (World.drewN _) (Nat.add_assoc _ _ _))⟩))))
             go_roundg kj3
             case measure => have := HK1.out; have := HJ3.out; omega
             case rel => exact ⟨(wrap64 ((wrap64 (x6_1 + 2)) + t101)), (wrap64 ((wrap64 ((wrap64 ((wrap64 (x6_1 + 2)) + t101)) - 1)) + 1)), (by first | rfl | (simp; done) | (simp [*]; done)), (by first | rfl | (simp; done) | (simp [*]; done)), H', ⟨by have := HK1.out; have := HJ3.out; omega⟩, by repeat (first | exact Drawn0.refl _ | apply Drawn0.step)⟩
           ·replace c17 := Bool.eq_false_iff.mpr c17
            subst c17
            have H1 : (if 0 ≤ x6_1 then (if 0 ≤ (wrap64 (x6_1 + 2)) then (if (wrap64 (x6_1 + 2)) ≤ (a0.size : Int) then (some (a0.extract 0 (x6_1 : Int).toNat, a0.extract ((wrap64 (x6_1 + 2)) : Int).toNat a0.size, 0)) else (none)) else (none)) else (none)) = some (r1, r2, r3) := by rw [if_neg (show ¬ (false = true) by decide)] at H; exact H
            clear H
            have H := H1
            clear H1
            by_cases c19 : 0 ≤ x6_1
            ·rw [if_pos c19] at H
             have c19b0 := eq_true c19
             have c19b1 : decide (0 ≤ x6_1) = true := decide_eq_true c19
             clear c19
             have c20b0 := eq_true (of_decide_eq_true (by first | (with_reducible assumption) | assumption) : x6_1 ≤ (a0.size : Int))
             obtain ⟨ji21, hji21⟩ : ∃ j_ : Int, (wrap64 (x6_1 + 2)) = j_ := ⟨_, rfl⟩
             replace H : (if 0 ≤ (ji21) then (if (ji21) ≤ (a0.size : Int) then (some (a0.extract 0 (x6_1 : Int).toNat, a0.extract ((ji21) : Int).toNat a0.size, 0)) else (none)) else (none)) = some (r1, r2, r3) := by first | (rw [hji21] at H; exact H) | (simp only [hji21] at H ⊢; exact H)
             (try rw [hji21] at A16)
             have hji21w : (IntKind.i64.wrap (x6_1 + 2)) = ji21 := (i64_w _).trans hji21
             by_cases c22 : 0 ≤ (ji21)
             ·rw [if_pos c22] at H
              have c22b0 := eq_true c22
              have c22b1 : decide (0 ≤ (ji21)) = true := decide_eq_true c22
              clear c22
              by_cases c23 : (ji21) ≤ (a0.size : Int)
              ·rw [if_pos c23] at H
               have c23b0 := eq_true c23
               have c23b1 : decide ((ji21) ≤ (a0.size : Int)) = true := decide_eq_true c23
               clear c23
               simp only [Option.some.injEq, Prod.mk.injEq] at H
               obtain ⟨rfl, rfl, rfl⟩ := H
               go_wp2_with (first | (go_at_call 102; (with_reducible refine (spec_l12Literal.calls kj3 (a0.extract (x5_1 : Int).toNat (x6_1 : Int).toNat) t101 false _ A16.out).mono ?_); rintro e w' ⟨rfl, ⟨nd, rfl⟩⟩; (try first | exact ⟨rfl, _, World.drewN_drewN _ _ _⟩ | exact ⟨rfl, _, Eq.trans (World.drewN_drewN _ _ _) (congrArg (World.drewN _) (Nat.add_assoc _ _ _))⟩)))
               repeat (go_quiet (first | (go_at_call 102; (with_reducible refine (spec_l12Literal.calls kj3 (a0.extract (x5_1 : Int).toNat (x6_1 : Int).toNat) t101 false _ A16.out).mono ?_); rintro e w' ⟨rfl, ⟨nd, rfl⟩⟩; (try first | exact ⟨rfl, _, World.drewN_drewN _ _ _⟩ | exact ⟨rfl, _, Eq.trans (World.drewN_drewN _ _ _) (congrArg (World.drewN _) (Nat.add_assoc _ _ _))⟩))); try go_wp2_with (first | (go_at_call 102; (with_reducible refine (spec_l12Literal.calls kj3 (a0.extract (x5_1 : Int).toNat (x6_1 : Int).toNat) t101 false _ A16.out).mono ?_); rintro e w' ⟨rfl, ⟨nd, rfl⟩⟩; (try first | exact ⟨rfl, _, World.drewN_drewN _ _ _⟩ | exact ⟨rfl, _, Eq.trans (World.drewN_drewN _ _ _) (congrArg (World.drewN _) (Nat.add_assoc _ _ _))⟩))))
               go_ret3
               exact ⟨by first | rfl | (simp; done) | (simp only [← hji21] <;> (first | rfl | simp)) | (simp [*]; done), by repeat (first | exact Drawn0.refl _ | apply Drawn0.step)⟩
              ·rw [if_neg c23] at H
               exact absurd H (by simp)
             ·rw [if_neg c22] at H
              exact absurd H (by simp)
            ·rw [if_neg c19] at H
             exact absurd H (by simp)
          ·rw [if_neg c15] at H
           exact absurd H (by simp)
         ·rw [if_neg c14] at H
          exact absurd H (by simp)
        ·rw [if_neg c13] at H
         exact absurd H (by simp)
   ·rw [if_neg c2] at H
    have c2b0 : decide ((wrap64 (x6_1 + 1)) < (a0.size : Int)) = false := decide_eq_false c2
    clear c2
    by_cases c24 : (a0.size : Int) > 4002
    ·rw [if_pos c24] at H
     have c24b0 : decide (4002 < (a0.size : Int)) = true := decide_eq_true c24
     have c24b1 : decide (4002 < a0.size) = true := decide_eq_true (by omega)
     clear c24
     simp only [Option.some.injEq, Prod.mk.injEq] at H
     obtain ⟨rfl, rfl, rfl⟩ := H
     go_wp2
     repeat (go_quiet (fail); try go_wp2)
     go_ret3
     exact ⟨by first | rfl | (simp; done) | (simp [*]; done), by repeat (first | exact Drawn0.refl _ | apply Drawn0.step)⟩
    ·rw [if_neg c24] at H
     have c24b0 : decide (4002 < (a0.size : Int)) = false := decide_eq_false c24
     have c24b1 : decide (4002 < a0.size) = false := decide_eq_false (by omega)
     clear c24
     by_cases c25 : x5_1 > 4000
     ·rw [if_pos c25] at H
      have c25b0 : decide (4000 < x5_1) = true := decide_eq_true c25
      clear c25
      simp only [Option.some.injEq, Prod.mk.injEq] at H
      obtain ⟨rfl, rfl, rfl⟩ := H
      go_wp2
      repeat (go_quiet (fail); try go_wp2)
      go_ret3
      exact ⟨by first | rfl | (simp; done) | (simp [*]; done), by repeat (first | exact Drawn0.refl _ | apply Drawn0.step)⟩
     ·rw [if_neg c25] at H
      have c25b0 : decide (4000 < x5_1) = false := decide_eq_false c25
      clear c25
      simp only [Option.some.injEq, Prod.mk.injEq] at H
      obtain ⟨rfl, rfl, rfl⟩ := H
      go_wp2
      repeat (go_quiet (fail); try go_wp2)
      go_ret3
      exact ⟨by first | rfl | (simp; done) | (simp [*]; done), by repeat (first | exact Drawn0.refl _ | apply Drawn0.step)⟩


/-! ### bytealg_LastIndexByteString: function 153 -/
def bytealg_LastIndexByteString.l0 : Nat → ByteArray → Int → Int → Option (Int)
 | 0, _, _, _ => none
 | k + 1, x0, x1, x5 => if x5 ≥ 0 then (if 0 ≤ x5 then (if x5 < (x0.size : Int) then (if (bt x0 x5) = x1 then (some x5) else (bytealg_LastIndexByteString.l0 k x0 x1 (wrap64 (x5 - 1)))) else (none)) else (none)) else (some (-1))
def bytealg_LastIndexByteString.f (k : Nat) (a0 : ByteArray) (a1 : Int) : Option (Int) := bytealg_LastIndexByteString.l0 k a0 a1 (wrap64 ((a0.size : Int) - 1))
theorem bytealg_LastIndexByteString.mono_l : ∀ k, (∀ y0 y1 y2, LeO (bytealg_LastIndexByteString.l0 k y0 y1 y2) (bytealg_LastIndexByteString.l0 (k + 1) y0 y1 y2))
 | 0 => fun _ _ _ r h => by simp [bytealg_LastIndexByteString.l0] at h
 | k + 1 => by
  have ih0 := bytealg_LastIndexByteString.mono_l k
  ·intro y0 y1 y2
   unfold bytealg_LastIndexByteString.l0
   repeat' first
   | (with_reducible exact ih0 _ _ _)
   | (with_reducible exact LeO.refl _)
   | (with_reducible exact LeO.none _)
   | (with_reducible refine LeO.ite ?_ ?_)
   | (with_reducible refine LeO.bind ?_ (fun _ => ?_))
   | exact ih0 _ _ _
   | exact LeO.none _
   | refine LeO.ite ?_ ?_
   | refine LeO.bind ?_ (fun _ => ?_)
theorem bytealg_LastIndexByteString.mono : ∀ a0 a1 k, LeO (bytealg_LastIndexByteString.f k a0 a1) (bytealg_LastIndexByteString.f (k + 1) a0 a1) := by
 intro a0 a1 k
 have ih0 := bytealg_LastIndexByteString.mono_l k
 unfold bytealg_LastIndexByteString.f
 repeat' first
   | (with_reducible exact ih0 _ _ _)
   | (with_reducible exact LeO.refl _)
   | (with_reducible exact LeO.none _)
   | (with_reducible refine LeO.ite ?_ ?_)
   | (with_reducible refine LeO.bind ?_ (fun _ => ?_))
   | exact ih0 _ _ _
   | exact LeO.none _
   | refine LeO.ite ?_ ?_
   | refine LeO.bind ?_ (fun _ => ?_)
set_option maxHeartbeats 8000000 in
set_option maxRecDepth 100000 in
theorem bytealg_LastIndexByteString.calls (k : Nat) (a0 : ByteArray) (a1 : Int) (r : Int) (w : World) (h : bytealg_LastIndexByteString.f k a0 a1 = some r) :
  Calls Tryd.prog 153 #[.string a0, .int .u8 a1] w fun e w' => e = .returned (.int .i64 r) ∧ Drawn0 w w' := by
 have H : (bytealg_LastIndexByteString.l0 k a0 a1 (wrap64 ((a0.size : Int) - 1))) = some r := h
 clear h
 have H' := Aside0.mk H
 clear H
 go_enter Tryd.func153, Tryd.ntmps153
 go_wp2
 go_loopg [5] k (fun kq v5 w' => ∃ (x5_1 : Int), v5 = .int .i64 x5_1 ∧ Aside0 (bytealg_LastIndexByteString.l0 kq a0 a1 x5_1 = some r) ∧ Aside0 (kq ≤ k) ∧ Drawn0 w w')
 case atStart => exact ⟨(wrap64 ((a0.size : Int) - 1)), (by first | rfl | (simp; done) | (simp [*]; done)), H', ⟨Nat.le_refl _⟩, by repeat (first | exact Drawn0.refl _ | apply Drawn0.step)⟩
 case round =>
  clear H'
  try clear c1
  try clear p2
  obtain ⟨x5_1, rfl, HA, HK1, ⟨m1, rfl⟩⟩ := hrel
  cases gk with
  | zero => exact absurd HA.out (by simp [bytealg_LastIndexByteString.l0])
  | succ k1 =>
   have H := HA.out
   clear HA
   simp only [bytealg_LastIndexByteString.l0] at H
   by_cases c3 : x5_1 ≥ 0
   ·rw [if_pos c3] at H
    have c3b0 : decide (0 ≤ x5_1) = true := decide_eq_true c3
    clear c3
    by_cases c4 : 0 ≤ x5_1
    ·rw [if_pos c4] at H
     have c4b0 : decide (0 ≤ x5_1) = true := decide_eq_true c4
     clear c4
     by_cases c5 : x5_1 < (a0.size : Int)
     ·rw [if_pos c5] at H
      have c5b0 : decide (x5_1 < (a0.size : Int)) = true := decide_eq_true c5
      clear c5
      by_cases c7 : (bt a0 x5_1) = a1
      ·rw [if_pos c7] at H
       have c7b0 : ((bt a0 x5_1) == a1) = true := beq_iff_eq.mpr c7
       have c7b1 : ((bt a0 x5_1) != a1) = false := bne_eq_false_iff_eq.mpr c7
       clear c7
       obtain rfl := Option.some.inj H
       have p6 : 0 ≤ (x5_1 : Int) := of_decide_eq_true (by first | (with_reducible assumption) | assumption)
       have q6 : x5_1 < (a0.size : Int) := of_decide_eq_true (by first | (with_reducible assumption) | assumption)
       have hx6 := bt_at a0 x5_1
       replace p6 := eq_true p6
       replace q6 := eq_true q6
       go_wp2
       go_ret
       exact ⟨by first | rfl | (simp; done) | (simp [*]; done), by repeat (first | exact Drawn0.refl _ | apply Drawn0.step)⟩
      ·rw [if_neg c7] at H
       have c7b0 : ((bt a0 x5_1) == a1) = false := beq_eq_false_iff_ne.mpr c7
       have c7b1 : ((bt a0 x5_1) != a1) = true := bne_iff_ne.mpr c7
       have H' := Aside0.mk H
       clear H
       have p6 : 0 ≤ (x5_1 : Int) := of_decide_eq_true (by first | (with_reducible assumption) | assumption)
       have q6 : x5_1 < (a0.size : Int) := of_decide_eq_true (by first | (with_reducible assumption) | assumption)
       have hx6 := bt_at a0 x5_1
       replace p6 := eq_true p6
       replace q6 := eq_true q6
       go_wp2
       go_roundg k1
       case measure => have := HK1.out; omega
       case rel => exact ⟨(wrap64 (x5_1 - 1)), (by first | rfl | (simp; done) | (simp [*]; done)), H', ⟨by have := HK1.out; omega⟩, by repeat (first | exact Drawn0.refl _ | apply Drawn0.step)⟩
     ·rw [if_neg c5] at H
      exact absurd H (by simp)
    ·rw [if_neg c4] at H
     exact absurd H (by simp)
   ·rw [if_neg c3] at H
    have c3b0 : decide (0 ≤ x5_1) = false := decide_eq_false c3
    clear c3
    obtain rfl := Option.some.inj H
    go_wp2
    go_ret
    exact ⟨by first | rfl | (simp; done) | (simp [*]; done), by repeat (first | exact Drawn0.refl _ | apply Drawn0.step)⟩


/-! ### strings_LastIndexByte: function 131 -/
def strings_LastIndexByte.f (k : Nat) (a0 : ByteArray) (a1 : Int) : Option (Int) := (bytealg_LastIndexByteString.f k a0 a1).bind fun t101 => (some t101)
theorem strings_LastIndexByte.mono : ∀ a0 a1 k, LeO (strings_LastIndexByte.f k a0 a1) (strings_LastIndexByte.f (k + 1) a0 a1) := by
 intro a0 a1 k
 unfold strings_LastIndexByte.f
 repeat' first
   | (with_reducible exact bytealg_LastIndexByteString.mono _ _ _)
   | (with_reducible exact LeO.refl _)
   | (with_reducible exact LeO.none _)
   | (with_reducible refine LeO.ite ?_ ?_)
   | (with_reducible refine LeO.bind ?_ (fun _ => ?_))
   | exact bytealg_LastIndexByteString.mono _ _ _
   | exact LeO.none _
   | refine LeO.ite ?_ ?_
   | refine LeO.bind ?_ (fun _ => ?_)
set_option maxHeartbeats 8000000 in
set_option maxRecDepth 100000 in
theorem strings_LastIndexByte.calls (k : Nat) (a0 : ByteArray) (a1 : Int) (r : Int) (w : World) (h : strings_LastIndexByte.f k a0 a1 = some r) :
  Calls Tryd.prog 131 #[.string a0, .int .u8 a1] w fun e w' => e = .returned (.int .i64 r) ∧ Drawn0 w w' := by
 have H : ((bytealg_LastIndexByteString.f k a0 a1).bind fun t101 => (some t101)) = some r := h
 clear h
 replace H := Option.bind_eq_some_iff.mp H
 obtain ⟨t101, A30, H⟩ := H
 replace H : (some t101) = some r := H
 have A3 := Aside0.mk A30
 clear A30
 obtain rfl := Option.some.inj H
 go_enter Tryd.func131, Tryd.ntmps131
 go_wp2_with (first | ((with_reducible refine gate_callee (f := 153) rfl ?_); refine goesL_ (some 7) rfl rfl Tryd.func153 (by kernel_rfl) rfl #[.string a0, .int .u8 a1] rfl (by (try simp only [List.map_toArray, List.map_cons, List.map_nil]); first | done | rfl | (simp only [List.length_drop, List.length_take]; rfl)) ?_; (with_reducible refine (bytealg_LastIndexByteString.calls k a0 a1 t101 _ A3.out).mono ?_); rintro e w' ⟨rfl, ⟨nd, rfl⟩⟩; refine ⟨_, rfl, ?_⟩))
 go_ret
 exact ⟨by first | rfl | (simp; done) | (simp [*]; done), by repeat (first | exact Drawn0.refl _ | apply Drawn0.step)⟩


/-! ### impl_literal: function 104 -/
def impl_literal.f (k : Nat) (a0 : ByteArray) : Option (Int × Bool) := (strings_LastIndexByte.f k a0 123).bind fun t101 => (if t101 < 0 then (some (0, false)) else (if 0 ≤ (wrap64 (t101 + 1)) then (if (wrap64 (t101 + 1)) ≤ (a0.size : Int) then ((strings_CutSuffix.f (a0.extract ((wrap64 (t101 + 1)) : Int).toNat a0.size) (⟨#[125]⟩ : ByteArray)).bind fun bt102 => ((impl_number.f k bt102.1).bind fun bt104 => (if bt102.2 = true then (if bt104.2 = true then (if bt104.1 ≥ 0 then (some (bt104.1, decide ((bt102.1.size : Int) ≤ 6))) else (some (bt104.1, false))) else (some (bt104.1, false))) else (some (bt104.1, false))))) else (none)) else (none)))
theorem impl_literal.mono : ∀ a0 k, LeO (impl_literal.f k a0) (impl_literal.f (k + 1) a0) := by
 intro a0 k
 unfold impl_literal.f
 repeat' first
   | (with_reducible exact impl_number.mono _ _)
   | (with_reducible exact strings_LastIndexByte.mono _ _ _)
   | (with_reducible exact LeO.refl _)
   | (with_reducible exact LeO.none _)
   | (with_reducible refine LeO.ite ?_ ?_)
   | (with_reducible refine LeO.bind ?_ (fun _ => ?_))
   | exact impl_number.mono _ _
   | exact strings_LastIndexByte.mono _ _ _
   | exact LeO.none _
   | refine LeO.ite ?_ ?_
   | refine LeO.bind ?_ (fun _ => ?_)
set_option maxHeartbeats 8000000 in
set_option maxRecDepth 100000 in
theorem impl_literal.calls (k : Nat) (a0 : ByteArray) (r1 : Int) (r2 : Bool) (w : World) (h : impl_literal.f k a0 = some (r1, r2)) :
  Calls Tryd.prog 104 #[.string a0] w fun e w' => e = .returned (.tuple #[.int .i64 r1, .bool r2]) ∧ Below w.heap.size w w' := by
 have HB := Aside0.mk (Below.refl w.heap.size w)
 have H : ((strings_LastIndexByte.f k a0 123).bind fun t101 => (if t101 < 0 then (some (0, false)) else (if 0 ≤ (wrap64 (t101 + 1)) then (if (wrap64 (t101 + 1)) ≤ (a0.size : Int) then ((strings_CutSuffix.f (a0.extract ((wrap64 (t101 + 1)) : Int).toNat a0.size) (⟨#[125]⟩ : ByteArray)).bind fun bt102 => ((impl_number.f k bt102.1).bind fun bt104 => (if bt102.2 = true then (if bt104.2 = true then (if bt104.1 ≥ 0 then (some (bt104.1, decide ((bt102.1.size : Int) ≤ 6))) else (some (bt104.1, false))) else (some (bt104.1, false))) else (some (bt104.1, false))))) else (none)) else (none)))) = some (r1, r2) := h
 clear h
 replace H := Option.bind_eq_some_iff.mp H
 obtain ⟨t101, A20, H⟩ := H
 replace H : (if t101 < 0 then (some (0, false)) else (if 0 ≤ (wrap64 (t101 + 1)) then (if (wrap64 (t101 + 1)) ≤ (a0.size : Int) then ((strings_CutSuffix.f (a0.extract ((wrap64 (t101 + 1)) : Int).toNat a0.size) (⟨#[125]⟩ : ByteArray)).bind fun bt102 => ((impl_number.f k bt102.1).bind fun bt104 => (if bt102.2 = true then (if bt104.2 = true then (if bt104.1 ≥ 0 then (some (bt104.1, decide ((bt102.1.size : Int) ≤ 6))) else (some (bt104.1, false))) else (some (bt104.1, false))) else (some (bt104.1, false))))) else (none)) else (none))) = some (r1, r2) := H
 have A2 := Aside0.mk A20
 clear A20
 by_cases c3 : t101 < 0
 ·rw [if_pos c3] at H
  have c3b0 : decide (t101 < 0) = true := decide_eq_true c3
  clear c3
  simp only [Option.some.injEq, Prod.mk.injEq] at H
  obtain ⟨rfl, rfl⟩ := H
  go_enter Tryd.func104, Tryd.ntmps104
  go_wp2_with (first | ((with_reducible refine gate_callee (f := 131) rfl ?_); refine goesL_ (some 10) rfl rfl Tryd.func131 (by kernel_rfl) rfl #[.string a0, .int .u8 123] rfl (by (try simp only [List.map_toArray, List.map_cons, List.map_nil]); first | done | rfl | (simp only [List.length_drop, List.length_take]; rfl)) ?_; (with_reducible refine (strings_LastIndexByte.calls k a0 123 t101 _ A2.out).mono ?_); rintro e w' ⟨rfl, ⟨nd, rfl⟩⟩; refine ⟨_, rfl, ?_⟩))
  go_ret2
  exact ⟨by first | rfl | (simp [errW_none, errW_some] <;> rfl) | (simp [*, errW_none, errW_some] <;> rfl), by repeat (first | (with_reducible first | exact HB.out | apply below_alloc | apply pw_below_drewN | apply below_drew1) | exact HB.out)⟩
 ·rw [if_neg c3] at H
  have c3b0 : decide (t101 < 0) = false := decide_eq_false c3
  clear c3
  obtain ⟨ji4, hji4⟩ : ∃ j_ : Int, (wrap64 (t101 + 1)) = j_ := ⟨_, rfl⟩
  replace H : (if 0 ≤ (ji4) then (if (ji4) ≤ (a0.size : Int) then ((strings_CutSuffix.f (a0.extract ((ji4) : Int).toNat a0.size) (⟨#[125]⟩ : ByteArray)).bind fun bt102 => ((impl_number.f k bt102.1).bind fun bt104 => (if bt102.2 = true then (if bt104.2 = true then (if bt104.1 ≥ 0 then (some (bt104.1, decide ((bt102.1.size : Int) ≤ 6))) else (some (bt104.1, false))) else (some (bt104.1, false))) else (some (bt104.1, false))))) else (none)) else (none)) = some (r1, r2) := by first | (rw [hji4] at H; exact H) | (simp only [hji4] at H ⊢; exact H)
  (try rw [hji4] at A2)
  have hji4w : (IntKind.i64.wrap (t101 + 1)) = ji4 := (i64_w _).trans hji4
  by_cases c5 : 0 ≤ (ji4)
  ·rw [if_pos c5] at H
   have c5b0 := eq_true c5
   have c5b1 : decide (0 ≤ (ji4)) = true := decide_eq_true c5
   clear c5
   by_cases c6 : (ji4) ≤ (a0.size : Int)
   ·rw [if_pos c6] at H
    have c6b0 := eq_true c6
    have c6b1 : decide ((ji4) ≤ (a0.size : Int)) = true := decide_eq_true c6
    clear c6
    replace H := Option.bind_eq_some_iff.mp H
    obtain ⟨⟨t102, t103⟩, A70, H⟩ := H
    replace H : ((impl_number.f k t102).bind fun bt104 => (if t103 = true then (if bt104.2 = true then (if bt104.1 ≥ 0 then (some (bt104.1, decide ((t102.size : Int) ≤ 6))) else (some (bt104.1, false))) else (some (bt104.1, false))) else (some (bt104.1, false)))) = some (r1, r2) := H
    have A7 := Aside0.mk A70
    clear A70
    replace H := Option.bind_eq_some_iff.mp H
    obtain ⟨⟨t104, t105⟩, A80, H⟩ := H
    replace H : (if t103 = true then (if t105 = true then (if t104 ≥ 0 then (some (t104, decide ((t102.size : Int) ≤ 6))) else (some (t104, false))) else (some (t104, false))) else (some (t104, false))) = some (r1, r2) := H
    have A8 := Aside0.mk A80
    clear A80
    by_cases c9 : t103 = true
    ·subst c9
     have H1 : (if t105 = true then (if t104 ≥ 0 then (some (t104, decide ((t102.size : Int) ≤ 6))) else (some (t104, false))) else (some (t104, false))) = some (r1, r2) := by rw [if_pos rfl] at H; exact H
     clear H
     have H := H1
     clear H1
     by_cases c10 : t105 = true
     ·subst c10
      have H1 : (if t104 ≥ 0 then (some (t104, decide ((t102.size : Int) ≤ 6))) else (some (t104, false))) = some (r1, r2) := by rw [if_pos rfl] at H; exact H
      clear H
      have H := H1
      clear H1
      by_cases c11 : t104 ≥ 0
      ·rw [if_pos c11] at H
       have c11b0 : decide (0 ≤ t104) = true := decide_eq_true c11
       clear c11
       simp only [Option.some.injEq, Prod.mk.injEq] at H
       obtain ⟨rfl, rfl⟩ := H
       go_enter Tryd.func104, Tryd.ntmps104
       go_wp2_with (first | ((with_reducible refine gate_callee (f := 131) rfl ?_); refine goesL_ (some 10) rfl rfl Tryd.func131 (by kernel_rfl) rfl #[.string a0, .int .u8 123] rfl (by (try simp only [List.map_toArray, List.map_cons, List.map_nil]); first | done | rfl | (simp only [List.length_drop, List.length_take]; rfl)) ?_; (with_reducible refine (strings_LastIndexByte.calls k a0 123 t101 _ A2.out).mono ?_); rintro e w' ⟨rfl, ⟨nd, rfl⟩⟩; refine ⟨_, rfl, ?_⟩) | ((with_reducible refine gate_callee (f := 86) rfl ?_); refine goesL_ (some 18) rfl rfl Tryd.func86 (by kernel_rfl) rfl #[.string (a0.extract ((ji4) : Int).toNat a0.size), .string (⟨#[125]⟩ : ByteArray)] rfl (by (try simp only [List.map_toArray, List.map_cons, List.map_nil]); first | done | (simp only [hji4]; rfl) | rfl | (simp only [List.length_drop, List.length_take]; rfl)) ?_; (with_reducible refine (strings_CutSuffix.calls (a0.extract ((ji4) : Int).toNat a0.size) (⟨#[125]⟩ : ByteArray) t102 true _ A7.out).mono ?_); rintro e w' ⟨rfl, ⟨nd, rfl⟩⟩; refine ⟨_, rfl, ?_⟩) | ((with_reducible refine gate_callee (f := 132) rfl ?_); refine goesL_ (some 23) rfl rfl Tryd.func132 (by kernel_rfl) rfl #[.string t102] rfl (by (try simp only [List.map_toArray, List.map_cons, List.map_nil]); first | done | rfl | (simp only [List.length_drop, List.length_take]; rfl)) ?_; (with_reducible refine (impl_number.calls k t102 t104 true _ A8.out).mono ?_); rintro e w12 ⟨rfl, hb⟩; refine ⟨_, rfl, ?_⟩; have n0_ := Aside0.mk (below_step (by repeat (first | (with_reducible first | exact HB.out | apply below_alloc | apply pw_below_drewN | apply below_drew1) | exact HB.out)) hb); clear HB; have HB := n0_; clear n0_; (try clear hb); (try clear hb2); (try clear hk); (try clear hi)))
       go_ret2
       exact ⟨by first | rfl | (simp [errW_none, errW_some] <;> rfl) | (simp only [← hji4]; first | rfl | (simp [errW_none, errW_some] <;> rfl)) | (simp [*, errW_none, errW_some] <;> rfl), by repeat (first | (with_reducible first | exact HB.out | apply below_alloc | apply pw_below_drewN | apply below_drew1) | exact HB.out)⟩
      ·rw [if_neg c11] at H
       have c11b0 : decide (0 ≤ t104) = false := decide_eq_false c11
       clear c11
       simp only [Option.some.injEq, Prod.mk.injEq] at H
       obtain ⟨rfl, rfl⟩ := H
       go_enter Tryd.func104, Tryd.ntmps104
       go_wp2_with (first | ((with_reducible refine gate_callee (f := 131) rfl ?_); refine goesL_ (some 10) rfl rfl Tryd.func131 (by kernel_rfl) rfl #[.string a0, .int .u8 123] rfl (by (try simp only [List.map_toArray, List.map_cons, List.map_nil]); first | done | rfl | (simp only [List.length_drop, List.length_take]; rfl)) ?_; (with_reducible refine (strings_LastIndexByte.calls k a0 123 t101 _ A2.out).mono ?_); rintro e w' ⟨rfl, ⟨nd, rfl⟩⟩; refine ⟨_, rfl, ?_⟩) | ((with_reducible refine gate_callee (f := 86) rfl ?_); refine goesL_ (some 18) rfl rfl Tryd.func86 (by kernel_rfl) rfl #[.string (a0.extract ((ji4) : Int).toNat a0.size), .string (⟨#[125]⟩ : ByteArray)] rfl (by (try simp only [List.map_toArray, List.map_cons, List.map_nil]); first | done | (simp only [hji4]; rfl) | rfl | (simp only [List.length_drop, List.length_take]; rfl)) ?_; (with_reducible refine (strings_CutSuffix.calls (a0.extract ((ji4) : Int).toNat a0.size) (⟨#[125]⟩ : ByteArray) t102 true _ A7.out).mono ?_); rintro e w' ⟨rfl, ⟨nd, rfl⟩⟩; refine ⟨_, rfl, ?_⟩) | ((with_reducible refine gate_callee (f := 132) rfl ?_); refine goesL_ (some 23) rfl rfl Tryd.func132 (by kernel_rfl) rfl #[.string t102] rfl (by (try simp only [List.map_toArray, List.map_cons, List.map_nil]); first | done | rfl | (simp only [List.length_drop, List.length_take]; rfl)) ?_; (with_reducible refine (impl_number.calls k t102 t104 true _ A8.out).mono ?_); rintro e w13 ⟨rfl, hb⟩; refine ⟨_, rfl, ?_⟩; have n0_ := Aside0.mk (below_step (by repeat (first | (with_reducible first | exact HB.out | apply below_alloc | apply pw_below_drewN | apply below_drew1) | exact HB.out)) hb); clear HB; have HB := n0_; clear n0_; (try clear hb); (try clear hb2); (try clear hk); (try clear hi)))
       go_ret2
       exact ⟨by first | rfl | (simp [errW_none, errW_some] <;> rfl) | (simp only [← hji4]; first | rfl | (simp [errW_none, errW_some] <;> rfl)) | (simp [*, errW_none, errW_some] <;> rfl), by repeat (first | (with_reducible first | exact HB.out | apply below_alloc | apply pw_below_drewN | apply below_drew1) | exact HB.out)⟩
     ·replace c10 := Bool.eq_false_iff.mpr c10
      subst c10
      have H1 : (some (t104, false)) = some (r1, r2) := by rw [if_neg (show ¬ (false = true) by decide)] at H; exact H
      clear H
      have H := H1
      clear H1
      simp only [Option.some.injEq, Prod.mk.injEq] at H
      obtain ⟨rfl, rfl⟩ := H
      go_enter Tryd.func104, Tryd.ntmps104
      go_wp2_with (first | ((with_reducible refine gate_callee (f := 131) rfl ?_); refine goesL_ (some 10) rfl rfl Tryd.func131 (by kernel_rfl) rfl #[.string a0, .int .u8 123] rfl (by (try simp only [List.map_toArray, List.map_cons, List.map_nil]); first | done | rfl | (simp only [List.length_drop, List.length_take]; rfl)) ?_; (with_reducible refine (strings_LastIndexByte.calls k a0 123 t101 _ A2.out).mono ?_); rintro e w' ⟨rfl, ⟨nd, rfl⟩⟩; refine ⟨_, rfl, ?_⟩) | ((with_reducible refine gate_callee (f := 86) rfl ?_); refine goesL_ (some 18) rfl rfl Tryd.func86 (by kernel_rfl) rfl #[.string (a0.extract ((ji4) : Int).toNat a0.size), .string (⟨#[125]⟩ : ByteArray)] rfl (by (try simp only [List.map_toArray, List.map_cons, List.map_nil]); first | done | (simp only [hji4]; rfl) | rfl | (simp only [List.length_drop, List.length_take]; rfl)) ?_; (with_reducible refine (strings_CutSuffix.calls (a0.extract ((ji4) : Int).toNat a0.size) (⟨#[125]⟩ : ByteArray) t102 true _ A7.out).mono ?_); rintro e w' ⟨rfl, ⟨nd, rfl⟩⟩; refine ⟨_, rfl, ?_⟩) | ((with_reducible refine gate_callee (f := 132) rfl ?_); refine goesL_ (some 23) rfl rfl Tryd.func132 (by kernel_rfl) rfl #[.string t102] rfl (by (try simp only [List.map_toArray, List.map_cons, List.map_nil]); first | done | rfl | (simp only [List.length_drop, List.length_take]; rfl)) ?_; (with_reducible refine (impl_number.calls k t102 t104 false _ A8.out).mono ?_); rintro e w14 ⟨rfl, hb⟩; refine ⟨_, rfl, ?_⟩; have n0_ := Aside0.mk (below_step (by repeat (first | (with_reducible first | exact HB.out | apply below_alloc | apply pw_below_drewN | apply below_drew1) | exact HB.out)) hb); clear HB; have HB := n0_; clear n0_; (try clear hb); (try clear hb2); (try clear hk); (try clear hi)))
      go_ret2
      exact ⟨by first | rfl | (simp [errW_none, errW_some] <;> rfl) | (simp only [← hji4]; first | rfl | (simp [errW_none, errW_some] <;> rfl)) | (simp [*, errW_none, errW_some] <;> rfl), by repeat (first | (with_reducible first | exact HB.out | apply below_alloc | apply pw_below_drewN | apply below_drew1) | exact HB.out)⟩
    ·replace c9 := Bool.eq_false_iff.mpr c9
     subst c9
     have H1 : (some (t104, false)) = some (r1, r2) := by rw [if_neg (show ¬ (false = true) by decide)] at H; exact H
     clear H
     have H := H1
     clear H1
     simp only [Option.some.injEq, Prod.mk.injEq] at H
     obtain ⟨rfl, rfl⟩ := H
     go_enter Tryd.func104, Tryd.ntmps104
     go_wp2_with (first | ((with_reducible refine gate_callee (f := 131) rfl ?_); refine goesL_ (some 10) rfl rfl Tryd.func131 (by kernel_rfl) rfl #[.string a0, .int .u8 123] rfl (by (try simp only [List.map_toArray, List.map_cons, List.map_nil]); first | done | rfl | (simp only [List.length_drop, List.length_take]; rfl)) ?_; (with_reducible refine (strings_LastIndexByte.calls k a0 123 t101 _ A2.out).mono ?_); rintro e w' ⟨rfl, ⟨nd, rfl⟩⟩; refine ⟨_, rfl, ?_⟩) | ((with_reducible refine gate_callee (f := 86) rfl ?_); refine goesL_ (some 18) rfl rfl Tryd.func86 (by kernel_rfl) rfl #[.string (a0.extract ((ji4) : Int).toNat a0.size), .string (⟨#[125]⟩ : ByteArray)] rfl (by (try simp only [List.map_toArray, List.map_cons, List.map_nil]); first | done | (simp only [hji4]; rfl) | rfl | (simp only [List.length_drop, List.length_take]; rfl)) ?_; (with_reducible refine (strings_CutSuffix.calls (a0.extract ((ji4) : Int).toNat a0.size) (⟨#[125]⟩ : ByteArray) t102 false _ A7.out).mono ?_); rintro e w' ⟨rfl, ⟨nd, rfl⟩⟩; refine ⟨_, rfl, ?_⟩) | ((with_reducible refine gate_callee (f := 132) rfl ?_); refine goesL_ (some 23) rfl rfl Tryd.func132 (by kernel_rfl) rfl #[.string t102] rfl (by (try simp only [List.map_toArray, List.map_cons, List.map_nil]); first | done | rfl | (simp only [List.length_drop, List.length_take]; rfl)) ?_; (with_reducible refine (impl_number.calls k t102 t104 t105 _ A8.out).mono ?_); rintro e w15 ⟨rfl, hb⟩; refine ⟨_, rfl, ?_⟩; have n0_ := Aside0.mk (below_step (by repeat (first | (with_reducible first | exact HB.out | apply below_alloc | apply pw_below_drewN | apply below_drew1) | exact HB.out)) hb); clear HB; have HB := n0_; clear n0_; (try clear hb); (try clear hb2); (try clear hk); (try clear hi)))
     go_ret2
     exact ⟨by first | rfl | (simp [errW_none, errW_some] <;> rfl) | (simp only [← hji4]; first | rfl | (simp [errW_none, errW_some] <;> rfl)) | (simp [*, errW_none, errW_some] <;> rfl), by repeat (first | (with_reducible first | exact HB.out | apply below_alloc | apply pw_below_drewN | apply below_drew1) | exact HB.out)⟩
   ·rw [if_neg c6] at H
    exact absurd H (by simp)
  ·rw [if_neg c5] at H
   exact absurd H (by simp)


/-! ### strings_Index_2: function 800000103 (a text of mine) -/
section
open Go.Shelf
def sh800000103_lays143_ren : Go.Shelf.Ren := ⟨fun | 143 => 103 | 219 => 130 | 217 => 149 | 225 => 150 | 224 => 151 | 267 => 152 | 266 => 168 | 314 => 169 | n => n, fun | 9 => 9 | 3 => 3 | 4 => 4 | 5 => 5 | 46 => 89 | 146 => 174 | 51 => 124 | n => n, fun | 1 => 0 | n => n⟩
theorem sh800000103_lays143 : Go.Proofs.Lays.n143 Tryd.prog sh800000103_lays143_ren := {
 mixed := by kernel_rfl
 f143 := Tryd.func103.trans (congrArg some (by kernel_rfl))
 f217 := Tryd.func149.trans (congrArg some (by kernel_rfl))
 f219 := Tryd.func130.trans (congrArg some (by kernel_rfl))
 f224 := Tryd.func151.trans (congrArg some (by kernel_rfl))
 f225 := Tryd.func150.trans (congrArg some (by kernel_rfl))
 f266 := Tryd.func168.trans (congrArg some (by kernel_rfl))
 f267 := Tryd.func152.trans (congrArg some (by kernel_rfl))
 f314 := Tryd.func169.trans (congrArg some (by kernel_rfl))
 t3 := Tryd.underlying3
 a3 := Tryd.isAgg3
 z3 := Tryd.sizeOf3
 v3 := Tryd.zeroValue3
 t4 := Tryd.underlying4
 a4 := Tryd.isAgg4
 z4 := Tryd.sizeOf4
 v4 := Tryd.zeroValue4
 t5 := Tryd.underlying5
 a5 := Tryd.isAgg5
 z5 := Tryd.sizeOf5
 v5 := Tryd.zeroValue5
 t9 := Tryd.underlying9
 a9 := Tryd.isAgg9
 z9 := Tryd.sizeOf9
 v9 := Tryd.zeroValue9
 t46 := Tryd.underlying89
 a46 := Tryd.isAgg89
 z46 := Tryd.sizeOf89
 v46 := Tryd.zeroValue89
 t51 := Tryd.underlying124
 a51 := Tryd.isAgg124
 z51 := Tryd.sizeOf124
 v51 := Tryd.zeroValue124
 t146 := Tryd.underlying174
 a146 := Tryd.isAgg174
 z146 := Tryd.sizeOf174
 v146 := Tryd.zeroValue174
 g1 := by kernel_rfl }
open Go.RowKit Go.Lib in
theorem sh800000103_strings_Index (s sub : ByteArray) (m : Int) (w : World) (hs : s.size < 4294967281) (hm : w.cell? ⟨0, 0, none⟩ = some (.int .i64 m)) :
  Calls Tryd.prog 103 #[.string s, .string sub] w fun e w' => e = .returned (.int .i64 (Lib.index s.data.toList sub.data.toList)) ∧ w' = w := Any.strings_Index sh800000103_lays143 s sub m w hs hm
def sh800000103_laysM143_ren : Go.Shelf.Ren := ⟨fun | 143 => 103 | 219 => 130 | 217 => 149 | 225 => 150 | 224 => 151 | 267 => 152 | 266 => 168 | 314 => 169 | n => n, fun | 9 => 9 | 3 => 3 | 4 => 4 | 5 => 5 | 46 => 89 | 146 => 174 | 51 => 124 | n => n, fun | 1 => 0 | n => n⟩
theorem sh800000103_laysM143 : Go.Proofs.LaysM.n143 Tryd.prog sh800000103_laysM143_ren := {
 mixed := by kernel_rfl
 f143 := Tryd.func103.trans (congrArg some (by kernel_rfl))
 f217 := Tryd.func149.trans (congrArg some (by kernel_rfl))
 f219 := Tryd.func130.trans (congrArg some (by kernel_rfl))
 f224 := Tryd.func151.trans (congrArg some (by kernel_rfl))
 f225 := Tryd.func150.trans (congrArg some (by kernel_rfl))
 f266 := Tryd.func168.trans (congrArg some (by kernel_rfl))
 f267 := Tryd.func152.trans (congrArg some (by kernel_rfl))
 f314 := Tryd.func169.trans (congrArg some (by kernel_rfl))
 t3 := Tryd.underlying3
 a3 := Tryd.isAgg3
 z3 := Tryd.sizeOf3
 v3 := Tryd.zeroValue3
 t4 := Tryd.underlying4
 a4 := Tryd.isAgg4
 z4 := Tryd.sizeOf4
 v4 := Tryd.zeroValue4
 t5 := Tryd.underlying5
 a5 := Tryd.isAgg5
 z5 := Tryd.sizeOf5
 v5 := Tryd.zeroValue5
 t9 := Tryd.underlying9
 a9 := Tryd.isAgg9
 z9 := Tryd.sizeOf9
 v9 := Tryd.zeroValue9
 t46 := Tryd.underlying89
 a46 := Tryd.isAgg89
 z46 := Tryd.sizeOf89
 v46 := Tryd.zeroValue89
 t51 := Tryd.underlying124
 a51 := Tryd.isAgg124
 z51 := Tryd.sizeOf124
 v51 := Tryd.zeroValue124
 t146 := Tryd.underlying174
 a146 := Tryd.isAgg174
 z146 := Tryd.sizeOf174
 v146 := Tryd.zeroValue174
 g1 := by kernel_rfl
 i3 := by kernel_rfl
 i4 := by kernel_rfl
 i5 := by kernel_rfl
 i9 := by kernel_rfl
 i46 := by kernel_rfl
 i51 := by kernel_rfl
 i146 := by kernel_rfl
 m1 := by kernel_rfl
 s1_3 := fun w h => Go.Proofs.cell_of_shapedOpen_int (zero := #[.int .i64 0]) (t := 3) h (of_decide_eq_true (by kernel_rfl)) (by kernel_rfl) rfl (by kernel_rfl) (by kernel_rfl) Tryd.underlying3 }
open Go.RowKit Go.Lib in
theorem sh800000103_strings_Index_shaped (s sub : ByteArray) (w : World) (h : w.ShapedOpen Tryd.prog) (hs : s.size < 4294967281) :
  Calls Tryd.prog 103 #[.string s, .string sub] w fun e w' => e = .returned (.int .i64 (Lib.index s.data.toList sub.data.toList)) ∧ w' = w := Any.strings_Index_shaped sh800000103_laysM143 s sub w h hs
end

/-- The library's variable MaxLen holds a number. -/
def GWm (w : World) : Prop := ∃ m : Int, w.cell? ⟨0, 0, none⟩ = some (.int .i64 m)
theorem GWm.below {w w' : World} (h : GWm w) (hb : Below w.heap.size w w') : GWm w' := by
 obtain ⟨m, hm⟩ := h
 exact ⟨m, (hb.cell (World.block_lt_of_cell? _ _ hm)).trans hm⟩
def strings_Index_2.f (a0 : ByteArray) (a1 : ByteArray) : Option Int := if a0.size < 4294967281 then some (Lib.index a0.data.toList a1.data.toList) else none
theorem strings_Index_2.calls (a0 : ByteArray) (a1 : ByteArray) (r : Int) (w : World) (hGWm : GWm w) (h : strings_Index_2.f a0 a1 = some r) :
  Calls Tryd.prog 103 #[.string a0, .string a1] w fun e w' => e = .returned (.int .i64 r) ∧ Drawn0 w w' := by
 unfold strings_Index_2.f at h
 split at h
 ·rename_i hs
  obtain rfl := Option.some.inj h
  obtain ⟨m, hm⟩ := hGWm
  exact (sh800000103_strings_Index a0 a1 m w hs hm).mono fun e w' ⟨he, hw⟩ => ⟨he, hw ▸ Drawn0.refl _⟩
 ·cases h


/-! ### impl_takeCommand: function 72 -/
mutual
def impl_takeCommand.l0 : Nat → ByteArray → Int → Option (Int × Int)
 | 0, _, _ => none
 | k + 1, x0, x4 => if 0 ≤ x4 then (if x4 ≤ (x0.size : Int) then ((strings_Index_2.f (x0.extract (x4 : Int).toNat x0.size) (⟨#[13, 10]⟩ : ByteArray)).bind fun t101 => (if t101 < 0 then (if (x0.size : Int) > 4002 then (some (0, 4)) else (some (0, 18))) else (if (wrap64 (x4 + t101)) > 4000 then (some (0, 4)) else (if x4 ≤ (wrap64 (x4 + t101)) then (if (wrap64 (x4 + t101)) ≤ (x0.size : Int) then ((impl_literal.f k (x0.extract (x4 : Int).toNat ((wrap64 (x4 + t101)) : Int).toNat)).bind fun bt102 => (if bt102.2 = true then (if bt102.1 > 4000 then (impl_takeCommand.j1 k x0 (wrap64 ((wrap64 ((wrap64 (x4 + t101)) + 2)) + bt102.1)) true) else (impl_takeCommand.j1 k x0 (wrap64 ((wrap64 ((wrap64 (x4 + t101)) + 2)) + bt102.1)) (decide ((wrap64 ((wrap64 ((wrap64 (x4 + t101)) + 2)) + bt102.1)) > 4000)))) else (some (wrap64 (x4 + t101), 0)))) else (none)) else (none))))) else (none)) else (none)
def impl_takeCommand.j1 : Nat → ByteArray → Int → Bool → Option (Int × Int)
 | 0, _, _, _ => none
 | k + 1, x0, x4, x43 => if x43 = true then (some (0, 4)) else (if x4 > (x0.size : Int) then (some (0, 18)) else (impl_takeCommand.l0 k x0 x4))
end
def impl_takeCommand.f (k : Nat) (a0 : ByteArray) : Option (Int × Int) := impl_takeCommand.l0 k a0 0
theorem impl_takeCommand.mono_l : ∀ k, (∀ y0 y1, LeO (impl_takeCommand.l0 k y0 y1) (impl_takeCommand.l0 (k + 1) y0 y1)) ∧ (∀ y0 y1 y2, LeO (impl_takeCommand.j1 k y0 y1 y2) (impl_takeCommand.j1 (k + 1) y0 y1 y2))
 | 0 => ⟨fun _ _ r h => by simp [impl_takeCommand.l0] at h, fun _ _ _ r h => by simp [impl_takeCommand.j1] at h⟩
 | k + 1 => by
  obtain ⟨ih0, ih1⟩ := impl_takeCommand.mono_l k
  refine ⟨?_, ?_⟩
  ·intro y0 y1
   unfold impl_takeCommand.l0
   repeat' first
   | (with_reducible exact ih0 _ _)
   | (with_reducible exact ih1 _ _ _)
   | (with_reducible exact impl_literal.mono _ _)
   | (with_reducible exact LeO.refl _)
   | (with_reducible exact LeO.none _)
   | (with_reducible refine LeO.ite ?_ ?_)
   | (with_reducible refine LeO.bind ?_ (fun _ => ?_))
   | exact ih0 _ _
   | exact ih1 _ _ _
   | exact impl_literal.mono _ _
   | exact LeO.none _
   | refine LeO.ite ?_ ?_
   | refine LeO.bind ?_ (fun _ => ?_)
  ·intro y0 y1 y2
   unfold impl_takeCommand.j1
   repeat' first
   | (with_reducible exact ih0 _ _)
   | (with_reducible exact ih1 _ _ _)
   | (with_reducible exact impl_literal.mono _ _)
   | (with_reducible exact LeO.refl _)
   | (with_reducible exact LeO.none _)
   | (with_reducible refine LeO.ite ?_ ?_)
   | (with_reducible refine LeO.bind ?_ (fun _ => ?_))
   | exact ih0 _ _
   | exact ih1 _ _ _
   | exact impl_literal.mono _ _
   | exact LeO.none _
   | refine LeO.ite ?_ ?_
   | refine LeO.bind ?_ (fun _ => ?_)
theorem impl_takeCommand.mono : ∀ a0 k, LeO (impl_takeCommand.f k a0) (impl_takeCommand.f (k + 1) a0) := by
 intro a0 k
 obtain ⟨ih0, ih1⟩ := impl_takeCommand.mono_l k
 unfold impl_takeCommand.f
 repeat' first
   | (with_reducible exact ih0 _ _)
   | (with_reducible exact ih1 _ _ _)
   | (with_reducible exact impl_literal.mono _ _)
   | (with_reducible exact LeO.refl _)
   | (with_reducible exact LeO.none _)
   | (with_reducible refine LeO.ite ?_ ?_)
   | (with_reducible refine LeO.bind ?_ (fun _ => ?_))
   | exact ih0 _ _
   | exact ih1 _ _ _
   | exact impl_literal.mono _ _
   | exact LeO.none _
   | refine LeO.ite ?_ ?_
   | refine LeO.bind ?_ (fun _ => ?_)
set_option maxHeartbeats 8000000 in
set_option maxRecDepth 100000 in
theorem impl_takeCommand.calls (k : Nat) (a0 : ByteArray) (r1 : Int) (r2 : Int) (w : World) (hGWm : GWm w) (h : impl_takeCommand.f k a0 = some (r1, r2)) :
  Calls Tryd.prog 72 #[.string a0] w fun e w' => e = .returned (.tuple #[.int .i64 r1, .int .i64 r2]) ∧ Below w.heap.size w w' := by
 have HGWm := Aside0.mk hGWm
 clear hGWm
 have HB := Aside0.mk (Below.refl w.heap.size w)
 have H : (impl_takeCommand.l0 k a0 0) = some (r1, r2) := h
 clear h
 have H' := Aside0.mk H
 clear H
 go_enter Tryd.func72, Tryd.ntmps72
 go_wp2
 go_loopg [4] k (fun kq v4 w' => ∃ (x4_1 : Int), v4 = .int .i64 x4_1 ∧ Aside0 (impl_takeCommand.l0 kq a0 x4_1 = some (r1, r2)) ∧ Aside0 (kq ≤ k) ∧ Aside0 (Below w.heap.size w w'))
 case atStart => exact ⟨(0), (by first | rfl | (simp; done) | (simp [*]; done)), H', ⟨Nat.le_refl _⟩, ⟨by repeat (first | (with_reducible first | exact HB.out | apply below_alloc | apply pw_below_drewN | apply below_drew1) | exact HB.out)⟩⟩
 case round =>
  clear H'
  obtain ⟨x4_1, rfl, HA, HK1, HB⟩ := hrel
  cases gk with
  | zero => exact absurd HA.out (by simp [impl_takeCommand.l0])
  | succ k1 =>
   have H := HA.out
   clear HA
   simp only [impl_takeCommand.l0] at H
   by_cases c2 : 0 ≤ x4_1
   ·rw [if_pos c2] at H
    have c2b0 := eq_true c2
    have c2b1 : decide (0 ≤ x4_1) = true := decide_eq_true c2
    clear c2
    by_cases c3 : x4_1 ≤ (a0.size : Int)
    ·rw [if_pos c3] at H
     have c3b0 := eq_true c3
     have c3b1 : decide (x4_1 ≤ (a0.size : Int)) = true := decide_eq_true c3
     clear c3
     replace H := Option.bind_eq_some_iff.mp H
     obtain ⟨t101, A40, H⟩ := H
     replace H : (if t101 < 0 then (if (a0.size : Int) > 4002 then (some (0, 4)) else (some (0, 18))) else (if (wrap64 (x4_1 + t101)) > 4000 then (some (0, 4)) else (if x4_1 ≤ (wrap64 (x4_1 + t101)) then (if (wrap64 (x4_1 + t101)) ≤ (a0.size : Int) then ((impl_literal.f k1 (a0.extract (x4_1 : Int).toNat ((wrap64 (x4_1 + t101)) : Int).toNat)).bind fun bt102 => (if bt102.2 = true then (if bt102.1 > 4000 then (impl_takeCommand.j1 k1 a0 (wrap64 ((wrap64 ((wrap64 (x4_1 + t101)) + 2)) + bt102.1)) true) else (impl_takeCommand.j1 k1 a0 (wrap64 ((wrap64 ((wrap64 (x4_1 + t101)) + 2)) + bt102.1)) (decide ((wrap64 ((wrap64 ((wrap64 (x4_1 + t101)) + 2)) + bt102.1)) > 4000)))) else (some (wrap64 (x4_1 + t101), 0)))) else (none)) else (none)))) = some (r1, r2) := H
     have A4 := Aside0.mk A40
     clear A40
     by_cases c5 : t101 < 0
     ·rw [if_pos c5] at H
      have c5b0 : decide (t101 < 0) = true := decide_eq_true c5
      clear c5
      by_cases c6 : (a0.size : Int) > 4002
      ·rw [if_pos c6] at H
       have c6b0 : decide (4002 < (a0.size : Int)) = true := decide_eq_true c6
       have c6b1 : decide (4002 < a0.size) = true := decide_eq_true (by omega)
       clear c6
       simp only [Option.some.injEq, Prod.mk.injEq] at H
       obtain ⟨rfl, rfl⟩ := H
       go_wp2_with (first | ((with_reducible refine gate_callee (f := 103) rfl ?_); refine goesL_ (some 12) rfl rfl Tryd.func103 (by kernel_rfl) rfl #[.string (a0.extract (x4_1 : Int).toNat a0.size), .string (⟨#[13, 10]⟩ : ByteArray)] rfl (by (try simp only [List.map_toArray, List.map_cons, List.map_nil]); first | done | rfl | (simp only [List.length_drop, List.length_take]; rfl)) ?_; (with_reducible refine (strings_Index_2.calls (a0.extract (x4_1 : Int).toNat a0.size) (⟨#[13, 10]⟩ : ByteArray) t101 _ (GWm.below HGWm.out (by repeat (first | (with_reducible first | exact HB.out | exact Below.refl _ _ | apply below_alloc | apply pw_below_drewN | apply below_drew1) | exact HB.out | exact Below.refl _ _))) A4.out).mono ?_); rintro e w' ⟨rfl, ⟨nd, rfl⟩⟩; refine ⟨_, rfl, ?_⟩))
       go_ret2
       exact ⟨by first | rfl | (simp [errW_none, errW_some] <;> rfl) | (simp [*, errW_none, errW_some] <;> rfl), by repeat (first | (with_reducible first | exact HB.out | apply below_alloc | apply pw_below_drewN | apply below_drew1) | exact HB.out)⟩
      ·rw [if_neg c6] at H
       have c6b0 : decide (4002 < (a0.size : Int)) = false := decide_eq_false c6
       have c6b1 : decide (4002 < a0.size) = false := decide_eq_false (by omega)
       clear c6
       simp only [Option.some.injEq, Prod.mk.injEq] at H
       obtain ⟨rfl, rfl⟩ := H
       go_wp2_with (first | ((with_reducible refine gate_callee (f := 103) rfl ?_); refine goesL_ (some 12) rfl rfl Tryd.func103 (by kernel_rfl) rfl #[.string (a0.extract (x4_1 : Int).toNat a0.size), .string (⟨#[13, 10]⟩ : ByteArray)] rfl (by (try simp only [List.map_toArray, List.map_cons, List.map_nil]); first | done | rfl | (simp only [List.length_drop, List.length_take]; rfl)) ?_; (with_reducible refine (strings_Index_2.calls (a0.extract (x4_1 : Int).toNat a0.size) (⟨#[13, 10]⟩ : ByteArray) t101 _ (GWm.below HGWm.out (by repeat (first | (with_reducible first | exact HB.out | exact Below.refl _ _ | apply below_alloc | apply pw_below_drewN | apply below_drew1) | exact HB.out | exact Below.refl _ _))) A4.out).mono ?_); rintro e w' ⟨rfl, ⟨nd, rfl⟩⟩; refine ⟨_, rfl, ?_⟩))
       go_ret2
       exact ⟨by first | rfl | (simp [errW_none, errW_some] <;> rfl) | (simp [*, errW_none, errW_some] <;> rfl), by repeat (first | (with_reducible first | exact HB.out | apply below_alloc | apply pw_below_drewN | apply below_drew1) | exact HB.out)⟩
     ·rw [if_neg c5] at H
      have c5b0 : decide (t101 < 0) = false := decide_eq_false c5
      clear c5
      by_cases c7 : (wrap64 (x4_1 + t101)) > 4000
      ·rw [if_pos c7] at H
       have c7b0 : decide (4000 < (wrap64 (x4_1 + t101))) = true := decide_eq_true c7
       clear c7
       simp only [Option.some.injEq, Prod.mk.injEq] at H
       obtain ⟨rfl, rfl⟩ := H
       go_wp2_with (first | ((with_reducible refine gate_callee (f := 103) rfl ?_); refine goesL_ (some 12) rfl rfl Tryd.func103 (by kernel_rfl) rfl #[.string (a0.extract (x4_1 : Int).toNat a0.size), .string (⟨#[13, 10]⟩ : ByteArray)] rfl (by (try simp only [List.map_toArray, List.map_cons, List.map_nil]); first | done | rfl | (simp only [List.length_drop, List.length_take]; rfl)) ?_; (with_reducible refine (strings_Index_2.calls (a0.extract (x4_1 : Int).toNat a0.size) (⟨#[13, 10]⟩ : ByteArray) t101 _ (GWm.below HGWm.out (by repeat (first | (with_reducible first | exact HB.out | exact Below.refl _ _ | apply below_alloc | apply pw_below_drewN | apply below_drew1) | exact HB.out | exact Below.refl _ _))) A4.out).mono ?_); rintro e w' ⟨rfl, ⟨nd, rfl⟩⟩; refine ⟨_, rfl, ?_⟩))
       go_ret2
       exact ⟨by first | rfl | (simp [errW_none, errW_some] <;> rfl) | (simp [*, errW_none, errW_some] <;> rfl), by repeat (first | (with_reducible first | exact HB.out | apply below_alloc | apply pw_below_drewN | apply below_drew1) | exact HB.out)⟩
      ·rw [if_neg c7] at H
       have c7b0 : decide (4000 < (wrap64 (x4_1 + t101))) = false := decide_eq_false c7
       clear c7
       have c8b0 := eq_true (of_decide_eq_true (by first | (with_reducible assumption) | assumption) : 0 ≤ x4_1)
       by_cases c9 : x4_1 ≤ (wrap64 (x4_1 + t101))
       ·rw [if_pos c9] at H
        have c9b0 := eq_true c9
        have c9b1 : decide (x4_1 ≤ (wrap64 (x4_1 + t101))) = true := decide_eq_true c9
        by_cases c10 : (wrap64 (x4_1 + t101)) ≤ (a0.size : Int)
        ·rw [if_pos c10] at H
         have c10b0 := eq_true c10
         have c10b1 : decide ((wrap64 (x4_1 + t101)) ≤ (a0.size : Int)) = true := decide_eq_true c10
         replace H := Option.bind_eq_some_iff.mp H
         obtain ⟨⟨t102, t103⟩, A110, H⟩ := H
         replace H : (if t103 = true then (if t102 > 4000 then (impl_takeCommand.j1 k1 a0 (wrap64 ((wrap64 ((wrap64 (x4_1 + t101)) + 2)) + t102)) true) else (impl_takeCommand.j1 k1 a0 (wrap64 ((wrap64 ((wrap64 (x4_1 + t101)) + 2)) + t102)) (decide ((wrap64 ((wrap64 ((wrap64 (x4_1 + t101)) + 2)) + t102)) > 4000)))) else (some (wrap64 (x4_1 + t101), 0))) = some (r1, r2) := H
         have A11 := Aside0.mk A110
         clear A110
         by_cases c12 : t103 = true
         ·subst c12
          have H1 : (if t102 > 4000 then (impl_takeCommand.j1 k1 a0 (wrap64 ((wrap64 ((wrap64 (x4_1 + t101)) + 2)) + t102)) true) else (impl_takeCommand.j1 k1 a0 (wrap64 ((wrap64 ((wrap64 (x4_1 + t101)) + 2)) + t102)) (decide ((wrap64 ((wrap64 ((wrap64 (x4_1 + t101)) + 2)) + t102)) > 4000)))) = some (r1, r2) := by rw [if_pos rfl] at H; exact H
          clear H
          have H := H1
          clear H1
          have HC13 := Aside0.mk H
          clear H
          go_upto_region 14 with (first | ((with_reducible refine gate_callee (f := 103) rfl ?_); refine goesL_ (some 12) rfl rfl Tryd.func103 (by kernel_rfl) rfl #[.string (a0.extract (x4_1 : Int).toNat a0.size), .string (⟨#[13, 10]⟩ : ByteArray)] rfl (by (try simp only [List.map_toArray, List.map_cons, List.map_nil]); first | done | rfl | (simp only [List.length_drop, List.length_take]; rfl)) ?_; (with_reducible refine (strings_Index_2.calls (a0.extract (x4_1 : Int).toNat a0.size) (⟨#[13, 10]⟩ : ByteArray) t101 _ (GWm.below HGWm.out (by repeat (first | (with_reducible first | exact HB.out | apply below_alloc | apply pw_below_drewN | apply below_drew1) | exact HB.out))) A4.out).mono ?_); rintro e w' ⟨rfl, ⟨nd, rfl⟩⟩; refine ⟨_, rfl, ?_⟩) | ((with_reducible refine gate_callee (f := 104) rfl ?_); refine goesL_ (some 28) rfl rfl Tryd.func104 (by kernel_rfl) rfl #[.string (a0.extract (x4_1 : Int).toNat ((wrap64 (x4_1 + t101)) : Int).toNat)] rfl (by (try simp only [List.map_toArray, List.map_cons, List.map_nil]); first | done | rfl | (simp only [List.length_drop, List.length_take]; rfl)) ?_; (with_reducible refine (impl_literal.calls k1 (a0.extract (x4_1 : Int).toNat ((wrap64 (x4_1 + t101)) : Int).toNat) t102 true _ A11.out).mono ?_); rintro e w14 ⟨rfl, hb⟩; refine ⟨_, rfl, ?_⟩; have n0_ := Aside0.mk (below_step (by repeat (first | (with_reducible first | exact HB.out | apply below_alloc | apply pw_below_drewN | apply below_drew1) | exact HB.out)) hb); clear HB; have HB := n0_; clear n0_; (try clear hb); (try clear hb2); (try clear hk); (try clear hi)))
          (try simp only [Act.put, List.setIfInBounds_toArray, List.set_cons_zero, List.set_cons_succ])
          go_cut [43] (fun v43 wc => ∃ (kq : Nat) (x43_12 : Bool), v43 = .bool x43_12 ∧ Aside0 (impl_takeCommand.j1 kq a0 (wrap64 ((wrap64 ((wrap64 (x4_1 + t101)) + 2)) + t102)) x43_12 = some (r1, r2)) ∧ Aside0 (kq ≤ k1) ∧ Aside0 (Below w.heap.size w wc))
          case first =>
           have H := HC13.out
           clear HC13
           by_cases c15 : t102 > 4000
           ·rw [if_pos c15] at H
            have c15b0 : decide (4000 < t102) = true := decide_eq_true c15
            clear c15
            (first | rw [c15b0] | (simp only [i64_w, i32_w]; rw [c15b0]) | skip)
            have H' := Aside0.mk H
            clear H
            go_wp2
            go_meet
            case rel => exact ⟨_, (true), (by first | rfl | (simp; done) | (simp [*]; done)), H', ⟨by have := HK1.out; first | omega | exact Nat.le_refl _⟩, ⟨by repeat (first | (with_reducible first | exact HB.out | apply below_alloc | apply pw_below_drewN | apply below_drew1) | exact HB.out)⟩⟩
           ·rw [if_neg c15] at H
            have c15b0 : decide (4000 < t102) = false := decide_eq_false c15
            clear c15
            (first | rw [c15b0] | (simp only [i64_w, i32_w]; rw [c15b0]) | skip)
            have H' := Aside0.mk H
            clear H
            go_wp2
            go_meet
            case rel => exact ⟨_, (decide ((wrap64 ((wrap64 ((wrap64 (x4_1 + t101)) + 2)) + t102)) > 4000)), (by first | rfl | (simp; done) | (simp [*]; done)), H', ⟨by have := HK1.out; first | omega | exact Nat.le_refl _⟩, ⟨by repeat (first | (with_reducible first | exact HB.out | apply below_alloc | apply pw_below_drewN | apply below_drew1) | exact HB.out)⟩⟩
          case rest =>
           clear HC13
           try clear c1
           try clear c2
           try clear c2b0
           try clear c2b1
           try clear p2
           try clear c3
           try clear c3b0
           try clear c3b1
           try clear c5
           try clear c5b0
           try clear c6
           try clear c6b0
           try clear c6b1
           try clear p6
           try clear c7
           try clear c7b0
           try clear c8
           try clear c8b0
           try clear c9
           try clear c9b0
           try clear c9b1
           try clear c10
           try clear c10b0
           try clear c10b1
           try clear c12
           try clear c15
           try clear c15b0
           obtain ⟨kq, x43_12, rfl, HA, HJ12, HB⟩ := hcut
           cases kq with
           | zero => exact absurd HA.out (by simp [impl_takeCommand.j1])
           | succ kj12 =>
            have H := HA.out
            clear HA
            simp only [impl_takeCommand.j1] at H
            by_cases c16 : x43_12 = true
            ·subst c16
             have H1 : (some (0, 4)) = some (r1, r2) := by rw [if_pos rfl] at H; exact H
             clear H
             have H := H1
             clear H1
             simp only [Option.some.injEq, Prod.mk.injEq] at H
             obtain ⟨rfl, rfl⟩ := H
             go_wp2
             go_ret2
             exact ⟨by first | rfl | (simp [errW_none, errW_some] <;> rfl) | (simp [*, errW_none, errW_some] <;> rfl), by repeat (first | (with_reducible first | exact HB.out | apply below_alloc | apply pw_below_drewN | apply below_drew1) | exact HB.out)⟩
            ·replace c16 := Bool.eq_false_iff.mpr c16
             subst c16
             have H1 : (if (wrap64 ((wrap64 ((wrap64 (x4_1 + t101)) + 2)) + t102)) > (a0.size : Int) then (some (0, 18)) else (impl_takeCommand.l0 kj12 a0 (wrap64 ((wrap64 ((wrap64 (x4_1 + t101)) + 2)) + t102)))) = some (r1, r2) := by rw [if_neg (show ¬ (false = true) by decide)] at H; exact H
             clear H
             have H := H1
             clear H1
             by_cases c17 : (wrap64 ((wrap64 ((wrap64 (x4_1 + t101)) + 2)) + t102)) > (a0.size : Int)
             ·rw [if_pos c17] at H
              have c17b0 : decide ((a0.size : Int) < (wrap64 ((wrap64 ((wrap64 (x4_1 + t101)) + 2)) + t102))) = true := decide_eq_true c17
              clear c17
              simp only [Option.some.injEq, Prod.mk.injEq] at H
              obtain ⟨rfl, rfl⟩ := H
              go_wp2
              go_ret2
              exact ⟨by first | rfl | (simp [errW_none, errW_some] <;> rfl) | (simp [*, errW_none, errW_some] <;> rfl), by repeat (first | (with_reducible first | exact HB.out | apply below_alloc | apply pw_below_drewN | apply below_drew1) | exact HB.out)⟩
             ·rw [if_neg c17] at H
              have c17b0 : decide ((a0.size : Int) < (wrap64 ((wrap64 ((wrap64 (x4_1 + t101)) + 2)) + t102))) = false := decide_eq_false c17
              clear c17
              have H' := Aside0.mk H
              clear H
              go_wp2
              go_roundg kj12
              case measure => have := HK1.out; have := HJ12.out; omega
              case rel => exact ⟨((wrap64 ((wrap64 ((wrap64 (x4_1 + t101)) + 2)) + t102))), (by first | rfl | (simp; done) | (simp [*]; done)), H', ⟨by have := HK1.out; have := HJ12.out; omega⟩, ⟨by repeat (first | (with_reducible first | exact HB.out | apply below_alloc | apply pw_below_drewN | apply below_drew1) | exact HB.out)⟩⟩
         ·replace c12 := Bool.eq_false_iff.mpr c12
          subst c12
          have H1 : (some (wrap64 (x4_1 + t101), 0)) = some (r1, r2) := by rw [if_neg (show ¬ (false = true) by decide)] at H; exact H
          clear H
          have H := H1
          clear H1
          simp only [Option.some.injEq, Prod.mk.injEq] at H
          obtain ⟨rfl, rfl⟩ := H
          go_wp2_with (first | ((with_reducible refine gate_callee (f := 103) rfl ?_); refine goesL_ (some 12) rfl rfl Tryd.func103 (by kernel_rfl) rfl #[.string (a0.extract (x4_1 : Int).toNat a0.size), .string (⟨#[13, 10]⟩ : ByteArray)] rfl (by (try simp only [List.map_toArray, List.map_cons, List.map_nil]); first | done | rfl | (simp only [List.length_drop, List.length_take]; rfl)) ?_; (with_reducible refine (strings_Index_2.calls (a0.extract (x4_1 : Int).toNat a0.size) (⟨#[13, 10]⟩ : ByteArray) t101 _ (GWm.below HGWm.out (by repeat (first | (with_reducible first | exact HB.out | apply below_alloc | apply pw_below_drewN | apply below_drew1) | exact HB.out))) A4.out).mono ?_); rintro e w' ⟨rfl, ⟨nd, rfl⟩⟩; refine ⟨_, rfl, ?_⟩) | ((with_reducible refine gate_callee (f := 104) rfl ?_); refine goesL_ (some 28) rfl rfl Tryd.func104 (by kernel_rfl) rfl #[.string (a0.extract (x4_1 : Int).toNat ((wrap64 (x4_1 + t101)) : Int).toNat)] rfl (by (try simp only [List.map_toArray, List.map_cons, List.map_nil]); first | done | rfl | (simp only [List.length_drop, List.length_take]; rfl)) ?_; (with_reducible refine (impl_literal.calls k1 (a0.extract (x4_1 : Int).toNat ((wrap64 (x4_1 + t101)) : Int).toNat) t102 false _ A11.out).mono ?_); rintro e w18 ⟨rfl, hb⟩; refine ⟨_, rfl, ?_⟩; have n0_ := Aside0.mk (below_step (by repeat (first | (with_reducible first | exact HB.out | apply below_alloc | apply pw_below_drewN | apply below_drew1) | exact HB.out)) hb); clear HB; have HB := n0_; clear n0_; (try clear hb); (try clear hb2); (try clear hk); (try clear hi)))
          go_ret2
          exact ⟨by first | rfl | (simp [errW_none, errW_some] <;> rfl) | (simp [*, errW_none, errW_some] <;> rfl), by repeat (first | (with_reducible first | exact HB.out | apply below_alloc | apply pw_below_drewN | apply below_drew1) | exact HB.out)⟩
        ·rw [if_neg c10] at H
         exact absurd H (by simp)
       ·rw [if_neg c9] at H
        exact absurd H (by simp)
    ·rw [if_neg c3] at H
     exact absurd H (by simp)
   ·rw [if_neg c2] at H
    exact absurd H (by simp)

end Go.Proofs.YtcmifdcgmalnlaaDoor.P
/- Lemmas of mine: a literal's length at a line's end; a command's end among lines. Plain. -/
set_option linter.unusedVariables false
set_option linter.unusedSimpArgs false
namespace Go.Proofs.YtcmifdcgmalnlaaDoor.P
open Go.RowKit Go.Proofs.YtcmifdcgmalnlaaDoorW.PrintWords
theorem isC (b c : UInt8) (n : Int) (hn : (c.toNat : Int) = n) : ((b.toNat : Int) = n) ↔ b = c := by
 rw [← hn]; exact byte_iff b c
/-- Where a scan that goes down over n bytes meets '{'. -/
def lastI (L : List UInt8) : Nat → Int
 | 0 => -1
 | n + 1 => if L[n]? = some 123 then (n : Int) else lastI L n
theorem lastI_facts (L : List UInt8) : ∀ n, (lastI L n = -1 ∧ ∀ j, j < n → ¬ L[j]? = some 123) ∨ ∃ t : Nat, lastI L n = (t : Int) ∧ t < n ∧ L[t]? = some 123 ∧ ∀ j, t < j → j < n → ¬ L[j]? = some 123
 | 0 => .inl ⟨rfl, fun j h => absurd h (Nat.not_lt_zero _)⟩
 | n + 1 => by
  unfold lastI
  by_cases h : L[n]? = some 123
  ·rw [if_pos h]
   exact .inr ⟨n, rfl, Nat.lt_succ_self _, h, fun j h1 h2 => by omega⟩
  ·rw [if_neg h]
   rcases lastI_facts L n with ⟨h1, h2⟩ | ⟨t, h1, h2, h3, h4⟩
   ·exact .inl ⟨h1, fun j hj => by
     by_cases e : j = n
     ·rw [e]; exact h
     ·exact h2 j (by omega)⟩
   ·exact .inr ⟨t, h1, by omega, h3, fun j hj hj2 => by
     by_cases e : j = n
     ·rw [e]; exact h
     ·exact h4 j hj (by omega)⟩
theorem lastB_l0 (s : ByteArray) (hs : s.size ≤ 4611686018427387904) : ∀ n : Nat, n ≤ s.size → Ev (fun k => bytealg_LastIndexByteString.l0 k s 123 ((n : Int) - 1)) (lastI (bl s) n) := by
 have hsz := bl_size s
 intro n
 induction n with
 | zero =>
  intro _
  refine Ev.step (f := fun _ => some _) (fun k => ?_) (Ev.now _)
  simp only [bytealg_LastIndexByteString.l0]
  rw [if_neg (by omega)]
  rfl
 | succ n ih =>
  intro hn
  have hlt : n < (bl s).length := by omega
  have hv := bt_eq s n hlt
  have hg : (bl s)[n]? = some (bl s)[n] := List.getElem?_eq_getElem hlt
  have e : (((n + 1 : Nat) : Int)) - 1 = (n : Int) := by omega
  unfold lastI
  rw [hg, e]
  by_cases h : (bl s)[n] = 123
  ·rw [if_pos (congrArg some h)]
   refine Ev.step (f := fun _ => some _) (fun k => ?_) (Ev.now _)
   simp only [bytealg_LastIndexByteString.l0, hv]
   rw [if_pos (by omega), if_pos (by omega), if_pos (by omega), if_pos (by rw [h]; rfl)]
  ·rw [if_neg (fun q => h (Option.some.inj q))]
   refine Ev.step (fun k => ?_) (ih (by omega))
   simp only [bytealg_LastIndexByteString.l0, hv]
   rw [if_pos (by omega), if_pos (by omega), if_pos (by omega), if_neg (fun q => h ((isC _ 123 123 rfl).1 q)), w64 (by omega) (by omega)]
theorem lastB_ev (s : ByteArray) (hs : s.size ≤ 4611686018427387904) : Ev (fun k => strings_LastIndexByte.f k s 123) (lastI (bl s) s.size) := by
 refine Ev.congr (f := fun k => (bytealg_LastIndexByteString.l0 k s 123 ((s.size : Int) - 1)).bind fun t => some t) (fun k => ?_) (Ev.bind (lastB_l0 s hs s.size (Nat.le_refl _)) (Ev.now _))
 simp only [strings_LastIndexByte.f, bytealg_LastIndexByteString.f]
 rw [w64 (by omega) (by omega)]
/-- What the reference tells where its scan stops. -/
noncomputable def finL (L : List UInt8) (m k : Nat) : Int × Bool := if L[k]? = some 123 ∧ m - k ≤ 6 then numO ((L.drop (k + 1)).take (m - k)) else (0, false)
noncomputable def litS (L : List UInt8) (m : Nat) : Nat → Int × Bool
 | 0 => finL L m 0
 | k + 1 => if (L[k + 1]?.map isDig) = some true then litS L m k else finL L m (k + 1)
theorem numIn (s : ByteArray) (k m : Nat) (hk : k ≤ m) (hm : m + 2 = s.size) (hs : s.size ≤ 4611686018427387904) :
  Ev (fun q => (spec_l00Number.f q (s.extract ((wrap64 ((k : Int) + 1)) : Int).toNat ((wrap64 ((s.size : Int) - 1)) : Int).toNat)).bind fun bt101 => some (bt101.1, bt101.2)) (numO (((bl s).drop (k + 1)).take (m - k))) := by
 have hsz := bl_size s
 rw [w64s k (by omega), w64 (n := (s.size : Int) - 1) (by omega) (by omega)]
 have e : bl (s.extract (((k + 1 : Nat) : Int)).toNat ((s.size : Int) - 1).toNat) = ((bl s).drop (k + 1)).take (m - k) := by
  rw [bl_extract]
  congr 1
  ·omega
 have h := specNum_ev (s.extract (((k + 1 : Nat) : Int)).toNat ((s.size : Int) - 1).toNat) (by rw [bl_size, bl_extract, List.length_take, List.length_drop]; omega)
 rw [e] at h
 exact Ev.bind h (Ev.now _)
theorem specLit_l0 (s : ByteArray) (m : Nat) (hm : m + 2 = s.size) (hs : s.size ≤ 4611686018427387904) : ∀ k : Nat, k ≤ m → Ev (fun q => spec_l12Literal.l0 q s (k : Int)) (litS (bl s) m k) := by
 have hsz := bl_size s
 have hfin : ∀ k : Nat, k ≤ m → ∀ b : UInt8, (bl s)[k]? = some b → Ev (fun q => if (b.toNat : Int) = 123 then (if (wrap64 ((wrap64 ((s.size : Int) - 2)) - (k : Int))) > 6 then (some (0, false)) else (if 0 ≤ (wrap64 ((k : Int) + 1)) then (if (wrap64 ((k : Int) + 1)) ≤ (wrap64 ((s.size : Int) - 1)) then (if (wrap64 ((s.size : Int) - 1)) ≤ (s.size : Int) then ((spec_l00Number.f q (s.extract ((wrap64 ((k : Int) + 1)) : Int).toNat ((wrap64 ((s.size : Int) - 1)) : Int).toNat)).bind fun bt101 => (some (bt101.1, bt101.2))) else (none)) else (none)) else (none))) else (some (0, false))) (finL (bl s) m k) := by
  intro k hk b hb
  have e2 : wrap64 ((s.size : Int) - 2) = (m : Int) := by rw [w64 (by omega) (by omega)]; omega
  have e3 : wrap64 ((m : Int) - (k : Int)) = ((m - k : Nat) : Int) := w64sub m k hk (by omega)
  have e1 : wrap64 ((s.size : Int) - 1) = (s.size : Int) - 1 := w64 (by omega) (by omega)
  have e4 : wrap64 ((k : Int) + 1) = ((k + 1 : Nat) : Int) := w64s k (by omega)
  unfold finL
  rw [hb]
  by_cases h : b = 123
  ·have h' : (b.toNat : Int) = 123 := by rw [h]; rfl
   by_cases h6 : m - k ≤ 6
   ·rw [if_pos ⟨congrArg some h, h6⟩]
    refine Ev.congr (fun q => ?_) (numIn s k m hk hm hs)
    rw [if_pos h', e2, e3, if_neg (by omega), if_pos (by rw [e4]; omega), if_pos (by rw [e4, e1]; omega), if_pos (by rw [e1]; omega)]
   ·rw [if_neg (fun q => h6 q.2)]
    refine Ev.congr (fun q => ?_) (Ev.now _)
    rw [if_pos h', e2, e3, if_pos (by omega)]
  ·rw [if_neg (fun q => h (Option.some.inj q.1))]
   refine Ev.congr (fun q => ?_) (Ev.now _)
   rw [if_neg (fun q => h ((isC b 123 123 rfl).1 q))]
 intro k
 induction k with
 | zero =>
  intro hk
  have hlt : 0 < (bl s).length := by omega
  have hv := bt_eq s 0 hlt
  have hg : (bl s)[0]? = some (bl s)[0] := List.getElem?_eq_getElem hlt
  have hb := byte_lt (bl s)[0]
  have h := hfin 0 (Nat.zero_le _) (bl s)[0] hg
  unfold litS
  refine Ev.step (fun q => ?_) h
  simp only [spec_l12Literal.l0, hv]
  rw [if_neg (by omega), if_pos (by omega), if_pos (by omega)]
 | succ k ih =>
  intro hk
  have hlt : k + 1 < (bl s).length := by omega
  have hv := bt_eq s (k + 1) hlt
  have hg : (bl s)[k + 1]? = some (bl s)[k + 1] := List.getElem?_eq_getElem hlt
  have hb := byte_lt (bl s)[k + 1]
  have h := hfin (k + 1) hk (bl s)[k + 1] hg
  unfold litS
  rw [hg, Option.map_some]
  by_cases hd : 48 ≤ (bl s)[k + 1].toNat ∧ (bl s)[k + 1].toNat ≤ 57
  ·rw [if_pos (congrArg some ((isDig_iff _).2 hd))]
   refine Ev.step (fun q => ?_) (ih (by omega))
   simp only [spec_l12Literal.l0, hv]
   rw [if_pos (by omega), if_pos (by omega), if_pos (by omega), if_pos (by omega), if_pos (by omega), w64 (by omega) (by omega), show (((k + 1 : Nat) : Int) - 1) = (k : Int) by omega]
  ·rw [if_neg (fun q => hd ((isDig_iff _).1 (Option.some.inj q)))]
   refine Ev.step (fun q => ?_) h
   simp only [spec_l12Literal.l0, hv]
   rw [if_pos (by omega), if_pos (by omega), if_pos (by omega)]
   by_cases h1 : ((bl s)[k + 1].toNat : Int) ≥ 48
   ·rw [if_pos h1, if_neg (by omega)]
   ·rw [if_neg h1]
theorem litS_none (L : List UInt8) (m : Nat) : ∀ k, (∀ j, j ≤ k → ¬ L[j]? = some 123) → litS L m k = (0, false)
 | 0, h => by unfold litS finL; exact if_neg (fun q => h 0 (Nat.le_refl _) q.1)
 | k + 1, h => by
  unfold litS
  split
  ·exact litS_none L m k fun j hj => h j (by omega)
  ·unfold finL; exact if_neg (fun q => h (k + 1) (Nat.le_refl _) q.1)
open Classical in
theorem litS_at (L : List UInt8) (m t : Nat) (ht : L[t]? = some 123) : ∀ d, (∀ j, t < j → j ≤ t + d → ¬ L[j]? = some 123) → litS L m (t + d) = if (∀ j, t < j → j ≤ t + d → (L[j]?.map isDig) = some true) then finL L m t else (0, false)
 | 0, _ => by
  rw [if_pos (fun j h1 h2 => by omega)]
  cases t with
  | zero => rfl
  | succ t =>
   show litS L m (t + 1) = _
   unfold litS
   rw [ht]
   exact if_neg (by decide)
 | d + 1, h => by
  have ih := litS_at L m t ht d fun j h1 h2 => h j h1 (by omega)
  show litS L m (t + d + 1) = _
  unfold litS
  by_cases hd : (L[t + d + 1]?.map isDig) = some true
  ·rw [if_pos hd, ih]
   by_cases ha : ∀ j, t < j → j ≤ t + d → (L[j]?.map isDig) = some true
   ·rw [if_pos ha, if_pos (fun j h1 h2 => by
     by_cases e : j = t + d + 1
     ·rw [e]; exact hd
     ·exact ha j h1 (by omega))]
   ·rw [if_neg ha, if_neg (fun q => ha fun j h1 h2 => q j h1 (by omega))]
  ·rw [if_neg hd, if_neg (fun q => hd (q (t + d + 1) (by omega) (by omega)))]
   unfold finL
   exact if_neg (fun q => h (t + d + 1) (by omega) (by omega) q.1)
theorem valF_ge : ∀ (l : List UInt8) (a : Nat), a ≤ valF a l
 | [], _ => Nat.le_refl _
 | b :: l, a => Nat.le_trans (by omega) (valF_ge l (a * 10 + (b.toNat - 48)))
/-- A good number without a sign is digits alone; with a sign it is less than nought. -/
theorem good_dig (l : List UInt8) (h : goodN l) : (l.all isDig = true ∧ 0 ≤ valN l) ∨ (l.all isDig = false ∧ valN l < 0) := by
 by_cases h45 : l[0]? = some 45
 ·refine .inr ⟨?_, ?_⟩
  ·cases l with
   | nil => cases h45
   | cons a r => rw [Option.some.inj h45]; rfl
  ·unfold valN
   rw [if_pos h45]
   have h1 := h.1.1
   have hd := h.2.2
   have h0 := h.2.1
   cases hl : digN l with
   | nil => rw [hl] at h1; exact absurd h1 (by decide)
   | cons a r =>
    rw [hl] at hd h0
    rw [List.all_cons, Bool.and_eq_true, isDig_iff] at hd
    have ha : a.toNat ≠ 48 := fun e => h0 ⟨congrArg some (UInt8.toNat_inj.1 (e.trans rfl)), .inr h45⟩
    have hge := valF_ge r (0 * 10 + (a.toNat - 48))
    have : valF 0 (a :: r) = valF (0 * 10 + (a.toNat - 48)) r := rfl
    omega
 ·refine .inl ⟨?_, ?_⟩
  ·have := h.2.2
   unfold digN at this
   rw [if_neg h45] at this
   exact this
  ·unfold valN
   rw [if_neg h45]
   exact Int.natCast_nonneg _
theorem valN_lt (l : List UInt8) (h : goodN l) : valN l < 1000000000000000000 := by
 have := valF_lt l h
 unfold valN
 split <;> omega
/-- What both tell of a line: the same word on whether it says a length; if so the same length. -/
def LitBoth (p q : Int × Bool) : Prop := p.2 = q.2 ∧ (p.2 = true → p.1 = q.1 ∧ 0 ≤ p.1 ∧ p.1 < 1000000000000000000)
theorem lit_both (s : ByteArray) (hs : s.size ≤ 4611686018427387904) : ∃ p q, Ev (fun k => spec_l12Literal.f k s) p ∧ Ev (fun k => impl_literal.f k s) q ∧ LitBoth p q := by
 classical
 have hsz := bl_size s
 have hlast := lastB_ev s hs
 have hjt : Ev (fun k => spec_l12Literal.j0 k s true) (0, false) := Ev.step (f := fun _ => some _) (fun k => by simp only [spec_l12Literal.j0]; exact if_pos trivial) (Ev.now _)
 -- the reference: what it says at each line
 have hspec : Ev (fun k => spec_l12Literal.f k s) (if 3 ≤ s.size ∧ (bl s)[s.size - 1]? = some 125 then litS (bl s) (s.size - 2) (s.size - 2) else (0, false)) := by
  by_cases h3 : 3 ≤ s.size
  ·have hlt : s.size - 1 < (bl s).length := by omega
   have hv := bt_eq s (s.size - 1) hlt
   have hg : (bl s)[s.size - 1]? = some (bl s)[s.size - 1] := List.getElem?_eq_getElem hlt
   have e1 : wrap64 ((s.size : Int) - 1) = ((s.size - 1 : Nat) : Int) := by rw [w64 (by omega) (by omega)]; omega
   by_cases h : (bl s)[s.size - 1] = 125
   ·rw [if_pos ⟨h3, by rw [hg, h]⟩]
    have hl := specLit_l0 s (s.size - 2) (by omega) hs (s.size - 2) (Nat.le_refl _)
    refine Ev.congr (f := fun k => spec_l12Literal.j0 k s false) (fun k => ?_) (Ev.step (fun k => ?_) hl)
    ·simp only [spec_l12Literal.f]
     rw [if_neg (by omega), e1, hv, h, if_pos (by omega), if_pos (by omega)]
     rfl
    ·simp only [spec_l12Literal.j0]
     rw [if_neg (by decide), w64 (by omega) (by omega), show ((s.size : Int) - 2) = ((s.size - 2 : Nat) : Int) by omega]
   ·rw [if_neg (fun q => h (by have := q.2; rw [hg] at this; exact Option.some.inj this))]
    refine Ev.congr (fun k => ?_) hjt
    simp only [spec_l12Literal.f]
    have hne : (((bl s)[s.size - 1].toNat : Int) != 125) = true := bne_iff_ne.mpr fun q => h ((isC _ 125 125 rfl).1 q)
    rw [if_neg (by omega), e1, hv, hne, if_pos (by omega), if_pos (by omega)]
  ·rw [if_neg (fun q => h3 q.1)]
   refine Ev.congr (fun k => ?_) hjt
   simp only [spec_l12Literal.f]
   rw [if_pos (by omega)]
 rcases lastI_facts (bl s) s.size with ⟨hl, hno⟩ | ⟨t, hl, htlt, ht, hafter⟩
 ·rw [hl] at hlast
  refine ⟨_, (0, false), hspec, ?_, ?_⟩
  ·refine Ev.congr (fun k => rfl) (Ev.bind hlast (Ev.congr (fun k => ?_) (Ev.now _)))
   exact if_pos (by decide)
  ·have e : (if 3 ≤ s.size ∧ (bl s)[s.size - 1]? = some 125 then litS (bl s) (s.size - 2) (s.size - 2) else (0, false)) = ((0, false) : Int × Bool) := by
    split
    ·exact litS_none _ _ _ fun j hj => hno j (by omega)
    ·rfl
   rw [e]
   exact ⟨rfl, fun h => by cases h⟩
 ·rw [hl] at hlast
  -- what follows the brace
  obtain ⟨a, ha⟩ : ∃ a : ByteArray, s.extract (t + 1) s.size = a := ⟨_, rfl⟩
  have hal : bl a = (bl s).drop (t + 1) := by rw [← ha, bl_extract]; exact List.take_of_length_le (by rw [List.length_drop]; omega)
  have has : a.size = s.size - (t + 1) := by rw [bl_size, hal, List.length_drop]; omega
  have hcut := cutSuf a 125 (by omega)
  have hat : ∀ j, (bl a)[j]? = (bl s)[t + 1 + j]? := fun j => by rw [hal, List.getElem?_drop]
  by_cases hend : 1 ≤ a.size ∧ (bl a)[a.size - 1]? = some 125
  ·rw [if_pos hend] at hcut
   obtain ⟨d, hd⟩ : ∃ d : ByteArray, a.extract 0 (a.size - 1) = d := ⟨_, rfl⟩
   rw [hd] at hcut
   have hdl : bl d = ((bl s).drop (t + 1)).take (s.size - 2 - t) := by
    rw [← hd, bl_extract, hal, List.drop_zero]
    congr 1
    omega
   have hds : d.size = s.size - 2 - t := by rw [bl_size, hdl, List.length_take, List.length_drop]; omega
   have hnum := implNum_ev d (by omega)
   have himpl : Ev (fun k => impl_literal.f k s) (if (numO (bl d)).2 = true then (if (numO (bl d)).1 ≥ 0 then ((numO (bl d)).1, decide ((d.size : Int) ≤ 6)) else ((numO (bl d)).1, false)) else ((numO (bl d)).1, false)) := by
    refine Ev.congr (fun k => rfl) (Ev.bind hlast (Ev.congr (f := fun k => (impl_number.f k d).bind fun bt104 => if bt104.2 = true then (if bt104.1 ≥ 0 then (some (bt104.1, decide ((d.size : Int) ≤ 6))) else (some (bt104.1, false))) else (some (bt104.1, false))) (fun k => ?_) (Ev.bind hnum (Ev.congr (fun k => ?_) (Ev.now _)))))
    ·have e1 : (((t + 1 : Nat) : Int)).toNat = t + 1 := Int.toNat_natCast _
     rw [if_neg (by omega), w64s t (by omega), if_pos (by omega), if_pos (by omega), e1, ha, hcut, bS]
     rfl
    ·split
     ·split <;> rfl
     ·rfl
   have hlast125 : (bl s)[s.size - 1]? = some 125 := by
    have := hend.2
    rw [hat, show t + 1 + (a.size - 1) = s.size - 1 by omega] at this
    exact this
   refine ⟨_, _, hspec, himpl, ?_⟩
   have hfinL : 3 ≤ s.size → litS (bl s) (s.size - 2) (s.size - 2) = if (bl d).all isDig = true then (if d.size ≤ 6 then numO (bl d) else (0, false)) else (0, false) := by
    intro h3
    have h := litS_at (bl s) (s.size - 2) t ht (s.size - 2 - t) fun j h1 h2 => hafter j h1 (by omega)
    rw [show t + (s.size - 2 - t) = s.size - 2 by omega] at h
    rw [h]
    have hiff : (∀ j, t < j → j ≤ s.size - 2 → ((bl s)[j]?.map isDig) = some true) ↔ (bl d).all isDig = true := by
     have hget : ∀ j, j < d.size → (bl d)[j]? = (bl s)[t + 1 + j]? := fun j hj => by
      rw [hdl, List.getElem?_take, if_pos (by omega), List.getElem?_drop]
     constructor
     ·intro H
      refine List.all_eq_true.2 fun x hx => ?_
      obtain ⟨j, hj, rfl⟩ := List.mem_iff_getElem.1 hx
      have hj' : j < d.size := by rw [bl_size]; exact hj
      have := H (t + 1 + j) (by omega) (by omega)
      rw [← hget j hj', List.getElem?_eq_getElem hj] at this
      exact Option.some.inj this
     ·intro H j h1 h2
      have hj : j - (t + 1) < d.size := by omega
      have := hget (j - (t + 1)) hj
      rw [show t + 1 + (j - (t + 1)) = j by omega] at this
      have hj2 : j - (t + 1) < (bl d).length := by rw [← bl_size]; exact hj
      rw [← this, List.getElem?_eq_getElem hj2, Option.map_some]
      exact congrArg some (List.all_eq_true.1 H _ (List.getElem_mem hj2))
    by_cases hall : (bl d).all isDig = true
    ·rw [if_pos (hiff.2 hall), if_pos hall]
     unfold finL
     by_cases h6 : d.size ≤ 6
     ·rw [if_pos ⟨ht, by omega⟩, if_pos h6, hdl]
     ·rw [if_neg (fun q => h6 (by have := q.2; omega)), if_neg h6]
    ·rw [if_neg (fun q => hall (hiff.1 q)), if_neg hall]
   by_cases hg : goodN (bl d)
   ·have hpos : 1 ≤ (bl d).length := by
     have := hg.1.1
     unfold digN at this
     split at this
     ·rw [List.length_drop] at this; omega
     ·exact this
    rw [← bl_size] at hpos
    rw [if_pos ⟨by omega, hlast125⟩, hfinL (by omega), numO_good _ hg]
    have hlt := valN_lt _ hg
    rcases good_dig _ hg with ⟨h1, h2⟩ | ⟨h1, h2⟩
    ·rw [if_pos h1, if_pos rfl, if_pos h2]
     by_cases h6 : d.size ≤ 6
     ·rw [if_pos h6, decide_eq_true (by omega)]
      exact ⟨rfl, fun _ => ⟨rfl, h2, hlt⟩⟩
     ·rw [if_neg h6, decide_eq_false (by omega)]
      exact ⟨rfl, fun h => by cases h⟩
    ·rw [if_neg (by rw [h1]; decide), if_pos rfl, if_neg (by omega)]
     exact ⟨rfl, fun h => by cases h⟩
   ·have e : (if 3 ≤ s.size ∧ (bl s)[s.size - 1]? = some 125 then litS (bl s) (s.size - 2) (s.size - 2) else (0, false)) = ((0, false) : Int × Bool) := by
     split
     ·rename_i h
      rw [hfinL h.1, numO_bad _ hg]
      split
      ·split <;> rfl
      ·rfl
     ·rfl
    rw [e, numO_bad _ hg]
    exact ⟨rfl, fun h => by cases h⟩
  ·rw [if_neg hend] at hcut
   obtain ⟨v, hv⟩ : ∃ v, numO (bl a) = v := ⟨_, rfl⟩
   have hnum := implNum_ev a (by omega)
   rw [hv] at hnum
   have himpl : Ev (fun k => impl_literal.f k s) (v.1, false) := by
    refine Ev.congr (fun k => rfl) (Ev.bind hlast (Ev.congr (f := fun k => (impl_number.f k a).bind fun bt104 => some (bt104.1, false)) (fun k => ?_) (Ev.bind hnum (Ev.now _))))
    have e1 : (((t + 1 : Nat) : Int)).toNat = t + 1 := Int.toNat_natCast _
    rw [if_neg (by omega), w64s t (by omega), if_pos (by omega), if_pos (by omega), e1, ha, hcut, bS]
    rfl
   refine ⟨_, _, hspec, himpl, ?_⟩
   rw [if_neg (fun q => hend (by
    have ht' : (bl s)[s.size - 1]? = some 125 := q.2
    have hne : t ≠ s.size - 1 := fun e => by rw [← e, ht] at ht'; exact absurd (Option.some.inj ht') (by decide)
    refine ⟨by omega, ?_⟩
    rw [hat, show t + 1 + (a.size - 1) = s.size - 1 by omega]
    exact ht'))]
   exact ⟨rfl, fun h => by cases h⟩
/-- A line's end stands at place j. -/
def crlf (L : List UInt8) (j : Nat) : Prop := L[j]? = some 13 ∧ L[j + 1]? = some 10
theorem occ_iff (L : List UInt8) (j : Nat) : Lib.occAt L [13, 10] j = true ↔ crlf L j := by
 unfold Lib.occAt crlf
 have h0 : L[j]? = (L.drop j)[0]? := by rw [List.getElem?_drop]; rfl
 have h1 : L[j + 1]? = (L.drop j)[1]? := by rw [List.getElem?_drop]
 rw [h0, h1]
 generalize L.drop j = d
 cases d with
 | nil => simp
 | cons a d =>
  cases d with
  | nil => simp [List.isPrefixOf]
  | cons b d =>
   simp only [List.isPrefixOf, Bool.and_true, Bool.and_eq_true, beq_iff_eq, List.getElem?_cons_zero, List.getElem?_cons_succ, Option.some.injEq]
   exact ⟨fun h => ⟨h.1.symm, h.2.symm⟩, fun h => ⟨h.1.symm, h.2.symm⟩⟩
theorem least {P : Nat → Prop} (h : ∃ n, P n) : ∃ n, P n ∧ ∀ j, j < n → ¬ P j := by
 classical
 obtain ⟨n, hn⟩ := h
 induction n using Nat.strongRecOn with
 | _ n ih =>
  by_cases hj : ∃ j, j < n ∧ P j
  ·obtain ⟨j, h1, h2⟩ := hj
   exact ih j h1 h2
  ·exact ⟨n, hn, fun j h1 h2 => hj ⟨j, h1, h2⟩⟩
theorem crlf_lt {L : List UInt8} {j : Nat} (h : crlf L j) : j + 1 < L.length := by
 obtain ⟨hlt, _⟩ := List.getElem?_eq_some_iff.1 h.2
 exact hlt
theorem index_crlf (L : List UInt8) : (Lib.index L [13, 10] = -1 ∧ ∀ j, ¬ crlf L j) ∨ ∃ e : Nat, Lib.index L [13, 10] = (e : Int) ∧ crlf L e ∧ ∀ j, j < e → ¬ crlf L j := by
 classical
 by_cases h : ∃ j, crlf L j
 ·obtain ⟨e, he, hl⟩ := least h
  refine .inr ⟨e, Lib.index_first (by have := crlf_lt he; omega) ((occ_iff _ _).2 he) (fun j hj => ?_), he, hl⟩
  cases ho : Lib.occAt L [13, 10] j with
  | false => rfl
  | true => exact absurd ((occ_iff _ _).1 ho) (hl j hj)
 ·refine .inl ⟨Lib.index_none (fun j hj => ?_), fun j hj => h ⟨j, hj⟩⟩
  cases ho : Lib.occAt L [13, 10] j with
  | false => rfl
  | true => exact absurd ⟨j, (occ_iff _ _).1 ho⟩ h
theorem crlf_drop (L : List UInt8) (a j : Nat) : crlf (L.drop a) j ↔ crlf L (a + j) := by
 unfold crlf
 rw [List.getElem?_drop, List.getElem?_drop]
 exact Iff.rfl
/-- The scan goes on over what is no line's end. -/
theorem scan_on (s : ByteArray) (fr : Int) (hs : s.size ≤ 4611686018427387904) (e : Nat) {r : ByteArray × ByteArray × Int} (he : e ≤ 4001) (hr : Ev (fun q => spec_l12Take.l0 q s fr (e : Int)) r) :
  ∀ d k : Nat, k + d = e → (∀ j, k ≤ j → j < e → ¬ crlf (bl s) j) → (k < e → e < s.size) → Ev (fun q => spec_l12Take.l0 q s fr (k : Int)) r := by
 have hsz := bl_size s
 intro d
 induction d with
 | zero => intro k hk _ _; rw [show k = e by omega]; exact hr
 | succ d ih =>
  intro k hk hno hlt
  have hke : k < e := by omega
  have hes := hlt hke
  have h := ih (k + 1) (by omega) (fun j h1 h2 => hno j (by omega) h2) (fun _ => hes)
  have hj1 : Ev (fun q => spec_l12Take.j1 q s fr (k : Int) true) r := by
   refine Ev.step (fun q => ?_) h
   simp only [spec_l12Take.j1]
   rw [if_pos trivial, w64s k (by omega)]
  have h0 : k < (bl s).length := by omega
  have h1 : k + 1 < (bl s).length := by omega
  have v0 := bt_eq s k h0
  have v1 := bt_eq s (k + 1) h1
  refine Ev.step (fun q => ?_) hj1
  simp only [spec_l12Take.l0, v0]
  rw [w64s k (by omega), v1, if_pos (by omega), if_neg (by omega), if_pos (by omega), if_pos (by omega)]
  by_cases h13 : (bl s)[k] = 13
  ·rw [if_pos (by rw [h13]; rfl), if_pos (by omega)]
   have hne : (((bl s)[k + 1].toNat : Int) != 10) = true := bne_iff_ne.mpr fun q => hno k (Nat.le_refl _) hke ⟨by rw [List.getElem?_eq_getElem h0, h13], by rw [List.getElem?_eq_getElem h1]; exact congrArg some ((isC _ 10 10 rfl).1 q)⟩
   rw [hne]
  ·rw [if_neg (fun q => h13 ((isC _ 13 13 rfl).1 q))]
/-- What the reference tells from what the program tells: the end, or a code. -/
def takeR (s : ByteArray) (q : Int × Int) : ByteArray × ByteArray × Int := if q.2 = 0 then (s.extract 0 q.1.toNat, s.extract (q.1 + 2).toNat s.size, 0) else (⟨#[]⟩, s, q.2)
def takeOK (s : ByteArray) (q : Int × Int) : Prop := q.2 = 0 → 0 ≤ q.1 ∧ q.1 + 2 ≤ (s.size : Int)
/-- What follows a line's length in the program; in the reference. -/
def bodyI (s : ByteArray) (E k : Nat) (q : Int × Bool) : Option (Int × Int) := if q.2 = true then (if q.1 > 4000 then (impl_takeCommand.j1 k s (wrap64 (((E + 2 : Nat) : Int) + q.1)) true) else (impl_takeCommand.j1 k s (wrap64 (((E + 2 : Nat) : Int) + q.1)) (decide ((wrap64 (((E + 2 : Nat) : Int) + q.1)) > 4000)))) else (some ((E : Int), 0))
def bodyS (s : ByteArray) (E k : Nat) (p : Int × Bool) : Option (ByteArray × ByteArray × Int) := if p.2 = true then (if p.1 > 4000 then (some ((⟨#[]⟩ : ByteArray), s, 4)) else (spec_l12Take.l0 k s (wrap64 (((E + 2 : Nat) : Int) + p.1)) (wrap64 ((wrap64 ((wrap64 (((E + 2 : Nat) : Int) + p.1)) - 1)) + 1)))) else (some (s.extract 0 ((E : Nat) : Int).toNat, s.extract ((E + 2 : Nat) : Int).toNat s.size, 0))
theorem take_loop (s : ByteArray) (hs : s.size ≤ 1000000) : ∀ d at_ : Nat, 4001 ≤ at_ + d → at_ ≤ 4000 → at_ ≤ s.size →
  ∃ q, Ev (fun k => impl_takeCommand.l0 k s (at_ : Int)) q ∧ Ev (fun k => spec_l12Take.l0 k s (at_ : Int) (at_ : Int)) (takeR s q) ∧ takeOK s q := by
 have hsz := bl_size s
 intro d
 induction d with
 | zero => intro a h1 h2; omega
 | succ d ih =>
  intro a hd ha has
  have hrest : bl (s.extract (a : Int).toNat s.size) = (bl s).drop a := by
   rw [Int.toNat_natCast, bl_extract]; exact List.take_of_length_le (by rw [List.length_drop]; omega)
  have hrs : (s.extract (a : Int).toNat s.size).size ≤ s.size := by rw [bl_size, hrest, List.length_drop]; omega
  have hidx : strings_Index_2.f (s.extract (a : Int).toNat s.size) (⟨#[13, 10]⟩ : ByteArray) = some (Lib.index ((bl s).drop a) [13, 10]) := by
   unfold strings_Index_2.f
   rw [if_pos (by omega)]
   show some (Lib.index (bl (s.extract (a : Int).toNat s.size)) [13, 10]) = _
   rw [hrest]
  have htoo : a ≤ 4001 → 4002 < s.size → Ev (fun k => spec_l12Take.l0 k s (a : Int) ((4001 : Nat) : Int)) (takeR s (0, 4)) := by
   intro _ h
   refine Ev.step (f := fun _ => some _) (fun k => ?_) (Ev.now _)
   simp only [spec_l12Take.l0]
   rw [w64s 4001 (by omega), if_pos (by omega), if_pos (by omega)]
   rfl
  rcases index_crlf ((bl s).drop a) with ⟨hi, hno⟩ | ⟨e', hi, hat, hno⟩
  ·have hno' : ∀ j, a ≤ j → ¬ crlf (bl s) j := fun j hj h => hno (j - a) ((crlf_drop _ _ _).2 (by rw [show a + (j - a) = j by omega]; exact h))
   have himpl : Ev (fun k => impl_takeCommand.l0 k s (a : Int)) (if s.size > 4002 then (0, 4) else (0, 18)) := by
    refine Ev.step (f := fun _ => some _) (fun k => ?_) (Ev.now _)
    simp only [impl_takeCommand.l0, hidx, bS]
    rw [if_pos (by omega), if_pos (by omega), hi, if_pos (by decide)]
    by_cases h : s.size > 4002
    ·rw [if_pos (by omega), if_pos h]
    ·rw [if_neg (by omega), if_neg h]
   refine ⟨_, himpl, ?_, ?_⟩
   ·by_cases h : s.size > 4002
    ·rw [if_pos h]
     exact scan_on s a (by omega) 4001 (Nat.le_refl _) (htoo (by omega) h) (4001 - a) a (by omega) (fun j h1 _ => hno' j h1) (fun _ => by omega)
    ·rw [if_neg h]
     have hstop : ∀ x : Nat, s.size ≤ x + 1 → x ≤ 1000000 → Ev (fun k => spec_l12Take.l0 k s (a : Int) (x : Int)) (takeR s (0, 18)) := by
      intro x hx hx2
      refine Ev.step (f := fun _ => some _) (fun k => ?_) (Ev.now _)
      simp only [spec_l12Take.l0]
      rw [w64s x (by omega), if_neg (by omega), if_neg (by omega), if_neg (by omega)]
      rfl
     by_cases hax : s.size ≤ a + 1
     ·exact hstop a hax (by omega)
     ·exact scan_on s a (by omega) (s.size - 1) (by omega) (hstop (s.size - 1) (by omega) (by omega)) (s.size - 1 - a) a (by omega) (fun j h1 _ => hno' j h1) (fun _ => by omega)
   ·intro h
    split at h <;> cases h
  ·obtain ⟨e, rfl⟩ : ∃ e, e = a + e' := ⟨_, rfl⟩
   have hcr : crlf (bl s) (a + e') := (crlf_drop _ _ _).1 hat
   have hno' : ∀ j, a ≤ j → j < a + e' → ¬ crlf (bl s) j := fun j hj hj2 h => hno (j - a) (by omega) ((crlf_drop _ _ _).2 (by rw [show a + (j - a) = j by omega]; exact h))
   have hlt := crlf_lt hcr
   have hadd : Aside0 (wrap64 ((a : Int) + (e' : Int)) = ((a + e' : Nat) : Int)) := ⟨w64add a e' (by omega)⟩
   by_cases h4 : a + e' > 4000
   ·refine ⟨(0, 4), ?_, ?_, fun h => by cases h⟩
    ·refine Ev.step (f := fun _ => some _) (fun k => ?_) (Ev.now _)
     simp only [impl_takeCommand.l0, hidx, bS]
     rw [if_pos (by omega), if_pos (by omega), hi, if_neg (by omega), hadd.out, if_pos (by omega)]
    ·exact scan_on s a (by omega) 4001 (Nat.le_refl _) (htoo (by omega) (by omega)) (4001 - a) a (by omega) (fun j h1 h2 => hno' j h1 (by omega)) (fun _ => by omega)
   ·-- the line
    obtain ⟨p, q, hp, hq, hpq⟩ := lit_both (s.extract (a : Int).toNat ((a + e' : Nat) : Int).toNat) (by rw [bl_size, bl_extract, List.length_take, List.length_drop]; omega)
    have h0 : a + e' < (bl s).length := by omega
    have v0 := bt_eq s (a + e') h0
    have v1 := bt_eq s (a + e' + 1) hlt
    have b0 : (bl s)[a + e'] = 13 := by have := hcr.1; rw [List.getElem?_eq_getElem h0] at this; exact Option.some.inj this
    have b1 : (bl s)[a + e' + 1] = 10 := by have := hcr.2; rw [List.getElem?_eq_getElem hlt] at this; exact Option.some.inj this
    rw [b0] at v0
    rw [b1] at v1
    replace v0 : bt s ((a + e' : Nat) : Int) = 13 := v0
    replace v1 : bt s ((a + e' + 1 : Nat) : Int) = 10 := v1
    have hto : ∀ {r}, Ev (fun k => spec_l12Take.j1 k s (a : Int) ((a + e' : Nat) : Int) false) r → Ev (fun k => spec_l12Take.l0 k s (a : Int) (a : Int)) r := by
     intro r hr
     refine scan_on s a (by omega) (a + e') (by omega) (Ev.step (fun k => ?_) hr) e' a (by omega) hno' (fun _ => by omega)
     simp only [spec_l12Take.l0, v0]
     rw [w64s (a + e') (by omega), v1, if_pos (by omega), if_neg (by omega), if_pos (by omega), if_pos (by omega), if_pos trivial, if_pos (by omega)]
     rfl
    have e2 : Aside0 (wrap64 (((a + e' : Nat) : Int) + 2) = ((a + e' + 2 : Nat) : Int)) := ⟨by rw [w64 (by omega) (by omega)]; rfl⟩
    obtain ⟨hpq1, hpq2⟩ := hpq
    have hI : ∀ {r}, Ev (fun k => bodyI s (a + e') k q) r → Ev (fun k => impl_takeCommand.l0 k s (a : Int)) r := by
     intro r hr
     refine Ev.step (fun k => ?_) (Ev.bind (f := fun k q => bodyI s (a + e') k q) hq hr)
     simp only [impl_takeCommand.l0, hidx, bS]
     rw [if_pos (by omega), if_pos (by omega), hi, if_neg (by omega), hadd.out, if_neg (by omega), if_pos (by omega), if_pos (by omega), e2.out]
     rfl
    have hS : ∀ {r}, Ev (fun k => bodyS s (a + e') k p) r → Ev (fun k => spec_l12Take.l0 k s (a : Int) (a : Int)) r := by
     intro r hr
     refine hto (Ev.step (fun k => ?_) (Ev.bind (f := fun k p => bodyS s (a + e') k p) hp hr))
     simp only [spec_l12Take.j1]
     rw [if_neg (by decide), if_pos (by omega), if_pos (by omega), if_pos (by omega), if_pos (by omega), e2.out, if_pos (by omega), if_pos (by omega)]
     rfl
    cases hpb : p.2 with
    | false =>
     have hqb : q.2 = false := hpq1 ▸ hpb
     refine ⟨(((a + e' : Nat) : Int), 0), hI (Ev.congr (f := fun _ => some (((a + e' : Nat) : Int), 0)) (fun k => ?_) (Ev.now _)), ?_, fun _ => ?_⟩
     ·unfold bodyI
      rw [if_neg (by rw [hqb]; decide)]
     ·have e5 : takeR s (((a + e' : Nat) : Int), 0) = (s.extract 0 ((a + e' : Nat) : Int).toNat, s.extract ((a + e' + 2 : Nat) : Int).toNat s.size, 0) := by
       unfold takeR
       have e6 : (((a + e' : Nat) : Int)) + 2 = ((a + e' + 2 : Nat) : Int) := by omega
       rw [if_pos rfl, e6]
      rw [e5]
      refine hS (Ev.congr (f := fun _ => some (s.extract 0 ((a + e' : Nat) : Int).toNat, s.extract ((a + e' + 2 : Nat) : Int).toNat s.size, 0)) (fun k => ?_) (Ev.now _))
      unfold bodyS
      rw [if_neg (by rw [hpb]; decide)]
     ·have g1 : (0 : Int) ≤ ((a + e' : Nat) : Int) := by omega
      have g2 : ((a + e' : Nat) : Int) + 2 ≤ (s.size : Int) := by omega
      exact ⟨g1, g2⟩
    | true =>
     have hqb : q.2 = true := hpq1 ▸ hpb
     obtain ⟨hv, hv0, hv1⟩ := hpq2 hpb
     obtain ⟨n, hn⟩ : ∃ n : Nat, p.1 = (n : Int) := ⟨p.1.toNat, (Int.toNat_of_nonneg hv0).symm⟩
     have hqn : q.1 = (n : Int) := hv ▸ hn
     have hn1 : n < 1000000000000000000 := by omega
     obtain ⟨b, hb⟩ : ∃ b, b = a + e' + 2 + n := ⟨_, rfl⟩
     have e3 : Aside0 (wrap64 (((a + e' + 2 : Nat) : Int) + (n : Int)) = (b : Int)) := ⟨by rw [w64add _ _ (by omega), hb]⟩
     have e4 : Aside0 (wrap64 ((wrap64 ((b : Int) - 1)) + 1) = (b : Int)) := ⟨by
      rw [w64 (n := (b : Int) - 1) (by omega) (by omega), w64 (by omega) (by omega)]
      omega⟩
     by_cases hn4 : n > 4000
     ·refine ⟨(0, 4), hI (Ev.congr (f := fun k => impl_takeCommand.j1 k s (b : Int) true) (fun k => ?_) (Ev.step (f := fun _ => some (0, 4)) (fun k => ?_) (Ev.now _))), hS (Ev.congr (f := fun _ => some (takeR s (0, 4))) (fun k => ?_) (Ev.now _)), fun h => by cases h⟩
      ·unfold bodyI
       rw [if_pos hqb, hqn, e3.out, if_pos (by omega)]
      ·simp only [impl_takeCommand.j1]
       rw [if_pos trivial]
      ·unfold bodyS
       rw [if_pos hpb, hn, if_pos (by omega)]
       rfl
     ·have hI2 : ∀ {r}, Ev (fun k => impl_takeCommand.j1 k s (b : Int) (decide ((b : Int) > 4000))) r → Ev (fun k => impl_takeCommand.l0 k s (a : Int)) r := by
       intro r hr
       refine hI (Ev.congr (fun k => ?_) hr)
       unfold bodyI
       rw [if_pos hqb, hqn, e3.out, if_neg (by omega)]
      have hS2 : ∀ {r}, Ev (fun k => spec_l12Take.l0 k s (b : Int) (b : Int)) r → Ev (fun k => spec_l12Take.l0 k s (a : Int) (a : Int)) r := by
       intro r hr
       refine hS (Ev.congr (fun k => ?_) hr)
       unfold bodyS
       rw [if_pos hpb, hn, if_neg (by omega), e3.out, e4.out]
      by_cases hbig : b > 4000
      ·refine ⟨(0, 4), hI2 (Ev.step (f := fun _ => some (0, 4)) (fun k => ?_) (Ev.now _)), hS2 (Ev.step (f := fun _ => some (takeR s (0, 4))) (fun k => ?_) (Ev.now _)), fun h => by cases h⟩
       ·rw [decide_eq_true (show (b : Int) > 4000 by omega)]
        simp only [impl_takeCommand.j1]
        rw [if_pos trivial]
       ·simp only [spec_l12Take.l0]
        rw [w64s b (by omega)]
        by_cases hl : b + 1 < s.size
        ·rw [if_pos (by omega), if_pos (by omega)]
         rfl
        ·rw [if_neg (by omega)]
         by_cases hl2 : s.size > 4002
         ·rw [if_pos (by omega)]
          rfl
         ·rw [if_neg (by omega), if_pos (by omega)]
          rfl
      ·have hd4 : decide ((b : Int) > 4000) = false := decide_eq_false (by omega)
       have hI3 : ∀ {r}, Ev (fun k => impl_takeCommand.j1 k s (b : Int) false) r → Ev (fun k => impl_takeCommand.l0 k s (a : Int)) r := fun hr => hI2 (by rw [hd4]; exact hr)
       by_cases hpast : b > s.size
       ·refine ⟨(0, 18), hI3 (Ev.step (f := fun _ => some (0, 18)) (fun k => ?_) (Ev.now _)), hS2 (Ev.step (f := fun _ => some (takeR s (0, 18))) (fun k => ?_) (Ev.now _)), fun h => by cases h⟩
        ·simp only [impl_takeCommand.j1]
         rw [if_neg (by decide), if_pos (by omega)]
        ·simp only [spec_l12Take.l0]
         rw [w64s b (by omega), if_neg (by omega), if_neg (by omega), if_neg (by omega)]
         rfl
       ·obtain ⟨r, hr1, hr2, hr3⟩ := ih b (by omega) (by omega) (by omega)
        refine ⟨r, hI3 (Ev.step (fun k => ?_) hr1), hS2 hr2, hr3⟩
        simp only [impl_takeCommand.j1]
        rw [if_neg (by decide), if_neg (by omega)]
end Go.Proofs.YtcmifdcgmalnlaaDoor.P
