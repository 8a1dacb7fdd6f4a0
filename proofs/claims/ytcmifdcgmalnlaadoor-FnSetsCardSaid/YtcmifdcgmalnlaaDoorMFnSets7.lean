/- Part 7 of what the law FnSets stands on; the last part ends with the law's row. No condition of mine. -/
import Derived.Test.YtcmifdcgmalnlaaDoorMFnSets1
import Derived.Test.YtcmifdcgmalnlaaDoorMFnSets2
import Derived.Test.YtcmifdcgmalnlaaDoorMFnSets3
import Derived.Test.YtcmifdcgmalnlaaDoorMFnSets5
import Derived.Test.YtcmifdcgmalnlaaDoorMFnSets6
import Derived.Lib.Strings
import Derived.Lib.IndexBytes
import Derived.Laws.BitsLemmas
import Derived.IntWalk
namespace Go.Proofs.YtcmifdcgmalnlaaDoor.P
open Go.RowKit Go.Proofs.YtcmifdcgmalnlaaDoorW.PrintWords Go.Proofs.YtcmifdcgmalnlaaDoorW.PrintLast Go.Proofs.YtcmifdcgmalnlaaDoorW.PrintMore
attribute [local go_sem] max2_int min2_int max_two min_two max_three min_three max_four min_four   -- for this text's walks alone
set_option linter.unusedVariables false
set_option linter.unusedSimpArgs false

/-! ### laws_FnSets: function 11 -/
mutual
def laws_FnSets.j0 : Nat → List Int → List Int → Bool → Option (Bool)
 | 0, _, _, _ => none
 | k + 1, x0, x1, x28 => if x28 = true then (some true) else ((spec_SetTextOf.f x0).bind fun t101 => ((impl_ReadSet.f k t101).bind fun bt102 => ((spec_SetTextOf.f x0).bind fun t106 => ((spec_ReadSet.f k t106).bind fun bt107 => (if bt102.2 = 0 then ((laws_sameRanges.f k bt102.1 bt107.1).bind fun t111 => (laws_FnSets.j1 k x1 bt102.1 (!t111))) else (laws_FnSets.j1 k x1 bt102.1 true))))))
def laws_FnSets.j1 : Nat → List Int → List (S54) → Bool → Option (Bool)
 | 0, _, _, _ => none
 | k + 1, x1, x5, x48 => if x48 = true then (some false) else ((impl_SetText.f k x5).bind fun bt112 => ((impl_ReadSet.f k bt112.1).bind fun bt114 => (if bt112.2 = 0 then (if bt114.2 = 0 then ((laws_sameRanges.f k bt114.1 x5).bind fun t118 => (laws_FnSets.j2 k x1 x5 (!t118))) else (laws_FnSets.j2 k x1 x5 true)) else (laws_FnSets.j2 k x1 x5 true))))
def laws_FnSets.j2 : Nat → List Int → List (S54) → Bool → Option (Bool)
 | 0, _, _, _ => none
 | k + 1, x1, x5, x70 => if x70 = true then (some false) else ((laws_at.f x1 0 9).bind fun t119 => ((laws_at.f x1 1 9).bind fun t120 => ((impl_SetHas.f x5 (wrap64 (1 + t119)) t120).bind fun bt121 => (laws_FnSets.l0 k x5 (wrap64 (1 + t119)) t120 bt121.1 bt121.2 false 0))))
def laws_FnSets.l0 : Nat → List (S54) → Int → Int → Bool → Int → Bool → Int → Option (Bool)
 | 0, _, _, _, _, _, _, _ => none
 | k + 1, x5, x13, x14, x15, x16, x17, x18 => if x18 < (x5.length : Int) then (if 0 ≤ x18 then (if ((rd_T54 x5 x18).f0) = 0 then (if ((rd_T54 x5 x18).f1) = 0 then (if x17 = true then (laws_FnSets.l0 k x5 x13 x14 x15 x16 true (wrap64 (x18 + 1))) else (if x14 ≤ x13 then (if x13 ≤ x14 then (laws_FnSets.l0 k x5 x13 x14 x15 x16 true (wrap64 (x18 + 1))) else (laws_FnSets.l0 k x5 x13 x14 x15 x16 (decide (x13 ≤ x14)) (wrap64 (x18 + 1)))) else (laws_FnSets.l0 k x5 x13 x14 x15 x16 false (wrap64 (x18 + 1))))) else (if x17 = true then (laws_FnSets.l0 k x5 x13 x14 x15 x16 true (wrap64 (x18 + 1))) else (if x14 ≤ x13 then (if x13 ≤ ((rd_T54 x5 x18).f1) then (laws_FnSets.l0 k x5 x13 x14 x15 x16 true (wrap64 (x18 + 1))) else (if ((rd_T54 x5 x18).f1) ≤ x13 then (laws_FnSets.l0 k x5 x13 x14 x15 x16 (decide (x13 ≤ x14)) (wrap64 (x18 + 1))) else (laws_FnSets.l0 k x5 x13 x14 x15 x16 false (wrap64 (x18 + 1))))) else (if ((rd_T54 x5 x18).f1) ≤ x13 then (laws_FnSets.l0 k x5 x13 x14 x15 x16 (decide (x13 ≤ x14)) (wrap64 (x18 + 1))) else (laws_FnSets.l0 k x5 x13 x14 x15 x16 false (wrap64 (x18 + 1))))))) else (if ((rd_T54 x5 x18).f1) = 0 then (if x17 = true then (laws_FnSets.l0 k x5 x13 x14 x15 x16 true (wrap64 (x18 + 1))) else (if ((rd_T54 x5 x18).f0) ≤ x13 then (if x13 ≤ x14 then (laws_FnSets.l0 k x5 x13 x14 x15 x16 true (wrap64 (x18 + 1))) else (if x14 ≤ x13 then (laws_FnSets.l0 k x5 x13 x14 x15 x16 (decide (x13 ≤ ((rd_T54 x5 x18).f0))) (wrap64 (x18 + 1))) else (laws_FnSets.l0 k x5 x13 x14 x15 x16 false (wrap64 (x18 + 1))))) else (if x14 ≤ x13 then (laws_FnSets.l0 k x5 x13 x14 x15 x16 (decide (x13 ≤ ((rd_T54 x5 x18).f0))) (wrap64 (x18 + 1))) else (laws_FnSets.l0 k x5 x13 x14 x15 x16 false (wrap64 (x18 + 1)))))) else (if x17 = true then (laws_FnSets.l0 k x5 x13 x14 x15 x16 true (wrap64 (x18 + 1))) else (if ((rd_T54 x5 x18).f0) ≤ x13 then (if x13 ≤ ((rd_T54 x5 x18).f1) then (laws_FnSets.l0 k x5 x13 x14 x15 x16 true (wrap64 (x18 + 1))) else (if ((rd_T54 x5 x18).f1) ≤ x13 then (laws_FnSets.l0 k x5 x13 x14 x15 x16 (decide (x13 ≤ ((rd_T54 x5 x18).f0))) (wrap64 (x18 + 1))) else (laws_FnSets.l0 k x5 x13 x14 x15 x16 false (wrap64 (x18 + 1))))) else (if ((rd_T54 x5 x18).f1) ≤ x13 then (laws_FnSets.l0 k x5 x13 x14 x15 x16 (decide (x13 ≤ ((rd_T54 x5 x18).f0))) (wrap64 (x18 + 1))) else (laws_FnSets.l0 k x5 x13 x14 x15 x16 false (wrap64 (x18 + 1)))))))) else (none)) else (if x16 = 0 then (some (x15 == x17)) else (some false))
end
def laws_FnSets.f (k : Nat) (l0 : List Int) (l1 : List Int) : Option (Bool) := if (l0.length : Int) > 1048576 then (laws_FnSets.j0 k l0 l1 true) else (laws_FnSets.j0 k l0 l1 (decide ((l1.length : Int) > 1048576)))
theorem laws_FnSets.mono_l : ∀ k, (∀ y0 y1 y2, LeO (laws_FnSets.j0 k y0 y1 y2) (laws_FnSets.j0 (k + 1) y0 y1 y2)) ∧ (∀ y0 y1 y2, LeO (laws_FnSets.j1 k y0 y1 y2) (laws_FnSets.j1 (k + 1) y0 y1 y2)) ∧ (∀ y0 y1 y2, LeO (laws_FnSets.j2 k y0 y1 y2) (laws_FnSets.j2 (k + 1) y0 y1 y2)) ∧ (∀ y0 y1 y2 y3 y4 y5 y6, LeO (laws_FnSets.l0 k y0 y1 y2 y3 y4 y5 y6) (laws_FnSets.l0 (k + 1) y0 y1 y2 y3 y4 y5 y6))
 | 0 => ⟨fun _ _ _ r h => by simp [laws_FnSets.j0] at h, fun _ _ _ r h => by simp [laws_FnSets.j1] at h, fun _ _ _ r h => by simp [laws_FnSets.j2] at h, fun _ _ _ _ _ _ _ r h => by simp [laws_FnSets.l0] at h⟩
 | k + 1 => by
  obtain ⟨ih0, ih1, ih2, ih3⟩ := laws_FnSets.mono_l k
  refine ⟨?_, ?_, ?_, ?_⟩
  ·intro y0 y1 y2
   unfold laws_FnSets.j0
   repeat' first
   | (with_reducible exact ih0 _ _ _)
   | (with_reducible exact ih1 _ _ _)
   | (with_reducible exact ih2 _ _ _)
   | (with_reducible exact ih3 _ _ _ _ _ _ _)
   | (with_reducible exact impl_ReadSet.mono _ _)
   | (with_reducible exact impl_SetText.mono _ _)
   | (with_reducible exact laws_sameRanges.mono _ _ _)
   | (with_reducible exact spec_ReadSet.mono _ _)
   | (with_reducible exact LeO.refl _)
   | (with_reducible exact LeO.none _)
   | (with_reducible refine LeO.ite ?_ ?_)
   | (with_reducible refine LeO.bind ?_ (fun _ => ?_))
   | exact ih0 _ _ _
   | exact ih1 _ _ _
   | exact ih2 _ _ _
   | exact ih3 _ _ _ _ _ _ _
   | exact impl_ReadSet.mono _ _
   | exact impl_SetText.mono _ _
   | exact laws_sameRanges.mono _ _ _
   | exact spec_ReadSet.mono _ _
   | exact LeO.none _
   | refine LeO.ite ?_ ?_
   | refine LeO.bind ?_ (fun _ => ?_)
  ·intro y0 y1 y2
   unfold laws_FnSets.j1
   repeat' first
   | (with_reducible exact ih0 _ _ _)
   | (with_reducible exact ih1 _ _ _)
   | (with_reducible exact ih2 _ _ _)
   | (with_reducible exact ih3 _ _ _ _ _ _ _)
   | (with_reducible exact impl_ReadSet.mono _ _)
   | (with_reducible exact impl_SetText.mono _ _)
   | (with_reducible exact laws_sameRanges.mono _ _ _)
   | (with_reducible exact spec_ReadSet.mono _ _)
   | (with_reducible exact LeO.refl _)
   | (with_reducible exact LeO.none _)
   | (with_reducible refine LeO.ite ?_ ?_)
   | (with_reducible refine LeO.bind ?_ (fun _ => ?_))
   | exact ih0 _ _ _
   | exact ih1 _ _ _
   | exact ih2 _ _ _
   | exact ih3 _ _ _ _ _ _ _
   | exact impl_ReadSet.mono _ _
   | exact impl_SetText.mono _ _
   | exact laws_sameRanges.mono _ _ _
   | exact spec_ReadSet.mono _ _
   | exact LeO.none _
   | refine LeO.ite ?_ ?_
   | refine LeO.bind ?_ (fun _ => ?_)
  ·intro y0 y1 y2
   unfold laws_FnSets.j2
   repeat' first
   | (with_reducible exact ih0 _ _ _)
   | (with_reducible exact ih1 _ _ _)
   | (with_reducible exact ih2 _ _ _)
   | (with_reducible exact ih3 _ _ _ _ _ _ _)
   | (with_reducible exact impl_ReadSet.mono _ _)
   | (with_reducible exact impl_SetText.mono _ _)
   | (with_reducible exact laws_sameRanges.mono _ _ _)
   | (with_reducible exact spec_ReadSet.mono _ _)
   | (with_reducible exact LeO.refl _)
   | (with_reducible exact LeO.none _)
   | (with_reducible refine LeO.ite ?_ ?_)
   | (with_reducible refine LeO.bind ?_ (fun _ => ?_))
   | exact ih0 _ _ _
   | exact ih1 _ _ _
   | exact ih2 _ _ _
   | exact ih3 _ _ _ _ _ _ _
   | exact impl_ReadSet.mono _ _
   | exact impl_SetText.mono _ _
   | exact laws_sameRanges.mono _ _ _
   | exact spec_ReadSet.mono _ _
   | exact LeO.none _
   | refine LeO.ite ?_ ?_
   | refine LeO.bind ?_ (fun _ => ?_)
  ·intro y0 y1 y2 y3 y4 y5 y6
   unfold laws_FnSets.l0
   repeat' first
   | (with_reducible exact ih0 _ _ _)
   | (with_reducible exact ih1 _ _ _)
   | (with_reducible exact ih2 _ _ _)
   | (with_reducible exact ih3 _ _ _ _ _ _ _)
   | (with_reducible exact impl_ReadSet.mono _ _)
   | (with_reducible exact impl_SetText.mono _ _)
   | (with_reducible exact laws_sameRanges.mono _ _ _)
   | (with_reducible exact spec_ReadSet.mono _ _)
   | (with_reducible exact LeO.refl _)
   | (with_reducible exact LeO.none _)
   | (with_reducible refine LeO.ite ?_ ?_)
   | (with_reducible refine LeO.bind ?_ (fun _ => ?_))
   | exact ih0 _ _ _
   | exact ih1 _ _ _
   | exact ih2 _ _ _
   | exact ih3 _ _ _ _ _ _ _
   | exact impl_ReadSet.mono _ _
   | exact impl_SetText.mono _ _
   | exact laws_sameRanges.mono _ _ _
   | exact spec_ReadSet.mono _ _
   | exact LeO.none _
   | refine LeO.ite ?_ ?_
   | refine LeO.bind ?_ (fun _ => ?_)
theorem laws_FnSets.mono : ∀ a0 a1 k, LeO (laws_FnSets.f k a0 a1) (laws_FnSets.f (k + 1) a0 a1) := by
 intro a0 a1 k
 obtain ⟨ih0, ih1, ih2, ih3⟩ := laws_FnSets.mono_l k
 unfold laws_FnSets.f
 repeat' first
   | (with_reducible exact ih0 _ _ _)
   | (with_reducible exact ih1 _ _ _)
   | (with_reducible exact ih2 _ _ _)
   | (with_reducible exact ih3 _ _ _ _ _ _ _)
   | (with_reducible exact impl_ReadSet.mono _ _)
   | (with_reducible exact impl_SetText.mono _ _)
   | (with_reducible exact laws_sameRanges.mono _ _ _)
   | (with_reducible exact spec_ReadSet.mono _ _)
   | (with_reducible exact LeO.refl _)
   | (with_reducible exact LeO.none _)
   | (with_reducible refine LeO.ite ?_ ?_)
   | (with_reducible refine LeO.bind ?_ (fun _ => ?_))
   | exact ih0 _ _ _
   | exact ih1 _ _ _
   | exact ih2 _ _ _
   | exact ih3 _ _ _ _ _ _ _
   | exact impl_ReadSet.mono _ _
   | exact impl_SetText.mono _ _
   | exact laws_sameRanges.mono _ _ _
   | exact spec_ReadSet.mono _ _
   | exact LeO.none _
   | refine LeO.ite ?_ ?_
   | refine LeO.bind ?_ (fun _ => ?_)
set_option maxHeartbeats 8000000 in
set_option maxRecDepth 100000 in
theorem laws_FnSets.calls (k : Nat) (A0 : Option Addr) (c0 : Nat) (l0 : List Int) (A1 : Option Addr) (c1 : Nat) (l1 : List Int) (r : Bool) (w : World) (hr0 : Kd.C (Kd.int .u8) w A0 l0.length l0) (hc0 : l0.length ≤ c0) (hr1 : Kd.C (Kd.int .u8) w A1 l1.length l1) (hc1 : l1.length ≤ c1) (hGWi : GWi w) (h : laws_FnSets.f k l0 l1 = some r) :
  Calls Tryd.prog 11 #[.slice A0 l0.length c0, .slice A1 l1.length c1] w fun e w' => e = .returned (.bool r) ∧ Below w.heap.size w w' := by
 have HGWi := Aside0.mk hGWi
 clear hGWi
 have HR0 := Aside0.mk hr0
 have HC0 := Aside0.mk hc0
 clear hr0 hc0
 have HR1 := Aside0.mk hr1
 have HC1 := Aside0.mk hc1
 clear hr1 hc1
 have HB := Aside0.mk (Below.refl w.heap.size w)
 have H : (if (l0.length : Int) > 1048576 then (laws_FnSets.j0 k l0 l1 true) else (laws_FnSets.j0 k l0 l1 (decide ((l1.length : Int) > 1048576)))) = some r := h
 clear h
 have HC3 := Aside0.mk H
 clear H
 go_enter Tryd.func11, Tryd.ntmps11
 go_upto_region 1 with (fail)
 go_cut [28] (fun v28 wc => ∃ (kq : Nat) (x28_2 : Bool), v28 = .bool x28_2 ∧ Aside0 (laws_FnSets.j0 kq l0 l1 x28_2 = some r) ∧ Aside0 (kq ≤ k) ∧ Aside0 (Below w.heap.size w wc))
 case first =>
  have H := HC3.out
  clear HC3
  by_cases c4 : (l0.length : Int) > 1048576
  ·rw [if_pos c4] at H
   have c4b0 : decide (1048576 < (l0.length : Int)) = true := decide_eq_true c4
   have c4b1 : decide (1048576 < l0.length) = true := decide_eq_true (by omega)
   clear c4
   (first | rw [c4b0] | (simp only [i64_w, i32_w]; rw [c4b0]) | skip)
   have H' := Aside0.mk H
   clear H
   go_wp2
   go_meet
   case rel => exact ⟨_, (true), (by first | rfl | (simp; done) | (simp [*]; done)), H', ⟨by first | omega | exact Nat.le_refl _⟩, ⟨by repeat (first | (with_reducible first | exact HB.out | apply below_alloc | apply pw_below_drewN | apply below_drew1) | exact HB.out)⟩⟩
  ·rw [if_neg c4] at H
   have c4b0 : decide (1048576 < (l0.length : Int)) = false := decide_eq_false c4
   have c4b1 : decide (1048576 < l0.length) = false := decide_eq_false (by omega)
   clear c4
   (first | rw [c4b0] | (simp only [i64_w, i32_w]; rw [c4b0]) | skip)
   have H' := Aside0.mk H
   clear H
   go_wp2
   go_meet
   case rel => exact ⟨_, (decide ((l1.length : Int) > 1048576)), (by first | rfl | (simp; done) | (simp [*]; done)), H', ⟨by first | omega | exact Nat.le_refl _⟩, ⟨by repeat (first | (with_reducible first | exact HB.out | apply below_alloc | apply pw_below_drewN | apply below_drew1) | exact HB.out)⟩⟩
 case rest =>
  clear HC3
  try clear c1
  try clear p2
  try clear c4
  try clear c4b0
  try clear c4b1
  obtain ⟨kq, x28_2, rfl, HA, HJ2, HB⟩ := hcut
  cases kq with
  | zero => exact absurd HA.out (by simp [laws_FnSets.j0])
  | succ kj2 =>
   have H := HA.out
   clear HA
   simp only [laws_FnSets.j0] at H
   by_cases c5 : x28_2 = true
   ·subst c5
    have H1 : (some true) = some r := by rw [if_pos rfl] at H; exact H
    clear H
    have H := H1
    clear H1
    obtain rfl := Option.some.inj H
    go_wp2
    go_ret
    exact ⟨by first | rfl | (simp [errW_none, errW_some] <;> rfl) | (simp [*, errW_none, errW_some] <;> rfl), by repeat (first | (with_reducible first | exact HB.out | apply below_alloc | apply pw_below_drewN | apply below_drew1) | exact HB.out)⟩
   ·replace c5 := Bool.eq_false_iff.mpr c5
    subst c5
    have H1 : ((spec_SetTextOf.f l0).bind fun t101 => ((impl_ReadSet.f kj2 t101).bind fun bt102 => ((spec_SetTextOf.f l0).bind fun t106 => ((spec_ReadSet.f kj2 t106).bind fun bt107 => (if bt102.2 = 0 then ((laws_sameRanges.f kj2 bt102.1 bt107.1).bind fun t111 => (laws_FnSets.j1 kj2 l1 bt102.1 (!t111))) else (laws_FnSets.j1 kj2 l1 bt102.1 true)))))) = some r := by rw [if_neg (show ¬ (false = true) by decide)] at H; exact H
    clear H
    have H := H1
    clear H1
    replace H := Option.bind_eq_some_iff.mp H
    obtain ⟨t101, A60, H⟩ := H
    replace H : ((impl_ReadSet.f kj2 t101).bind fun bt102 => ((spec_SetTextOf.f l0).bind fun t106 => ((spec_ReadSet.f kj2 t106).bind fun bt107 => (if bt102.2 = 0 then ((laws_sameRanges.f kj2 bt102.1 bt107.1).bind fun t111 => (laws_FnSets.j1 kj2 l1 bt102.1 (!t111))) else (laws_FnSets.j1 kj2 l1 bt102.1 true))))) = some r := H
    have A6 := Aside0.mk A60
    clear A60
    replace H := Option.bind_eq_some_iff.mp H
    obtain ⟨⟨t102, t103⟩, A70, H⟩ := H
    replace H : ((spec_SetTextOf.f l0).bind fun t106 => ((spec_ReadSet.f kj2 t106).bind fun bt107 => (if t103 = 0 then ((laws_sameRanges.f kj2 t102 bt107.1).bind fun t111 => (laws_FnSets.j1 kj2 l1 t102 (!t111))) else (laws_FnSets.j1 kj2 l1 t102 true)))) = some r := H
    have A7 := Aside0.mk A70
    clear A70
    replace H := Option.bind_eq_some_iff.mp H
    obtain ⟨t106, A80, H⟩ := H
    replace H : ((spec_ReadSet.f kj2 t106).bind fun bt107 => (if t103 = 0 then ((laws_sameRanges.f kj2 t102 bt107.1).bind fun t111 => (laws_FnSets.j1 kj2 l1 t102 (!t111))) else (laws_FnSets.j1 kj2 l1 t102 true))) = some r := H
    have A8 := Aside0.mk A80
    clear A80
    replace H := Option.bind_eq_some_iff.mp H
    obtain ⟨⟨t107, t108⟩, A90, H⟩ := H
    replace H : (if t103 = 0 then ((laws_sameRanges.f kj2 t102 t107).bind fun t111 => (laws_FnSets.j1 kj2 l1 t102 (!t111))) else (laws_FnSets.j1 kj2 l1 t102 true)) = some r := H
    have A9 := Aside0.mk A90
    clear A90
    have HC10 := Aside0.mk H
    clear H
    go_upto_region 5 with (first | ((with_reducible refine gate_callee (f := 38) rfl ?_); refine goesL_ (some 31) rfl rfl Tryd.func38 (by kernel_rfl) rfl #[.slice A0 l0.length c0] rfl (by (try simp only [List.map_toArray, List.map_cons, List.map_nil]); first | done | rfl | (simp only [List.length_drop, List.length_take]; rfl)) ?_; (with_reducible refine (spec_SetTextOf.calls _ _ l0 t101 _ ?side1 ?side2 A6.out).mono ?_); (case side1 => repeat (first | exact (Kd.C_below HR0.out HB.out) | (with_reducible refine Kd.C_alloc ?_ _) | (with_reducible refine Kd.C_drewN ?_ _) | (with_reducible refine Kd.C_drew ?_))); (case side2 => exact HC0.out); rintro e w11 ⟨rfl, hb⟩; refine ⟨_, rfl, ?_⟩; have n0_ := Aside0.mk (below_step (by repeat (first | (with_reducible first | exact HB.out | apply below_alloc | apply pw_below_drewN | apply below_drew1) | exact HB.out)) hb); clear HB; have HB := n0_; clear n0_; (try clear hb); (try clear hb2); (try clear hk); (try clear hi)) | ((with_reducible refine gate_callee (f := 35) rfl ?_); refine goesL_ (some 32) rfl rfl Tryd.func35 (by kernel_rfl) rfl #[.string t101] rfl (by (try simp only [List.map_toArray, List.map_cons, List.map_nil]); first | done | rfl | (simp only [List.length_drop, List.length_take]; rfl)) ?_; (with_reducible refine (impl_ReadSet.calls kj2 t101 t102 t103 _ A7.out).mono ?_); rintro e w12 ⟨v104, rfl, ho0, hb⟩; refine ⟨_, rfl, ?_⟩; have n0_ := Aside0.mk (Kd.R_lower ho0 (below_size (by repeat (first | (with_reducible first | exact HB.out | apply below_alloc | apply pw_below_drewN | apply below_drew1) | exact HB.out)))); have n1_ := Aside0.mk (below_step (by repeat (first | (with_reducible first | exact HB.out | apply below_alloc | apply pw_below_drewN | apply below_drew1) | exact HB.out)) hb); clear HB; have HO105 := n0_; have HB := n1_; clear n0_ n1_; (try clear hb); (try clear hb2); (try clear hk); (try clear hi); (try clear ho0)) | ((with_reducible refine gate_callee (f := 38) rfl ?_); refine goesL_ (some 37) rfl rfl Tryd.func38 (by kernel_rfl) rfl #[.slice A0 l0.length c0] rfl (by (try simp only [List.map_toArray, List.map_cons, List.map_nil]); first | done | rfl | (simp only [List.length_drop, List.length_take]; rfl)) ?_; (with_reducible refine (spec_SetTextOf.calls _ _ l0 t106 _ ?side1 ?side2 A8.out).mono ?_); (case side1 => repeat (first | exact (Kd.C_below HR0.out HB.out) | (with_reducible refine Kd.C_alloc ?_ _) | (with_reducible refine Kd.C_drewN ?_ _) | (with_reducible refine Kd.C_drew ?_))); (case side2 => exact HC0.out); rintro e w13 ⟨rfl, hb⟩; refine ⟨_, rfl, ?_⟩; have n0_ := Aside0.mk (Kd.R_below (by (with_reducible repeat (first | apply Kd.R_alloc | apply Kd.R_drewN | apply Kd.R_drew)); exact HO105.out) hb); have n1_ := Aside0.mk (below_step (by repeat (first | (with_reducible first | exact HB.out | apply below_alloc | apply pw_below_drewN | apply below_drew1) | exact HB.out)) hb); clear HO105; clear HB; have HO105 := n0_; have HB := n1_; clear n0_ n1_; (try clear hb); (try clear hb2); (try clear hk); (try clear hi)) | ((with_reducible refine gate_callee (f := 34) rfl ?_); refine goesL_ (some 38) rfl rfl Tryd.func34 (by kernel_rfl) rfl #[.string t106] rfl (by (try simp only [List.map_toArray, List.map_cons, List.map_nil]); first | done | rfl | (simp only [List.length_drop, List.length_take]; rfl)) ?_; (with_reducible refine (spec_ReadSet.calls kj2 t106 t107 t108 _ A9.out).mono ?_); rintro e w14 ⟨v109, rfl, ho0, hb⟩; refine ⟨_, rfl, ?_⟩; have n0_ := Aside0.mk (Kd.R_elder' (by (with_reducible repeat (first | apply Kd.R_alloc | apply Kd.R_drewN | apply Kd.R_drew)); exact HO105.out) (Kd.R_base ho0) hb); have n1_ := Aside0.mk (Kd.R_lower (Kd.R_new' ho0 (Kd.R_lt (by (with_reducible repeat (first | apply Kd.R_alloc | apply Kd.R_drewN | apply Kd.R_drew)); exact HO105.out))) (below_size (by repeat (first | (with_reducible first | exact HB.out | apply below_alloc | apply pw_below_drewN | apply below_drew1) | exact HB.out)))); have n2_ := Aside0.mk (below_step (by repeat (first | (with_reducible first | exact HB.out | apply below_alloc | apply pw_below_drewN | apply below_drew1) | exact HB.out)) hb); clear HO105; clear HB; have HO105 := n0_; have HO110 := n1_; have HB := n2_; clear n0_ n1_ n2_; (try clear hb); (try clear hb2); (try clear hk); (try clear hi); (try clear ho0)))
    (try simp only [Act.put, List.setIfInBounds_toArray, List.set_cons_zero, List.set_cons_succ])
    go_cut [48] (fun v48 wc => ∃ (kq : Nat) (x48_9 : Bool), v48 = .bool x48_9 ∧ Aside0 (laws_FnSets.j1 kq l1 t102 x48_9 = some r) ∧ Aside0 (kq ≤ kj2) ∧ Aside0 (Kd.R k54 54 wc w.heap.size (fun _ => True) v104 t102) ∧ Aside0 (Below w.heap.size w wc))
    case first =>
     have H := HC10.out
     clear HC10
     by_cases c15 : t103 = 0
     ·rw [if_pos c15] at H
      have c15b0 : (t103 == 0) = true := beq_iff_eq.mpr c15
      have c15b1 : (t103 != 0) = false := bne_eq_false_iff_eq.mpr c15
      clear c15
      (first | rw [c15b0] | (simp only [i64_w, i32_w]; rw [c15b0]) | skip)
      replace H := Option.bind_eq_some_iff.mp H
      obtain ⟨t111, A160, H⟩ := H
      replace H : (laws_FnSets.j1 kj2 l1 t102 (!t111)) = some r := H
      have A16 := Aside0.mk A160
      clear A160
      have H' := Aside0.mk H
      clear H
      obtain ⟨Ao17, co17, eo17⟩ := Kd.R_slice HO105.out
      subst eo17
      obtain ⟨Ao18, co18, eo18⟩ := Kd.R_slice HO110.out
      subst eo18
      go_wp2_with (first | (go_at_call 39; (with_reducible refine (laws_sameRanges.calls kj2 _ _ t102 _ _ t107 t111 _ ?side1 ?side2 ?side3 ?side4 A16.out).mono ?_); (case side1 => repeat (first | exact (Kd.R_reads' HO105.out).2.2 | (with_reducible refine Kd.C_alloc ?_ _) | (with_reducible refine Kd.C_drewN ?_ _) | (with_reducible refine Kd.C_drew ?_))); (case side2 => exact (Kd.R_reads' HO105.out).2.1); (case side3 => repeat (first | exact (Kd.R_reads' HO110.out).2.2 | (with_reducible refine Kd.C_alloc ?_ _) | (with_reducible refine Kd.C_drewN ?_ _) | (with_reducible refine Kd.C_drew ?_))); (case side4 => exact (Kd.R_reads' HO110.out).2.1); rintro e w' ⟨rfl, ⟨nd, rfl⟩⟩))
      go_meet
      case rel => exact ⟨_, (!t111), (by first | rfl | (simp; done) | (simp [*]; done)), H', ⟨by have := HJ2.out; first | omega | exact Nat.le_refl _⟩, ⟨by (with_reducible repeat (first | apply Kd.R_alloc | apply Kd.R_drewN | apply Kd.R_drew)); exact Kd.R_mono HO105.out (fun _ hk => trivial)⟩, ⟨by repeat (first | (with_reducible first | exact HB.out | apply below_alloc | apply pw_below_drewN | apply below_drew1) | exact HB.out)⟩⟩
     ·rw [if_neg c15] at H
      have c15b0 : (t103 == 0) = false := beq_eq_false_iff_ne.mpr c15
      have c15b1 : (t103 != 0) = true := bne_iff_ne.mpr c15
      (first | rw [c15b0] | (simp only [i64_w, i32_w]; rw [c15b0]) | skip)
      have H' := Aside0.mk H
      clear H
      go_wp2
      go_meet
      case rel => exact ⟨_, (true), (by first | rfl | (simp; done) | (simp [*]; done)), H', ⟨by have := HJ2.out; first | omega | exact Nat.le_refl _⟩, ⟨by (with_reducible repeat (first | apply Kd.R_alloc | apply Kd.R_drewN | apply Kd.R_drew)); exact Kd.R_mono HO105.out (fun _ hk => trivial)⟩, ⟨by repeat (first | (with_reducible first | exact HB.out | apply below_alloc | apply pw_below_drewN | apply below_drew1) | exact HB.out)⟩⟩
    case rest =>
     clear HC10
     try clear c1
     try clear p2
     try clear c3
     try clear c4
     try clear c4b0
     try clear c4b1
     try clear c5
     try clear c11
     try clear c15
     try clear c15b0
     try clear c15b1
     try clear p2
     obtain ⟨kq, x48_9, rfl, HA, HJ9, HO_5, HB⟩ := hcut
     cases kq with
     | zero => exact absurd HA.out (by simp [laws_FnSets.j1])
     | succ kj9 =>
      have H := HA.out
      clear HA
      simp only [laws_FnSets.j1] at H
      by_cases c19 : x48_9 = true
      ·subst c19
       have H1 : (some false) = some r := by rw [if_pos rfl] at H; exact H
       clear H
       have H := H1
       clear H1
       obtain rfl := Option.some.inj H
       go_wp2
       go_ret
       exact ⟨by first | rfl | (simp [errW_none, errW_some] <;> rfl) | (simp [*, errW_none, errW_some] <;> rfl), by repeat (first | (with_reducible first | exact HB.out | apply below_alloc | apply pw_below_drewN | apply below_drew1) | exact HB.out)⟩
      ·replace c19 := Bool.eq_false_iff.mpr c19
       subst c19
       have H1 : ((impl_SetText.f kj9 t102).bind fun bt112 => ((impl_ReadSet.f kj9 bt112.1).bind fun bt114 => (if bt112.2 = 0 then (if bt114.2 = 0 then ((laws_sameRanges.f kj9 bt114.1 t102).bind fun t118 => (laws_FnSets.j2 kj9 l1 t102 (!t118))) else (laws_FnSets.j2 kj9 l1 t102 true)) else (laws_FnSets.j2 kj9 l1 t102 true)))) = some r := by rw [if_neg (show ¬ (false = true) by decide)] at H; exact H
       clear H
       have H := H1
       clear H1
       replace H := Option.bind_eq_some_iff.mp H
       obtain ⟨⟨t112, t113⟩, A200, H⟩ := H
       replace H : ((impl_ReadSet.f kj9 t112).bind fun bt114 => (if t113 = 0 then (if bt114.2 = 0 then ((laws_sameRanges.f kj9 bt114.1 t102).bind fun t118 => (laws_FnSets.j2 kj9 l1 t102 (!t118))) else (laws_FnSets.j2 kj9 l1 t102 true)) else (laws_FnSets.j2 kj9 l1 t102 true))) = some r := H
       have A20 := Aside0.mk A200
       clear A200
       replace H := Option.bind_eq_some_iff.mp H
       obtain ⟨⟨t114, t115⟩, A210, H⟩ := H
       replace H : (if t113 = 0 then (if t115 = 0 then ((laws_sameRanges.f kj9 t114 t102).bind fun t118 => (laws_FnSets.j2 kj9 l1 t102 (!t118))) else (laws_FnSets.j2 kj9 l1 t102 true)) else (laws_FnSets.j2 kj9 l1 t102 true)) = some r := H
       have A21 := Aside0.mk A210
       clear A210
       have HC22 := Aside0.mk H
       clear H
       obtain ⟨Ao23, co23, eo23⟩ := Kd.R_slice HO_5.out
       subst eo23
       go_upto_region 9 with (first | ((with_reducible refine gate_callee (f := 23) rfl ?_); refine goesL_ (some 51) rfl rfl Tryd.func23 (by kernel_rfl) rfl #[.slice Ao23 t102.length co23] rfl (by (try simp only [List.map_toArray, List.map_cons, List.map_nil]); first | done | rfl | (simp only [List.length_drop, List.length_take]; rfl)) ?_; (with_reducible refine (impl_SetText.calls kj9 _ _ t102 t112 t113 _ ?side1 ?side2 (GWi.below HGWi.out (by repeat (first | (with_reducible first | exact HB.out | apply below_alloc | apply pw_below_drewN | apply below_drew1) | exact HB.out))) A20.out).mono ?_); (case side1 => repeat (first | exact (Kd.R_reads' HO_5.out).2.2 | (with_reducible refine Kd.C_alloc ?_ _) | (with_reducible refine Kd.C_drewN ?_ _) | (with_reducible refine Kd.C_drew ?_))); (case side2 => exact (Kd.R_reads' HO_5.out).2.1); rintro e w24 ⟨rfl, hb⟩; refine ⟨_, rfl, ?_⟩; have n0_ := Aside0.mk (Kd.R_below (by (with_reducible repeat (first | apply Kd.R_alloc | apply Kd.R_drewN | apply Kd.R_drew)); exact HO_5.out) hb); have n1_ := Aside0.mk (below_step (by repeat (first | (with_reducible first | exact HB.out | apply below_alloc | apply pw_below_drewN | apply below_drew1) | exact HB.out)) hb); clear HO_5; clear HB; have HO_5 := n0_; have HB := n1_; clear n0_ n1_; (try clear hb); (try clear hb2); (try clear hk); (try clear hi)) | ((with_reducible refine gate_callee (f := 35) rfl ?_); refine goesL_ (some 56) rfl rfl Tryd.func35 (by kernel_rfl) rfl #[.string t112] rfl (by (try simp only [List.map_toArray, List.map_cons, List.map_nil]); first | done | rfl | (simp only [List.length_drop, List.length_take]; rfl)) ?_; (with_reducible refine (impl_ReadSet.calls kj9 t112 t114 t115 _ A21.out).mono ?_); rintro e w25 ⟨v116, rfl, ho0, hb⟩; refine ⟨_, rfl, ?_⟩; have n0_ := Aside0.mk (Kd.R_elder' (by (with_reducible repeat (first | apply Kd.R_alloc | apply Kd.R_drewN | apply Kd.R_drew)); exact HO_5.out) (Kd.R_base ho0) hb); have n1_ := Aside0.mk (Kd.R_lower (Kd.R_new' ho0 (Kd.R_lt (by (with_reducible repeat (first | apply Kd.R_alloc | apply Kd.R_drewN | apply Kd.R_drew)); exact HO_5.out))) (below_size (by repeat (first | (with_reducible first | exact HB.out | apply below_alloc | apply pw_below_drewN | apply below_drew1) | exact HB.out)))); have n2_ := Aside0.mk (below_step (by repeat (first | (with_reducible first | exact HB.out | apply below_alloc | apply pw_below_drewN | apply below_drew1) | exact HB.out)) hb); clear HO_5; clear HB; have HO_5 := n0_; have HO117 := n1_; have HB := n2_; clear n0_ n1_ n2_; (try clear hb); (try clear hb2); (try clear hk); (try clear hi); (try clear ho0)))
       (try simp only [Act.put, List.setIfInBounds_toArray, List.set_cons_zero, List.set_cons_succ])
       go_cut [70] (fun v70 wc => ∃ (kq : Nat) (x70_21 : Bool), v70 = .bool x70_21 ∧ Aside0 (laws_FnSets.j2 kq l1 t102 x70_21 = some r) ∧ Aside0 (kq ≤ kj9) ∧ Aside0 (Kd.R k54 54 wc w.heap.size (fun _ => True) (.slice Ao23 t102.length co23) t102) ∧ Aside0 (Below w.heap.size w wc))
       case first =>
        have H := HC22.out
        clear HC22
        by_cases c26 : t113 = 0
        ·rw [if_pos c26] at H
         have c26b0 : (t113 == 0) = true := beq_iff_eq.mpr c26
         have c26b1 : (t113 != 0) = false := bne_eq_false_iff_eq.mpr c26
         clear c26
         (first | rw [c26b0] | (simp only [i64_w, i32_w]; rw [c26b0]) | skip)
         by_cases c27 : t115 = 0
         ·rw [if_pos c27] at H
          have c27b0 : (t115 == 0) = true := beq_iff_eq.mpr c27
          have c27b1 : (t115 != 0) = false := bne_eq_false_iff_eq.mpr c27
          clear c27
          replace H := Option.bind_eq_some_iff.mp H
          obtain ⟨t118, A280, H⟩ := H
          replace H : (laws_FnSets.j2 kj9 l1 t102 (!t118)) = some r := H
          have A28 := Aside0.mk A280
          clear A280
          have H' := Aside0.mk H
          clear H
          obtain ⟨Ao29, co29, eo29⟩ := Kd.R_slice HO117.out
          subst eo29
          go_wp2_with (first | (go_at_call 39; (with_reducible refine (laws_sameRanges.calls kj9 _ _ t114 _ _ t102 t118 _ ?side1 ?side2 ?side3 ?side4 A28.out).mono ?_); (case side1 => repeat (first | exact (Kd.R_reads' HO117.out).2.2 | (with_reducible refine Kd.C_alloc ?_ _) | (with_reducible refine Kd.C_drewN ?_ _) | (with_reducible refine Kd.C_drew ?_))); (case side2 => exact (Kd.R_reads' HO117.out).2.1); (case side3 => repeat (first | exact (Kd.R_reads' HO_5.out).2.2 | (with_reducible refine Kd.C_alloc ?_ _) | (with_reducible refine Kd.C_drewN ?_ _) | (with_reducible refine Kd.C_drew ?_))); (case side4 => exact (Kd.R_reads' HO_5.out).2.1); rintro e w' ⟨rfl, ⟨nd, rfl⟩⟩))
          go_meet
          case rel => exact ⟨_, (!t118), (by first | rfl | (simp; done) | (simp [*]; done)), H', ⟨by have := HJ2.out; have := HJ9.out; first | omega | exact Nat.le_refl _⟩, ⟨by (with_reducible repeat (first | apply Kd.R_alloc | apply Kd.R_drewN | apply Kd.R_drew)); exact Kd.R_mono HO_5.out (fun _ hk => trivial)⟩, ⟨by repeat (first | (with_reducible first | exact HB.out | apply below_alloc | apply pw_below_drewN | apply below_drew1) | exact HB.out)⟩⟩
         ·rw [if_neg c27] at H
          have c27b0 : (t115 == 0) = false := beq_eq_false_iff_ne.mpr c27
          have c27b1 : (t115 != 0) = true := bne_iff_ne.mpr c27
          have H' := Aside0.mk H
          clear H
          go_wp2
          go_meet
          case rel => exact ⟨_, (true), (by first | rfl | (simp; done) | (simp [*]; done)), H', ⟨by have := HJ2.out; have := HJ9.out; first | omega | exact Nat.le_refl _⟩, ⟨by (with_reducible repeat (first | apply Kd.R_alloc | apply Kd.R_drewN | apply Kd.R_drew)); exact Kd.R_mono HO_5.out (fun _ hk => trivial)⟩, ⟨by repeat (first | (with_reducible first | exact HB.out | apply below_alloc | apply pw_below_drewN | apply below_drew1) | exact HB.out)⟩⟩
        ·rw [if_neg c26] at H
         have c26b0 : (t113 == 0) = false := beq_eq_false_iff_ne.mpr c26
         have c26b1 : (t113 != 0) = true := bne_iff_ne.mpr c26
         (first | rw [c26b0] | (simp only [i64_w, i32_w]; rw [c26b0]) | skip)
         have H' := Aside0.mk H
         clear H
         go_wp2
         go_meet
         case rel => exact ⟨_, (true), (by first | rfl | (simp; done) | (simp [*]; done)), H', ⟨by have := HJ2.out; have := HJ9.out; first | omega | exact Nat.le_refl _⟩, ⟨by (with_reducible repeat (first | apply Kd.R_alloc | apply Kd.R_drewN | apply Kd.R_drew)); exact Kd.R_mono HO_5.out (fun _ hk => trivial)⟩, ⟨by repeat (first | (with_reducible first | exact HB.out | apply below_alloc | apply pw_below_drewN | apply below_drew1) | exact HB.out)⟩⟩
       case rest =>
        clear HC22
        try clear c1
        try clear c2
        try clear p2
        try clear c3
        try clear c4
        try clear c4b0
        try clear c4b1
        try clear c5
        try clear c11
        try clear c15
        try clear c15b0
        try clear c15b1
        try clear c19
        try clear c23
        try clear c26
        try clear c26b0
        try clear c26b1
        try clear c27
        try clear c27b0
        try clear c27b1
        try clear p2
        obtain ⟨kq, x70_21, rfl, HA, HJ21, HO_5, HB⟩ := hcut
        cases kq with
        | zero => exact absurd HA.out (by simp [laws_FnSets.j2])
        | succ kj21 =>
         have H := HA.out
         clear HA
         simp only [laws_FnSets.j2] at H
         by_cases c30 : x70_21 = true
         ·subst c30
          have H1 : (some false) = some r := by rw [if_pos rfl] at H; exact H
          clear H
          have H := H1
          clear H1
          obtain rfl := Option.some.inj H
          go_wp2
          go_ret
          exact ⟨by first | rfl | (simp [errW_none, errW_some] <;> rfl) | (simp [*, errW_none, errW_some] <;> rfl), by repeat (first | (with_reducible first | exact HB.out | apply below_alloc | apply pw_below_drewN | apply below_drew1) | exact HB.out)⟩
         ·replace c30 := Bool.eq_false_iff.mpr c30
          subst c30
          have H1 : ((laws_at.f l1 0 9).bind fun t119 => ((laws_at.f l1 1 9).bind fun t120 => ((impl_SetHas.f t102 (wrap64 (1 + t119)) t120).bind fun bt121 => (laws_FnSets.l0 kj21 t102 (wrap64 (1 + t119)) t120 bt121.1 bt121.2 false 0)))) = some r := by rw [if_neg (show ¬ (false = true) by decide)] at H; exact H
          clear H
          have H := H1
          clear H1
          replace H := Option.bind_eq_some_iff.mp H
          obtain ⟨t119, A310, H⟩ := H
          replace H : ((laws_at.f l1 1 9).bind fun t120 => ((impl_SetHas.f t102 (wrap64 (1 + t119)) t120).bind fun bt121 => (laws_FnSets.l0 kj21 t102 (wrap64 (1 + t119)) t120 bt121.1 bt121.2 false 0))) = some r := H
          have A31 := Aside0.mk A310
          clear A310
          replace H := Option.bind_eq_some_iff.mp H
          obtain ⟨t120, A320, H⟩ := H
          replace H : ((impl_SetHas.f t102 (wrap64 (1 + t119)) t120).bind fun bt121 => (laws_FnSets.l0 kj21 t102 (wrap64 (1 + t119)) t120 bt121.1 bt121.2 false 0)) = some r := H
          have A32 := Aside0.mk A320
          clear A320
          replace H := Option.bind_eq_some_iff.mp H
          obtain ⟨⟨t121, t122⟩, A330, H⟩ := H
          replace H : (laws_FnSets.l0 kj21 t102 (wrap64 (1 + t119)) t120 t121 t122 false 0) = some r := H
          have A33 := Aside0.mk A330
          clear A330
          have H' := Aside0.mk H
          clear H
          go_wp2_with (first | ((with_reducible refine gate_callee (f := 25) rfl ?_); refine goesL_ (some 72) rfl rfl Tryd.func25 (by kernel_rfl) rfl #[.slice A1 l1.length c1, .int .i64 0, .int .i64 9] rfl (by (try simp only [List.map_toArray, List.map_cons, List.map_nil]); first | done | rfl | (simp only [List.length_drop, List.length_take]; rfl)) ?_; (with_reducible refine (laws_at.calls _ _ l1 0 9 t119 _ ?side1 ?side2 A31.out).mono ?_); (case side1 => repeat (first | exact (Kd.C_below HR1.out HB.out) | (with_reducible refine Kd.C_alloc ?_ _) | (with_reducible refine Kd.C_drewN ?_ _) | (with_reducible refine Kd.C_drew ?_))); (case side2 => exact HC1.out); rintro e w' ⟨rfl, ⟨nd, rfl⟩⟩; refine ⟨_, rfl, ?_⟩) | ((with_reducible refine gate_callee (f := 25) rfl ?_); refine goesL_ (some 75) rfl rfl Tryd.func25 (by kernel_rfl) rfl #[.slice A1 l1.length c1, .int .i64 1, .int .i64 9] rfl (by (try simp only [List.map_toArray, List.map_cons, List.map_nil]); first | done | rfl | (simp only [List.length_drop, List.length_take]; rfl)) ?_; (with_reducible refine (laws_at.calls _ _ l1 1 9 t120 _ ?side1 ?side2 A32.out).mono ?_); (case side1 => repeat (first | exact (Kd.C_below HR1.out (by repeat (first | (with_reducible first | exact HB.out | apply below_alloc | apply pw_below_drewN | apply below_drew1) | exact HB.out))) | (with_reducible refine Kd.C_alloc ?_ _) | (with_reducible refine Kd.C_drewN ?_ _) | (with_reducible refine Kd.C_drew ?_))); (case side2 => exact HC1.out); rintro e w' ⟨rfl, ⟨nd, rfl⟩⟩; refine ⟨_, rfl, ?_⟩) | ((with_reducible refine gate_callee (f := 40) rfl ?_); refine goesL_ (some 80) rfl rfl Tryd.func40 (by kernel_rfl) rfl #[.slice Ao23 t102.length co23, .int .i64 (wrap64 (1 + t119)), .int .i64 t120] rfl (by (try simp only [List.map_toArray, List.map_cons, List.map_nil]); first | done | rfl | (simp only [List.length_drop, List.length_take]; rfl)) ?_; (with_reducible refine (impl_SetHas.calls _ _ t102 (wrap64 (1 + t119)) t120 t121 t122 _ ?side1 ?side2 A33.out).mono ?_); (case side1 => repeat (first | exact (Kd.R_reads' HO_5.out).2.2 | (with_reducible refine Kd.C_alloc ?_ _) | (with_reducible refine Kd.C_drewN ?_ _) | (with_reducible refine Kd.C_drew ?_))); (case side2 => exact (Kd.R_reads' HO_5.out).2.1); rintro e w34 ⟨rfl, hb⟩; refine ⟨_, rfl, ?_⟩; have n0_ := Aside0.mk (Kd.R_below (by (with_reducible repeat (first | apply Kd.R_alloc | apply Kd.R_drewN | apply Kd.R_drew)); exact HO_5.out) hb); have n1_ := Aside0.mk (below_step (by repeat (first | (with_reducible first | exact HB.out | apply below_alloc | apply pw_below_drewN | apply below_drew1) | exact HB.out)) hb); clear HO_5; clear HB; have HO_5 := n0_; have HB := n1_; clear n0_ n1_; (try clear hb); (try clear hb2); (try clear hk); (try clear hi)))
          go_loopg [17, 18] kj21 (fun kq v17 v18 w' => ∃ (x17_4 : Bool) (x18_4 : Int), v17 = .bool x17_4 ∧ v18 = .int .i64 x18_4 ∧ Aside0 (laws_FnSets.l0 kq t102 (wrap64 (1 + t119)) t120 t121 t122 x17_4 x18_4 = some r) ∧ Aside0 (kq ≤ kj21) ∧ Aside0 (Kd.R k54 54 w' w.heap.size (fun _ => True) (.slice Ao23 t102.length co23) t102) ∧ Aside0 (Below w.heap.size w w'))
          case atStart => exact ⟨(false), (0), (by first | rfl | (simp; done) | (simp [*]; done)), (by first | rfl | (simp; done) | (simp [*]; done)), H', ⟨Nat.le_refl _⟩, ⟨by (with_reducible repeat (first | apply Kd.R_alloc | apply Kd.R_drewN | apply Kd.R_drew)); exact HO_5.out⟩, ⟨by repeat (first | (with_reducible first | exact HB.out | apply below_alloc | apply pw_below_drewN | apply below_drew1) | exact HB.out)⟩⟩
          case round =>
           clear H'
           try clear c1
           try clear c2
           try clear p2
           try clear c3
           try clear c4
           try clear c4b0
           try clear c4b1
           try clear c5
           try clear p6
           try clear c11
           try clear c15
           try clear c15b0
           try clear c15b1
           try clear c19
           try clear c23
           try clear c25
           try clear c26
           try clear c26b0
           try clear c26b1
           try clear c27
           try clear c27b0
           try clear c27b1
           try clear c30
           try clear c34
           try clear p2
           obtain ⟨x17_4, x18_4, rfl, rfl, HA, HK4, HO_5, HB⟩ := hrel
           cases gk with
           | zero => exact absurd HA.out (by simp [laws_FnSets.l0])
           | succ k4 =>
            have H := HA.out
            clear HA
            simp only [laws_FnSets.l0] at H
            by_cases c35 : x18_4 < (t102.length : Int)
            ·rw [if_pos c35] at H
             have c35b0 : decide (x18_4 < (t102.length : Int)) = true := decide_eq_true c35
             clear c35
             by_cases c36 : 0 ≤ x18_4
             ·rw [if_pos c36] at H
              have c36b0 : decide (0 ≤ x18_4) = true := decide_eq_true c36
              clear c36
              by_cases c37 : ((rd_T54 t102 x18_4).f0) = 0
              ·rw [if_pos c37] at H
               have c37b0 : (((rd_T54 t102 x18_4).f0) == 0) = true := beq_iff_eq.mpr c37
               have c37b1 : (((rd_T54 t102 x18_4).f0) != 0) = false := bne_eq_false_iff_eq.mpr c37
               clear c37
               by_cases c38 : ((rd_T54 t102 x18_4).f1) = 0
               ·rw [if_pos c38] at H
                have c38b0 : (((rd_T54 t102 x18_4).f1) == 0) = true := beq_iff_eq.mpr c38
                have c38b1 : (((rd_T54 t102 x18_4).f1) != 0) = false := bne_eq_false_iff_eq.mpr c38
                clear c38
                by_cases c39 : x17_4 = true
                ·subst c39
                 have H1 : (laws_FnSets.l0 k4 t102 (wrap64 (1 + t119)) t120 t121 t122 true (wrap64 (x18_4 + 1))) = some r := by rw [if_pos rfl] at H; exact H
                 clear H
                 have H := H1
                 clear H1
                 have H' := Aside0.mk H
                 clear H
                 have p123 : 0 ≤ (x18_4 : Int) := of_decide_eq_true (by first | (with_reducible assumption) | assumption)
                 have q123 : x18_4 < (t102.length : Int) := of_decide_eq_true (by first | (with_reducible assumption) | assumption)
                 obtain ⟨ad123, e123, hx123_0, hx123_1⟩ := at_T54 (Kd.R_reads' HO_5.out).2.2 x18_4 p123 q123
                 cases e123
                 replace p123 := eq_true p123
                 replace q123 := eq_true q123
                 have p124 : 0 ≤ (x18_4 : Int) := of_decide_eq_true (by first | (with_reducible assumption) | assumption)
                 have q124 : x18_4 < (t102.length : Int) := of_decide_eq_true (by first | (with_reducible assumption) | assumption)
                 obtain ⟨ad124, e124, hx124_0, hx124_1⟩ := at_T54 (Kd.R_reads' HO_5.out).2.2 x18_4 p124 q124
                 obtain rfl : ad123 = ad124 := (by injection e124)
                 replace p124 := eq_true p124
                 replace q124 := eq_true q124
                 go_wp2
                 go_roundg k4
                 case measure => have := HJ2.out; have := HJ9.out; have := HJ21.out; have := HK4.out; omega
                 case rel => exact ⟨(true), (wrap64 (x18_4 + 1)), (by first | rfl | (simp; done) | (simp [*]; done)), (by first | rfl | (simp; done) | (simp [*]; done)), H', ⟨by have := HJ2.out; have := HJ9.out; have := HJ21.out; have := HK4.out; omega⟩, ⟨by (with_reducible repeat (first | apply Kd.R_alloc | apply Kd.R_drewN | apply Kd.R_drew)); exact HO_5.out⟩, ⟨by repeat (first | (with_reducible first | exact HB.out | apply below_alloc | apply pw_below_drewN | apply below_drew1) | exact HB.out)⟩⟩
                ·replace c39 := Bool.eq_false_iff.mpr c39
                 subst c39
                 have H1 : (if t120 ≤ (wrap64 (1 + t119)) then (if (wrap64 (1 + t119)) ≤ t120 then (laws_FnSets.l0 k4 t102 (wrap64 (1 + t119)) t120 t121 t122 true (wrap64 (x18_4 + 1))) else (laws_FnSets.l0 k4 t102 (wrap64 (1 + t119)) t120 t121 t122 (decide ((wrap64 (1 + t119)) ≤ t120)) (wrap64 (x18_4 + 1)))) else (laws_FnSets.l0 k4 t102 (wrap64 (1 + t119)) t120 t121 t122 false (wrap64 (x18_4 + 1)))) = some r := by rw [if_neg (show ¬ (false = true) by decide)] at H; exact H
                 clear H
                 have H := H1
                 clear H1
                 by_cases c40 : t120 ≤ (wrap64 (1 + t119))
                 ·rw [if_pos c40] at H
                  have c40b0 : decide (t120 ≤ (wrap64 (1 + t119))) = true := decide_eq_true c40
                  clear c40
                  by_cases c41 : (wrap64 (1 + t119)) ≤ t120
                  ·rw [if_pos c41] at H
                   have c41b0 : decide ((wrap64 (1 + t119)) ≤ t120) = true := decide_eq_true c41
                   clear c41
                   have H' := Aside0.mk H
                   clear H
                   have p123 : 0 ≤ (x18_4 : Int) := of_decide_eq_true (by first | (with_reducible assumption) | assumption)
                   have q123 : x18_4 < (t102.length : Int) := of_decide_eq_true (by first | (with_reducible assumption) | assumption)
                   obtain ⟨ad123, e123, hx123_0, hx123_1⟩ := at_T54 (Kd.R_reads' HO_5.out).2.2 x18_4 p123 q123
                   cases e123
                   replace p123 := eq_true p123
                   replace q123 := eq_true q123
                   have p124 : 0 ≤ (x18_4 : Int) := of_decide_eq_true (by first | (with_reducible assumption) | assumption)
                   have q124 : x18_4 < (t102.length : Int) := of_decide_eq_true (by first | (with_reducible assumption) | assumption)
                   obtain ⟨ad124, e124, hx124_0, hx124_1⟩ := at_T54 (Kd.R_reads' HO_5.out).2.2 x18_4 p124 q124
                   obtain rfl : ad123 = ad124 := (by injection e124)
                   replace p124 := eq_true p124
                   replace q124 := eq_true q124
                   go_wp2
                   go_roundg k4
                   case measure => have := HJ2.out; have := HJ9.out; have := HJ21.out; have := HK4.out; omega
                   case rel => exact ⟨(true), (wrap64 (x18_4 + 1)), (by first | rfl | (simp; done) | (simp [*]; done)), (by first | rfl | (simp; done) | (simp [*]; done)), H', ⟨by have := HJ2.out; have := HJ9.out; have := HJ21.out; have := HK4.out; omega⟩, ⟨by (with_reducible repeat (first | apply Kd.R_alloc | apply Kd.R_drewN | apply Kd.R_drew)); exact HO_5.out⟩, ⟨by repeat (first | (with_reducible first | exact HB.out | apply below_alloc | apply pw_below_drewN | apply below_drew1) | exact HB.out)⟩⟩
                  ·rw [if_neg c41] at H
                   have c41b0 : decide ((wrap64 (1 + t119)) ≤ t120) = false := decide_eq_false c41
                   clear c41
                   have H' := Aside0.mk H
                   clear H
                   have p123 : 0 ≤ (x18_4 : Int) := of_decide_eq_true (by first | (with_reducible assumption) | assumption)
                   have q123 : x18_4 < (t102.length : Int) := of_decide_eq_true (by first | (with_reducible assumption) | assumption)
                   obtain ⟨ad123, e123, hx123_0, hx123_1⟩ := at_T54 (Kd.R_reads' HO_5.out).2.2 x18_4 p123 q123
                   cases e123
                   replace p123 := eq_true p123
                   replace q123 := eq_true q123
                   have p124 : 0 ≤ (x18_4 : Int) := of_decide_eq_true (by first | (with_reducible assumption) | assumption)
                   have q124 : x18_4 < (t102.length : Int) := of_decide_eq_true (by first | (with_reducible assumption) | assumption)
                   obtain ⟨ad124, e124, hx124_0, hx124_1⟩ := at_T54 (Kd.R_reads' HO_5.out).2.2 x18_4 p124 q124
                   obtain rfl : ad123 = ad124 := (by injection e124)
                   replace p124 := eq_true p124
                   replace q124 := eq_true q124
                   go_wp2
                   go_roundg k4
                   case measure => have := HJ2.out; have := HJ9.out; have := HJ21.out; have := HK4.out; omega
                   case rel => exact ⟨(decide ((wrap64 (1 + t119)) ≤ t120)), (wrap64 (x18_4 + 1)), (by first | rfl | (simp; done) | (simp [*]; done)), (by first | rfl | (simp; done) | (simp [*]; done)), H', ⟨by have := HJ2.out; have := HJ9.out; have := HJ21.out; have := HK4.out; omega⟩, ⟨by (with_reducible repeat (first | apply Kd.R_alloc | apply Kd.R_drewN | apply Kd.R_drew)); exact HO_5.out⟩, ⟨by repeat (first | (with_reducible first | exact HB.out | apply below_alloc | apply pw_below_drewN | apply below_drew1) | exact HB.out)⟩⟩
                 ·rw [if_neg c40] at H
                  have c40b0 : decide (t120 ≤ (wrap64 (1 + t119))) = false := decide_eq_false c40
                  clear c40
                  have H' := Aside0.mk H
                  clear H
                  have p123 : 0 ≤ (x18_4 : Int) := of_decide_eq_true (by first | (with_reducible assumption) | assumption)
                  have q123 : x18_4 < (t102.length : Int) := of_decide_eq_true (by first | (with_reducible assumption) | assumption)
                  obtain ⟨ad123, e123, hx123_0, hx123_1⟩ := at_T54 (Kd.R_reads' HO_5.out).2.2 x18_4 p123 q123
                  cases e123
                  replace p123 := eq_true p123
                  replace q123 := eq_true q123
                  have p124 : 0 ≤ (x18_4 : Int) := of_decide_eq_true (by first | (with_reducible assumption) | assumption)
                  have q124 : x18_4 < (t102.length : Int) := of_decide_eq_true (by first | (with_reducible assumption) | assumption)
                  obtain ⟨ad124, e124, hx124_0, hx124_1⟩ := at_T54 (Kd.R_reads' HO_5.out).2.2 x18_4 p124 q124
                  obtain rfl : ad123 = ad124 := (by injection e124)
                  replace p124 := eq_true p124
                  replace q124 := eq_true q124
                  go_wp2
                  go_roundg k4
                  case measure => have := HJ2.out; have := HJ9.out; have := HJ21.out; have := HK4.out; omega
                  case rel => exact ⟨(false), (wrap64 (x18_4 + 1)), (by first | rfl | (simp; done) | (simp [*]; done)), (by first | rfl | (simp; done) | (simp [*]; done)), H', ⟨by have := HJ2.out; have := HJ9.out; have := HJ21.out; have := HK4.out; omega⟩, ⟨by (with_reducible repeat (first | apply Kd.R_alloc | apply Kd.R_drewN | apply Kd.R_drew)); exact HO_5.out⟩, ⟨by repeat (first | (with_reducible first | exact HB.out | apply below_alloc | apply pw_below_drewN | apply below_drew1) | exact HB.out)⟩⟩
               ·rw [if_neg c38] at H
                have c38b0 : (((rd_T54 t102 x18_4).f1) == 0) = false := beq_eq_false_iff_ne.mpr c38
                have c38b1 : (((rd_T54 t102 x18_4).f1) != 0) = true := bne_iff_ne.mpr c38
                by_cases c42 : x17_4 = true
                ·subst c42
                 have H1 : (laws_FnSets.l0 k4 t102 (wrap64 (1 + t119)) t120 t121 t122 true (wrap64 (x18_4 + 1))) = some r := by rw [if_pos rfl] at H; exact H
                 clear H
                 have H := H1
                 clear H1
                 have H' := Aside0.mk H
                 clear H
                 have p123 : 0 ≤ (x18_4 : Int) := of_decide_eq_true (by first | (with_reducible assumption) | assumption)
                 have q123 : x18_4 < (t102.length : Int) := of_decide_eq_true (by first | (with_reducible assumption) | assumption)
                 obtain ⟨ad123, e123, hx123_0, hx123_1⟩ := at_T54 (Kd.R_reads' HO_5.out).2.2 x18_4 p123 q123
                 cases e123
                 replace p123 := eq_true p123
                 replace q123 := eq_true q123
                 have p124 : 0 ≤ (x18_4 : Int) := of_decide_eq_true (by first | (with_reducible assumption) | assumption)
                 have q124 : x18_4 < (t102.length : Int) := of_decide_eq_true (by first | (with_reducible assumption) | assumption)
                 obtain ⟨ad124, e124, hx124_0, hx124_1⟩ := at_T54 (Kd.R_reads' HO_5.out).2.2 x18_4 p124 q124
                 obtain rfl : ad123 = ad124 := (by injection e124)
                 replace p124 := eq_true p124
                 replace q124 := eq_true q124
                 go_wp2
                 go_roundg k4
                 case measure => have := HJ2.out; have := HJ9.out; have := HJ21.out; have := HK4.out; omega
                 case rel => exact ⟨(true), (wrap64 (x18_4 + 1)), (by first | rfl | (simp; done) | (simp [*]; done)), (by first | rfl | (simp; done) | (simp [*]; done)), H', ⟨by have := HJ2.out; have := HJ9.out; have := HJ21.out; have := HK4.out; omega⟩, ⟨by (with_reducible repeat (first | apply Kd.R_alloc | apply Kd.R_drewN | apply Kd.R_drew)); exact HO_5.out⟩, ⟨by repeat (first | (with_reducible first | exact HB.out | apply below_alloc | apply pw_below_drewN | apply below_drew1) | exact HB.out)⟩⟩
                ·replace c42 := Bool.eq_false_iff.mpr c42
                 subst c42
                 have H1 : (if t120 ≤ (wrap64 (1 + t119)) then (if (wrap64 (1 + t119)) ≤ ((rd_T54 t102 x18_4).f1) then (laws_FnSets.l0 k4 t102 (wrap64 (1 + t119)) t120 t121 t122 true (wrap64 (x18_4 + 1))) else (if ((rd_T54 t102 x18_4).f1) ≤ (wrap64 (1 + t119)) then (laws_FnSets.l0 k4 t102 (wrap64 (1 + t119)) t120 t121 t122 (decide ((wrap64 (1 + t119)) ≤ t120)) (wrap64 (x18_4 + 1))) else (laws_FnSets.l0 k4 t102 (wrap64 (1 + t119)) t120 t121 t122 false (wrap64 (x18_4 + 1))))) else (if ((rd_T54 t102 x18_4).f1) ≤ (wrap64 (1 + t119)) then (laws_FnSets.l0 k4 t102 (wrap64 (1 + t119)) t120 t121 t122 (decide ((wrap64 (1 + t119)) ≤ t120)) (wrap64 (x18_4 + 1))) else (laws_FnSets.l0 k4 t102 (wrap64 (1 + t119)) t120 t121 t122 false (wrap64 (x18_4 + 1))))) = some r := by rw [if_neg (show ¬ (false = true) by decide)] at H; exact H
                 clear H
                 have H := H1
                 clear H1
                 by_cases c43 : t120 ≤ (wrap64 (1 + t119))
                 ·rw [if_pos c43] at H
                  have c43b0 : decide (t120 ≤ (wrap64 (1 + t119))) = true := decide_eq_true c43
                  clear c43
                  by_cases c44 : (wrap64 (1 + t119)) ≤ ((rd_T54 t102 x18_4).f1)
                  ·rw [if_pos c44] at H
                   have c44b0 : decide ((wrap64 (1 + t119)) ≤ ((rd_T54 t102 x18_4).f1)) = true := decide_eq_true c44
                   clear c44
                   have H' := Aside0.mk H
                   clear H
                   have p123 : 0 ≤ (x18_4 : Int) := of_decide_eq_true (by first | (with_reducible assumption) | assumption)
                   have q123 : x18_4 < (t102.length : Int) := of_decide_eq_true (by first | (with_reducible assumption) | assumption)
                   obtain ⟨ad123, e123, hx123_0, hx123_1⟩ := at_T54 (Kd.R_reads' HO_5.out).2.2 x18_4 p123 q123
                   cases e123
                   replace p123 := eq_true p123
                   replace q123 := eq_true q123
                   have p124 : 0 ≤ (x18_4 : Int) := of_decide_eq_true (by first | (with_reducible assumption) | assumption)
                   have q124 : x18_4 < (t102.length : Int) := of_decide_eq_true (by first | (with_reducible assumption) | assumption)
                   obtain ⟨ad124, e124, hx124_0, hx124_1⟩ := at_T54 (Kd.R_reads' HO_5.out).2.2 x18_4 p124 q124
                   obtain rfl : ad123 = ad124 := (by injection e124)
                   replace p124 := eq_true p124
                   replace q124 := eq_true q124
                   go_wp2
                   go_roundg k4
                   case measure => have := HJ2.out; have := HJ9.out; have := HJ21.out; have := HK4.out; omega
                   case rel => exact ⟨(true), (wrap64 (x18_4 + 1)), (by first | rfl | (simp; done) | (simp [*]; done)), (by first | rfl | (simp; done) | (simp [*]; done)), H', ⟨by have := HJ2.out; have := HJ9.out; have := HJ21.out; have := HK4.out; omega⟩, ⟨by (with_reducible repeat (first | apply Kd.R_alloc | apply Kd.R_drewN | apply Kd.R_drew)); exact HO_5.out⟩, ⟨by repeat (first | (with_reducible first | exact HB.out | apply below_alloc | apply pw_below_drewN | apply below_drew1) | exact HB.out)⟩⟩
                  ·rw [if_neg c44] at H
                   have c44b0 : decide ((wrap64 (1 + t119)) ≤ ((rd_T54 t102 x18_4).f1)) = false := decide_eq_false c44
                   clear c44
                   by_cases c45 : ((rd_T54 t102 x18_4).f1) ≤ (wrap64 (1 + t119))
                   ·rw [if_pos c45] at H
                    have c45b0 : decide (((rd_T54 t102 x18_4).f1) ≤ (wrap64 (1 + t119))) = true := decide_eq_true c45
                    clear c45
                    have H' := Aside0.mk H
                    clear H
                    have p123 : 0 ≤ (x18_4 : Int) := of_decide_eq_true (by first | (with_reducible assumption) | assumption)
                    have q123 : x18_4 < (t102.length : Int) := of_decide_eq_true (by first | (with_reducible assumption) | assumption)
                    obtain ⟨ad123, e123, hx123_0, hx123_1⟩ := at_T54 (Kd.R_reads' HO_5.out).2.2 x18_4 p123 q123
                    cases e123
                    replace p123 := eq_true p123
                    replace q123 := eq_true q123
                    have p124 : 0 ≤ (x18_4 : Int) := of_decide_eq_true (by first | (with_reducible assumption) | assumption)
                    have q124 : x18_4 < (t102.length : Int) := of_decide_eq_true (by first | (with_reducible assumption) | assumption)
                    obtain ⟨ad124, e124, hx124_0, hx124_1⟩ := at_T54 (Kd.R_reads' HO_5.out).2.2 x18_4 p124 q124
                    obtain rfl : ad123 = ad124 := (by injection e124)
                    replace p124 := eq_true p124
                    replace q124 := eq_true q124
                    go_wp2
                    go_roundg k4
                    case measure => have := HJ2.out; have := HJ9.out; have := HJ21.out; have := HK4.out; omega
                    case rel => exact ⟨(decide ((wrap64 (1 + t119)) ≤ t120)), (wrap64 (x18_4 + 1)), (by first | rfl | (simp; done) | (simp [*]; done)), (by first | rfl | (simp; done) | (simp [*]; done)), H', ⟨by have := HJ2.out; have := HJ9.out; have := HJ21.out; have := HK4.out; omega⟩, ⟨by (with_reducible repeat (first | apply Kd.R_alloc | apply Kd.R_drewN | apply Kd.R_drew)); exact HO_5.out⟩, ⟨by repeat (first | (with_reducible first | exact HB.out | apply below_alloc | apply pw_below_drewN | apply below_drew1) | exact HB.out)⟩⟩
                   ·rw [if_neg c45] at H
                    have c45b0 : decide (((rd_T54 t102 x18_4).f1) ≤ (wrap64 (1 + t119))) = false := decide_eq_false c45
                    clear c45
                    have H' := Aside0.mk H
                    clear H
                    have p123 : 0 ≤ (x18_4 : Int) := of_decide_eq_true (by first | (with_reducible assumption) | assumption)
                    have q123 : x18_4 < (t102.length : Int) := of_decide_eq_true (by first | (with_reducible assumption) | assumption)
                    obtain ⟨ad123, e123, hx123_0, hx123_1⟩ := at_T54 (Kd.R_reads' HO_5.out).2.2 x18_4 p123 q123
                    cases e123
                    replace p123 := eq_true p123
                    replace q123 := eq_true q123
                    have p124 : 0 ≤ (x18_4 : Int) := of_decide_eq_true (by first | (with_reducible assumption) | assumption)
                    have q124 : x18_4 < (t102.length : Int) := of_decide_eq_true (by first | (with_reducible assumption) | assumption)
                    obtain ⟨ad124, e124, hx124_0, hx124_1⟩ := at_T54 (Kd.R_reads' HO_5.out).2.2 x18_4 p124 q124
                    obtain rfl : ad123 = ad124 := (by injection e124)
                    replace p124 := eq_true p124
                    replace q124 := eq_true q124
                    go_wp2
                    go_roundg k4
                    case measure => have := HJ2.out; have := HJ9.out; have := HJ21.out; have := HK4.out; omega
                    case rel => exact ⟨(false), (wrap64 (x18_4 + 1)), (by first | rfl | (simp; done) | (simp [*]; done)), (by first | rfl | (simp; done) | (simp [*]; done)), H', ⟨by have := HJ2.out; have := HJ9.out; have := HJ21.out; have := HK4.out; omega⟩, ⟨by (with_reducible repeat (first | apply Kd.R_alloc | apply Kd.R_drewN | apply Kd.R_drew)); exact HO_5.out⟩, ⟨by repeat (first | (with_reducible first | exact HB.out | apply below_alloc | apply pw_below_drewN | apply below_drew1) | exact HB.out)⟩⟩
                 ·rw [if_neg c43] at H
                  have c43b0 : decide (t120 ≤ (wrap64 (1 + t119))) = false := decide_eq_false c43
                  clear c43
                  by_cases c46 : ((rd_T54 t102 x18_4).f1) ≤ (wrap64 (1 + t119))
                  ·rw [if_pos c46] at H
                   have c46b0 : decide (((rd_T54 t102 x18_4).f1) ≤ (wrap64 (1 + t119))) = true := decide_eq_true c46
                   clear c46
                   have H' := Aside0.mk H
                   clear H
                   have p123 : 0 ≤ (x18_4 : Int) := of_decide_eq_true (by first | (with_reducible assumption) | assumption)
                   have q123 : x18_4 < (t102.length : Int) := of_decide_eq_true (by first | (with_reducible assumption) | assumption)
                   obtain ⟨ad123, e123, hx123_0, hx123_1⟩ := at_T54 (Kd.R_reads' HO_5.out).2.2 x18_4 p123 q123
                   cases e123
                   replace p123 := eq_true p123
                   replace q123 := eq_true q123
                   have p124 : 0 ≤ (x18_4 : Int) := of_decide_eq_true (by first | (with_reducible assumption) | assumption)
                   have q124 : x18_4 < (t102.length : Int) := of_decide_eq_true (by first | (with_reducible assumption) | assumption)
                   obtain ⟨ad124, e124, hx124_0, hx124_1⟩ := at_T54 (Kd.R_reads' HO_5.out).2.2 x18_4 p124 q124
                   obtain rfl : ad123 = ad124 := (by injection e124)
                   replace p124 := eq_true p124
                   replace q124 := eq_true q124
                   go_wp2
                   go_roundg k4
                   case measure => have := HJ2.out; have := HJ9.out; have := HJ21.out; have := HK4.out; omega
                   case rel => exact ⟨(decide ((wrap64 (1 + t119)) ≤ t120)), (wrap64 (x18_4 + 1)), (by first | rfl | (simp; done) | (simp [*]; done)), (by first | rfl | (simp; done) | (simp [*]; done)), H', ⟨by have := HJ2.out; have := HJ9.out; have := HJ21.out; have := HK4.out; omega⟩, ⟨by (with_reducible repeat (first | apply Kd.R_alloc | apply Kd.R_drewN | apply Kd.R_drew)); exact HO_5.out⟩, ⟨by repeat (first | (with_reducible first | exact HB.out | apply below_alloc | apply pw_below_drewN | apply below_drew1) | exact HB.out)⟩⟩
                  ·rw [if_neg c46] at H
                   have c46b0 : decide (((rd_T54 t102 x18_4).f1) ≤ (wrap64 (1 + t119))) = false := decide_eq_false c46
                   clear c46
                   have H' := Aside0.mk H
                   clear H
                   have p123 : 0 ≤ (x18_4 : Int) := of_decide_eq_true (by first | (with_reducible assumption) | assumption)
                   have q123 : x18_4 < (t102.length : Int) := of_decide_eq_true (by first | (with_reducible assumption) | assumption)
                   obtain ⟨ad123, e123, hx123_0, hx123_1⟩ := at_T54 (Kd.R_reads' HO_5.out).2.2 x18_4 p123 q123
                   cases e123
                   replace p123 := eq_true p123
                   replace q123 := eq_true q123
                   have p124 : 0 ≤ (x18_4 : Int) := of_decide_eq_true (by first | (with_reducible assumption) | assumption)
                   have q124 : x18_4 < (t102.length : Int) := of_decide_eq_true (by first | (with_reducible assumption) | assumption)
                   obtain ⟨ad124, e124, hx124_0, hx124_1⟩ := at_T54 (Kd.R_reads' HO_5.out).2.2 x18_4 p124 q124
                   obtain rfl : ad123 = ad124 := (by injection e124)
                   replace p124 := eq_true p124
                   replace q124 := eq_true q124
                   go_wp2
                   go_roundg k4
                   case measure => have := HJ2.out; have := HJ9.out; have := HJ21.out; have := HK4.out; omega
                   case rel => exact ⟨(false), (wrap64 (x18_4 + 1)), (by first | rfl | (simp; done) | (simp [*]; done)), (by first | rfl | (simp; done) | (simp [*]; done)), H', ⟨by have := HJ2.out; have := HJ9.out; have := HJ21.out; have := HK4.out; omega⟩, ⟨by (with_reducible repeat (first | apply Kd.R_alloc | apply Kd.R_drewN | apply Kd.R_drew)); exact HO_5.out⟩, ⟨by repeat (first | (with_reducible first | exact HB.out | apply below_alloc | apply pw_below_drewN | apply below_drew1) | exact HB.out)⟩⟩
              ·rw [if_neg c37] at H
               have c37b0 : (((rd_T54 t102 x18_4).f0) == 0) = false := beq_eq_false_iff_ne.mpr c37
               have c37b1 : (((rd_T54 t102 x18_4).f0) != 0) = true := bne_iff_ne.mpr c37
               by_cases c47 : ((rd_T54 t102 x18_4).f1) = 0
               ·rw [if_pos c47] at H
                have c47b0 : (((rd_T54 t102 x18_4).f1) == 0) = true := beq_iff_eq.mpr c47
                have c47b1 : (((rd_T54 t102 x18_4).f1) != 0) = false := bne_eq_false_iff_eq.mpr c47
                clear c47
                by_cases c48 : x17_4 = true
                ·subst c48
                 have H1 : (laws_FnSets.l0 k4 t102 (wrap64 (1 + t119)) t120 t121 t122 true (wrap64 (x18_4 + 1))) = some r := by rw [if_pos rfl] at H; exact H
                 clear H
                 have H := H1
                 clear H1
                 have H' := Aside0.mk H
                 clear H
                 have p123 : 0 ≤ (x18_4 : Int) := of_decide_eq_true (by first | (with_reducible assumption) | assumption)
                 have q123 : x18_4 < (t102.length : Int) := of_decide_eq_true (by first | (with_reducible assumption) | assumption)
                 obtain ⟨ad123, e123, hx123_0, hx123_1⟩ := at_T54 (Kd.R_reads' HO_5.out).2.2 x18_4 p123 q123
                 cases e123
                 replace p123 := eq_true p123
                 replace q123 := eq_true q123
                 have p124 : 0 ≤ (x18_4 : Int) := of_decide_eq_true (by first | (with_reducible assumption) | assumption)
                 have q124 : x18_4 < (t102.length : Int) := of_decide_eq_true (by first | (with_reducible assumption) | assumption)
                 obtain ⟨ad124, e124, hx124_0, hx124_1⟩ := at_T54 (Kd.R_reads' HO_5.out).2.2 x18_4 p124 q124
                 obtain rfl : ad123 = ad124 := (by injection e124)
                 replace p124 := eq_true p124
                 replace q124 := eq_true q124
                 go_wp2
                 go_roundg k4
                 case measure => have := HJ2.out; have := HJ9.out; have := HJ21.out; have := HK4.out; omega
                 case rel => exact ⟨(true), (wrap64 (x18_4 + 1)), (by first | rfl | (simp; done) | (simp [*]; done)), (by first | rfl | (simp; done) | (simp [*]; done)), H', ⟨by have := HJ2.out; have := HJ9.out; have := HJ21.out; have := HK4.out; omega⟩, ⟨by (with_reducible repeat (first | apply Kd.R_alloc | apply Kd.R_drewN | apply Kd.R_drew)); exact HO_5.out⟩, ⟨by repeat (first | (with_reducible first | exact HB.out | apply below_alloc | apply pw_below_drewN | apply below_drew1) | exact HB.out)⟩⟩
                ·replace c48 := Bool.eq_false_iff.mpr c48
                 subst c48
                 have H1 : (if ((rd_T54 t102 x18_4).f0) ≤ (wrap64 (1 + t119)) then (if (wrap64 (1 + t119)) ≤ t120 then (laws_FnSets.l0 k4 t102 (wrap64 (1 + t119)) t120 t121 t122 true (wrap64 (x18_4 + 1))) else (if t120 ≤ (wrap64 (1 + t119)) then (laws_FnSets.l0 k4 t102 (wrap64 (1 + t119)) t120 t121 t122 (decide ((wrap64 (1 + t119)) ≤ ((rd_T54 t102 x18_4).f0))) (wrap64 (x18_4 + 1))) else (laws_FnSets.l0 k4 t102 (wrap64 (1 + t119)) t120 t121 t122 false (wrap64 (x18_4 + 1))))) else (if t120 ≤ (wrap64 (1 + t119)) then (laws_FnSets.l0 k4 t102 (wrap64 (1 + t119)) t120 t121 t122 (decide ((wrap64 (1 + t119)) ≤ ((rd_T54 t102 x18_4).f0))) (wrap64 (x18_4 + 1))) else (laws_FnSets.l0 k4 t102 (wrap64 (1 + t119)) t120 t121 t122 false (wrap64 (x18_4 + 1))))) = some r := by rw [if_neg (show ¬ (false = true) by decide)] at H; exact H
                 clear H
                 have H := H1
                 clear H1
                 by_cases c49 : ((rd_T54 t102 x18_4).f0) ≤ (wrap64 (1 + t119))
                 ·rw [if_pos c49] at H
                  have c49b0 : decide (((rd_T54 t102 x18_4).f0) ≤ (wrap64 (1 + t119))) = true := decide_eq_true c49
                  clear c49
                  by_cases c50 : (wrap64 (1 + t119)) ≤ t120
                  ·rw [if_pos c50] at H
                   have c50b0 : decide ((wrap64 (1 + t119)) ≤ t120) = true := decide_eq_true c50
                   clear c50
                   have H' := Aside0.mk H
                   clear H
                   have p123 : 0 ≤ (x18_4 : Int) := of_decide_eq_true (by first | (with_reducible assumption) | assumption)
                   have q123 : x18_4 < (t102.length : Int) := of_decide_eq_true (by first | (with_reducible assumption) | assumption)
                   obtain ⟨ad123, e123, hx123_0, hx123_1⟩ := at_T54 (Kd.R_reads' HO_5.out).2.2 x18_4 p123 q123
                   cases e123
                   replace p123 := eq_true p123
                   replace q123 := eq_true q123
                   have p124 : 0 ≤ (x18_4 : Int) := of_decide_eq_true (by first | (with_reducible assumption) | assumption)
                   have q124 : x18_4 < (t102.length : Int) := of_decide_eq_true (by first | (with_reducible assumption) | assumption)
                   obtain ⟨ad124, e124, hx124_0, hx124_1⟩ := at_T54 (Kd.R_reads' HO_5.out).2.2 x18_4 p124 q124
                   obtain rfl : ad123 = ad124 := (by injection e124)
                   replace p124 := eq_true p124
                   replace q124 := eq_true q124
                   go_wp2
                   go_roundg k4
                   case measure => have := HJ2.out; have := HJ9.out; have := HJ21.out; have := HK4.out; omega
                   case rel => exact ⟨(true), (wrap64 (x18_4 + 1)), (by first | rfl | (simp; done) | (simp [*]; done)), (by first | rfl | (simp; done) | (simp [*]; done)), H', ⟨by have := HJ2.out; have := HJ9.out; have := HJ21.out; have := HK4.out; omega⟩, ⟨by (with_reducible repeat (first | apply Kd.R_alloc | apply Kd.R_drewN | apply Kd.R_drew)); exact HO_5.out⟩, ⟨by repeat (first | (with_reducible first | exact HB.out | apply below_alloc | apply pw_below_drewN | apply below_drew1) | exact HB.out)⟩⟩
                  ·rw [if_neg c50] at H
                   have c50b0 : decide ((wrap64 (1 + t119)) ≤ t120) = false := decide_eq_false c50
                   clear c50
                   by_cases c51 : t120 ≤ (wrap64 (1 + t119))
                   ·rw [if_pos c51] at H
                    have c51b0 : decide (t120 ≤ (wrap64 (1 + t119))) = true := decide_eq_true c51
                    clear c51
                    have H' := Aside0.mk H
                    clear H
                    have p123 : 0 ≤ (x18_4 : Int) := of_decide_eq_true (by first | (with_reducible assumption) | assumption)
                    have q123 : x18_4 < (t102.length : Int) := of_decide_eq_true (by first | (with_reducible assumption) | assumption)
                    obtain ⟨ad123, e123, hx123_0, hx123_1⟩ := at_T54 (Kd.R_reads' HO_5.out).2.2 x18_4 p123 q123
                    cases e123
                    replace p123 := eq_true p123
                    replace q123 := eq_true q123
                    have p124 : 0 ≤ (x18_4 : Int) := of_decide_eq_true (by first | (with_reducible assumption) | assumption)
                    have q124 : x18_4 < (t102.length : Int) := of_decide_eq_true (by first | (with_reducible assumption) | assumption)
                    obtain ⟨ad124, e124, hx124_0, hx124_1⟩ := at_T54 (Kd.R_reads' HO_5.out).2.2 x18_4 p124 q124
                    obtain rfl : ad123 = ad124 := (by injection e124)
                    replace p124 := eq_true p124
                    replace q124 := eq_true q124
                    go_wp2
                    go_roundg k4
                    case measure => have := HJ2.out; have := HJ9.out; have := HJ21.out; have := HK4.out; omega
                    case rel => exact ⟨(decide ((wrap64 (1 + t119)) ≤ ((rd_T54 t102 x18_4).f0))), (wrap64 (x18_4 + 1)), (by first | rfl | (simp; done) | (simp [*]; done)), (by first | rfl | (simp; done) | (simp [*]; done)), H', ⟨by have := HJ2.out; have := HJ9.out; have := HJ21.out; have := HK4.out; omega⟩, ⟨by (with_reducible repeat (first | apply Kd.R_alloc | apply Kd.R_drewN | apply Kd.R_drew)); exact HO_5.out⟩, ⟨by repeat (first | (with_reducible first | exact HB.out | apply below_alloc | apply pw_below_drewN | apply below_drew1) | exact HB.out)⟩⟩
                   ·rw [if_neg c51] at H
                    have c51b0 : decide (t120 ≤ (wrap64 (1 + t119))) = false := decide_eq_false c51
                    clear c51
                    have H' := Aside0.mk H
                    clear H
                    have p123 : 0 ≤ (x18_4 : Int) := of_decide_eq_true (by first | (with_reducible assumption) | assumption)
                    have q123 : x18_4 < (t102.length : Int) := of_decide_eq_true (by first | (with_reducible assumption) | assumption)
                    obtain ⟨ad123, e123, hx123_0, hx123_1⟩ := at_T54 (Kd.R_reads' HO_5.out).2.2 x18_4 p123 q123
                    cases e123
                    replace p123 := eq_true p123
                    replace q123 := eq_true q123
                    have p124 : 0 ≤ (x18_4 : Int) := of_decide_eq_true (by first | (with_reducible assumption) | assumption)
                    have q124 : x18_4 < (t102.length : Int) := of_decide_eq_true (by first | (with_reducible assumption) | assumption)
                    obtain ⟨ad124, e124, hx124_0, hx124_1⟩ := at_T54 (Kd.R_reads' HO_5.out).2.2 x18_4 p124 q124
                    obtain rfl : ad123 = ad124 := (by injection e124)
                    replace p124 := eq_true p124
                    replace q124 := eq_true q124
                    go_wp2
                    go_roundg k4
                    case measure => have := HJ2.out; have := HJ9.out; have := HJ21.out; have := HK4.out; omega
                    case rel => exact ⟨(false), (wrap64 (x18_4 + 1)), (by first | rfl | (simp; done) | (simp [*]; done)), (by first | rfl | (simp; done) | (simp [*]; done)), H', ⟨by have := HJ2.out; have := HJ9.out; have := HJ21.out; have := HK4.out; omega⟩, ⟨by (with_reducible repeat (first | apply Kd.R_alloc | apply Kd.R_drewN | apply Kd.R_drew)); exact HO_5.out⟩, ⟨by repeat (first | (with_reducible first | exact HB.out | apply below_alloc | apply pw_below_drewN | apply below_drew1) | exact HB.out)⟩⟩
                 ·rw [if_neg c49] at H
                  have c49b0 : decide (((rd_T54 t102 x18_4).f0) ≤ (wrap64 (1 + t119))) = false := decide_eq_false c49
                  clear c49
                  by_cases c52 : t120 ≤ (wrap64 (1 + t119))
                  ·rw [if_pos c52] at H
                   have c52b0 : decide (t120 ≤ (wrap64 (1 + t119))) = true := decide_eq_true c52
                   clear c52
                   have H' := Aside0.mk H
                   clear H
                   have p123 : 0 ≤ (x18_4 : Int) := of_decide_eq_true (by first | (with_reducible assumption) | assumption)
                   have q123 : x18_4 < (t102.length : Int) := of_decide_eq_true (by first | (with_reducible assumption) | assumption)
                   obtain ⟨ad123, e123, hx123_0, hx123_1⟩ := at_T54 (Kd.R_reads' HO_5.out).2.2 x18_4 p123 q123
                   cases e123
                   replace p123 := eq_true p123
                   replace q123 := eq_true q123
                   have p124 : 0 ≤ (x18_4 : Int) := of_decide_eq_true (by first | (with_reducible assumption) | assumption)
                   have q124 : x18_4 < (t102.length : Int) := of_decide_eq_true (by first | (with_reducible assumption) | assumption)
                   obtain ⟨ad124, e124, hx124_0, hx124_1⟩ := at_T54 (Kd.R_reads' HO_5.out).2.2 x18_4 p124 q124
                   obtain rfl : ad123 = ad124 := (by injection e124)
                   replace p124 := eq_true p124
                   replace q124 := eq_true q124
                   go_wp2
                   go_roundg k4
                   case measure => have := HJ2.out; have := HJ9.out; have := HJ21.out; have := HK4.out; omega
                   case rel => exact ⟨(decide ((wrap64 (1 + t119)) ≤ ((rd_T54 t102 x18_4).f0))), (wrap64 (x18_4 + 1)), (by first | rfl | (simp; done) | (simp [*]; done)), (by first | rfl | (simp; done) | (simp [*]; done)), H', ⟨by have := HJ2.out; have := HJ9.out; have := HJ21.out; have := HK4.out; omega⟩, ⟨by (with_reducible repeat (first | apply Kd.R_alloc | apply Kd.R_drewN | apply Kd.R_drew)); exact HO_5.out⟩, ⟨by repeat (first | (with_reducible first | exact HB.out | apply below_alloc | apply pw_below_drewN | apply below_drew1) | exact HB.out)⟩⟩
                  ·rw [if_neg c52] at H
                   have c52b0 : decide (t120 ≤ (wrap64 (1 + t119))) = false := decide_eq_false c52
                   clear c52
                   have H' := Aside0.mk H
                   clear H
                   have p123 : 0 ≤ (x18_4 : Int) := of_decide_eq_true (by first | (with_reducible assumption) | assumption)
                   have q123 : x18_4 < (t102.length : Int) := of_decide_eq_true (by first | (with_reducible assumption) | assumption)
                   obtain ⟨ad123, e123, hx123_0, hx123_1⟩ := at_T54 (Kd.R_reads' HO_5.out).2.2 x18_4 p123 q123
                   cases e123
                   replace p123 := eq_true p123
                   replace q123 := eq_true q123
                   have p124 : 0 ≤ (x18_4 : Int) := of_decide_eq_true (by first | (with_reducible assumption) | assumption)
                   have q124 : x18_4 < (t102.length : Int) := of_decide_eq_true (by first | (with_reducible assumption) | assumption)
                   obtain ⟨ad124, e124, hx124_0, hx124_1⟩ := at_T54 (Kd.R_reads' HO_5.out).2.2 x18_4 p124 q124
                   obtain rfl : ad123 = ad124 := (by injection e124)
                   replace p124 := eq_true p124
                   replace q124 := eq_true q124
                   go_wp2
                   go_roundg k4
                   case measure => have := HJ2.out; have := HJ9.out; have := HJ21.out; have := HK4.out; omega
                   case rel => exact ⟨(false), (wrap64 (x18_4 + 1)), (by first | rfl | (simp; done) | (simp [*]; done)), (by first | rfl | (simp; done) | (simp [*]; done)), H', ⟨by have := HJ2.out; have := HJ9.out; have := HJ21.out; have := HK4.out; omega⟩, ⟨by (with_reducible repeat (first | apply Kd.R_alloc | apply Kd.R_drewN | apply Kd.R_drew)); exact HO_5.out⟩, ⟨by repeat (first | (with_reducible first | exact HB.out | apply below_alloc | apply pw_below_drewN | apply below_drew1) | exact HB.out)⟩⟩
               ·rw [if_neg c47] at H
                have c47b0 : (((rd_T54 t102 x18_4).f1) == 0) = false := beq_eq_false_iff_ne.mpr c47
                have c47b1 : (((rd_T54 t102 x18_4).f1) != 0) = true := bne_iff_ne.mpr c47
                by_cases c53 : x17_4 = true
                ·subst c53
                 have H1 : (laws_FnSets.l0 k4 t102 (wrap64 (1 + t119)) t120 t121 t122 true (wrap64 (x18_4 + 1))) = some r := by rw [if_pos rfl] at H; exact H
                 clear H
                 have H := H1
                 clear H1
                 have H' := Aside0.mk H
                 clear H
                 have p123 : 0 ≤ (x18_4 : Int) := of_decide_eq_true (by first | (with_reducible assumption) | assumption)
                 have q123 : x18_4 < (t102.length : Int) := of_decide_eq_true (by first | (with_reducible assumption) | assumption)
                 obtain ⟨ad123, e123, hx123_0, hx123_1⟩ := at_T54 (Kd.R_reads' HO_5.out).2.2 x18_4 p123 q123
                 cases e123
                 replace p123 := eq_true p123
                 replace q123 := eq_true q123
                 have p124 : 0 ≤ (x18_4 : Int) := of_decide_eq_true (by first | (with_reducible assumption) | assumption)
                 have q124 : x18_4 < (t102.length : Int) := of_decide_eq_true (by first | (with_reducible assumption) | assumption)
                 obtain ⟨ad124, e124, hx124_0, hx124_1⟩ := at_T54 (Kd.R_reads' HO_5.out).2.2 x18_4 p124 q124
                 obtain rfl : ad123 = ad124 := (by injection e124)
                 replace p124 := eq_true p124
                 replace q124 := eq_true q124
                 go_wp2
                 go_roundg k4
                 case measure => have := HJ2.out; have := HJ9.out; have := HJ21.out; have := HK4.out; omega
                 case rel => exact ⟨(true), (wrap64 (x18_4 + 1)), (by first | rfl | (simp; done) | (simp [*]; done)), (by first | rfl | (simp; done) | (simp [*]; done)), H', ⟨by have := HJ2.out; have := HJ9.out; have := HJ21.out; have := HK4.out; omega⟩, ⟨by (with_reducible repeat (first | apply Kd.R_alloc | apply Kd.R_drewN | apply Kd.R_drew)); exact HO_5.out⟩, ⟨by repeat (first | (with_reducible first | exact HB.out | apply below_alloc | apply pw_below_drewN | apply below_drew1) | exact HB.out)⟩⟩
                ·replace c53 := Bool.eq_false_iff.mpr c53
                 subst c53
                 have H1 : (if ((rd_T54 t102 x18_4).f0) ≤ (wrap64 (1 + t119)) then (if (wrap64 (1 + t119)) ≤ ((rd_T54 t102 x18_4).f1) then (laws_FnSets.l0 k4 t102 (wrap64 (1 + t119)) t120 t121 t122 true (wrap64 (x18_4 + 1))) else (if ((rd_T54 t102 x18_4).f1) ≤ (wrap64 (1 + t119)) then (laws_FnSets.l0 k4 t102 (wrap64 (1 + t119)) t120 t121 t122 (decide ((wrap64 (1 + t119)) ≤ ((rd_T54 t102 x18_4).f0))) (wrap64 (x18_4 + 1))) else (laws_FnSets.l0 k4 t102 (wrap64 (1 + t119)) t120 t121 t122 false (wrap64 (x18_4 + 1))))) else (if ((rd_T54 t102 x18_4).f1) ≤ (wrap64 (1 + t119)) then (laws_FnSets.l0 k4 t102 (wrap64 (1 + t119)) t120 t121 t122 (decide ((wrap64 (1 + t119)) ≤ ((rd_T54 t102 x18_4).f0))) (wrap64 (x18_4 + 1))) else (laws_FnSets.l0 k4 t102 (wrap64 (1 + t119)) t120 t121 t122 false (wrap64 (x18_4 + 1))))) = some r := by rw [if_neg (show ¬ (false = true) by decide)] at H; exact H
                 clear H
                 have H := H1
                 clear H1
                 by_cases c54 : ((rd_T54 t102 x18_4).f0) ≤ (wrap64 (1 + t119))
                 ·rw [if_pos c54] at H
                  have c54b0 : decide (((rd_T54 t102 x18_4).f0) ≤ (wrap64 (1 + t119))) = true := decide_eq_true c54
                  clear c54
                  by_cases c55 : (wrap64 (1 + t119)) ≤ ((rd_T54 t102 x18_4).f1)
                  ·rw [if_pos c55] at H
                   have c55b0 : decide ((wrap64 (1 + t119)) ≤ ((rd_T54 t102 x18_4).f1)) = true := decide_eq_true c55
                   clear c55
                   have H' := Aside0.mk H
                   clear H
                   have p123 : 0 ≤ (x18_4 : Int) := of_decide_eq_true (by first | (with_reducible assumption) | assumption)
                   have q123 : x18_4 < (t102.length : Int) := of_decide_eq_true (by first | (with_reducible assumption) | assumption)
                   obtain ⟨ad123, e123, hx123_0, hx123_1⟩ := at_T54 (Kd.R_reads' HO_5.out).2.2 x18_4 p123 q123
                   cases e123
                   replace p123 := eq_true p123
                   replace q123 := eq_true q123
                   have p124 : 0 ≤ (x18_4 : Int) := of_decide_eq_true (by first | (with_reducible assumption) | assumption)
                   have q124 : x18_4 < (t102.length : Int) := of_decide_eq_true (by first | (with_reducible assumption) | assumption)
                   obtain ⟨ad124, e124, hx124_0, hx124_1⟩ := at_T54 (Kd.R_reads' HO_5.out).2.2 x18_4 p124 q124
                   obtain rfl : ad123 = ad124 := (by injection e124)
                   replace p124 := eq_true p124
                   replace q124 := eq_true q124
                   go_wp2
                   go_roundg k4
                   case measure => have := HJ2.out; have := HJ9.out; have := HJ21.out; have := HK4.out; omega
                   case rel => exact ⟨(true), (wrap64 (x18_4 + 1)), (by first | rfl | (simp; done) | (simp [*]; done)), (by first | rfl | (simp; done) | (simp [*]; done)), H', ⟨by have := HJ2.out; have := HJ9.out; have := HJ21.out; have := HK4.out; omega⟩, ⟨by (with_reducible repeat (first | apply Kd.R_alloc | apply Kd.R_drewN | apply Kd.R_drew)); exact HO_5.out⟩, ⟨by repeat (first | (with_reducible first | exact HB.out | apply below_alloc | apply pw_below_drewN | apply below_drew1) | exact HB.out)⟩⟩
                  ·rw [if_neg c55] at H
                   have c55b0 : decide ((wrap64 (1 + t119)) ≤ ((rd_T54 t102 x18_4).f1)) = false := decide_eq_false c55
                   clear c55
                   by_cases c56 : ((rd_T54 t102 x18_4).f1) ≤ (wrap64 (1 + t119))
                   ·rw [if_pos c56] at H
                    have c56b0 : decide (((rd_T54 t102 x18_4).f1) ≤ (wrap64 (1 + t119))) = true := decide_eq_true c56
                    clear c56
                    have H' := Aside0.mk H
                    clear H
                    have p123 : 0 ≤ (x18_4 : Int) := of_decide_eq_true (by first | (with_reducible assumption) | assumption)
                    have q123 : x18_4 < (t102.length : Int) := of_decide_eq_true (by first | (with_reducible assumption) | assumption)
                    obtain ⟨ad123, e123, hx123_0, hx123_1⟩ := at_T54 (Kd.R_reads' HO_5.out).2.2 x18_4 p123 q123
                    cases e123
                    replace p123 := eq_true p123
                    replace q123 := eq_true q123
                    have p124 : 0 ≤ (x18_4 : Int) := of_decide_eq_true (by first | (with_reducible assumption) | assumption)
                    have q124 : x18_4 < (t102.length : Int) := of_decide_eq_true (by first | (with_reducible assumption) | assumption)
                    obtain ⟨ad124, e124, hx124_0, hx124_1⟩ := at_T54 (Kd.R_reads' HO_5.out).2.2 x18_4 p124 q124
                    obtain rfl : ad123 = ad124 := (by injection e124)
                    replace p124 := eq_true p124
                    replace q124 := eq_true q124
                    go_wp2
                    go_roundg k4
                    case measure => have := HJ2.out; have := HJ9.out; have := HJ21.out; have := HK4.out; omega
                    case rel => exact ⟨(decide ((wrap64 (1 + t119)) ≤ ((rd_T54 t102 x18_4).f0))), (wrap64 (x18_4 + 1)), (by first | rfl | (simp; done) | (simp [*]; done)), (by first | rfl | (simp; done) | (simp [*]; done)), H', ⟨by have := HJ2.out; have := HJ9.out; have := HJ21.out; have := HK4.out; omega⟩, ⟨by (with_reducible repeat (first | apply Kd.R_alloc | apply Kd.R_drewN | apply Kd.R_drew)); exact HO_5.out⟩, ⟨by repeat (first | (with_reducible first | exact HB.out | apply below_alloc | apply pw_below_drewN | apply below_drew1) | exact HB.out)⟩⟩
                   ·rw [if_neg c56] at H
                    have c56b0 : decide (((rd_T54 t102 x18_4).f1) ≤ (wrap64 (1 + t119))) = false := decide_eq_false c56
                    clear c56
                    have H' := Aside0.mk H
                    clear H
                    have p123 : 0 ≤ (x18_4 : Int) := of_decide_eq_true (by first | (with_reducible assumption) | assumption)
                    have q123 : x18_4 < (t102.length : Int) := of_decide_eq_true (by first | (with_reducible assumption) | assumption)
                    obtain ⟨ad123, e123, hx123_0, hx123_1⟩ := at_T54 (Kd.R_reads' HO_5.out).2.2 x18_4 p123 q123
                    cases e123
                    replace p123 := eq_true p123
                    replace q123 := eq_true q123
                    have p124 : 0 ≤ (x18_4 : Int) := of_decide_eq_true (by first | (with_reducible assumption) | assumption)
                    have q124 : x18_4 < (t102.length : Int) := of_decide_eq_true (by first | (with_reducible assumption) | assumption)
                    obtain ⟨ad124, e124, hx124_0, hx124_1⟩ := at_T54 (Kd.R_reads' HO_5.out).2.2 x18_4 p124 q124
                    obtain rfl : ad123 = ad124 := (by injection e124)
                    replace p124 := eq_true p124
                    replace q124 := eq_true q124
                    go_wp2
                    go_roundg k4
                    case measure => have := HJ2.out; have := HJ9.out; have := HJ21.out; have := HK4.out; omega
                    case rel => exact ⟨(false), (wrap64 (x18_4 + 1)), (by first | rfl | (simp; done) | (simp [*]; done)), (by first | rfl | (simp; done) | (simp [*]; done)), H', ⟨by have := HJ2.out; have := HJ9.out; have := HJ21.out; have := HK4.out; omega⟩, ⟨by (with_reducible repeat (first | apply Kd.R_alloc | apply Kd.R_drewN | apply Kd.R_drew)); exact HO_5.out⟩, ⟨by repeat (first | (with_reducible first | exact HB.out | apply below_alloc | apply pw_below_drewN | apply below_drew1) | exact HB.out)⟩⟩
                 ·rw [if_neg c54] at H
                  have c54b0 : decide (((rd_T54 t102 x18_4).f0) ≤ (wrap64 (1 + t119))) = false := decide_eq_false c54
                  clear c54
                  by_cases c57 : ((rd_T54 t102 x18_4).f1) ≤ (wrap64 (1 + t119))
                  ·rw [if_pos c57] at H
                   have c57b0 : decide (((rd_T54 t102 x18_4).f1) ≤ (wrap64 (1 + t119))) = true := decide_eq_true c57
                   clear c57
                   have H' := Aside0.mk H
                   clear H
                   have p123 : 0 ≤ (x18_4 : Int) := of_decide_eq_true (by first | (with_reducible assumption) | assumption)
                   have q123 : x18_4 < (t102.length : Int) := of_decide_eq_true (by first | (with_reducible assumption) | assumption)
                   obtain ⟨ad123, e123, hx123_0, hx123_1⟩ := at_T54 (Kd.R_reads' HO_5.out).2.2 x18_4 p123 q123
                   cases e123
                   replace p123 := eq_true p123
                   replace q123 := eq_true q123
                   have p124 : 0 ≤ (x18_4 : Int) := of_decide_eq_true (by first | (with_reducible assumption) | assumption)
                   have q124 : x18_4 < (t102.length : Int) := of_decide_eq_true (by first | (with_reducible assumption) | assumption)
                   obtain ⟨ad124, e124, hx124_0, hx124_1⟩ := at_T54 (Kd.R_reads' HO_5.out).2.2 x18_4 p124 q124
                   obtain rfl : ad123 = ad124 := (by injection e124)
                   replace p124 := eq_true p124
                   replace q124 := eq_true q124
                   go_wp2
                   go_roundg k4
                   case measure => have := HJ2.out; have := HJ9.out; have := HJ21.out; have := HK4.out; omega
                   case rel => exact ⟨(decide ((wrap64 (1 + t119)) ≤ ((rd_T54 t102 x18_4).f0))), (wrap64 (x18_4 + 1)), (by first | rfl | (simp; done) | (simp [*]; done)), (by first | rfl | (simp; done) | (simp [*]; done)), H', ⟨by have := HJ2.out; have := HJ9.out; have := HJ21.out; have := HK4.out; omega⟩, ⟨by (with_reducible repeat (first | apply Kd.R_alloc | apply Kd.R_drewN | apply Kd.R_drew)); exact HO_5.out⟩, ⟨by repeat (first | (with_reducible first | exact HB.out | apply below_alloc | apply pw_below_drewN | apply below_drew1) | exact HB.out)⟩⟩
                  ·rw [if_neg c57] at H
                   have c57b0 : decide (((rd_T54 t102 x18_4).f1) ≤ (wrap64 (1 + t119))) = false := decide_eq_false c57
                   clear c57
                   have H' := Aside0.mk H
                   clear H
                   have p123 : 0 ≤ (x18_4 : Int) := of_decide_eq_true (by first | (with_reducible assumption) | assumption)
                   have q123 : x18_4 < (t102.length : Int) := of_decide_eq_true (by first | (with_reducible assumption) | assumption)
                   obtain ⟨ad123, e123, hx123_0, hx123_1⟩ := at_T54 (Kd.R_reads' HO_5.out).2.2 x18_4 p123 q123
                   cases e123
                   replace p123 := eq_true p123
                   replace q123 := eq_true q123
                   have p124 : 0 ≤ (x18_4 : Int) := of_decide_eq_true (by first | (with_reducible assumption) | assumption)
                   have q124 : x18_4 < (t102.length : Int) := of_decide_eq_true (by first | (with_reducible assumption) | assumption)
                   obtain ⟨ad124, e124, hx124_0, hx124_1⟩ := at_T54 (Kd.R_reads' HO_5.out).2.2 x18_4 p124 q124
                   obtain rfl : ad123 = ad124 := (by injection e124)
                   replace p124 := eq_true p124
                   replace q124 := eq_true q124
                   go_wp2
                   go_roundg k4
                   case measure => have := HJ2.out; have := HJ9.out; have := HJ21.out; have := HK4.out; omega
                   case rel => exact ⟨(false), (wrap64 (x18_4 + 1)), (by first | rfl | (simp; done) | (simp [*]; done)), (by first | rfl | (simp; done) | (simp [*]; done)), H', ⟨by have := HJ2.out; have := HJ9.out; have := HJ21.out; have := HK4.out; omega⟩, ⟨by (with_reducible repeat (first | apply Kd.R_alloc | apply Kd.R_drewN | apply Kd.R_drew)); exact HO_5.out⟩, ⟨by repeat (first | (with_reducible first | exact HB.out | apply below_alloc | apply pw_below_drewN | apply below_drew1) | exact HB.out)⟩⟩
             ·rw [if_neg c36] at H
              exact absurd H (by simp)
            ·rw [if_neg c35] at H
             have c35b0 : decide (x18_4 < (t102.length : Int)) = false := decide_eq_false c35
             clear c35
             by_cases c58 : t122 = 0
             ·rw [if_pos c58] at H
              have c58b0 : (t122 == 0) = true := beq_iff_eq.mpr c58
              have c58b1 : (t122 != 0) = false := bne_eq_false_iff_eq.mpr c58
              clear c58
              obtain rfl := Option.some.inj H
              go_wp2
              go_ret
              exact ⟨by first | rfl | (simp [errW_none, errW_some] <;> rfl) | (simp [*, errW_none, errW_some] <;> rfl), by repeat (first | (with_reducible first | exact HB.out | apply below_alloc | apply pw_below_drewN | apply below_drew1) | exact HB.out)⟩
             ·rw [if_neg c58] at H
              have c58b0 : (t122 == 0) = false := beq_eq_false_iff_ne.mpr c58
              have c58b1 : (t122 != 0) = true := bne_iff_ne.mpr c58
              obtain rfl := Option.some.inj H
              go_wp2
              go_ret
              exact ⟨by first | rfl | (simp [errW_none, errW_some] <;> rfl) | (simp [*, errW_none, errW_some] <;> rfl), by repeat (first | (with_reducible first | exact HB.out | apply below_alloc | apply pw_below_drewN | apply below_drew1) | exact HB.out)⟩

end Go.Proofs.YtcmifdcgmalnlaaDoor.P
namespace Go.Proofs.YtcmifdcgmalnlaaDoor.P
open Go.RowKit Go.ChangeShapes Go.WideShapes Go.Proofs.YtcmifdcgmalnlaaDoorW.PrintWords

def ok73 (x : S73) : Prop := (Lit.int .i64 x.f0).wf = true ∧ (Lit.int .i64 x.f1).wf = true
theorem tells73 {H : Type} {enc : TypeId × Value → H} {W : World} : Tells enc Tryd.prog W 73 k73 ok73 := Tells.struct (fun y => ⟨y.1, y.2⟩) (fun _ => rfl) Tryd.underlying73 (by kernel_rfl) (TellsF.cons (by kernel_rfl) (Tells.int Tryd.underlying3) rfl (TellsF.one (by kernel_rfl) (Tells.int Tryd.underlying3)))
end Go.Proofs.YtcmifdcgmalnlaaDoor.P
namespace Go.Proofs.YtcmifdcgmalnlaaDoor.P
open Go.RowKit Go.ChangeShapes Go.WideShapes Go.Proofs.YtcmifdcgmalnlaaDoorW.PrintWords

/-- What is to be proved of the law FnSets, over numbers and lists alone. -/
def laws_FnSets.Pure : Prop := ∀ (x0 : List Int) (x1 : List Int), (x0.length ≤ maxLen ∧ x0.length * 1 ≤ 140737488351232 ∧ ∀ y ∈ x0, (Lit.int .u8 y).wf = true) → (x1.length ≤ maxLen ∧ x1.length * 1 ≤ 140737488351232 ∧ ∀ y ∈ x1, (Lit.int .u8 y).wf = true) → ∃ k, laws_FnSets.f k x0 x1 = some true
end Go.Proofs.YtcmifdcgmalnlaaDoor.P
/- Lemmas of mine: strings as lists of bytes; whole numbers of 64 bits; rounds. Plain. -/
set_option linter.unusedVariables false
set_option linter.unusedSimpArgs false
namespace Go.Proofs.YtcmifdcgmalnlaaDoor.P
open Go.RowKit Go.Proofs.YtcmifdcgmalnlaaDoorW.PrintWords
/-- As Option.bind_some, but no equation by computing: for terms that are not to be computed by the kernel. -/
theorem bS {α β : Type} (a : α) (f : α → Option β) : (some a).bind f = f a := Eq.trans (Option.bind_some a f) (Eq.refl (f a))
/-- A string's bytes. -/
def bl (s : ByteArray) : List UInt8 := s.data.toList
/-- Bytes as numbers. -/
def nb (l : List UInt8) : List Int := l.map fun b => (b.toNat : Int)
theorem bl_inj {a b : ByteArray} (h : bl a = bl b) : a = b := WideShapes.bytes_inj h
theorem toList_bl (s : ByteArray) : s.toList = bl s := Lib.toList_data s
theorem toList_iff {a b : ByteArray} : a.toList = b.toList ↔ a = b := ⟨fun h => bl_inj (by rw [← toList_bl, ← toList_bl, h]), fun h => by rw [h]⟩
theorem bl_size (s : ByteArray) : s.size = (bl s).length := Lib.size_eq s
theorem bl_append (a b : ByteArray) : bl (a ++ b) = bl a ++ bl b := by simp [bl]
theorem bl_extract (s : ByteArray) (i j : Nat) : bl (s.extract i j) = ((bl s).drop i).take (j - i) := Lib.extract_data s i j
theorem bl_mk (l : List UInt8) : bl ⟨l.toArray⟩ = l := by simp [bl]
theorem bl_empty : bl (⟨#[]⟩ : ByteArray) = [] := rfl
theorem mk_bl (s : ByteArray) : (⟨(bl s).toArray⟩ : ByteArray) = s := bl_inj (bl_mk _)
theorem bytesOf_bl (s : ByteArray) : bytesOf s = nb (bl s) := rfl
theorem nb_length (l : List UInt8) : (nb l).length = l.length := by simp [nb]
theorem nb_append (l m : List UInt8) : nb (l ++ m) = nb l ++ nb m := by simp [nb]
theorem strOf_nb (l : List UInt8) : strOfNums (nb l) = ⟨l.toArray⟩ := by
 simp [strOfNums, nb, Function.comp_def]
theorem bl_strOf_nb (l : List UInt8) : bl (strOfNums (nb l)) = l := by rw [strOf_nb, bl_mk]
theorem bt_eq (s : ByteArray) (i : Nat) (h : i < (bl s).length) : bt s (i : Int) = (((bl s)[i]'h).toNat : Int) := by
 have hs : i < s.size := by rw [bl_size]; exact h
 unfold bt
 rw [dif_pos (by simpa using hs)]
 have h1 := Lib.data_getElem? s i hs
 have h2 : (bl s)[i]? = some ((bl s)[i]'h) := List.getElem?_eq_getElem h
 have h3 : s[i]'hs = (bl s)[i]'h := Option.some.inj (h1.symm.trans h2)
 simp only [Int.toNat_natCast]
 rw [← h3]
theorem rd_nb (l : List UInt8) (i : Nat) (h : i < l.length) : rd (nb l) (i : Int) = ((l[i]'h).toNat : Int) := by
 simp [rd, nb, List.getD_eq_getElem?_getD, List.getElem?_map, List.getElem?_eq_getElem h]
theorem byte_lt (b : UInt8) : b.toNat < 256 := b.toNat_lt
/-- No wrap within the bounds. -/
theorem w64 {n : Int} (h0 : -9223372036854775808 ≤ n) (h1 : n ≤ 9223372036854775807) : wrap64 n = n := by unfold wrap64; omega
theorem w64n (n : Nat) (h1 : n ≤ 9223372036854775807) : wrap64 (n : Int) = n := w64 (by omega) (by omega)
theorem w64s (n : Nat) (h1 : n + 1 ≤ 9223372036854775807) : wrap64 ((n : Int) + 1) = ((n + 1 : Nat) : Int) := by rw [w64 (by omega) (by omega)]; rfl
theorem w64add (a b : Nat) (h : a + b ≤ 9223372036854775807) : wrap64 ((a : Int) + (b : Int)) = ((a + b : Nat) : Int) := by rw [w64 (by omega) (by omega)]; rfl
theorem w64lit (a b : Nat) (h : a + b ≤ 9223372036854775807) : wrap64 ((a : Int) + wrap64 ((b : Int))) = ((a + b : Nat) : Int) := by rw [w64n b (by omega), w64add a b h]
theorem w64sub (a b : Nat) (h : b ≤ a) (h2 : a ≤ 9223372036854775807) : wrap64 ((a : Int) - (b : Int)) = ((a - b : Nat) : Int) := by rw [w64 (by omega) (by omega)]; omega
theorem bits_xor_nat (k : IntKind) (j : Nat) (hj : j ≤ k.bits) (hk : ∀ n : Int, 0 ≤ n → n < 2 ^ j → k.wrap n = n) (a b : Nat) (ha : a < 2 ^ j) (hb : b < 2 ^ j) : bits .xor k a b = ((a ^^^ b : Nat) : Int) := by
 have hp : 2 ^ j ≤ 2 ^ k.bits := Nat.pow_le_pow_right (by decide) hj
 have ha' : a % 2 ^ k.bits = a := Nat.mod_eq_of_lt (Nat.lt_of_lt_of_le ha hp)
 have hb' : b % 2 ^ k.bits = b := Nat.mod_eq_of_lt (Nat.lt_of_lt_of_le hb hp)
 simp only [bits, BitVec.ofInt_natCast, BitVec.toNat_xor, BitVec.toNat_ofNat, ha', hb']
 exact hk _ (Int.natCast_nonneg _) (by exact_mod_cast Nat.xor_lt_two_pow ha hb)
theorem u32_in (n : Int) (h0 : 0 ≤ n) (h1 : n < 2 ^ 32) : IntKind.u32.wrap n = n := by rw [IntKind.wrap_u32]; omega
theorem i64_in32 (n : Int) (h0 : 0 ≤ n) (h1 : n < 2 ^ 32) : IntKind.i64.wrap n = n := by rw [IntKind.wrap_i64]; omega
theorem xor_u32 (a b : Nat) (ha : a < 4294967296) (hb : b < 4294967296) : bits .xor .u32 a b = ((a ^^^ b : Nat) : Int) := bits_xor_nat .u32 32 (by decide) u32_in a b ha hb
theorem xor_i64 (a b : Nat) (ha : a < 4294967296) (hb : b < 4294967296) : bits .xor .i64 a b = ((a ^^^ b : Nat) : Int) := bits_xor_nat .i64 32 (by decide) i64_in32 a b ha hb
/-- Rounds: what is told for all numbers of rounds from some on. -/
theorem Ev.k {α : Type} {g : Nat → Option α} {r : α} (h : Ev g r) : ∃ k, g k = some r := h.rounds
theorem Ev.and {α β : Type} {g : Nat → Option α} {f : Nat → Option β} {r : α} {q : β} (h : Ev g r) (h' : Ev f q) : ∃ K, ∀ k, K ≤ k → g k = some r ∧ f k = some q := by
 obtain ⟨K, h⟩ := h
 obtain ⟨K', h'⟩ := h'
 exact ⟨max K K', fun k hk => ⟨h k (by omega), h' k (by omega)⟩⟩
theorem Ev.uniq {α : Type} {g : Nat → Option α} {r q : α} (h : Ev g r) (h' : Ev g q) : r = q := by
 obtain ⟨K, hk⟩ := Ev.and h h'
 have h1 := hk K (Nat.le_refl _)
 exact Option.some.inj (h1.1.symm.trans h1.2)
end Go.Proofs.YtcmifdcgmalnlaaDoor.P
