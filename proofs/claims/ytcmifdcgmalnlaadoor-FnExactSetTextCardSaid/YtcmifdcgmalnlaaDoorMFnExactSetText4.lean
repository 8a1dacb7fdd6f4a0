/- Part 4 of what the law FnExactSetText stands on; the last part ends with the law's row. No condition of mine. -/
import Derived.Test.YtcmifdcgmalnlaaDoorMFnExactSetText1
import Derived.Test.YtcmifdcgmalnlaaDoorMFnExactSetText2
import Derived.Test.YtcmifdcgmalnlaaDoorMFnExactSetText3
import Derived.Lib.Strings
import Derived.Lib.IndexBytes
import Derived.Laws.BitsLemmas
import Derived.IntWalk
namespace Go.Proofs.YtcmifdcgmalnlaaDoor.P
open Go.RowKit Go.Proofs.YtcmifdcgmalnlaaDoorW.PrintWords Go.Proofs.YtcmifdcgmalnlaaDoorW.PrintLast Go.Proofs.YtcmifdcgmalnlaaDoorW.PrintMore
attribute [local go_sem] max2_int min2_int max_two min_two max_three min_three max_four min_four   -- for this text's walks alone
set_option linter.unusedVariables false
set_option linter.unusedSimpArgs false

/-! ### laws_FnExactSetText: function 5 -/
def laws_FnExactSetText.j0 : Nat → List (S73) → List (S54) → Bool → Option (Bool)
 | 0, _, _, _ => none
 | k + 1, x0, x6, x34 => if x34 = true then (some false) else ((laws_toRangeS.f k x0).bind fun t112 => ((laws_eqRangeS.f k x6 t112).bind fun t115 => (if t115 = true then (some true) else (some false))))
def laws_FnExactSetText.f (k : Nat) (l0 : List (S73)) : Option (Bool) := (laws_szRangeS.f l0 1048576).bind fun t101 => (if t101 < 0 then (some true) else ((laws_toRangeS.f k l0).bind fun t102 => ((spec_SetText.f k t102).bind fun bt105 => ((laws_toRangeS.f k l0).bind fun t107 => ((impl_SetText.f k t107).bind fun bt110 => (if bt110.1.toList = bt105.1.toList then (laws_FnExactSetText.j0 k l0 t107 (bt110.2 != bt105.2)) else (laws_FnExactSetText.j0 k l0 t107 true)))))))
theorem laws_FnExactSetText.mono_l : ∀ k, (∀ y0 y1 y2, LeO (laws_FnExactSetText.j0 k y0 y1 y2) (laws_FnExactSetText.j0 (k + 1) y0 y1 y2))
 | 0 => fun _ _ _ r h => by simp [laws_FnExactSetText.j0] at h
 | k + 1 => by
  have ih0 := laws_FnExactSetText.mono_l k
  ·intro y0 y1 y2
   unfold laws_FnExactSetText.j0
   repeat' first
   | (with_reducible exact ih0 _ _ _)
   | (with_reducible exact impl_SetText.mono _ _)
   | (with_reducible exact laws_eqRangeS.mono _ _ _)
   | (with_reducible exact laws_toRangeS.mono _ _)
   | (with_reducible exact spec_SetText.mono _ _)
   | (with_reducible exact LeO.refl _)
   | (with_reducible exact LeO.none _)
   | (with_reducible refine LeO.ite ?_ ?_)
   | (with_reducible refine LeO.bind ?_ (fun _ => ?_))
   | exact ih0 _ _ _
   | exact impl_SetText.mono _ _
   | exact laws_eqRangeS.mono _ _ _
   | exact laws_toRangeS.mono _ _
   | exact spec_SetText.mono _ _
   | exact LeO.none _
   | refine LeO.ite ?_ ?_
   | refine LeO.bind ?_ (fun _ => ?_)
theorem laws_FnExactSetText.mono : ∀ a0 k, LeO (laws_FnExactSetText.f k a0) (laws_FnExactSetText.f (k + 1) a0) := by
 intro a0 k
 have ih0 := laws_FnExactSetText.mono_l k
 unfold laws_FnExactSetText.f
 repeat' first
   | (with_reducible exact ih0 _ _ _)
   | (with_reducible exact impl_SetText.mono _ _)
   | (with_reducible exact laws_eqRangeS.mono _ _ _)
   | (with_reducible exact laws_toRangeS.mono _ _)
   | (with_reducible exact spec_SetText.mono _ _)
   | (with_reducible exact LeO.refl _)
   | (with_reducible exact LeO.none _)
   | (with_reducible refine LeO.ite ?_ ?_)
   | (with_reducible refine LeO.bind ?_ (fun _ => ?_))
   | exact ih0 _ _ _
   | exact impl_SetText.mono _ _
   | exact laws_eqRangeS.mono _ _ _
   | exact laws_toRangeS.mono _ _
   | exact spec_SetText.mono _ _
   | exact LeO.none _
   | refine LeO.ite ?_ ?_
   | refine LeO.bind ?_ (fun _ => ?_)
set_option maxHeartbeats 8000000 in
set_option maxRecDepth 100000 in
theorem laws_FnExactSetText.calls (k : Nat) (A0 : Option Addr) (c0 : Nat) (l0 : List (S73)) (r : Bool) (w : World) (hr0 : Kd.C k73 w A0 l0.length l0) (hc0 : l0.length ≤ c0) (hGWi : GWi w) (h : laws_FnExactSetText.f k l0 = some r) :
  Calls Tryd.prog 5 #[.slice A0 l0.length c0] w fun e w' => e = .returned (.bool r) ∧ Below w.heap.size w w' := by
 have HGWi := Aside0.mk hGWi
 clear hGWi
 have HR0 := Aside0.mk hr0
 have HC0 := Aside0.mk hc0
 clear hr0 hc0
 have HB := Aside0.mk (Below.refl w.heap.size w)
 have H : ((laws_szRangeS.f l0 1048576).bind fun t101 => (if t101 < 0 then (some true) else ((laws_toRangeS.f k l0).bind fun t102 => ((spec_SetText.f k t102).bind fun bt105 => ((laws_toRangeS.f k l0).bind fun t107 => ((impl_SetText.f k t107).bind fun bt110 => (if bt110.1.toList = bt105.1.toList then (laws_FnExactSetText.j0 k l0 t107 (bt110.2 != bt105.2)) else (laws_FnExactSetText.j0 k l0 t107 true)))))))) = some r := h
 clear h
 replace H := Option.bind_eq_some_iff.mp H
 obtain ⟨t101, A20, H⟩ := H
 replace H : (if t101 < 0 then (some true) else ((laws_toRangeS.f k l0).bind fun t102 => ((spec_SetText.f k t102).bind fun bt105 => ((laws_toRangeS.f k l0).bind fun t107 => ((impl_SetText.f k t107).bind fun bt110 => (if bt110.1.toList = bt105.1.toList then (laws_FnExactSetText.j0 k l0 t107 (bt110.2 != bt105.2)) else (laws_FnExactSetText.j0 k l0 t107 true))))))) = some r := H
 have A2 := Aside0.mk A20
 clear A20
 by_cases c3 : t101 < 0
 ·rw [if_pos c3] at H
  have c3b0 : decide (t101 < 0) = true := decide_eq_true c3
  clear c3
  obtain rfl := Option.some.inj H
  go_enter Tryd.func5, Tryd.ntmps5
  go_wp2_with (first | ((with_reducible refine gate_callee (f := 20) rfl ?_); refine goesL_ (some 11) rfl rfl Tryd.func20 (by kernel_rfl) rfl #[.slice A0 l0.length c0, .int .i64 1048576] rfl (by (try simp only [List.map_toArray, List.map_cons, List.map_nil]); first | done | rfl | (simp only [List.length_drop, List.length_take]; rfl)) ?_; (with_reducible refine (laws_szRangeS.calls _ _ l0 1048576 t101 _ ?side1 ?side2 A2.out).mono ?_); (case side1 => repeat (first | exact HR0.out | (with_reducible refine Kd.C_alloc ?_ _) | (with_reducible refine Kd.C_drewN ?_ _) | (with_reducible refine Kd.C_drew ?_))); (case side2 => exact HC0.out); rintro e w' ⟨rfl, ⟨nd, rfl⟩⟩; refine ⟨_, rfl, ?_⟩))
  go_ret
  exact ⟨by first | rfl | (simp [errW_none, errW_some] <;> rfl) | (simp [*, errW_none, errW_some] <;> rfl), by repeat (first | (with_reducible first | exact HB.out | apply below_alloc | apply pw_below_drewN | apply below_drew1) | exact HB.out)⟩
 ·rw [if_neg c3] at H
  have c3b0 : decide (t101 < 0) = false := decide_eq_false c3
  clear c3
  replace H := Option.bind_eq_some_iff.mp H
  obtain ⟨t102, A40, H⟩ := H
  replace H : ((spec_SetText.f k t102).bind fun bt105 => ((laws_toRangeS.f k l0).bind fun t107 => ((impl_SetText.f k t107).bind fun bt110 => (if bt110.1.toList = bt105.1.toList then (laws_FnExactSetText.j0 k l0 t107 (bt110.2 != bt105.2)) else (laws_FnExactSetText.j0 k l0 t107 true))))) = some r := H
  have A4 := Aside0.mk A40
  clear A40
  replace H := Option.bind_eq_some_iff.mp H
  obtain ⟨⟨t105, t106⟩, A50, H⟩ := H
  replace H : ((laws_toRangeS.f k l0).bind fun t107 => ((impl_SetText.f k t107).bind fun bt110 => (if bt110.1.toList = t105.toList then (laws_FnExactSetText.j0 k l0 t107 (bt110.2 != t106)) else (laws_FnExactSetText.j0 k l0 t107 true)))) = some r := H
  have A5 := Aside0.mk A50
  clear A50
  replace H := Option.bind_eq_some_iff.mp H
  obtain ⟨t107, A60, H⟩ := H
  replace H : ((impl_SetText.f k t107).bind fun bt110 => (if bt110.1.toList = t105.toList then (laws_FnExactSetText.j0 k l0 t107 (bt110.2 != t106)) else (laws_FnExactSetText.j0 k l0 t107 true))) = some r := H
  have A6 := Aside0.mk A60
  clear A60
  replace H := Option.bind_eq_some_iff.mp H
  obtain ⟨⟨t110, t111⟩, A70, H⟩ := H
  replace H : (if t110.toList = t105.toList then (laws_FnExactSetText.j0 k l0 t107 (t111 != t106)) else (laws_FnExactSetText.j0 k l0 t107 true)) = some r := H
  have A7 := Aside0.mk A70
  clear A70
  have HC8 := Aside0.mk H
  clear H
  go_enter Tryd.func5, Tryd.ntmps5
  go_upto_region 8 with (first | ((with_reducible refine gate_callee (f := 20) rfl ?_); refine goesL_ (some 11) rfl rfl Tryd.func20 (by kernel_rfl) rfl #[.slice A0 l0.length c0, .int .i64 1048576] rfl (by (try simp only [List.map_toArray, List.map_cons, List.map_nil]); first | done | rfl | (simp only [List.length_drop, List.length_take]; rfl)) ?_; (with_reducible refine (laws_szRangeS.calls _ _ l0 1048576 t101 _ ?side1 ?side2 A2.out).mono ?_); (case side1 => repeat (first | exact HR0.out | (with_reducible refine Kd.C_alloc ?_ _) | (with_reducible refine Kd.C_drewN ?_ _) | (with_reducible refine Kd.C_drew ?_))); (case side2 => exact HC0.out); rintro e w' ⟨rfl, ⟨nd, rfl⟩⟩; refine ⟨_, rfl, ?_⟩) | ((with_reducible refine gate_callee (f := 22) rfl ?_); refine goesL_ (some 16) rfl rfl Tryd.func22 (by kernel_rfl) rfl #[.slice A0 l0.length c0] rfl (by (try simp only [List.map_toArray, List.map_cons, List.map_nil]); first | done | rfl | (simp only [List.length_drop, List.length_take]; rfl)) ?_; (with_reducible refine (laws_toRangeS.calls k _ _ l0 t102 _ ?side1 ?side2 A4.out).mono ?_); (case side1 => repeat (first | exact HR0.out | (with_reducible refine Kd.C_alloc ?_ _) | (with_reducible refine Kd.C_drewN ?_ _) | (with_reducible refine Kd.C_drew ?_))); (case side2 => exact HC0.out); rintro e w9 ⟨v103, rfl, ho0, hb⟩; refine ⟨_, rfl, ?_⟩; have n0_ := Aside0.mk (Kd.R_lower ho0 (below_size (by repeat (first | (with_reducible first | exact HB.out | apply below_alloc | apply pw_below_drewN | apply below_drew1) | exact HB.out)))); have n1_ := Aside0.mk (below_step (by repeat (first | (with_reducible first | exact HB.out | apply below_alloc | apply pw_below_drewN | apply below_drew1) | exact HB.out)) hb); clear HB; have HO104 := n0_; have HB := n1_; clear n0_ n1_; (try clear hb); (try clear hb2); (try clear hk); (try clear hi); (try clear ho0); obtain ⟨Ao10, co10, eo10⟩ := Kd.R_slice HO104.out; subst eo10) | ((with_reducible refine gate_callee (f := 21) rfl ?_); refine goesL_ (some 17) rfl rfl Tryd.func21 (by kernel_rfl) rfl #[.slice Ao10 t102.length co10] rfl (by (try simp only [List.map_toArray, List.map_cons, List.map_nil]); first | done | rfl | (simp only [List.length_drop, List.length_take]; rfl)) ?_; (with_reducible refine (spec_SetText.calls k _ _ t102 t105 t106 _ ?side1 ?side2 A5.out).mono ?_); (case side1 => repeat (first | exact (Kd.R_reads' HO104.out).2.2 | (with_reducible refine Kd.C_alloc ?_ _) | (with_reducible refine Kd.C_drewN ?_ _) | (with_reducible refine Kd.C_drew ?_))); (case side2 => exact (Kd.R_reads' HO104.out).2.1); rintro e w11 ⟨rfl, hb⟩; refine ⟨_, rfl, ?_⟩; have n0_ := Aside0.mk (Kd.R_below (by (with_reducible repeat (first | apply Kd.R_alloc | apply Kd.R_drewN | apply Kd.R_drew)); exact HO104.out) hb); have n1_ := Aside0.mk (below_step (by repeat (first | (with_reducible first | exact HB.out | apply below_alloc | apply pw_below_drewN | apply below_drew1) | exact HB.out)) hb); clear HO104; clear HB; have HO104 := n0_; have HB := n1_; clear n0_ n1_; (try clear hb); (try clear hb2); (try clear hk); (try clear hi)) | ((with_reducible refine gate_callee (f := 22) rfl ?_); refine goesL_ (some 21) rfl rfl Tryd.func22 (by kernel_rfl) rfl #[.slice A0 l0.length c0] rfl (by (try simp only [List.map_toArray, List.map_cons, List.map_nil]); first | done | rfl | (simp only [List.length_drop, List.length_take]; rfl)) ?_; (with_reducible refine (laws_toRangeS.calls k _ _ l0 t107 _ ?side1 ?side2 A6.out).mono ?_); (case side1 => repeat (first | exact (Kd.C_below HR0.out HB.out) | (with_reducible refine Kd.C_alloc ?_ _) | (with_reducible refine Kd.C_drewN ?_ _) | (with_reducible refine Kd.C_drew ?_))); (case side2 => exact HC0.out); rintro e w12 ⟨v108, rfl, ho0, hb⟩; refine ⟨_, rfl, ?_⟩; have n0_ := Aside0.mk (Kd.R_elder' (by (with_reducible repeat (first | apply Kd.R_alloc | apply Kd.R_drewN | apply Kd.R_drew)); exact HO104.out) (Kd.R_base ho0) hb); have n1_ := Aside0.mk (Kd.R_lower (Kd.R_new' ho0 (Kd.R_lt (by (with_reducible repeat (first | apply Kd.R_alloc | apply Kd.R_drewN | apply Kd.R_drew)); exact HO104.out))) (below_size (by repeat (first | (with_reducible first | exact HB.out | apply below_alloc | apply pw_below_drewN | apply below_drew1) | exact HB.out)))); have n2_ := Aside0.mk (below_step (by repeat (first | (with_reducible first | exact HB.out | apply below_alloc | apply pw_below_drewN | apply below_drew1) | exact HB.out)) hb); clear HO104; clear HB; have HO104 := n0_; have HO109 := n1_; have HB := n2_; clear n0_ n1_ n2_; (try clear hb); (try clear hb2); (try clear hk); (try clear hi); (try clear ho0); obtain ⟨Ao13, co13, eo13⟩ := Kd.R_slice HO109.out; subst eo13) | ((with_reducible refine gate_callee (f := 23) rfl ?_); refine goesL_ (some 24) rfl rfl Tryd.func23 (by kernel_rfl) rfl #[.slice Ao13 t107.length co13] rfl (by (try simp only [List.map_toArray, List.map_cons, List.map_nil]); first | done | rfl | (simp only [List.length_drop, List.length_take]; rfl)) ?_; (with_reducible refine (impl_SetText.calls k _ _ t107 t110 t111 _ ?side1 ?side2 (GWi.below HGWi.out (by repeat (first | (with_reducible first | exact HB.out | apply below_alloc | apply pw_below_drewN | apply below_drew1) | exact HB.out))) A7.out).mono ?_); (case side1 => repeat (first | exact (Kd.R_reads' HO109.out).2.2 | (with_reducible refine Kd.C_alloc ?_ _) | (with_reducible refine Kd.C_drewN ?_ _) | (with_reducible refine Kd.C_drew ?_))); (case side2 => exact (Kd.R_reads' HO109.out).2.1); rintro e w14 ⟨rfl, hb⟩; refine ⟨_, rfl, ?_⟩; have n0_ := Aside0.mk (Kd.R_below (by (with_reducible repeat (first | apply Kd.R_alloc | apply Kd.R_drewN | apply Kd.R_drew)); exact HO104.out) hb); have n1_ := Aside0.mk (Kd.R_below (by (with_reducible repeat (first | apply Kd.R_alloc | apply Kd.R_drewN | apply Kd.R_drew)); exact HO109.out) hb); have n2_ := Aside0.mk (below_step (by repeat (first | (with_reducible first | exact HB.out | apply below_alloc | apply pw_below_drewN | apply below_drew1) | exact HB.out)) hb); clear HO104; clear HO109; clear HB; have HO104 := n0_; have HO109 := n1_; have HB := n2_; clear n0_ n1_ n2_; (try clear hb); (try clear hb2); (try clear hk); (try clear hi)))
  (try simp only [Act.put, List.setIfInBounds_toArray, List.set_cons_zero, List.set_cons_succ])
  go_cut [34] (fun v34 wc => ∃ (kq : Nat) (x34_7 : Bool), v34 = .bool x34_7 ∧ Aside0 (laws_FnExactSetText.j0 kq l0 t107 x34_7 = some r) ∧ Aside0 (kq ≤ k) ∧ Aside0 (Kd.R k54 54 wc w.heap.size (fun _ => True) (.slice Ao13 t107.length co13) t107) ∧ Aside0 (Below w.heap.size w wc))
  case first =>
   have H := HC8.out
   clear HC8
   by_cases c15 : t110.toList = t105.toList
   ·rw [if_pos c15] at H
    have c15b0 : (t110.toList == t105.toList) = true := beq_iff_eq.mpr c15
    have c15b1 : (t110.toList != t105.toList) = false := bne_eq_false_iff_eq.mpr c15
    clear c15
    (first | rw [c15b0] | (simp only [i64_w, i32_w]; rw [c15b0]) | skip)
    have H' := Aside0.mk H
    clear H
    go_wp2
    go_meet
    case rel => exact ⟨_, ((t111 != t106)), (by first | rfl | (simp; done) | (simp [*]; done)), H', ⟨by first | omega | exact Nat.le_refl _⟩, ⟨by (with_reducible repeat (first | apply Kd.R_alloc | apply Kd.R_drewN | apply Kd.R_drew)); exact Kd.R_mono HO109.out (fun _ hk => trivial)⟩, ⟨by repeat (first | (with_reducible first | exact HB.out | apply below_alloc | apply pw_below_drewN | apply below_drew1) | exact HB.out)⟩⟩
   ·rw [if_neg c15] at H
    have c15b0 : (t110.toList == t105.toList) = false := beq_eq_false_iff_ne.mpr c15
    have c15b1 : (t110.toList != t105.toList) = true := bne_iff_ne.mpr c15
    (first | rw [c15b0] | (simp only [i64_w, i32_w]; rw [c15b0]) | skip)
    have H' := Aside0.mk H
    clear H
    go_wp2
    go_meet
    case rel => exact ⟨_, (true), (by first | rfl | (simp; done) | (simp [*]; done)), H', ⟨by first | omega | exact Nat.le_refl _⟩, ⟨by (with_reducible repeat (first | apply Kd.R_alloc | apply Kd.R_drewN | apply Kd.R_drew)); exact Kd.R_mono HO109.out (fun _ hk => trivial)⟩, ⟨by repeat (first | (with_reducible first | exact HB.out | apply below_alloc | apply pw_below_drewN | apply below_drew1) | exact HB.out)⟩⟩
  case rest =>
   clear HC8
   try clear c1
   try clear c2
   try clear p2
   try clear c3
   try clear c3b0
   try clear c5
   try clear c15
   try clear c15b0
   try clear c15b1
   obtain ⟨kq, x34_7, rfl, HA, HJ7, HO_6, HB⟩ := hcut
   cases kq with
   | zero => exact absurd HA.out (by simp [laws_FnExactSetText.j0])
   | succ kj7 =>
    have H := HA.out
    clear HA
    simp only [laws_FnExactSetText.j0] at H
    by_cases c16 : x34_7 = true
    ·subst c16
     have H1 : (some false) = some r := by rw [if_pos rfl] at H; exact H
     clear H
     have H := H1
     clear H1
     obtain rfl := Option.some.inj H
     go_wp2
     go_ret
     exact ⟨by first | rfl | (simp [errW_none, errW_some] <;> rfl) | (simp [*, errW_none, errW_some] <;> rfl), by repeat (first | (with_reducible first | exact HB.out | apply below_alloc | apply pw_below_drewN | apply below_drew1) | exact HB.out)⟩
    ·replace c16 := Bool.eq_false_iff.mpr c16
     subst c16
     have H1 : ((laws_toRangeS.f kj7 l0).bind fun t112 => ((laws_eqRangeS.f kj7 t107 t112).bind fun t115 => (if t115 = true then (some true) else (some false)))) = some r := by rw [if_neg (show ¬ (false = true) by decide)] at H; exact H
     clear H
     have H := H1
     clear H1
     replace H := Option.bind_eq_some_iff.mp H
     obtain ⟨t112, A170, H⟩ := H
     replace H : ((laws_eqRangeS.f kj7 t107 t112).bind fun t115 => (if t115 = true then (some true) else (some false))) = some r := H
     have A17 := Aside0.mk A170
     clear A170
     replace H := Option.bind_eq_some_iff.mp H
     obtain ⟨t115, A180, H⟩ := H
     replace H : (if t115 = true then (some true) else (some false)) = some r := H
     have A18 := Aside0.mk A180
     clear A180
     by_cases c19 : t115 = true
     ·subst c19
      have H1 : (some true) = some r := by rw [if_pos rfl] at H; exact H
      clear H
      have H := H1
      clear H1
      obtain rfl := Option.some.inj H
      go_wp2_with (first | ((with_reducible refine gate_callee (f := 22) rfl ?_); refine goesL_ (some 37) rfl rfl Tryd.func22 (by kernel_rfl) rfl #[.slice A0 l0.length c0] rfl (by (try simp only [List.map_toArray, List.map_cons, List.map_nil]); first | done | rfl | (simp only [List.length_drop, List.length_take]; rfl)) ?_; (with_reducible refine (laws_toRangeS.calls kj7 _ _ l0 t112 _ ?side1 ?side2 A17.out).mono ?_); (case side1 => repeat (first | exact (Kd.C_below HR0.out HB.out) | (with_reducible refine Kd.C_alloc ?_ _) | (with_reducible refine Kd.C_drewN ?_ _) | (with_reducible refine Kd.C_drew ?_))); (case side2 => exact HC0.out); rintro e w20 ⟨v113, rfl, ho0, hb⟩; refine ⟨_, rfl, ?_⟩; have n0_ := Aside0.mk (Kd.R_elder' (by (with_reducible repeat (first | apply Kd.R_alloc | apply Kd.R_drewN | apply Kd.R_drew)); exact HO_6.out) (Kd.R_base ho0) hb); have n1_ := Aside0.mk (Kd.R_lower (Kd.R_new' ho0 (Kd.R_lt (by (with_reducible repeat (first | apply Kd.R_alloc | apply Kd.R_drewN | apply Kd.R_drew)); exact HO_6.out))) (below_size (by repeat (first | (with_reducible first | exact HB.out | apply below_alloc | apply pw_below_drewN | apply below_drew1) | exact HB.out)))); have n2_ := Aside0.mk (below_step (by repeat (first | (with_reducible first | exact HB.out | apply below_alloc | apply pw_below_drewN | apply below_drew1) | exact HB.out)) hb); clear HO_6; clear HB; have HO_6 := n0_; have HO114 := n1_; have HB := n2_; clear n0_ n1_ n2_; (try clear hb); (try clear hb2); (try clear hk); (try clear hi); (try clear ho0); obtain ⟨Ao21, co21, eo21⟩ := Kd.R_slice HO114.out; subst eo21) | ((with_reducible refine gate_callee (f := 24) rfl ?_); refine goesL_ (some 38) rfl rfl Tryd.func24 (by kernel_rfl) rfl #[.slice Ao13 t107.length co13, .slice Ao21 t112.length co21] rfl (by (try simp only [List.map_toArray, List.map_cons, List.map_nil]); first | done | rfl | (simp only [List.length_drop, List.length_take]; rfl)) ?_; (with_reducible refine (laws_eqRangeS.calls kj7 _ _ t107 _ _ t112 true _ ?side1 ?side2 ?side3 ?side4 A18.out).mono ?_); (case side1 => repeat (first | exact (Kd.R_reads' HO_6.out).2.2 | (with_reducible refine Kd.C_alloc ?_ _) | (with_reducible refine Kd.C_drewN ?_ _) | (with_reducible refine Kd.C_drew ?_))); (case side2 => exact (Kd.R_reads' HO_6.out).2.1); (case side3 => repeat (first | exact (Kd.R_reads' HO114.out).2.2 | (with_reducible refine Kd.C_alloc ?_ _) | (with_reducible refine Kd.C_drewN ?_ _) | (with_reducible refine Kd.C_drew ?_))); (case side4 => exact (Kd.R_reads' HO114.out).2.1); rintro e w22 ⟨rfl, hb⟩; refine ⟨_, rfl, ?_⟩; have n0_ := Aside0.mk (Kd.R_below (by (with_reducible repeat (first | apply Kd.R_alloc | apply Kd.R_drewN | apply Kd.R_drew)); exact HO_6.out) hb); have n1_ := Aside0.mk (Kd.R_below (by (with_reducible repeat (first | apply Kd.R_alloc | apply Kd.R_drewN | apply Kd.R_drew)); exact HO114.out) hb); have n2_ := Aside0.mk (below_step (by repeat (first | (with_reducible first | exact HB.out | apply below_alloc | apply pw_below_drewN | apply below_drew1) | exact HB.out)) hb); clear HO_6; clear HO114; clear HB; have HO_6 := n0_; have HO114 := n1_; have HB := n2_; clear n0_ n1_ n2_; (try clear hb); (try clear hb2); (try clear hk); (try clear hi)))
      go_ret
      exact ⟨by first | rfl | (simp [errW_none, errW_some] <;> rfl) | (simp [*, errW_none, errW_some] <;> rfl), by repeat (first | (with_reducible first | exact HB.out | apply below_alloc | apply pw_below_drewN | apply below_drew1) | exact HB.out)⟩
     ·replace c19 := Bool.eq_false_iff.mpr c19
      subst c19
      have H1 : (some false) = some r := by rw [if_neg (show ¬ (false = true) by decide)] at H; exact H
      clear H
      have H := H1
      clear H1
      obtain rfl := Option.some.inj H
      go_wp2_with (first | ((with_reducible refine gate_callee (f := 22) rfl ?_); refine goesL_ (some 37) rfl rfl Tryd.func22 (by kernel_rfl) rfl #[.slice A0 l0.length c0] rfl (by (try simp only [List.map_toArray, List.map_cons, List.map_nil]); first | done | rfl | (simp only [List.length_drop, List.length_take]; rfl)) ?_; (with_reducible refine (laws_toRangeS.calls kj7 _ _ l0 t112 _ ?side1 ?side2 A17.out).mono ?_); (case side1 => repeat (first | exact (Kd.C_below HR0.out HB.out) | (with_reducible refine Kd.C_alloc ?_ _) | (with_reducible refine Kd.C_drewN ?_ _) | (with_reducible refine Kd.C_drew ?_))); (case side2 => exact HC0.out); rintro e w23 ⟨v113, rfl, ho0, hb⟩; refine ⟨_, rfl, ?_⟩; have n0_ := Aside0.mk (Kd.R_elder' (by (with_reducible repeat (first | apply Kd.R_alloc | apply Kd.R_drewN | apply Kd.R_drew)); exact HO_6.out) (Kd.R_base ho0) hb); have n1_ := Aside0.mk (Kd.R_lower (Kd.R_new' ho0 (Kd.R_lt (by (with_reducible repeat (first | apply Kd.R_alloc | apply Kd.R_drewN | apply Kd.R_drew)); exact HO_6.out))) (below_size (by repeat (first | (with_reducible first | exact HB.out | apply below_alloc | apply pw_below_drewN | apply below_drew1) | exact HB.out)))); have n2_ := Aside0.mk (below_step (by repeat (first | (with_reducible first | exact HB.out | apply below_alloc | apply pw_below_drewN | apply below_drew1) | exact HB.out)) hb); clear HO_6; clear HB; have HO_6 := n0_; have HO114 := n1_; have HB := n2_; clear n0_ n1_ n2_; (try clear hb); (try clear hb2); (try clear hk); (try clear hi); (try clear ho0); obtain ⟨Ao24, co24, eo24⟩ := Kd.R_slice HO114.out; subst eo24) | ((with_reducible refine gate_callee (f := 24) rfl ?_); refine goesL_ (some 38) rfl rfl Tryd.func24 (by kernel_rfl) rfl #[.slice Ao13 t107.length co13, .slice Ao24 t112.length co24] rfl (by (try simp only [List.map_toArray, List.map_cons, List.map_nil]); first | done | rfl | (simp only [List.length_drop, List.length_take]; rfl)) ?_; (with_reducible refine (laws_eqRangeS.calls kj7 _ _ t107 _ _ t112 false _ ?side1 ?side2 ?side3 ?side4 A18.out).mono ?_); (case side1 => repeat (first | exact (Kd.R_reads' HO_6.out).2.2 | (with_reducible refine Kd.C_alloc ?_ _) | (with_reducible refine Kd.C_drewN ?_ _) | (with_reducible refine Kd.C_drew ?_))); (case side2 => exact (Kd.R_reads' HO_6.out).2.1); (case side3 => repeat (first | exact (Kd.R_reads' HO114.out).2.2 | (with_reducible refine Kd.C_alloc ?_ _) | (with_reducible refine Kd.C_drewN ?_ _) | (with_reducible refine Kd.C_drew ?_))); (case side4 => exact (Kd.R_reads' HO114.out).2.1); rintro e w25 ⟨rfl, hb⟩; refine ⟨_, rfl, ?_⟩; have n0_ := Aside0.mk (Kd.R_below (by (with_reducible repeat (first | apply Kd.R_alloc | apply Kd.R_drewN | apply Kd.R_drew)); exact HO_6.out) hb); have n1_ := Aside0.mk (Kd.R_below (by (with_reducible repeat (first | apply Kd.R_alloc | apply Kd.R_drewN | apply Kd.R_drew)); exact HO114.out) hb); have n2_ := Aside0.mk (below_step (by repeat (first | (with_reducible first | exact HB.out | apply below_alloc | apply pw_below_drewN | apply below_drew1) | exact HB.out)) hb); clear HO_6; clear HO114; clear HB; have HO_6 := n0_; have HO114 := n1_; have HB := n2_; clear n0_ n1_ n2_; (try clear hb); (try clear hb2); (try clear hk); (try clear hi)))
      go_ret
      exact ⟨by first | rfl | (simp [errW_none, errW_some] <;> rfl) | (simp [*, errW_none, errW_some] <;> rfl), by repeat (first | (with_reducible first | exact HB.out | apply below_alloc | apply pw_below_drewN | apply below_drew1) | exact HB.out)⟩

end Go.Proofs.YtcmifdcgmalnlaaDoor.P
namespace Go.Proofs.YtcmifdcgmalnlaaDoor.P
open Go.RowKit Go.ChangeShapes Go.WideShapes Go.Proofs.YtcmifdcgmalnlaaDoorW.PrintWords

def ok73 (x : S73) : Prop := (Lit.int .i64 x.f0).wf = true ∧ (Lit.int .i64 x.f1).wf = true
theorem tells73 {H : Type} {enc : TypeId × Value → H} {W : World} : Tells enc Tryd.prog W 73 k73 ok73 := Tells.struct (fun y => ⟨y.1, y.2⟩) (fun _ => rfl) Tryd.underlying73 (by kernel_rfl) (TellsF.cons (by kernel_rfl) (Tells.int Tryd.underlying3) rfl (TellsF.one (by kernel_rfl) (Tells.int Tryd.underlying3)))
end Go.Proofs.YtcmifdcgmalnlaaDoor.P
namespace Go.Proofs.YtcmifdcgmalnlaaDoor.P
open Go.RowKit Go.ChangeShapes Go.WideShapes Go.Proofs.YtcmifdcgmalnlaaDoorW.PrintWords

/-- What is to be proved of the law FnExactSetText, over numbers and lists alone. -/
def laws_FnExactSetText.Pure : Prop := ∀ (x0 : List (S73)), (x0.length ≤ maxLen ∧ x0.length * 16 ≤ 140737488351232 ∧ ∀ y ∈ x0, ok73 y) → ∃ k, laws_FnExactSetText.f k x0 = some true
end Go.Proofs.YtcmifdcgmalnlaaDoor.P
/- Lemmas of mine: strings as lists of bytes; whole numbers of 64 bits; rounds. Plain. -/
set_option linter.unusedVariables false
set_option linter.unusedSimpArgs false
namespace Go.Proofs.YtcmifdcgmalnlaaDoor.P
open Go.RowKit Go.Proofs.YtcmifdcgmalnlaaDoorW.PrintWords
/-- As Option.bind_some, but no equation by computing: for terms that are not to be computed by the kernel. -/
theorem bS {α β : Type} (a : α) (f : α → Option β) : (some a).bind f = f a := Eq.trans (Option.bind_some a f) (Eq.refl (f a))
/-- A string's bytes. -/
def bl (s : ByteArray) : List UInt8 := s.data.toList
/-- Bytes as numbers. -/
def nb (l : List UInt8) : List Int := l.map fun b => (b.toNat : Int)
theorem bl_inj {a b : ByteArray} (h : bl a = bl b) : a = b := WideShapes.bytes_inj h
theorem toList_bl (s : ByteArray) : s.toList = bl s := Lib.toList_data s
theorem toList_iff {a b : ByteArray} : a.toList = b.toList ↔ a = b := ⟨fun h => bl_inj (by rw [← toList_bl, ← toList_bl, h]), fun h => by rw [h]⟩
theorem bl_size (s : ByteArray) : s.size = (bl s).length := Lib.size_eq s
theorem bl_append (a b : ByteArray) : bl (a ++ b) = bl a ++ bl b := by simp [bl]
theorem bl_extract (s : ByteArray) (i j : Nat) : bl (s.extract i j) = ((bl s).drop i).take (j - i) := Lib.extract_data s i j
theorem bl_mk (l : List UInt8) : bl ⟨l.toArray⟩ = l := by simp [bl]
theorem bl_empty : bl (⟨#[]⟩ : ByteArray) = [] := rfl
theorem mk_bl (s : ByteArray) : (⟨(bl s).toArray⟩ : ByteArray) = s := bl_inj (bl_mk _)
theorem bytesOf_bl (s : ByteArray) : bytesOf s = nb (bl s) := rfl
theorem nb_length (l : List UInt8) : (nb l).length = l.length := by simp [nb]
theorem nb_append (l m : List UInt8) : nb (l ++ m) = nb l ++ nb m := by simp [nb]
theorem strOf_nb (l : List UInt8) : strOfNums (nb l) = ⟨l.toArray⟩ := by
 simp [strOfNums, nb, Function.comp_def]
theorem bl_strOf_nb (l : List UInt8) : bl (strOfNums (nb l)) = l := by rw [strOf_nb, bl_mk]
theorem bt_eq (s : ByteArray) (i : Nat) (h : i < (bl s).length) : bt s (i : Int) = (((bl s)[i]'h).toNat : Int) := by
 have hs : i < s.size := by rw [bl_size]; exact h
 unfold bt
 rw [dif_pos (by simpa using hs)]
 have h1 := Lib.data_getElem? s i hs
 have h2 : (bl s)[i]? = some ((bl s)[i]'h) := List.getElem?_eq_getElem h
 have h3 : s[i]'hs = (bl s)[i]'h := Option.some.inj (h1.symm.trans h2)
 simp only [Int.toNat_natCast]
 rw [← h3]
theorem rd_nb (l : List UInt8) (i : Nat) (h : i < l.length) : rd (nb l) (i : Int) = ((l[i]'h).toNat : Int) := by
 simp [rd, nb, List.getD_eq_getElem?_getD, List.getElem?_map, List.getElem?_eq_getElem h]
theorem byte_lt (b : UInt8) : b.toNat < 256 := b.toNat_lt
/-- No wrap within the bounds. -/
theorem w64 {n : Int} (h0 : -9223372036854775808 ≤ n) (h1 : n ≤ 9223372036854775807) : wrap64 n = n := by unfold wrap64; omega
theorem w64n (n : Nat) (h1 : n ≤ 9223372036854775807) : wrap64 (n : Int) = n := w64 (by omega) (by omega)
theorem w64s (n : Nat) (h1 : n + 1 ≤ 9223372036854775807) : wrap64 ((n : Int) + 1) = ((n + 1 : Nat) : Int) := by rw [w64 (by omega) (by omega)]; rfl
theorem w64add (a b : Nat) (h : a + b ≤ 9223372036854775807) : wrap64 ((a : Int) + (b : Int)) = ((a + b : Nat) : Int) := by rw [w64 (by omega) (by omega)]; rfl
theorem w64lit (a b : Nat) (h : a + b ≤ 9223372036854775807) : wrap64 ((a : Int) + wrap64 ((b : Int))) = ((a + b : Nat) : Int) := by rw [w64n b (by omega), w64add a b h]
theorem w64sub (a b : Nat) (h : b ≤ a) (h2 : a ≤ 9223372036854775807) : wrap64 ((a : Int) - (b : Int)) = ((a - b : Nat) : Int) := by rw [w64 (by omega) (by omega)]; omega
theorem bits_xor_nat (k : IntKind) (j : Nat) (hj : j ≤ k.bits) (hk : ∀ n : Int, 0 ≤ n → n < 2 ^ j → k.wrap n = n) (a b : Nat) (ha : a < 2 ^ j) (hb : b < 2 ^ j) : bits .xor k a b = ((a ^^^ b : Nat) : Int) := by
 have hp : 2 ^ j ≤ 2 ^ k.bits := Nat.pow_le_pow_right (by decide) hj
 have ha' : a % 2 ^ k.bits = a := Nat.mod_eq_of_lt (Nat.lt_of_lt_of_le ha hp)
 have hb' : b % 2 ^ k.bits = b := Nat.mod_eq_of_lt (Nat.lt_of_lt_of_le hb hp)
 simp only [bits, BitVec.ofInt_natCast, BitVec.toNat_xor, BitVec.toNat_ofNat, ha', hb']
 exact hk _ (Int.natCast_nonneg _) (by exact_mod_cast Nat.xor_lt_two_pow ha hb)
theorem u32_in (n : Int) (h0 : 0 ≤ n) (h1 : n < 2 ^ 32) : IntKind.u32.wrap n = n := by rw [IntKind.wrap_u32]; omega
theorem i64_in32 (n : Int) (h0 : 0 ≤ n) (h1 : n < 2 ^ 32) : IntKind.i64.wrap n = n := by rw [IntKind.wrap_i64]; omega
theorem xor_u32 (a b : Nat) (ha : a < 4294967296) (hb : b < 4294967296) : bits .xor .u32 a b = ((a ^^^ b : Nat) : Int) := bits_xor_nat .u32 32 (by decide) u32_in a b ha hb
theorem xor_i64 (a b : Nat) (ha : a < 4294967296) (hb : b < 4294967296) : bits .xor .i64 a b = ((a ^^^ b : Nat) : Int) := bits_xor_nat .i64 32 (by decide) i64_in32 a b ha hb
/-- Rounds: what is told for all numbers of rounds from some on. -/
theorem Ev.k {α : Type} {g : Nat → Option α} {r : α} (h : Ev g r) : ∃ k, g k = some r := h.rounds
theorem Ev.and {α β : Type} {g : Nat → Option α} {f : Nat → Option β} {r : α} {q : β} (h : Ev g r) (h' : Ev f q) : ∃ K, ∀ k, K ≤ k → g k = some r ∧ f k = some q := by
 obtain ⟨K, h⟩ := h
 obtain ⟨K', h'⟩ := h'
 exact ⟨max K K', fun k hk => ⟨h k (by omega), h' k (by omega)⟩⟩
theorem Ev.uniq {α : Type} {g : Nat → Option α} {r q : α} (h : Ev g r) (h' : Ev g q) : r = q := by
 obtain ⟨K, hk⟩ := Ev.and h h'
 have h1 := hk K (Nat.le_refl _)
 exact Option.some.inj (h1.1.symm.trans h1.2)
end Go.Proofs.YtcmifdcgmalnlaaDoor.P
/- Lemmas of mine: loops that count up: over any function of rounds. Plain. -/
set_option linter.unusedVariables false
set_option linter.unusedSimpArgs false
namespace Go.Proofs.YtcmifdcgmalnlaaDoor.P
open Go.RowKit Go.Proofs.YtcmifdcgmalnlaaDoorW.PrintWords
/-- A loop whose rounds change the place alone. -/
theorem up_loop {R : Type} (L : Nat → Int → Option R) (n : Nat) (r : R)
  (hstep : ∀ i : Nat, i < n → ∃ K, ∀ k, K ≤ k → L (k + 1) (i : Int) = L k ((i + 1 : Nat) : Int))
  (hend : ∃ K, ∀ k, K ≤ k → L (k + 1) (n : Int) = some r) : ∀ d i : Nat, i + d = n → Ev (fun k => L k (i : Int)) r := by
 intro d
 induction d with
 | zero =>
  intro i hi
  obtain rfl : i = n := by omega
  obtain ⟨K, h⟩ := hend
  exact ⟨K + 1, fun k hk => by obtain ⟨m, rfl⟩ : ∃ m, k = m + 1 := ⟨k - 1, by omega⟩; exact h m (by omega)⟩
 | succ d ih =>
  intro i hi
  obtain ⟨K, h⟩ := hstep i (by omega)
  obtain ⟨K2, h2⟩ := ih (i + 1) (by omega)
  refine ⟨K + K2 + 1, fun k hk => ?_⟩
  obtain ⟨m, rfl⟩ : ∃ m, k = m + 1 := ⟨k - 1, by omega⟩
  show L (m + 1) (i : Int) = some r
  rw [h m (by omega)]
  exact h2 m (by omega)
/-- A loop with a state: what holds of the state says what comes out. -/
theorem st_loop {σ R : Type} (L : Nat → σ → Int → Option R) (n : Nat) (out : Nat → σ → R → Prop)
  (hstep : ∀ (i : Nat) (s : σ), i < n → (∃ r, (∃ K, ∀ k, K ≤ k → L (k + 1) s (i : Int) = some r) ∧ out i s r) ∨ ∃ s', (∃ K, ∀ k, K ≤ k → L (k + 1) s (i : Int) = L k s' ((i + 1 : Nat) : Int)) ∧ ∀ r, out (i + 1) s' r → out i s r)
  (hend : ∀ s, ∃ r, (∃ K, ∀ k, K ≤ k → L (k + 1) s (n : Int) = some r) ∧ out n s r) : ∀ (d i : Nat) (s : σ), i + d = n → ∃ r, Ev (fun k => L k s (i : Int)) r ∧ out i s r := by
 intro d
 induction d with
 | zero =>
  intro i s hi
  obtain rfl : i = n := by omega
  obtain ⟨r, ⟨K, h⟩, ho⟩ := hend s
  exact ⟨r, ⟨K + 1, fun k hk => by obtain ⟨m, rfl⟩ : ∃ m, k = m + 1 := ⟨k - 1, by omega⟩; exact h m (by omega)⟩, ho⟩
 | succ d ih =>
  intro i s hi
  rcases hstep i s (by omega) with ⟨r, ⟨K, h⟩, ho⟩ | ⟨s', ⟨K, h⟩, ho⟩
  ·exact ⟨r, ⟨K + 1, fun k hk => by obtain ⟨m, rfl⟩ : ∃ m, k = m + 1 := ⟨k - 1, by omega⟩; exact h m (by omega)⟩, ho⟩
  ·obtain ⟨r, ⟨K2, h2⟩, ho2⟩ := ih (i + 1) s' (by omega)
   refine ⟨r, ⟨K + K2 + 1, fun k hk => ?_⟩, ho r ho2⟩
   obtain ⟨m, rfl⟩ : ∃ m, k = m + 1 := ⟨k - 1, by omega⟩
   show L (m + 1) s (i : Int) = some r
   rw [h m (by omega)]
   exact h2 m (by omega)
theorem map_set {α β : Type} (xs : List α) (ys : List β) (g : α → β) (i : Nat) (hi : i < xs.length) (hl : ys.length = xs.length) (hy : ys.take i = (xs.take i).map g) :
  (ys.set i (g (xs[i]'hi))).take (i + 1) = (xs.take (i + 1)).map g := by
 have e2 : (xs.take (i + 1)).map g = (xs.take i).map g ++ [g (xs[i]'hi)] := by
  rw [List.take_add_one, List.getElem?_eq_getElem hi, List.map_append]
  rfl
 have e : ((xs.take i).map g).length = i := by rw [List.length_map, List.length_take]; omega
 rw [e2, List.take_set, List.take_add_one, List.getElem?_eq_getElem (by omega), hy, List.set_append_right _ _ (by omega), e, Nat.sub_self]
 rfl
/-- A loop that fills a row of the same length. -/
theorem copy_loop {α β : Type} (L : Nat → List β → Int → Option (List β)) (xs : List α) (g : α → β)
  (hstep : ∀ (i : Nat) (ys : List β) (hi : i < xs.length), ys.length = xs.length → ∃ K, ∀ k, K ≤ k → L (k + 1) ys (i : Int) = L k (ys.set i (g (xs[i]'hi))) ((i + 1 : Nat) : Int))
  (hend : ∀ ys, ys.length = xs.length → ∃ K, ∀ k, K ≤ k → L (k + 1) ys (xs.length : Int) = some ys) :
  ∀ (d i : Nat) (ys : List β), i + d = xs.length → ys.length = xs.length → ys.take i = (xs.take i).map g → Ev (fun k => L k ys (i : Int)) (xs.map g) := by
 intro d
 induction d with
 | zero =>
  intro i ys hi hl hy
  obtain rfl : i = xs.length := by omega
  rw [List.take_of_length_le (by omega), List.take_of_length_le (Nat.le_refl _)] at hy
  subst hy
  obtain ⟨K, h⟩ := hend _ hl
  exact ⟨K + 1, fun k hk => by obtain ⟨m, rfl⟩ : ∃ m, k = m + 1 := ⟨k - 1, by omega⟩; exact h m (by omega)⟩
 | succ d ih =>
  intro i ys hi hl hy
  obtain ⟨K, h⟩ := hstep i ys (by omega) hl
  obtain ⟨K2, h2⟩ := ih (i + 1) (ys.set i (g (xs[i]'(by omega)))) (by omega) (by rw [List.length_set]; exact hl) (map_set xs ys g i (by omega) hl hy)
  refine ⟨K + K2 + 1, fun k hk => ?_⟩
  obtain ⟨m, rfl⟩ : ∃ m, k = m + 1 := ⟨k - 1, by omega⟩
  show L (m + 1) ys (i : Int) = _
  rw [h m (by omega)]
  exact h2 m (by omega)
theorem getD_nat {α : Type} (xs : List α) (z : α) (i : Nat) (h : i < xs.length) : xs.getD ((i : Nat) : Int).toNat z = xs[i]'h := by
 rw [Int.toNat_natCast, List.getD_eq_getElem?_getD, List.getElem?_eq_getElem h]; rfl
end Go.Proofs.YtcmifdcgmalnlaaDoor.P
/- Lemmas of mine: bounds, the fields of a log. Plain. -/
set_option linter.unusedVariables false
set_option linter.unusedSimpArgs false
namespace Go.Proofs.YtcmifdcgmalnlaaDoor.P
open Go.RowKit Go.Proofs.YtcmifdcgmalnlaaDoorW.PrintWords
theorem l01In_eq (a b c : Int) : spec_l01In.f a b c = some (decide (b ≤ a ∧ a ≤ c)) := by
 unfold spec_l01In.f
 by_cases h : a ≥ b
 ·rw [if_pos h]; simp [show b ≤ a from h]
 ·rw [if_neg h]; simp; omega
theorem within_eq (a b c : Int) : impl_within.f a b c = some (decide (b ≤ a ∧ a ≤ c)) := l01In_eq a b c
end Go.Proofs.YtcmifdcgmalnlaaDoor.P
/- Lemmas of mine: lists of ranges: copied, the same; right sets; what is in a set. Plain. -/
set_option linter.unusedVariables false
set_option linter.unusedSimpArgs false
namespace Go.Proofs.YtcmifdcgmalnlaaDoor.P
open Go.RowKit Go.Proofs.YtcmifdcgmalnlaaDoorW.PrintWords
def rgM (x : S73) : S54 := ⟨x.f0, x.f1⟩
theorem toRangeS_ev (xs : List S73) (h : xs.length ≤ 17592186044416) : Ev (fun k => laws_toRangeS.f k xs) (xs.map rgM) := by
 refine Ev.congr (f := fun k => laws_toRangeS.l0 k xs (List.replicate xs.length z54) ((0 : Nat) : Int)) (fun k => ?_)
  (copy_loop (fun k ys i => laws_toRangeS.l0 k xs ys i) xs rgM ?_ ?_ xs.length 0 _ (by omega) (by simp) (by simp))
 ·simp only [laws_toRangeS.f, Int.toNat_natCast]
  rw [if_pos (by omega), if_pos h]
  rfl
 ·intro i ys hi hl
  refine ⟨0, fun k _ => ?_⟩
  simp only [laws_toRangeS.l0, laws_toRange.f, rd_T73, getD_nat xs _ i hi, bS]
  rw [if_pos (by omega), if_pos (by omega), if_pos (by omega), w64s i (by omega), Int.toNat_natCast]
  rfl
 ·intro ys hl
  refine ⟨0, fun k _ => ?_⟩
  simp only [laws_toRangeS.l0]
  rw [if_neg (by omega)]
theorem eqRangeS_self (ys : List S54) (h : ys.length ≤ 4611686018427387904) : Ev (fun k => laws_eqRangeS.f k ys ys) true := by
 refine Ev.congr (f := fun k => laws_eqRangeS.l0 k ys ys ((0 : Nat) : Int)) (fun k => ?_)
  (up_loop (fun k i => laws_eqRangeS.l0 k ys ys i) ys.length true ?_ ⟨0, fun k _ => ?_⟩ ys.length 0 (by omega))
 ·unfold laws_eqRangeS.f
  exact if_pos rfl
 ·intro i hi
  refine ⟨0, fun k _ => ?_⟩
  simp only [laws_eqRangeS.l0, laws_eqRange.f, if_true, bS]
  rw [if_pos (by omega), if_pos (by omega), if_pos (by omega), w64s i (by omega)]
 ·simp only [laws_eqRangeS.l0]
  rw [if_neg (by omega)]
theorem szRangeS_some (xs : List S73) (n : Int) : ∃ z, laws_szRangeS.f xs n = some z := by
 unfold laws_szRangeS.f
 split <;> exact ⟨_, rfl⟩
/-- A right range; a right set. -/
def rangeR (x : S54) : Bool := decide ((0 ≤ x.f0 ∧ x.f0 ≤ 4294967295) ∧ (0 ≤ x.f1 ∧ x.f1 ≤ 4294967295))
def setR (l : List S54) : Bool := decide (1 ≤ l.length ∧ l.length ≤ 50) && l.all rangeR
theorem specSetOK_ev (l : List S54) : Ev (fun k => spec_l11SetOK.f k l) (setR l) := by
 unfold setR
 by_cases h : 1 ≤ l.length ∧ l.length ≤ 50
 ·rw [decide_eq_true h, Bool.true_and]
  have hl : ∀ (d i : Nat), i + d = l.length → Ev (fun k => spec_l11SetOK.l0 k l (i : Int)) ((l.drop i).all rangeR) := by
   intro d
   induction d with
   | zero =>
    intro i hi
    rw [List.drop_eq_nil_of_le (by omega)]
    refine Ev.step (f := fun _ => some _) (fun k => ?_) (Ev.now _)
    simp only [spec_l11SetOK.l0]
    rw [if_neg (by omega)]
    rfl
   | succ d ih =>
    intro i hi
    have hlt : i < l.length := by omega
    rw [List.drop_eq_getElem_cons hlt, List.all_cons]
    have e : ∀ k, spec_l11SetOK.l0 (k + 1) l (i : Int) = if rangeR (l[i]'hlt) = true then spec_l11SetOK.l0 k l ((i + 1 : Nat) : Int) else some false := fun k => by
     simp only [spec_l11SetOK.l0, rd_T54, getD_nat l _ i hlt, l01In_eq, bS, decide_eq_true_eq]
     rw [if_pos (by omega), if_pos (by omega), w64s i (by omega)]
     generalize l[i]'hlt = x
     unfold rangeR
     by_cases h1 : 0 ≤ x.f0 ∧ x.f0 ≤ 4294967295
     ·rw [if_pos h1]
      by_cases h2 : 0 ≤ x.f1 ∧ x.f1 ≤ 4294967295
      ·rw [if_pos h2, if_pos (decide_eq_true ⟨h1, h2⟩)]
      ·rw [if_neg h2, if_neg (by simp only [decide_eq_true_eq]; exact fun h => h2 h.2)]
     ·rw [if_neg h1, if_neg (by simp only [decide_eq_true_eq]; exact fun h => h1 h.1)]
    cases hx : rangeR (l[i]'hlt) with
    | true =>
     rw [Bool.true_and]
     exact Ev.step (f := fun k => spec_l11SetOK.l0 k l ((i + 1 : Nat) : Int)) (fun k => by rw [e, if_pos hx]) (ih (i + 1) (by omega))
    | false =>
     rw [Bool.false_and]
     exact Ev.step (f := fun _ => some _) (fun k => by rw [e, if_neg (by rw [hx]; decide)]) (Ev.now _)
  refine Ev.congr (fun k => ?_) (hl l.length 0 (by omega))
  simp only [spec_l11SetOK.f, l01In_eq, bS]
  rw [if_pos (by rw [decide_eq_true_eq]; omega)]
  rfl
 ·rw [decide_eq_false h, Bool.false_and]
  refine ⟨0, fun k _ => ?_⟩
  simp only [spec_l11SetOK.f, l01In_eq, bS]
  rw [if_neg (by rw [decide_eq_true_eq]; omega)]
theorem implRange_L (x : S54) : impl_setOK_L1.f x.f0 x.f1 = some (!rangeR x) := by
 simp only [impl_setOK_L1.f, within_eq, bS, decide_eq_true_eq, rangeR]
 by_cases h1 : 0 ≤ x.f0 ∧ x.f0 ≤ 4294967295
 ·rw [if_pos h1]
  congr 2
  rw [decide_eq_decide]
  exact ⟨fun h => ⟨h1, h⟩, fun h => h.2⟩
 ·rw [if_neg h1]
  congr 1
  rw [decide_eq_false (fun h => h1 h.1)]
  rfl
theorem implSetOK_eq (l : List S54) : impl_setOK.f l = some (setR l) := by
 unfold setR
 simp only [impl_setOK.f, within_eq, bS]
 by_cases h : 1 ≤ l.length ∧ l.length ≤ 50
 ·have e : (fun x : S54 => (impl_setOK_L1.f x.f0 x.f1) == some true) = fun x => !rangeR x := by
   funext x
   rw [implRange_L]
   cases rangeR x <;> rfl
  have h2 : slices_ContainsFunc_Range_at_impl_setOK_L1.f l = some (!l.all rangeR) := by
   unfold slices_ContainsFunc_Range_at_impl_setOK_L1.f
   rw [if_pos ⟨by omega, by rw [List.all_eq_true]; intro x _; rw [implRange_L]; rfl⟩, e, List.not_all_eq_any_not]
  rw [if_pos (by rw [decide_eq_true_eq]; omega), h2, bS, decide_eq_true h, Bool.not_not, Bool.true_and]
 ·rw [if_neg (by rw [decide_eq_true_eq]; omega), decide_eq_false h, Bool.false_and]
end Go.Proofs.YtcmifdcgmalnlaaDoor.P
/- Lemmas of mine: a set's text: the two SetText tell the same. Plain. -/
set_option linter.unusedVariables false
set_option linter.unusedSimpArgs false
namespace Go.Proofs.YtcmifdcgmalnlaaDoor.P
open Go.RowKit Go.Proofs.YtcmifdcgmalnlaaDoorW.PrintWords
def mkT (l : List UInt8) : ByteArray := ⟨l.toArray⟩
theorem bl_mkT (l : List UInt8) : bl (mkT l) = l := bl_mk l
theorem mkT_app (a b : List UInt8) : mkT a ++ mkT b = mkT (a ++ b) := bl_inj (by rw [bl_append, bl_mkT, bl_mkT, bl_mkT])
theorem mkT_size (l : List UInt8) : (mkT l).size = l.length := by rw [bl_size, bl_mkT]
theorem decDigits_len : ∀ (n : Nat), (Lib.decDigits n).length ≤ n + 1 := by
 intro n
 induction n using Nat.strongRecOn with
 | _ n ih =>
  unfold Lib.decDigits
  split
  ·simp
  ·rename_i h
   have := ih (n / 10) (by omega)
   rw [List.length_append]
   simp only [List.length_cons, List.length_nil]
   omega
theorem dig1 (d : Nat) (h : d < 10) : strOfNums ([(wrap64 (48 + (d : Int))) % 256] : List Int) = mkT [UInt8.ofNat (48 + d)] := by
 have e : (wrap64 (48 + (d : Int))) % 256 = ((48 + d : Nat) : Int) := by rw [w64 (by omega) (by omega)]; omega
 have e2 : ([((48 + d : Nat) : Int)] : List Int) = nb [UInt8.ofNat (48 + d)] := by
  show _ = [((UInt8.ofNat (48 + d)).toNat : Int)]
  rw [UInt8.toNat_ofNat_of_lt' (by show 48 + d < 256; omega)]
 rw [e, e2, strOf_nb]
 rfl
theorem digits_ev : ∀ (n : Nat), n ≤ 4611686018427387904 → Ev (fun k => spec_l00Digits.f k (n : Int)) (mkT (Lib.decDigits n)) := by
 intro n
 induction n using Nat.strongRecOn with
 | _ n ih =>
  intro hn
  by_cases h : n < 10
  ·refine Ev.step (f := fun _ => some _) (fun k => ?_) (Ev.now _)
   unfold Lib.decDigits
   simp only [spec_l00Digits.f]
   rw [if_neg (by omega), if_neg (by omega), if_pos (by omega), dig1 n h, dif_pos h]
  ·obtain ⟨K, hK⟩ := ih (n / 10) (by omega) (by omega)
   refine ⟨K + 1, fun k hk => ?_⟩
   obtain ⟨m, rfl⟩ : ∃ m, k = m + 1 := ⟨k - 1, by omega⟩
   have e := hK m (by omega)
   simp only at e ⊢
   have e1 : Aside0 (wrap64 (Int.tdiv (n : Int) 10) = ((n / 10 : Nat) : Int)) := ⟨by
    rw [Int.tdiv_eq_ediv_of_nonneg (by omega), w64 (by omega) (by omega)]; omega⟩
   have e2 : Aside0 (Int.tmod (n : Int) 10 = ((n % 10 : Nat) : Int)) := ⟨by
    rw [Int.tmod_eq_emod_of_nonneg (by omega)]; omega⟩
   have hd := dig1 (n % 10) (by omega)
   have hlen := decDigits_len (n / 10)
   simp only [spec_l00Digits.f]
   rw [if_neg (by omega), if_neg (by omega), if_neg (by omega), e1.out, e2.out, e, bS, bS, hd, mkT_size, mkT_size]
   simp only [List.length_cons, List.length_nil]
   rw [if_pos (by omega), mkT_app]
   congr 2
   conv => rhs; unfold Lib.decDigits
   rw [dif_neg h]
/-- An end's text. -/
def endT (n : Int) : List UInt8 := if n = 0 then [42] else Lib.decDigits n.toNat
theorem endT_len (n : Int) (h : 0 ≤ n ∧ n ≤ 4294967295) : (endT n).length ≤ 4294967297 := by
 unfold endT
 split
 ·simp
 ·have := decDigits_len n.toNat
  omega
theorem specName_ev (n : Int) (h : 0 ≤ n ∧ n ≤ 4294967295) : Ev (fun k => spec_l11Name.f k n) (mkT (endT n)) := by
 unfold endT
 by_cases h0 : n = 0
 ·rw [if_pos h0]
  exact ⟨0, fun k _ => by simp only [spec_l11Name.f]; rw [if_pos h0]; rfl⟩
 ·rw [if_neg h0]
  obtain ⟨K, hK⟩ := digits_ev n.toNat (by omega)
  rw [Int.toNat_of_nonneg h.1] at hK
  refine ⟨K, fun k hk => ?_⟩
  have e := hK k hk
  simp only at e
  simp only [spec_l11Name.f, e, bS]
  rw [if_neg h0]
theorem implEndT (n : Int) (h : 0 ≤ n ∧ n ≤ 4294967295) : impl_endText.f n = some (mkT (endT n)) := by
 simp only [impl_endText.f]
 unfold endT
 by_cases h0 : n = 0
 ·rw [if_pos h0, if_pos h0]; rfl
 ·rw [if_neg h0, if_neg h0]
  unfold strconv_Itoa_95.f
  rw [if_pos ⟨by omega, by omega⟩, bS]
  unfold Lib.itoa
  rw [if_neg (by omega)]
  rfl
/-- A range's text. -/
def rngT (x : S54) : List UInt8 := if x.f1 = x.f0 then endT x.f0 else endT x.f0 ++ 58 :: endT x.f1
def okRg (x : S54) : Prop := (0 ≤ x.f0 ∧ x.f0 ≤ 4294967295) ∧ (0 ≤ x.f1 ∧ x.f1 ≤ 4294967295)
theorem rngT_len (x : S54) (h : okRg x) : (rngT x).length ≤ 8589934595 := by
 have h0 := endT_len x.f0 h.1
 have h1 := endT_len x.f1 h.2
 unfold rngT
 split
 ·omega
 ·rw [List.length_append, List.length_cons]; omega
/-- Put together with commas. -/
def jn : List (List UInt8) → List UInt8
 | [] => []
 | [x] => x
 | x :: y :: r => x ++ 44 :: jn (y :: r)
theorem jn_join : ∀ l : List (List UInt8), Lib.join l [44] = jn l
 | [] => rfl
 | [x] => by simp [Lib.join, jn, List.intercalate, List.intersperse]
 | x :: y :: r => by
  have h := jn_join (y :: r)
  unfold Lib.join at h ⊢
  rw [jn, ← h]
  simp [List.intercalate, List.intersperse]
theorem jn_snoc : ∀ (l : List (List UInt8)) (x : List UInt8), jn (l ++ [x]) = if l = [] then x else jn l ++ 44 :: x
 | [], x => rfl
 | [a], x => by simp [jn]
 | a :: b :: r, x => by
  have h := jn_snoc (b :: r) x
  rw [if_neg (by simp)] at h
  rw [if_neg (by simp), List.cons_append, List.cons_append, jn, ← List.cons_append, h, jn]
  simp
theorem jn_len (B : Nat) : ∀ (l : List (List UInt8)), (∀ x ∈ l, x.length ≤ B) → (jn l).length ≤ l.length * (B + 1)
 | [], _ => Nat.zero_le _
 | [x], h => by
  have := h x (List.mem_cons_self ..)
  show x.length ≤ 1 * (B + 1)
  omega
 | x :: y :: r, h => by
  have h1 := h x (List.mem_cons_self ..)
  have h2 := jn_len B (y :: r) (fun z hz => h z (List.mem_cons_of_mem _ hz))
  rw [jn, List.length_append, List.length_cons, List.length_cons, Nat.add_mul]
  omega
theorem jn_bound (l : List S54) (h : ∀ x ∈ l, okRg x) (hl : l.length ≤ 50) : (jn (l.map rngT)).length ≤ 429496729800 := by
 have := jn_len 8589934595 (l.map rngT) (fun y hy => by
  obtain ⟨x, hx, rfl⟩ := List.mem_map.1 hy
  exact rngT_len x (h x hx))
 rw [List.length_map] at this
 have h2 : l.length * (8589934595 + 1) ≤ 50 * (8589934595 + 1) := Nat.mul_le_mul_right _ hl
 omega
theorem rdR_nat (l : List S54) (i : Nat) (h : i < l.length) : rd_T54 l (i : Int) = l[i]'h := by
 simp only [rd_T54, Int.toNat_natCast, List.getD_eq_getElem?_getD]
 rw [List.getElem?_eq_getElem h]; rfl
theorem take_jn (l : List S54) (i : Nat) (h : i < l.length) : jn ((l.take (i + 1)).map rngT) = if i = 0 then rngT (l[i]'h) else jn ((l.take i).map rngT) ++ 44 :: rngT (l[i]'h) := by
 have ht : l.take (i + 1) = l.take i ++ [l[i]'h] := by rw [List.take_add_one, List.getElem?_eq_getElem h]; rfl
 rw [ht, List.map_append, List.map_cons, List.map_nil, jn_snoc]
 by_cases h0 : i = 0
 ·subst h0
  rw [if_pos (by simp), if_pos rfl]
 ·rw [if_neg h0, if_neg]
  intro e
  have := congrArg List.length e
  rw [List.length_map, List.length_take, List.length_nil] at this
  omega
theorem specText_j1 (l : List S54) (hl : l.length ≤ 50) (i : Nat) (hi : i < l.length) (hx : okRg (l[i]'hi)) (o : List UInt8) (ho : o.length ≤ 429496729900) (r : ByteArray × Int) (hr : Ev (fun k => spec_SetText.l0 k l (mkT (o ++ rngT (l[i]'hi))) ((i + 1 : Nat) : Int)) r) : Ev (fun k => spec_SetText.j1 k l (mkT o) (i : Int)) r := by
 obtain ⟨K0, h0⟩ := specName_ev (l[i]'hi).f0 hx.1
 obtain ⟨K1, h1⟩ := specName_ev (l[i]'hi).f1 hx.2
 obtain ⟨K2, h2⟩ := hr
 have b0 := endT_len _ hx.1
 have b1 := endT_len _ hx.2
 refine ⟨K0 + K1 + K2 + 1, fun k hk => ?_⟩
 obtain ⟨m, rfl⟩ : ∃ m, k = m + 1 := ⟨k - 1, by omega⟩
 have e0 := h0 m (by omega)
 have e1 := h1 m (by omega)
 have e2 := h2 m (by omega)
 simp only at e0 e1 e2 ⊢
 have hone : (⟨#[58]⟩ : ByteArray) = mkT [58] := rfl
 simp only [spec_SetText.j1, rdR_nat l i hi, e0, e1, bS, hone, mkT_app, mkT_size]
 rw [if_pos (by omega), if_pos (by omega), if_pos (by omega), w64s i (by omega)]
 unfold rngT at e2
 by_cases hq : (l[i]'hi).f1 = (l[i]'hi).f0
 ·rw [if_pos hq]
  rw [if_pos hq] at e2
  exact e2
 ·rw [if_neg hq, if_pos (by omega), if_pos (by rw [List.length_append, List.length_append]; simp only [List.length_cons, List.length_nil]; omega)]
  rw [if_neg hq] at e2
  rw [List.append_assoc]
  exact e2
theorem specText_l0 (l : List S54) (hl : l.length ≤ 50) (hok : ∀ x ∈ l, okRg x) : ∀ (d i : Nat), i + d = l.length → Ev (fun k => spec_SetText.l0 k l (mkT (jn ((l.take i).map rngT))) (i : Int)) (mkT (jn (l.map rngT)), 0) := by
 intro d
 induction d with
 | zero =>
  intro i hi
  rw [List.take_of_length_le (by omega)]
  refine Ev.step (f := fun _ => some _) (fun k => ?_) (Ev.now _)
  simp only [spec_SetText.l0]
  rw [if_neg (by omega)]
 | succ d ih =>
  intro i hi
  have hlt : i < l.length := by omega
  have hx := hok _ (List.getElem_mem hlt)
  have hb := jn_bound (l.take i) (fun x hx => hok x (List.mem_of_mem_take hx)) (by rw [List.length_take]; omega)
  have h := ih (i + 1) (by omega)
  rw [take_jn l i hlt] at h
  have hone : (⟨#[44]⟩ : ByteArray) = mkT [44] := rfl
  by_cases h0 : i = 0
  ·subst h0
   rw [if_pos rfl] at h
   refine Ev.step (fun k => ?_) (specText_j1 l hl 0 hlt hx [] (by simp) _ h)
   simp only [spec_SetText.l0]
   rw [if_pos (by omega), if_neg (by omega)]
   rfl
  ·rw [if_neg h0] at h
   have e : jn ((l.take i).map rngT) ++ 44 :: rngT (l[i]'hlt) = (jn ((l.take i).map rngT) ++ [44]) ++ rngT (l[i]'hlt) := by simp
   rw [e] at h
   refine Ev.step (fun k => ?_) (specText_j1 l hl i hlt hx (jn ((l.take i).map rngT) ++ [44]) (by rw [List.length_append]; simp only [List.length_cons, List.length_nil]; omega) _ h)
   simp only [spec_SetText.l0, hone, mkT_app, mkT_size]
   rw [if_pos (by omega), if_pos (by omega), if_pos (by omega)]
theorem implText_l0 (l : List S54) (hl : l.length ≤ 50) (hok : ∀ x ∈ l, okRg x) : ∀ (d i : Nat) (a : List ByteArray), i + d = l.length → a.length = l.length → a.take i = (l.take i).map (fun x => mkT (rngT x)) → Ev (fun k => impl_SetText.l0 k a l (l.length : Int) (i : Int)) (mkT (jn (l.map rngT)), 0) := by
 intro d
 induction d with
 | zero =>
  intro i a hi ha ht
  rw [List.take_of_length_le (by omega), List.take_of_length_le (by omega)] at ht
  subst ht
  have hb := jn_bound l hok hl
  have hj : joinB (l.map fun x => mkT (rngT x)) (⟨#[44]⟩ : ByteArray) = jn (l.map rngT) := by
   unfold joinB
   rw [List.map_map]
   have e : (fun x : ByteArray => x.data.toList) ∘ (fun x => mkT (rngT x)) = rngT := funext fun x => bl_mkT _
   rw [e]
   exact jn_join _
  refine Ev.step (f := fun _ => some _) (fun k => ?_) (Ev.now _)
  simp only [impl_SetText.l0, strings_Join.f, hj]
  rw [if_neg (by omega), if_pos ⟨by rw [List.length_map]; omega, by omega⟩, bS]
  rfl
 | succ d ih =>
  intro i a hi ha ht
  have hlt : i < l.length := by omega
  have hx := hok _ (List.getElem_mem hlt)
  have b0 := endT_len _ hx.1
  have b1 := endT_len _ hx.2
  have hnext : ∀ b : ByteArray, b = mkT (rngT (l[i]'hlt)) → (a.set i b).take (i + 1) = (l.take (i + 1)).map (fun x => mkT (rngT x)) := by
   intro b hb
   rw [List.take_set, List.take_add_one, List.getElem?_eq_getElem (by omega), List.take_add_one, List.getElem?_eq_getElem hlt]
   have hl2 : (a.take i).length = i := by rw [List.length_take]; omega
   rw [List.set_append_right _ _ (by omega), hl2, Nat.sub_self, ht]
   simp only [hb, Option.toList_some, List.set_cons_zero, List.map_append, List.map_cons, List.map_nil]
  have hone : (⟨#[58]⟩ : ByteArray) = mkT [58] := rfl
  by_cases hq : (l[i]'hlt).f1 = (l[i]'hlt).f0
  ·have h := ih (i + 1) (a.set i (mkT (endT (l[i]'hlt).f0))) (by omega) (by rw [List.length_set]; exact ha) (hnext _ (by unfold rngT; rw [if_pos hq]))
   refine Ev.step (fun k => ?_) h
   simp only [impl_SetText.l0, rdR_nat l i hlt, implEndT _ hx.1, bS, Int.toNat_natCast]
   rw [if_pos (by omega), if_pos (by omega), if_pos (by omega), if_pos (by omega), if_pos hq, w64s i (by omega)]
  ·have h := ih (i + 1) (a.set i (mkT (rngT (l[i]'hlt)))) (by omega) (by rw [List.length_set]; exact ha) (hnext _ rfl)
   refine Ev.step (fun k => ?_) h
   have hrd : rdOf ByteArray.empty (a.set i (mkT (endT (l[i]'hlt).f0))) (i : Int) = mkT (endT (l[i]'hlt).f0) := by
    unfold rdOf
    rw [Int.toNat_natCast, List.getD_eq_getElem?_getD, List.getElem?_set_self (by omega)]; rfl
   have hrt : mkT (rngT (l[i]'hlt)) = mkT (endT (l[i]'hlt).f0 ++ ([58] ++ endT (l[i]'hlt).f1)) := by unfold rngT; rw [if_neg hq]; rfl
   rw [hrt]
   simp only [impl_SetText.l0, rdR_nat l i hlt, implEndT _ hx.1, implEndT _ hx.2, bS, Int.toNat_natCast, hrd, hone, mkT_app, mkT_size, List.set_set]
   rw [if_pos (by omega), if_pos (by omega), if_pos (by omega), if_pos (by omega), if_neg hq, if_pos (by omega), if_pos (by rw [List.length_append]; simp only [List.length_cons, List.length_nil]; omega), w64s i (by omega)]
theorem setR_ok {l : List S54} (h : setR l = true) : (1 ≤ l.length ∧ l.length ≤ 50) ∧ ∀ x ∈ l, okRg x := by
 unfold setR at h
 rw [Bool.and_eq_true, decide_eq_true_eq] at h
 exact ⟨h.1, fun x hx => by
  have := List.all_eq_true.1 h.2 x hx
  unfold rangeR at this
  unfold okRg
  exact of_decide_eq_true this⟩
theorem setText_both (l : List S54) : ∃ r, Ev (fun k => spec_SetText.f k l) r ∧ Ev (fun k => impl_SetText.f k l) r := by
 by_cases h : l.length > 4096
 ·refine ⟨((⟨#[]⟩ : ByteArray), 2), ⟨0, fun k _ => ?_⟩, ⟨0, fun k _ => ?_⟩⟩
  ·simp only [spec_SetText.f]; rw [if_pos (by omega)]
  ·simp only [impl_SetText.f]; rw [if_pos (by omega)]
 ·obtain ⟨K0, h0⟩ := specSetOK_ev l
  cases hs : setR l with
  | false =>
   rw [hs] at h0
   refine ⟨((⟨#[]⟩ : ByteArray), 1), ⟨K0, fun k hk => ?_⟩, ⟨0, fun k _ => ?_⟩⟩
   ·have e := h0 k hk
    simp only at e
    simp only [spec_SetText.f, e, bS]; rw [if_neg (by omega), if_neg (by decide)]
   ·simp only [impl_SetText.f, implSetOK_eq, hs, bS]; rw [if_neg (by omega), if_neg (by decide)]
  | true =>
   rw [hs] at h0
   obtain ⟨hl, hok⟩ := setR_ok hs
   obtain ⟨K1, h1⟩ := specText_l0 l hl.2 hok l.length 0 (by omega)
   obtain ⟨K2, h2⟩ := implText_l0 l hl.2 hok l.length 0 (List.replicate l.length (⟨#[]⟩ : ByteArray)) (by omega) (by simp) (by simp)
   refine ⟨(mkT (jn (l.map rngT)), 0), ⟨K0 + K1, fun k hk => ?_⟩, ⟨K2, fun k hk => ?_⟩⟩
   ·have e := h0 k (by omega)
    have e1 := h1 k (by omega)
    simp only at e e1
    simp only [spec_SetText.f, e, bS]; rw [if_neg (by omega), if_pos trivial]
    exact e1
   ·have e2 := h2 k hk
    simp only at e2
    simp only [impl_SetText.f, implSetOK_eq, hs, bS, Int.toNat_natCast]
    rw [if_neg (by omega), if_pos trivial, if_pos (by omega), if_pos (by omega)]
    exact e2
end Go.Proofs.YtcmifdcgmalnlaaDoor.P
/- The pure statement of the law FnExactSetText: the two SetText tell the same. No condition. -/
set_option linter.unusedVariables false
set_option linter.unusedSimpArgs false
namespace Go.Proofs.YtcmifdcgmalnlaaDoor.Pure
open Go.RowKit Go.Proofs.YtcmifdcgmalnlaaDoor.P Go.Proofs.YtcmifdcgmalnlaaDoorW.PrintWords
theorem FnExactSetText : laws_FnExactSetText.Pure := by
 intro l hl
 obtain ⟨z, h0⟩ := szRangeS_some l 1048576
 obtain ⟨_, hlen, _⟩ := hl
 obtain ⟨K1, h1⟩ := toRangeS_ev l (by omega)
 obtain ⟨⟨a, b⟩, ⟨K2, h2⟩, ⟨K3, h3⟩⟩ := setText_both (l.map rgM)
 obtain ⟨K4, h4⟩ := eqRangeS_self (l.map rgM) (by rw [List.length_map]; omega)
 obtain ⟨K, hK⟩ : ∃ K, K1 + K2 + K3 + K4 = K := ⟨_, rfl⟩
 refine ⟨K + 1, ?_⟩
 have e1 := h1 (K + 1) (by omega)
 have e2 := h2 (K + 1) (by omega)
 have e3 := h3 (K + 1) (by omega)
 have f1 := h1 K (by omega)
 have f4 := h4 K (by omega)
 simp only at e1 e2 e3 f1 f4
 have hb : (b != b) = false := by simp
 have ej : laws_FnExactSetText.j0 (K + 1) l (l.map rgM) false = some true := by
  simp only [laws_FnExactSetText.j0, f1, f4, bS, if_true]
  rw [if_neg (by decide)]
 simp only [laws_FnExactSetText.f, h0, e1, e2, e3, bS, if_true, hb, ej]
 split <;> rfl
end Go.Proofs.YtcmifdcgmalnlaaDoor.Pure
