/- Part 2 of what the law FnExactSetHas stands on; the last part ends with the law's row. No condition of mine. -/
import Derived.Test.YtejdnbdppgakeaaMFnExactSetHas0
import Derived.Test.YtejdnbdppgakeaaMFnExactSetHas1
import Derived.Lib.Strings
import Derived.Lib.IndexBytes
import Derived.Laws.BitsLemmas
import Derived.IntWalk
import Derived.Test.YtejdnbdppgakeaaRows
import Derived.WalkKit
import Derived.ProofKit
import Derived.OpenShut
import Derived.ShutString
import Derived.ChangeOld
import Derived.Below
import Derived.SizedLaws
import Derived.Carry
namespace Go.Proofs.Ytejdnbdppgakeaa.P
open Go.RowKit Go.Proofs.YtejdnbdppgakeaaW.PrintWords Go.Proofs.YtejdnbdppgakeaaW.PrintLast Go.Proofs.YtejdnbdppgakeaaW.PrintMore
attribute [local go_sem] max2_int min2_int max_two min_two max_three min_three max_four min_four   -- for this text's walks alone
set_option linter.unusedVariables false
set_option linter.unusedSimpArgs false

/-! ### laws_FnExactSetHas: function 8 -/
def laws_FnExactSetHas.j0 : Nat → List (S88) → List (S86) → Bool → Option (Bool)
  | 0, _, _, _ => none
  | k + 1, x0, x10, x42 => if x42 = true then (some false) else ((laws_toRangeS.f k x0).bind fun t112 => ((laws_eqRangeS.f k x10 t112).bind fun t115 => (if t115 = true then (some true) else (some false))))
def laws_FnExactSetHas.f (k : Nat) (l0 : List (S88)) (a1 : Int) (a2 : Int) : Option (Bool) := (laws_szRangeS.f l0 1048576).bind fun t101 => (if t101 < 0 then (some true) else ((laws_toRangeS.f k l0).bind fun t102 => ((spec_SetHas.f k t102 a1 a2).bind fun bt105 => ((laws_toRangeS.f k l0).bind fun t107 => ((impl_SetHas.f t107 a1 a2).bind fun bt110 => (if (bt110.1 != bt105.1) = true then (laws_FnExactSetHas.j0 k l0 t107 true) else (laws_FnExactSetHas.j0 k l0 t107 (bt110.2 != bt105.2))))))))
theorem laws_FnExactSetHas.mono_l : ∀ k, (∀ y0 y1 y2, LeO (laws_FnExactSetHas.j0 k y0 y1 y2) (laws_FnExactSetHas.j0 (k + 1) y0 y1 y2))
  | 0 => fun _ _ _ r h => by simp [laws_FnExactSetHas.j0] at h
  | k + 1 => by
    have ih0 := laws_FnExactSetHas.mono_l k
    · intro y0 y1 y2
      unfold laws_FnExactSetHas.j0
      repeat' first
      | (with_reducible exact ih0 _ _ _)
      | (with_reducible exact laws_eqRangeS.mono _ _ _)
      | (with_reducible exact laws_toRangeS.mono _ _)
      | (with_reducible exact spec_SetHas.mono _ _ _ _)
      | (with_reducible exact LeO.refl _)
      | (with_reducible exact LeO.none _)
      | (with_reducible refine LeO.ite ?_ ?_)
      | (with_reducible refine LeO.bind ?_ (fun _ => ?_))
      | exact ih0 _ _ _
      | exact laws_eqRangeS.mono _ _ _
      | exact laws_toRangeS.mono _ _
      | exact spec_SetHas.mono _ _ _ _
      | exact LeO.none _
      | refine LeO.ite ?_ ?_
      | refine LeO.bind ?_ (fun _ => ?_)
theorem laws_FnExactSetHas.mono : ∀ a0 a1 a2 k, LeO (laws_FnExactSetHas.f k a0 a1 a2) (laws_FnExactSetHas.f (k + 1) a0 a1 a2) := by
  intro a0 a1 a2 k
  have ih0 := laws_FnExactSetHas.mono_l k
  unfold laws_FnExactSetHas.f
  repeat' first
      | (with_reducible exact ih0 _ _ _)
      | (with_reducible exact laws_eqRangeS.mono _ _ _)
      | (with_reducible exact laws_toRangeS.mono _ _)
      | (with_reducible exact spec_SetHas.mono _ _ _ _)
      | (with_reducible exact LeO.refl _)
      | (with_reducible exact LeO.none _)
      | (with_reducible refine LeO.ite ?_ ?_)
      | (with_reducible refine LeO.bind ?_ (fun _ => ?_))
      | exact ih0 _ _ _
      | exact laws_eqRangeS.mono _ _ _
      | exact laws_toRangeS.mono _ _
      | exact spec_SetHas.mono _ _ _ _
      | exact LeO.none _
      | refine LeO.ite ?_ ?_
      | refine LeO.bind ?_ (fun _ => ?_)
set_option maxHeartbeats 8000000 in
set_option maxRecDepth 100000 in
theorem laws_FnExactSetHas.calls (k : Nat) (A0 : Option Addr) (c0 : Nat) (l0 : List (S88)) (a1 : Int) (a2 : Int) (r : Bool) (w : World) (hr0 : Kd.C k88 w A0 l0.length l0) (hc0 : l0.length ≤ c0) (h : laws_FnExactSetHas.f k l0 a1 a2 = some r) :
    Calls Try.prog 8 #[.slice A0 l0.length c0, .int .i64 a1, .int .i64 a2] w fun e w' => e = .returned (.bool r) ∧ Below w.heap.size w w' := by
  have HR0 := Aside0.mk hr0
  have HC0 := Aside0.mk hc0
  clear hr0 hc0
  have HB := Aside0.mk (Below.refl w.heap.size w)
  have H : ((laws_szRangeS.f l0 1048576).bind fun t101 => (if t101 < 0 then (some true) else ((laws_toRangeS.f k l0).bind fun t102 => ((spec_SetHas.f k t102 a1 a2).bind fun bt105 => ((laws_toRangeS.f k l0).bind fun t107 => ((impl_SetHas.f t107 a1 a2).bind fun bt110 => (if (bt110.1 != bt105.1) = true then (laws_FnExactSetHas.j0 k l0 t107 true) else (laws_FnExactSetHas.j0 k l0 t107 (bt110.2 != bt105.2))))))))) = some r := h
  clear h
  replace H := Option.bind_eq_some_iff.mp H
  obtain ⟨t101, A40, H⟩ := H
  replace H : (if t101 < 0 then (some true) else ((laws_toRangeS.f k l0).bind fun t102 => ((spec_SetHas.f k t102 a1 a2).bind fun bt105 => ((laws_toRangeS.f k l0).bind fun t107 => ((impl_SetHas.f t107 a1 a2).bind fun bt110 => (if (bt110.1 != bt105.1) = true then (laws_FnExactSetHas.j0 k l0 t107 true) else (laws_FnExactSetHas.j0 k l0 t107 (bt110.2 != bt105.2)))))))) = some r := H
  have A4 := Aside0.mk A40
  clear A40
  by_cases c5 : t101 < 0
  · rw [if_pos c5] at H
    have c5b0 : decide (t101 < 0) = true := decide_eq_true c5
    clear c5
    obtain rfl := Option.some.inj H
    go_enter Try.func8, Try.ntmps8
    go_wp2_with (first | ((with_reducible refine gate_callee (f := 31) rfl ?_); refine goesL_ (some 15) rfl rfl Try.func31 (by kernel_rfl) rfl #[.slice A0 l0.length c0, .int .i64 1048576] rfl (by (try simp only [List.map_toArray, List.map_cons, List.map_nil]); first | done | rfl | (simp only [List.length_drop, List.length_take]; rfl)) ?_; (with_reducible refine (laws_szRangeS.calls _ _ l0 1048576 t101 _ ?side1 ?side2 A4.out).mono ?_); (case side1 => repeat (first | exact HR0.out | (with_reducible refine Kd.C_alloc ?_ _) | (with_reducible refine Kd.C_drewN ?_ _) | (with_reducible refine Kd.C_drew ?_))); (case side2 => exact HC0.out); rintro e w' ⟨rfl, ⟨nd, rfl⟩⟩; refine ⟨_, rfl, ?_⟩))
    go_ret
    exact ⟨by first | rfl | (simp [errW_none, errW_some] <;> rfl) | (simp [*, errW_none, errW_some] <;> rfl), by repeat (first | (with_reducible first | exact HB.out | apply below_alloc | apply pw_below_drewN | apply below_drew1) | exact HB.out)⟩
  · rw [if_neg c5] at H
    have c5b0 : decide (t101 < 0) = false := decide_eq_false c5
    clear c5
    replace H := Option.bind_eq_some_iff.mp H
    obtain ⟨t102, A60, H⟩ := H
    replace H : ((spec_SetHas.f k t102 a1 a2).bind fun bt105 => ((laws_toRangeS.f k l0).bind fun t107 => ((impl_SetHas.f t107 a1 a2).bind fun bt110 => (if (bt110.1 != bt105.1) = true then (laws_FnExactSetHas.j0 k l0 t107 true) else (laws_FnExactSetHas.j0 k l0 t107 (bt110.2 != bt105.2)))))) = some r := H
    have A6 := Aside0.mk A60
    clear A60
    replace H := Option.bind_eq_some_iff.mp H
    obtain ⟨⟨t105, t106⟩, A70, H⟩ := H
    replace H : ((laws_toRangeS.f k l0).bind fun t107 => ((impl_SetHas.f t107 a1 a2).bind fun bt110 => (if (bt110.1 != t105) = true then (laws_FnExactSetHas.j0 k l0 t107 true) else (laws_FnExactSetHas.j0 k l0 t107 (bt110.2 != t106))))) = some r := H
    have A7 := Aside0.mk A70
    clear A70
    replace H := Option.bind_eq_some_iff.mp H
    obtain ⟨t107, A80, H⟩ := H
    replace H : ((impl_SetHas.f t107 a1 a2).bind fun bt110 => (if (bt110.1 != t105) = true then (laws_FnExactSetHas.j0 k l0 t107 true) else (laws_FnExactSetHas.j0 k l0 t107 (bt110.2 != t106)))) = some r := H
    have A8 := Aside0.mk A80
    clear A80
    replace H := Option.bind_eq_some_iff.mp H
    obtain ⟨⟨t110, t111⟩, A90, H⟩ := H
    replace H : (if (t110 != t105) = true then (laws_FnExactSetHas.j0 k l0 t107 true) else (laws_FnExactSetHas.j0 k l0 t107 (t111 != t106))) = some r := H
    have A9 := Aside0.mk A90
    clear A90
    have HC10 := Aside0.mk H
    clear H
    go_enter Try.func8, Try.ntmps8
    go_upto_region 8 with (first | ((with_reducible refine gate_callee (f := 31) rfl ?_); refine goesL_ (some 15) rfl rfl Try.func31 (by kernel_rfl) rfl #[.slice A0 l0.length c0, .int .i64 1048576] rfl (by (try simp only [List.map_toArray, List.map_cons, List.map_nil]); first | done | rfl | (simp only [List.length_drop, List.length_take]; rfl)) ?_; (with_reducible refine (laws_szRangeS.calls _ _ l0 1048576 t101 _ ?side1 ?side2 A4.out).mono ?_); (case side1 => repeat (first | exact HR0.out | (with_reducible refine Kd.C_alloc ?_ _) | (with_reducible refine Kd.C_drewN ?_ _) | (with_reducible refine Kd.C_drew ?_))); (case side2 => exact HC0.out); rintro e w' ⟨rfl, ⟨nd, rfl⟩⟩; refine ⟨_, rfl, ?_⟩) | ((with_reducible refine gate_callee (f := 33) rfl ?_); refine goesL_ (some 20) rfl rfl Try.func33 (by kernel_rfl) rfl #[.slice A0 l0.length c0] rfl (by (try simp only [List.map_toArray, List.map_cons, List.map_nil]); first | done | rfl | (simp only [List.length_drop, List.length_take]; rfl)) ?_; (with_reducible refine (laws_toRangeS.calls k _ _ l0 t102 _ ?side1 ?side2 A6.out).mono ?_); (case side1 => repeat (first | exact HR0.out | (with_reducible refine Kd.C_alloc ?_ _) | (with_reducible refine Kd.C_drewN ?_ _) | (with_reducible refine Kd.C_drew ?_))); (case side2 => exact HC0.out); rintro e w11 ⟨v103, rfl, ho0, hb⟩; refine ⟨_, rfl, ?_⟩; have n0_ := Aside0.mk (Kd.R_lower ho0 (below_size (by repeat (first | (with_reducible first | exact HB.out | apply below_alloc | apply pw_below_drewN | apply below_drew1) | exact HB.out)))); have n1_ := Aside0.mk (below_step (by repeat (first | (with_reducible first | exact HB.out | apply below_alloc | apply pw_below_drewN | apply below_drew1) | exact HB.out)) hb); clear HB; have HO104 := n0_; have HB := n1_; clear n0_ n1_; (try clear hb); (try clear hb2); (try clear hk); (try clear hi); (try clear ho0); obtain ⟨Ao12, co12, eo12⟩ := Kd.R_slice HO104.out; subst eo12) | ((with_reducible refine gate_callee (f := 32) rfl ?_); refine goesL_ (some 23) rfl rfl Try.func32 (by kernel_rfl) rfl #[.slice Ao12 t102.length co12, .int .i64 a1, .int .i64 a2] rfl (by (try simp only [List.map_toArray, List.map_cons, List.map_nil]); first | done | rfl | (simp only [List.length_drop, List.length_take]; rfl)) ?_; (with_reducible refine (spec_SetHas.calls k _ _ t102 a1 a2 t105 t106 _ ?side1 ?side2 A7.out).mono ?_); (case side1 => repeat (first | exact (Kd.R_reads' HO104.out).2.2 | (with_reducible refine Kd.C_alloc ?_ _) | (with_reducible refine Kd.C_drewN ?_ _) | (with_reducible refine Kd.C_drew ?_))); (case side2 => exact (Kd.R_reads' HO104.out).2.1); rintro e w13 ⟨rfl, hb⟩; refine ⟨_, rfl, ?_⟩; have n0_ := Aside0.mk (Kd.R_below (by (with_reducible repeat (first | apply Kd.R_alloc | apply Kd.R_drewN | apply Kd.R_drew)); exact HO104.out) hb); have n1_ := Aside0.mk (below_step (by repeat (first | (with_reducible first | exact HB.out | apply below_alloc | apply pw_below_drewN | apply below_drew1) | exact HB.out)) hb); clear HO104; clear HB; have HO104 := n0_; have HB := n1_; clear n0_ n1_; (try clear hb); (try clear hb2); (try clear hk); (try clear hi)) | ((with_reducible refine gate_callee (f := 33) rfl ?_); refine goesL_ (some 27) rfl rfl Try.func33 (by kernel_rfl) rfl #[.slice A0 l0.length c0] rfl (by (try simp only [List.map_toArray, List.map_cons, List.map_nil]); first | done | rfl | (simp only [List.length_drop, List.length_take]; rfl)) ?_; (with_reducible refine (laws_toRangeS.calls k _ _ l0 t107 _ ?side1 ?side2 A8.out).mono ?_); (case side1 => repeat (first | exact (Kd.C_below HR0.out HB.out) | (with_reducible refine Kd.C_alloc ?_ _) | (with_reducible refine Kd.C_drewN ?_ _) | (with_reducible refine Kd.C_drew ?_))); (case side2 => exact HC0.out); rintro e w14 ⟨v108, rfl, ho0, hb⟩; refine ⟨_, rfl, ?_⟩; have n0_ := Aside0.mk (Kd.R_elder' (by (with_reducible repeat (first | apply Kd.R_alloc | apply Kd.R_drewN | apply Kd.R_drew)); exact HO104.out) (Kd.R_base ho0) hb); have n1_ := Aside0.mk (Kd.R_lower (Kd.R_new' ho0 (Kd.R_lt (by (with_reducible repeat (first | apply Kd.R_alloc | apply Kd.R_drewN | apply Kd.R_drew)); exact HO104.out))) (below_size (by repeat (first | (with_reducible first | exact HB.out | apply below_alloc | apply pw_below_drewN | apply below_drew1) | exact HB.out)))); have n2_ := Aside0.mk (below_step (by repeat (first | (with_reducible first | exact HB.out | apply below_alloc | apply pw_below_drewN | apply below_drew1) | exact HB.out)) hb); clear HO104; clear HB; have HO104 := n0_; have HO109 := n1_; have HB := n2_; clear n0_ n1_ n2_; (try clear hb); (try clear hb2); (try clear hk); (try clear hi); (try clear ho0); obtain ⟨Ao15, co15, eo15⟩ := Kd.R_slice HO109.out; subst eo15) | ((with_reducible refine gate_callee (f := 34) rfl ?_); refine goesL_ (some 32) rfl rfl Try.func34 (by kernel_rfl) rfl #[.slice Ao15 t107.length co15, .int .i64 a1, .int .i64 a2] rfl (by (try simp only [List.map_toArray, List.map_cons, List.map_nil]); first | done | rfl | (simp only [List.length_drop, List.length_take]; rfl)) ?_; (with_reducible refine (impl_SetHas.calls _ _ t107 a1 a2 t110 t111 _ ?side1 ?side2 A9.out).mono ?_); (case side1 => repeat (first | exact (Kd.R_reads' HO109.out).2.2 | (with_reducible refine Kd.C_alloc ?_ _) | (with_reducible refine Kd.C_drewN ?_ _) | (with_reducible refine Kd.C_drew ?_))); (case side2 => exact (Kd.R_reads' HO109.out).2.1); rintro e w16 ⟨rfl, hb⟩; refine ⟨_, rfl, ?_⟩; have n0_ := Aside0.mk (Kd.R_below (by (with_reducible repeat (first | apply Kd.R_alloc | apply Kd.R_drewN | apply Kd.R_drew)); exact HO104.out) hb); have n1_ := Aside0.mk (Kd.R_below (by (with_reducible repeat (first | apply Kd.R_alloc | apply Kd.R_drewN | apply Kd.R_drew)); exact HO109.out) hb); have n2_ := Aside0.mk (below_step (by repeat (first | (with_reducible first | exact HB.out | apply below_alloc | apply pw_below_drewN | apply below_drew1) | exact HB.out)) hb); clear HO104; clear HO109; clear HB; have HO104 := n0_; have HO109 := n1_; have HB := n2_; clear n0_ n1_ n2_; (try clear hb); (try clear hb2); (try clear hk); (try clear hi)))
    (try simp only [Act.put, List.setIfInBounds_toArray, List.set_cons_zero, List.set_cons_succ])
    go_cut [42] (fun v42 wc => ∃ (kq : Nat) (x42_9 : Bool), v42 = .bool x42_9 ∧ Aside0 (laws_FnExactSetHas.j0 kq l0 t107 x42_9 = some r) ∧ Aside0 (kq ≤ k) ∧ Aside0 (Kd.R k86 86 wc w.heap.size (fun _ => True) (.slice Ao15 t107.length co15) t107) ∧ Aside0 (Below w.heap.size w wc))
    case first =>
      have H := HC10.out
      clear HC10
      by_cases c17 : (t110 != t105) = true
      · rw [if_pos c17] at H
        have c17b0 : (t110 != t105) = true := c17
        (try (have c17b1 : decide (t110 = t105) = false := by simpa using c17))
        (try (have c17b2 : (t110 == t105) = false := by simpa using c17))
        (try (have c17b3 : ¬ (t110 = t105) := by simpa using c17))
        clear c17
        (first | rw [c17b0] | (simp only [i64_w, i32_w]; rw [c17b0]) | skip)
        have H' := Aside0.mk H
        clear H
        go_wp2
        go_meet
        case rel => exact ⟨_, (true), (by first | rfl | (simp; done) | (simp [*]; done)), H', ⟨by first | omega | exact Nat.le_refl _⟩, ⟨by (with_reducible repeat (first | apply Kd.R_alloc | apply Kd.R_drewN | apply Kd.R_drew)); exact Kd.R_mono HO109.out (fun _ hk => trivial)⟩, ⟨by repeat (first | (with_reducible first | exact HB.out | apply below_alloc | apply pw_below_drewN | apply below_drew1) | exact HB.out)⟩⟩
      · rw [if_neg c17] at H
        have c17b0 : (t110 != t105) = false := by simpa using c17
        (try (have c17b1 : decide (t110 = t105) = true := by simpa using c17))
        (try (have c17b2 : (t110 == t105) = true := by simpa using c17))
        clear c17
        (first | rw [c17b0] | (simp only [i64_w, i32_w]; rw [c17b0]) | skip)
        have H' := Aside0.mk H
        clear H
        go_wp2
        go_meet
        case rel => exact ⟨_, ((t111 != t106)), (by first | rfl | (simp; done) | (simp [*]; done)), H', ⟨by first | omega | exact Nat.le_refl _⟩, ⟨by (with_reducible repeat (first | apply Kd.R_alloc | apply Kd.R_drewN | apply Kd.R_drew)); exact Kd.R_mono HO109.out (fun _ hk => trivial)⟩, ⟨by repeat (first | (with_reducible first | exact HB.out | apply below_alloc | apply pw_below_drewN | apply below_drew1) | exact HB.out)⟩⟩
    case rest =>
      clear HC10
      try clear c1
      try clear p2
      try clear c3
      try clear c5
      try clear c5b0
      try clear c8
      try clear c17
      try clear c17b0
      try clear c17b1
      try clear c17b2
      obtain ⟨kq, x42_9, rfl, HA, HJ9, HO_10, HB⟩ := hcut
      cases kq with
      | zero => exact absurd HA.out (by simp [laws_FnExactSetHas.j0])
      | succ kj9 =>
        have H := HA.out
        clear HA
        simp only [laws_FnExactSetHas.j0] at H
        by_cases c18 : x42_9 = true
        · subst c18
          have H1 : (some false) = some r := by rw [if_pos rfl] at H; exact H
          clear H
          have H := H1
          clear H1
          obtain rfl := Option.some.inj H
          go_wp2
          go_ret
          exact ⟨by first | rfl | (simp [errW_none, errW_some] <;> rfl) | (simp [*, errW_none, errW_some] <;> rfl), by repeat (first | (with_reducible first | exact HB.out | apply below_alloc | apply pw_below_drewN | apply below_drew1) | exact HB.out)⟩
        · replace c18 := Bool.eq_false_iff.mpr c18
          subst c18
          have H1 : ((laws_toRangeS.f kj9 l0).bind fun t112 => ((laws_eqRangeS.f kj9 t107 t112).bind fun t115 => (if t115 = true then (some true) else (some false)))) = some r := by rw [if_neg (show ¬ (false = true) by decide)] at H; exact H
          clear H
          have H := H1
          clear H1
          replace H := Option.bind_eq_some_iff.mp H
          obtain ⟨t112, A190, H⟩ := H
          replace H : ((laws_eqRangeS.f kj9 t107 t112).bind fun t115 => (if t115 = true then (some true) else (some false))) = some r := H
          have A19 := Aside0.mk A190
          clear A190
          replace H := Option.bind_eq_some_iff.mp H
          obtain ⟨t115, A200, H⟩ := H
          replace H : (if t115 = true then (some true) else (some false)) = some r := H
          have A20 := Aside0.mk A200
          clear A200
          by_cases c21 : t115 = true
          · subst c21
            have H1 : (some true) = some r := by rw [if_pos rfl] at H; exact H
            clear H
            have H := H1
            clear H1
            obtain rfl := Option.some.inj H
            go_wp2_with (first | ((with_reducible refine gate_callee (f := 33) rfl ?_); refine goesL_ (some 45) rfl rfl Try.func33 (by kernel_rfl) rfl #[.slice A0 l0.length c0] rfl (by (try simp only [List.map_toArray, List.map_cons, List.map_nil]); first | done | rfl | (simp only [List.length_drop, List.length_take]; rfl)) ?_; (with_reducible refine (laws_toRangeS.calls kj9 _ _ l0 t112 _ ?side1 ?side2 A19.out).mono ?_); (case side1 => repeat (first | exact (Kd.C_below HR0.out HB.out) | (with_reducible refine Kd.C_alloc ?_ _) | (with_reducible refine Kd.C_drewN ?_ _) | (with_reducible refine Kd.C_drew ?_))); (case side2 => exact HC0.out); rintro e w22 ⟨v113, rfl, ho0, hb⟩; refine ⟨_, rfl, ?_⟩; have n0_ := Aside0.mk (Kd.R_elder' (by (with_reducible repeat (first | apply Kd.R_alloc | apply Kd.R_drewN | apply Kd.R_drew)); exact HO_10.out) (Kd.R_base ho0) hb); have n1_ := Aside0.mk (Kd.R_lower (Kd.R_new' ho0 (Kd.R_lt (by (with_reducible repeat (first | apply Kd.R_alloc | apply Kd.R_drewN | apply Kd.R_drew)); exact HO_10.out))) (below_size (by repeat (first | (with_reducible first | exact HB.out | apply below_alloc | apply pw_below_drewN | apply below_drew1) | exact HB.out)))); have n2_ := Aside0.mk (below_step (by repeat (first | (with_reducible first | exact HB.out | apply below_alloc | apply pw_below_drewN | apply below_drew1) | exact HB.out)) hb); clear HO_10; clear HB; have HO_10 := n0_; have HO114 := n1_; have HB := n2_; clear n0_ n1_ n2_; (try clear hb); (try clear hb2); (try clear hk); (try clear hi); (try clear ho0); obtain ⟨Ao23, co23, eo23⟩ := Kd.R_slice HO114.out; subst eo23) | ((with_reducible refine gate_callee (f := 35) rfl ?_); refine goesL_ (some 46) rfl rfl Try.func35 (by kernel_rfl) rfl #[.slice Ao15 t107.length co15, .slice Ao23 t112.length co23] rfl (by (try simp only [List.map_toArray, List.map_cons, List.map_nil]); first | done | rfl | (simp only [List.length_drop, List.length_take]; rfl)) ?_; (with_reducible refine (laws_eqRangeS.calls kj9 _ _ t107 _ _ t112 true _ ?side1 ?side2 ?side3 ?side4 A20.out).mono ?_); (case side1 => repeat (first | exact (Kd.R_reads' HO_10.out).2.2 | (with_reducible refine Kd.C_alloc ?_ _) | (with_reducible refine Kd.C_drewN ?_ _) | (with_reducible refine Kd.C_drew ?_))); (case side2 => exact (Kd.R_reads' HO_10.out).2.1); (case side3 => repeat (first | exact (Kd.R_reads' HO114.out).2.2 | (with_reducible refine Kd.C_alloc ?_ _) | (with_reducible refine Kd.C_drewN ?_ _) | (with_reducible refine Kd.C_drew ?_))); (case side4 => exact (Kd.R_reads' HO114.out).2.1); rintro e w24 ⟨rfl, hb⟩; refine ⟨_, rfl, ?_⟩; have n0_ := Aside0.mk (Kd.R_below (by (with_reducible repeat (first | apply Kd.R_alloc | apply Kd.R_drewN | apply Kd.R_drew)); exact HO_10.out) hb); have n1_ := Aside0.mk (Kd.R_below (by (with_reducible repeat (first | apply Kd.R_alloc | apply Kd.R_drewN | apply Kd.R_drew)); exact HO114.out) hb); have n2_ := Aside0.mk (below_step (by repeat (first | (with_reducible first | exact HB.out | apply below_alloc | apply pw_below_drewN | apply below_drew1) | exact HB.out)) hb); clear HO_10; clear HO114; clear HB; have HO_10 := n0_; have HO114 := n1_; have HB := n2_; clear n0_ n1_ n2_; (try clear hb); (try clear hb2); (try clear hk); (try clear hi)))
            go_ret
            exact ⟨by first | rfl | (simp [errW_none, errW_some] <;> rfl) | (simp [*, errW_none, errW_some] <;> rfl), by repeat (first | (with_reducible first | exact HB.out | apply below_alloc | apply pw_below_drewN | apply below_drew1) | exact HB.out)⟩
          · replace c21 := Bool.eq_false_iff.mpr c21
            subst c21
            have H1 : (some false) = some r := by rw [if_neg (show ¬ (false = true) by decide)] at H; exact H
            clear H
            have H := H1
            clear H1
            obtain rfl := Option.some.inj H
            go_wp2_with (first | ((with_reducible refine gate_callee (f := 33) rfl ?_); refine goesL_ (some 45) rfl rfl Try.func33 (by kernel_rfl) rfl #[.slice A0 l0.length c0] rfl (by (try simp only [List.map_toArray, List.map_cons, List.map_nil]); first | done | rfl | (simp only [List.length_drop, List.length_take]; rfl)) ?_; (with_reducible refine (laws_toRangeS.calls kj9 _ _ l0 t112 _ ?side1 ?side2 A19.out).mono ?_); (case side1 => repeat (first | exact (Kd.C_below HR0.out HB.out) | (with_reducible refine Kd.C_alloc ?_ _) | (with_reducible refine Kd.C_drewN ?_ _) | (with_reducible refine Kd.C_drew ?_))); (case side2 => exact HC0.out); rintro e w25 ⟨v113, rfl, ho0, hb⟩; refine ⟨_, rfl, ?_⟩; have n0_ := Aside0.mk (Kd.R_elder' (by (with_reducible repeat (first | apply Kd.R_alloc | apply Kd.R_drewN | apply Kd.R_drew)); exact HO_10.out) (Kd.R_base ho0) hb); have n1_ := Aside0.mk (Kd.R_lower (Kd.R_new' ho0 (Kd.R_lt (by (with_reducible repeat (first | apply Kd.R_alloc | apply Kd.R_drewN | apply Kd.R_drew)); exact HO_10.out))) (below_size (by repeat (first | (with_reducible first | exact HB.out | apply below_alloc | apply pw_below_drewN | apply below_drew1) | exact HB.out)))); have n2_ := Aside0.mk (below_step (by repeat (first | (with_reducible first | exact HB.out | apply below_alloc | apply pw_below_drewN | apply below_drew1) | exact HB.out)) hb); clear HO_10; clear HB; have HO_10 := n0_; have HO114 := n1_; have HB := n2_; clear n0_ n1_ n2_; (try clear hb); (try clear hb2); (try clear hk); (try clear hi); (try clear ho0); obtain ⟨Ao26, co26, eo26⟩ := Kd.R_slice HO114.out; subst eo26) | ((with_reducible refine gate_callee (f := 35) rfl ?_); refine goesL_ (some 46) rfl rfl Try.func35 (by kernel_rfl) rfl #[.slice Ao15 t107.length co15, .slice Ao26 t112.length co26] rfl (by (try simp only [List.map_toArray, List.map_cons, List.map_nil]); first | done | rfl | (simp only [List.length_drop, List.length_take]; rfl)) ?_; (with_reducible refine (laws_eqRangeS.calls kj9 _ _ t107 _ _ t112 false _ ?side1 ?side2 ?side3 ?side4 A20.out).mono ?_); (case side1 => repeat (first | exact (Kd.R_reads' HO_10.out).2.2 | (with_reducible refine Kd.C_alloc ?_ _) | (with_reducible refine Kd.C_drewN ?_ _) | (with_reducible refine Kd.C_drew ?_))); (case side2 => exact (Kd.R_reads' HO_10.out).2.1); (case side3 => repeat (first | exact (Kd.R_reads' HO114.out).2.2 | (with_reducible refine Kd.C_alloc ?_ _) | (with_reducible refine Kd.C_drewN ?_ _) | (with_reducible refine Kd.C_drew ?_))); (case side4 => exact (Kd.R_reads' HO114.out).2.1); rintro e w27 ⟨rfl, hb⟩; refine ⟨_, rfl, ?_⟩; have n0_ := Aside0.mk (Kd.R_below (by (with_reducible repeat (first | apply Kd.R_alloc | apply Kd.R_drewN | apply Kd.R_drew)); exact HO_10.out) hb); have n1_ := Aside0.mk (Kd.R_below (by (with_reducible repeat (first | apply Kd.R_alloc | apply Kd.R_drewN | apply Kd.R_drew)); exact HO114.out) hb); have n2_ := Aside0.mk (below_step (by repeat (first | (with_reducible first | exact HB.out | apply below_alloc | apply pw_below_drewN | apply below_drew1) | exact HB.out)) hb); clear HO_10; clear HO114; clear HB; have HO_10 := n0_; have HO114 := n1_; have HB := n2_; clear n0_ n1_ n2_; (try clear hb); (try clear hb2); (try clear hk); (try clear hi)))
            go_ret
            exact ⟨by first | rfl | (simp [errW_none, errW_some] <;> rfl) | (simp [*, errW_none, errW_some] <;> rfl), by repeat (first | (with_reducible first | exact HB.out | apply below_alloc | apply pw_below_drewN | apply below_drew1) | exact HB.out)⟩

end Go.Proofs.Ytejdnbdppgakeaa.P
namespace Go.Proofs.Ytejdnbdppgakeaa.P
open Go.RowKit Go.ChangeShapes Go.WideShapes Go.Proofs.YtejdnbdppgakeaaW.PrintWords

def ok23 (x : S23) : Prop := (Lit.int .i64 x.f0).wf = true ∧ x.f1.size ≤ 140737488351232 ∧ (Lit.int .i64 x.f2).wf = true
theorem tells23 {H : Type} {enc : TypeId × Value → H} {W : World} : Tells enc Try.prog W 23 k23 ok23 := Tells.struct (fun y => ⟨y.1, y.2.1, y.2.2⟩) (fun _ => rfl) Try.underlying23 (by kernel_rfl) (TellsF.cons (by kernel_rfl) (Tells.int Try.underlying3) rfl (TellsF.cons (by kernel_rfl) (Tells.string Try.underlying9) rfl (TellsF.one (by kernel_rfl) (Tells.int Try.underlying3))))
def ok88 (x : S88) : Prop := (Lit.int .i64 x.f0).wf = true ∧ (Lit.int .i64 x.f1).wf = true
theorem tells88 {H : Type} {enc : TypeId × Value → H} {W : World} : Tells enc Try.prog W 88 k88 ok88 := Tells.struct (fun y => ⟨y.1, y.2⟩) (fun _ => rfl) Try.underlying88 (by kernel_rfl) (TellsF.cons (by kernel_rfl) (Tells.int Try.underlying3) rfl (TellsF.one (by kernel_rfl) (Tells.int Try.underlying3)))
def ok53 (x : S53) : Prop := (Lit.int .i64 x.f0).wf = true ∧ x.f1.size ≤ 140737488351232 ∧ True ∧ (x.f3.length ≤ maxLen ∧ x.f3.length * 8 ≤ 140737488351232 ∧ ∀ y ∈ x.f3, (Lit.int .i64 y).wf = true)
theorem tells53 {H : Type} {enc : TypeId × Value → H} {W : World} : Tells enc Try.prog W 53 k53 ok53 := Tells.struct (fun y => ⟨y.1, y.2.1, y.2.2.1, y.2.2.2⟩) (fun _ => rfl) Try.underlying53 (by kernel_rfl) (TellsF.cons (by kernel_rfl) (Tells.int Try.underlying3) rfl (TellsF.cons (by kernel_rfl) (Tells.string Try.underlying9) rfl (TellsF.cons (by kernel_rfl) (Tells.bool Try.underlying4) rfl (TellsF.one (by kernel_rfl) (Tells.slice (b := 8) Try.underlying34 (by kernel_rfl) (by kernel_rfl) (Tells.int Try.underlying3))))))
def ok115 (x : S115) : Prop := x.f0.size ≤ 140737488351232 ∧ x.f1.size ≤ 140737488351232
theorem tells115 {H : Type} {enc : TypeId × Value → H} {W : World} : Tells enc Try.prog W 115 k115 ok115 := Tells.struct (fun y => ⟨y.1, y.2⟩) (fun _ => rfl) Try.underlying115 (by kernel_rfl) (TellsF.cons (by kernel_rfl) (Tells.string Try.underlying9) rfl (TellsF.one (by kernel_rfl) (Tells.string Try.underlying9)))
def ok60 (x : S60) : Prop := (Lit.int .i64 x.f0).wf = true ∧ (Lit.int .i64 x.f1).wf = true ∧ (Lit.int .i64 x.f2).wf = true ∧ (Lit.int .i64 x.f3).wf = true ∧ x.f4.size ≤ 140737488351232 ∧ (x.f5.length ≤ maxLen ∧ x.f5.length * 32 ≤ 140737488351232 ∧ ∀ y ∈ x.f5, ok115 y)
theorem tells60 {H : Type} {enc : TypeId × Value → H} {W : World} : Tells enc Try.prog W 60 k60 ok60 := Tells.struct (fun y => ⟨y.1, y.2.1, y.2.2.1, y.2.2.2.1, y.2.2.2.2.1, y.2.2.2.2.2⟩) (fun _ => rfl) Try.underlying60 (by kernel_rfl) (TellsF.cons (by kernel_rfl) (Tells.int Try.underlying3) rfl (TellsF.cons (by kernel_rfl) (Tells.int Try.underlying3) rfl (TellsF.cons (by kernel_rfl) (Tells.int Try.underlying3) rfl (TellsF.cons (by kernel_rfl) (Tells.int Try.underlying3) rfl (TellsF.cons (by kernel_rfl) (Tells.string Try.underlying9) rfl (TellsF.one (by kernel_rfl) (Tells.slice (b := 32) Try.underlying58 (by kernel_rfl) (by kernel_rfl) tells115)))))))
end Go.Proofs.Ytejdnbdppgakeaa.P
namespace Go.Proofs.Ytejdnbdppgakeaa.P
open Go.RowKit Go.ChangeShapes Go.WideShapes Go.Proofs.YtejdnbdppgakeaaW.PrintWords

/-- What is to be proved of the law FnExactSetHas, over numbers and lists alone. -/
def laws_FnExactSetHas.Pure : Prop := ∀ (x0 : List (S88)) (x1 : Int) (x2 : Int), (x0.length ≤ maxLen ∧ x0.length * 16 ≤ 140737488351232 ∧ ∀ y ∈ x0, ok88 y) → (Lit.int .i64 x1).wf = true → (Lit.int .i64 x2).wf = true → ∃ k, laws_FnExactSetHas.f k x0 x1 x2 = some true
end Go.Proofs.Ytejdnbdppgakeaa.P
/- Lemmas of mine: strings as lists of bytes; whole numbers of 64 bits; rounds. Plain. -/
set_option linter.unusedVariables false
set_option linter.unusedSimpArgs false
namespace Go.Proofs.Ytejdnbdppgakeaa.P
open Go.RowKit Go.Proofs.YtejdnbdppgakeaaW.PrintWords
/-- As Option.bind_some, but no equation by computing: for terms that are not to be computed by the kernel. -/
theorem bS {α β : Type} (a : α) (f : α → Option β) : (some a).bind f = f a := Eq.trans (Option.bind_some a f) (Eq.refl (f a))
/-- A string's bytes. -/
def bl (s : ByteArray) : List UInt8 := s.data.toList
/-- Bytes as numbers. -/
def nb (l : List UInt8) : List Int := l.map fun b => (b.toNat : Int)
theorem bl_inj {a b : ByteArray} (h : bl a = bl b) : a = b := WideShapes.bytes_inj h
theorem toList_bl (s : ByteArray) : s.toList = bl s := Lib.toList_data s
theorem toList_iff {a b : ByteArray} : a.toList = b.toList ↔ a = b := ⟨fun h => bl_inj (by rw [← toList_bl, ← toList_bl, h]), fun h => by rw [h]⟩
theorem bl_size (s : ByteArray) : s.size = (bl s).length := Lib.size_eq s
theorem bl_append (a b : ByteArray) : bl (a ++ b) = bl a ++ bl b := by simp [bl]
theorem bl_extract (s : ByteArray) (i j : Nat) : bl (s.extract i j) = ((bl s).drop i).take (j - i) := Lib.extract_data s i j
theorem bl_mk (l : List UInt8) : bl ⟨l.toArray⟩ = l := by simp [bl]
theorem bl_empty : bl (⟨#[]⟩ : ByteArray) = [] := rfl
theorem mk_bl (s : ByteArray) : (⟨(bl s).toArray⟩ : ByteArray) = s := bl_inj (bl_mk _)
theorem bytesOf_bl (s : ByteArray) : bytesOf s = nb (bl s) := rfl
theorem nb_length (l : List UInt8) : (nb l).length = l.length := by simp [nb]
theorem nb_append (l m : List UInt8) : nb (l ++ m) = nb l ++ nb m := by simp [nb]
theorem strOf_nb (l : List UInt8) : strOfNums (nb l) = ⟨l.toArray⟩ := by
  simp [strOfNums, nb, Function.comp_def]
theorem bl_strOf_nb (l : List UInt8) : bl (strOfNums (nb l)) = l := by rw [strOf_nb, bl_mk]
theorem bt_eq (s : ByteArray) (i : Nat) (h : i < (bl s).length) : bt s (i : Int) = (((bl s)[i]'h).toNat : Int) := by
  have hs : i < s.size := by rw [bl_size]; exact h
  unfold bt
  rw [dif_pos (by simpa using hs)]
  have h1 := Lib.data_getElem? s i hs
  have h2 : (bl s)[i]? = some ((bl s)[i]'h) := List.getElem?_eq_getElem h
  have h3 : s[i]'hs = (bl s)[i]'h := Option.some.inj (h1.symm.trans h2)
  simp only [Int.toNat_natCast]
  rw [← h3]
theorem rd_nb (l : List UInt8) (i : Nat) (h : i < l.length) : rd (nb l) (i : Int) = ((l[i]'h).toNat : Int) := by
  simp [rd, nb, List.getD_eq_getElem?_getD, List.getElem?_map, List.getElem?_eq_getElem h]
theorem byte_lt (b : UInt8) : b.toNat < 256 := b.toNat_lt
/-- No wrap within the bounds. -/
theorem w64 {n : Int} (h0 : -9223372036854775808 ≤ n) (h1 : n ≤ 9223372036854775807) : wrap64 n = n := by unfold wrap64; omega
theorem w64n (n : Nat) (h1 : n ≤ 9223372036854775807) : wrap64 (n : Int) = n := w64 (by omega) (by omega)
theorem w64s (n : Nat) (h1 : n + 1 ≤ 9223372036854775807) : wrap64 ((n : Int) + 1) = ((n + 1 : Nat) : Int) := by rw [w64 (by omega) (by omega)]; rfl
theorem w64add (a b : Nat) (h : a + b ≤ 9223372036854775807) : wrap64 ((a : Int) + (b : Int)) = ((a + b : Nat) : Int) := by rw [w64 (by omega) (by omega)]; rfl
theorem w64lit (a b : Nat) (h : a + b ≤ 9223372036854775807) : wrap64 ((a : Int) + wrap64 ((b : Int))) = ((a + b : Nat) : Int) := by rw [w64n b (by omega), w64add a b h]
theorem w64sub (a b : Nat) (h : b ≤ a) (h2 : a ≤ 9223372036854775807) : wrap64 ((a : Int) - (b : Int)) = ((a - b : Nat) : Int) := by rw [w64 (by omega) (by omega)]; omega
theorem bits_xor_nat (k : IntKind) (j : Nat) (hj : j ≤ k.bits) (hk : ∀ n : Int, 0 ≤ n → n < 2 ^ j → k.wrap n = n) (a b : Nat) (ha : a < 2 ^ j) (hb : b < 2 ^ j) : bits .xor k a b = ((a ^^^ b : Nat) : Int) := by
  have hp : 2 ^ j ≤ 2 ^ k.bits := Nat.pow_le_pow_right (by decide) hj
  have ha' : a % 2 ^ k.bits = a := Nat.mod_eq_of_lt (Nat.lt_of_lt_of_le ha hp)
  have hb' : b % 2 ^ k.bits = b := Nat.mod_eq_of_lt (Nat.lt_of_lt_of_le hb hp)
  simp only [bits, BitVec.ofInt_natCast, BitVec.toNat_xor, BitVec.toNat_ofNat, ha', hb']
  exact hk _ (Int.natCast_nonneg _) (by exact_mod_cast Nat.xor_lt_two_pow ha hb)
theorem u32_in (n : Int) (h0 : 0 ≤ n) (h1 : n < 2 ^ 32) : IntKind.u32.wrap n = n := by rw [IntKind.wrap_u32]; omega
theorem i64_in32 (n : Int) (h0 : 0 ≤ n) (h1 : n < 2 ^ 32) : IntKind.i64.wrap n = n := by rw [IntKind.wrap_i64]; omega
theorem xor_u32 (a b : Nat) (ha : a < 4294967296) (hb : b < 4294967296) : bits .xor .u32 a b = ((a ^^^ b : Nat) : Int) := bits_xor_nat .u32 32 (by decide) u32_in a b ha hb
theorem xor_i64 (a b : Nat) (ha : a < 4294967296) (hb : b < 4294967296) : bits .xor .i64 a b = ((a ^^^ b : Nat) : Int) := bits_xor_nat .i64 32 (by decide) i64_in32 a b ha hb
/-- Rounds: what is told for all numbers of rounds from some on. -/
theorem Ev.k {α : Type} {g : Nat → Option α} {r : α} (h : Ev g r) : ∃ k, g k = some r := h.rounds
theorem Ev.and {α β : Type} {g : Nat → Option α} {f : Nat → Option β} {r : α} {q : β} (h : Ev g r) (h' : Ev f q) : ∃ K, ∀ k, K ≤ k → g k = some r ∧ f k = some q := by
  obtain ⟨K, h⟩ := h
  obtain ⟨K', h'⟩ := h'
  exact ⟨max K K', fun k hk => ⟨h k (by omega), h' k (by omega)⟩⟩
theorem Ev.uniq {α : Type} {g : Nat → Option α} {r q : α} (h : Ev g r) (h' : Ev g q) : r = q := by
  obtain ⟨K, hk⟩ := Ev.and h h'
  have h1 := hk K (Nat.le_refl _)
  exact Option.some.inj (h1.1.symm.trans h1.2)
end Go.Proofs.Ytejdnbdppgakeaa.P
/- Lemmas of mine: loops that count up: over any function of rounds. Plain. -/
set_option linter.unusedVariables false
set_option linter.unusedSimpArgs false
namespace Go.Proofs.Ytejdnbdppgakeaa.P
open Go.RowKit Go.Proofs.YtejdnbdppgakeaaW.PrintWords
/-- A loop whose rounds change the place alone. -/
theorem up_loop {R : Type} (L : Nat → Int → Option R) (n : Nat) (r : R)
    (hstep : ∀ i : Nat, i < n → ∃ K, ∀ k, K ≤ k → L (k + 1) (i : Int) = L k ((i + 1 : Nat) : Int))
    (hend : ∃ K, ∀ k, K ≤ k → L (k + 1) (n : Int) = some r) : ∀ d i : Nat, i + d = n → Ev (fun k => L k (i : Int)) r := by
  intro d
  induction d with
  | zero =>
    intro i hi
    obtain rfl : i = n := by omega
    obtain ⟨K, h⟩ := hend
    exact ⟨K + 1, fun k hk => by obtain ⟨m, rfl⟩ : ∃ m, k = m + 1 := ⟨k - 1, by omega⟩; exact h m (by omega)⟩
  | succ d ih =>
    intro i hi
    obtain ⟨K, h⟩ := hstep i (by omega)
    obtain ⟨K2, h2⟩ := ih (i + 1) (by omega)
    refine ⟨K + K2 + 1, fun k hk => ?_⟩
    obtain ⟨m, rfl⟩ : ∃ m, k = m + 1 := ⟨k - 1, by omega⟩
    show L (m + 1) (i : Int) = some r
    rw [h m (by omega)]
    exact h2 m (by omega)
/-- A loop with a state: what holds of the state says what comes out. -/
theorem st_loop {σ R : Type} (L : Nat → σ → Int → Option R) (n : Nat) (out : Nat → σ → R → Prop)
    (hstep : ∀ (i : Nat) (s : σ), i < n → (∃ r, (∃ K, ∀ k, K ≤ k → L (k + 1) s (i : Int) = some r) ∧ out i s r) ∨ ∃ s', (∃ K, ∀ k, K ≤ k → L (k + 1) s (i : Int) = L k s' ((i + 1 : Nat) : Int)) ∧ ∀ r, out (i + 1) s' r → out i s r)
    (hend : ∀ s, ∃ r, (∃ K, ∀ k, K ≤ k → L (k + 1) s (n : Int) = some r) ∧ out n s r) : ∀ (d i : Nat) (s : σ), i + d = n → ∃ r, Ev (fun k => L k s (i : Int)) r ∧ out i s r := by
  intro d
  induction d with
  | zero =>
    intro i s hi
    obtain rfl : i = n := by omega
    obtain ⟨r, ⟨K, h⟩, ho⟩ := hend s
    exact ⟨r, ⟨K + 1, fun k hk => by obtain ⟨m, rfl⟩ : ∃ m, k = m + 1 := ⟨k - 1, by omega⟩; exact h m (by omega)⟩, ho⟩
  | succ d ih =>
    intro i s hi
    rcases hstep i s (by omega) with ⟨r, ⟨K, h⟩, ho⟩ | ⟨s', ⟨K, h⟩, ho⟩
    · exact ⟨r, ⟨K + 1, fun k hk => by obtain ⟨m, rfl⟩ : ∃ m, k = m + 1 := ⟨k - 1, by omega⟩; exact h m (by omega)⟩, ho⟩
    · obtain ⟨r, ⟨K2, h2⟩, ho2⟩ := ih (i + 1) s' (by omega)
      refine ⟨r, ⟨K + K2 + 1, fun k hk => ?_⟩, ho r ho2⟩
      obtain ⟨m, rfl⟩ : ∃ m, k = m + 1 := ⟨k - 1, by omega⟩
      show L (m + 1) s (i : Int) = some r
      rw [h m (by omega)]
      exact h2 m (by omega)
theorem map_set {α β : Type} (xs : List α) (ys : List β) (g : α → β) (i : Nat) (hi : i < xs.length) (hl : ys.length = xs.length) (hy : ys.take i = (xs.take i).map g) :
    (ys.set i (g (xs[i]'hi))).take (i + 1) = (xs.take (i + 1)).map g := by
  have e2 : (xs.take (i + 1)).map g = (xs.take i).map g ++ [g (xs[i]'hi)] := by
    rw [List.take_add_one, List.getElem?_eq_getElem hi, List.map_append]
    rfl
  have e : ((xs.take i).map g).length = i := by rw [List.length_map, List.length_take]; omega
  rw [e2, List.take_set, List.take_add_one, List.getElem?_eq_getElem (by omega), hy, List.set_append_right _ _ (by omega), e, Nat.sub_self]
  rfl
/-- A loop that fills a row of the same length. -/
theorem copy_loop {α β : Type} (L : Nat → List β → Int → Option (List β)) (xs : List α) (g : α → β)
    (hstep : ∀ (i : Nat) (ys : List β) (hi : i < xs.length), ys.length = xs.length → ∃ K, ∀ k, K ≤ k → L (k + 1) ys (i : Int) = L k (ys.set i (g (xs[i]'hi))) ((i + 1 : Nat) : Int))
    (hend : ∀ ys, ys.length = xs.length → ∃ K, ∀ k, K ≤ k → L (k + 1) ys (xs.length : Int) = some ys) :
    ∀ (d i : Nat) (ys : List β), i + d = xs.length → ys.length = xs.length → ys.take i = (xs.take i).map g → Ev (fun k => L k ys (i : Int)) (xs.map g) := by
  intro d
  induction d with
  | zero =>
    intro i ys hi hl hy
    obtain rfl : i = xs.length := by omega
    rw [List.take_of_length_le (by omega), List.take_of_length_le (Nat.le_refl _)] at hy
    subst hy
    obtain ⟨K, h⟩ := hend _ hl
    exact ⟨K + 1, fun k hk => by obtain ⟨m, rfl⟩ : ∃ m, k = m + 1 := ⟨k - 1, by omega⟩; exact h m (by omega)⟩
  | succ d ih =>
    intro i ys hi hl hy
    obtain ⟨K, h⟩ := hstep i ys (by omega) hl
    obtain ⟨K2, h2⟩ := ih (i + 1) (ys.set i (g (xs[i]'(by omega)))) (by omega) (by rw [List.length_set]; exact hl) (map_set xs ys g i (by omega) hl hy)
    refine ⟨K + K2 + 1, fun k hk => ?_⟩
    obtain ⟨m, rfl⟩ : ∃ m, k = m + 1 := ⟨k - 1, by omega⟩
    show L (m + 1) ys (i : Int) = _
    rw [h m (by omega)]
    exact h2 m (by omega)
theorem getD_nat {α : Type} (xs : List α) (z : α) (i : Nat) (h : i < xs.length) : xs.getD ((i : Nat) : Int).toNat z = xs[i]'h := by
  rw [Int.toNat_natCast, List.getD_eq_getElem?_getD, List.getElem?_eq_getElem h]; rfl
end Go.Proofs.Ytejdnbdppgakeaa.P
/- Lemmas of mine: bounds, the fields of a log. Plain. -/
set_option linter.unusedVariables false
set_option linter.unusedSimpArgs false
namespace Go.Proofs.Ytejdnbdppgakeaa.P
open Go.RowKit Go.Proofs.YtejdnbdppgakeaaW.PrintWords
theorem l01In_eq (a b c : Int) : spec_l01In.f a b c = some (decide (b ≤ a ∧ a ≤ c)) := by
  unfold spec_l01In.f
  by_cases h : a ≥ b
  · rw [if_pos h]; simp [show b ≤ a from h]
  · rw [if_neg h]; simp; omega
theorem within_eq (a b c : Int) : impl_within.f a b c = some (decide (b ≤ a ∧ a ≤ c)) := l01In_eq a b c
end Go.Proofs.Ytejdnbdppgakeaa.P
/- Lemmas of mine: lists of ranges: copied, the same; right sets; what is in a set. Plain. -/
set_option linter.unusedVariables false
set_option linter.unusedSimpArgs false
namespace Go.Proofs.Ytejdnbdppgakeaa.P
open Go.RowKit Go.Proofs.YtejdnbdppgakeaaW.PrintWords
def rgM (x : S88) : S86 := ⟨x.f0, x.f1⟩
theorem toRangeS_ev (xs : List S88) (h : xs.length ≤ 17592186044416) : Ev (fun k => laws_toRangeS.f k xs) (xs.map rgM) := by
  refine Ev.congr (f := fun k => laws_toRangeS.l0 k xs (List.replicate xs.length z86) ((0 : Nat) : Int)) (fun k => ?_)
    (copy_loop (fun k ys i => laws_toRangeS.l0 k xs ys i) xs rgM ?_ ?_ xs.length 0 _ (by omega) (by simp) (by simp))
  · simp only [laws_toRangeS.f, Int.toNat_natCast]
    rw [if_pos (by omega), if_pos h]
    rfl
  · intro i ys hi hl
    refine ⟨0, fun k _ => ?_⟩
    simp only [laws_toRangeS.l0, laws_toRange.f, rd_T88, getD_nat xs _ i hi, bS]
    rw [if_pos (by omega), if_pos (by omega), if_pos (by omega), w64s i (by omega), Int.toNat_natCast]
    rfl
  · intro ys hl
    refine ⟨0, fun k _ => ?_⟩
    simp only [laws_toRangeS.l0]
    rw [if_neg (by omega)]
theorem eqRangeS_self (ys : List S86) (h : ys.length ≤ 4611686018427387904) : Ev (fun k => laws_eqRangeS.f k ys ys) true := by
  refine Ev.congr (f := fun k => laws_eqRangeS.l0 k ys ys ((0 : Nat) : Int)) (fun k => ?_)
    (up_loop (fun k i => laws_eqRangeS.l0 k ys ys i) ys.length true ?_ ⟨0, fun k _ => ?_⟩ ys.length 0 (by omega))
  · unfold laws_eqRangeS.f
    exact if_pos rfl
  · intro i hi
    refine ⟨0, fun k _ => ?_⟩
    simp only [laws_eqRangeS.l0, laws_eqRange.f, if_true, bS]
    rw [if_pos (by omega), if_pos (by omega), if_pos (by omega), w64s i (by omega)]
  · simp only [laws_eqRangeS.l0]
    rw [if_neg (by omega)]
theorem szRangeS_some (xs : List S88) (n : Int) : ∃ z, laws_szRangeS.f xs n = some z := by
  unfold laws_szRangeS.f
  split <;> exact ⟨_, rfl⟩
/-- A right range; a right set. -/
def rangeR (x : S86) : Bool := decide ((0 ≤ x.f0 ∧ x.f0 ≤ 4294967295) ∧ (0 ≤ x.f1 ∧ x.f1 ≤ 4294967295))
def setR (l : List S86) : Bool := decide (1 ≤ l.length ∧ l.length ≤ 50) && l.all rangeR
theorem specSetOK_ev (l : List S86) : Ev (fun k => spec_l11SetOK.f k l) (setR l) := by
  unfold setR
  by_cases h : 1 ≤ l.length ∧ l.length ≤ 50
  · rw [decide_eq_true h, Bool.true_and]
    have hl : ∀ (d i : Nat), i + d = l.length → Ev (fun k => spec_l11SetOK.l0 k l (i : Int)) ((l.drop i).all rangeR) := by
      intro d
      induction d with
      | zero =>
        intro i hi
        rw [List.drop_eq_nil_of_le (by omega)]
        refine Ev.step (f := fun _ => some _) (fun k => ?_) (Ev.now _)
        simp only [spec_l11SetOK.l0]
        rw [if_neg (by omega)]
        rfl
      | succ d ih =>
        intro i hi
        have hlt : i < l.length := by omega
        rw [List.drop_eq_getElem_cons hlt, List.all_cons]
        have e : ∀ k, spec_l11SetOK.l0 (k + 1) l (i : Int) = if rangeR (l[i]'hlt) = true then spec_l11SetOK.l0 k l ((i + 1 : Nat) : Int) else some false := fun k => by
          simp only [spec_l11SetOK.l0, rd_T86, getD_nat l _ i hlt, l01In_eq, bS, decide_eq_true_eq]
          rw [if_pos (by omega), if_pos (by omega), w64s i (by omega)]
          generalize l[i]'hlt = x
          unfold rangeR
          by_cases h1 : 0 ≤ x.f0 ∧ x.f0 ≤ 4294967295
          · rw [if_pos h1]
            by_cases h2 : 0 ≤ x.f1 ∧ x.f1 ≤ 4294967295
            · rw [if_pos h2, if_pos (decide_eq_true ⟨h1, h2⟩)]
            · rw [if_neg h2, if_neg (by simp only [decide_eq_true_eq]; exact fun h => h2 h.2)]
          · rw [if_neg h1, if_neg (by simp only [decide_eq_true_eq]; exact fun h => h1 h.1)]
        cases hx : rangeR (l[i]'hlt) with
        | true =>
          rw [Bool.true_and]
          exact Ev.step (f := fun k => spec_l11SetOK.l0 k l ((i + 1 : Nat) : Int)) (fun k => by rw [e, if_pos hx]) (ih (i + 1) (by omega))
        | false =>
          rw [Bool.false_and]
          exact Ev.step (f := fun _ => some _) (fun k => by rw [e, if_neg (by rw [hx]; decide)]) (Ev.now _)
    refine Ev.congr (fun k => ?_) (hl l.length 0 (by omega))
    simp only [spec_l11SetOK.f, l01In_eq, bS]
    rw [if_pos (by rw [decide_eq_true_eq]; omega)]
    rfl
  · rw [decide_eq_false h, Bool.false_and]
    refine ⟨0, fun k _ => ?_⟩
    simp only [spec_l11SetOK.f, l01In_eq, bS]
    rw [if_neg (by rw [decide_eq_true_eq]; omega)]
theorem implRange_L (x : S86) : impl_setOK_L1.f x.f0 x.f1 = some (!rangeR x) := by
  simp only [impl_setOK_L1.f, within_eq, bS, decide_eq_true_eq, rangeR]
  by_cases h1 : 0 ≤ x.f0 ∧ x.f0 ≤ 4294967295
  · rw [if_pos h1]
    congr 2
    rw [decide_eq_decide]
    exact ⟨fun h => ⟨h1, h⟩, fun h => h.2⟩
  · rw [if_neg h1]
    congr 1
    rw [decide_eq_false (fun h => h1 h.1)]
    rfl
theorem implSetOK_eq (l : List S86) : impl_setOK.f l = some (setR l) := by
  unfold setR
  simp only [impl_setOK.f, within_eq, bS]
  by_cases h : 1 ≤ l.length ∧ l.length ≤ 50
  · have e : (fun x : S86 => (impl_setOK_L1.f x.f0 x.f1) == some true) = fun x => !rangeR x := by
      funext x
      rw [implRange_L]
      cases rangeR x <;> rfl
    have h2 : slices_ContainsFunc_Range_at_impl_setOK_L1.f l = some (!l.all rangeR) := by
      unfold slices_ContainsFunc_Range_at_impl_setOK_L1.f
      rw [if_pos ⟨by omega, by rw [List.all_eq_true]; intro x _; rw [implRange_L]; rfl⟩, e, List.not_all_eq_any_not]
    rw [if_pos (by rw [decide_eq_true_eq]; omega), h2, bS, decide_eq_true h, Bool.not_not, Bool.true_and]
  · rw [if_neg (by rw [decide_eq_true_eq]; omega), decide_eq_false h, Bool.false_and]
end Go.Proofs.Ytejdnbdppgakeaa.P
/- Lemmas of mine: what is in a set. Plain. -/
set_option linter.unusedVariables false
set_option linter.unusedSimpArgs false
namespace Go.Proofs.Ytejdnbdppgakeaa.P
open Go.RowKit Go.Proofs.YtejdnbdppgakeaaW.PrintWords
theorem specHas_l0 (l : List S86) (n top : Int) (hl : l.length ≤ 4611686018427387904) : ∀ (d i : Nat), i + d = l.length → Ev (fun k => spec_l11Has.l0 k l n top (i : Int)) ((l.drop i).any (hasR n top)) := by
  intro d
  induction d with
  | zero =>
    intro i hi
    rw [List.drop_eq_nil_of_le (by omega)]
    refine Ev.step (f := fun _ => some _) (fun k => ?_) (Ev.now _)
    simp only [spec_l11Has.l0]
    rw [if_neg (by omega)]
    rfl
  | succ d ih =>
    intro i hi
    have hlt : i < l.length := by omega
    rw [List.drop_eq_getElem_cons hlt, List.any_cons]
    have e : ∀ k, spec_l11Has.l0 (k + 1 + 1) l n top (i : Int) = if hasR n top (l[i]'hlt) = true then some true else spec_l11Has.l0 k l n top ((i + 1 : Nat) : Int) := fun k => by
      simp only [spec_l11Has.l0, spec_l11Has.j1, rd_T86, getD_nat l _ i hlt, l01In_eq, bS]
      rw [if_pos (by omega), if_pos (by omega), w64s i (by omega)]
      generalize l[i]'hlt = x
      unfold hasR endV
      by_cases h1 : x.f0 = 0 <;> by_cases h2 : x.f1 = 0 <;> simp only [h1, h2, if_true, if_false]
    cases hx : hasR n top (l[i]'hlt) with
    | true =>
      rw [Bool.true_or]
      exact Ev.step (f := fun k => spec_l11Has.l0 (k + 1) l n top (i : Int)) (fun k => rfl) ⟨1, fun k hk => by obtain ⟨m, rfl⟩ : ∃ m, k = m + 1 := ⟨k - 1, by omega⟩; simp only [e, hx, if_true]⟩
    | false =>
      rw [Bool.false_or]
      obtain ⟨K, h⟩ := ih (i + 1) (by omega)
      refine ⟨K + 2, fun k hk => ?_⟩
      obtain ⟨m, rfl⟩ : ∃ m, k = m + 1 + 1 := ⟨k - 2, by omega⟩
      show spec_l11Has.l0 (m + 1 + 1) l n top (i : Int) = _
      rw [e, hx, if_neg (by decide)]
      exact h m (by omega)
theorem specHas_ev (l : List S86) (n top : Int) (hl : l.length ≤ 4611686018427387904) : Ev (fun k => spec_l11Has.f k l n top) (l.any (hasR n top)) := specHas_l0 l n top hl l.length 0 (by omega)
theorem implHas_eq (l : List S86) (n top : Int) (hl : l.length ≤ 4611686018427387904) : impl_setHas.f l n top = some (l.any (hasR n top)) := by
  unfold impl_setHas.f
  rw [if_pos (by omega)]
end Go.Proofs.Ytejdnbdppgakeaa.P
/- The pure statement of the law FnExactSetHas: the two SetHas tell the same. No condition. -/
set_option linter.unusedVariables false
set_option linter.unusedSimpArgs false
namespace Go.Proofs.Ytejdnbdppgakeaa.P
open Go.RowKit Go.Proofs.YtejdnbdppgakeaaW.PrintWords
theorem setHas_both (l : List S86) (n top : Int) : ∃ q, impl_SetHas.f l n top = some q ∧ Ev (fun k => spec_SetHas.f k l n top) q := by
  by_cases h0 : (l.length : Int) > 4096
  · refine ⟨(false, 2), ?_, 0, fun k _ => ?_⟩
    · simp only [impl_SetHas.f]; rw [if_pos h0]
    · simp only [spec_SetHas.f]; rw [if_pos h0]
  · obtain ⟨K, hK⟩ := specSetOK_ev l
    cases hs : setR l with
    | false =>
      refine ⟨(false, 1), ?_, K, fun k hk => ?_⟩
      · simp only [impl_SetHas.f, implSetOK_eq, bS, hs]; rw [if_neg h0]; rfl
      · simp only [spec_SetHas.f, hK k hk, bS, hs]; rw [if_neg h0]; rfl
    | true =>
      by_cases h1 : 1 ≤ n ∧ n ≤ 4294967295
      · by_cases h2 : 0 ≤ top ∧ top ≤ 4294967295
        · obtain ⟨K2, hK2⟩ := specHas_ev l n top (by omega)
          refine ⟨(l.any (hasR n top), 0), ?_, K + K2, fun k hk => ?_⟩
          · simp only [impl_SetHas.f, implSetOK_eq, within_eq, bS, hs, implHas_eq l n top (by omega), decide_eq_true h1, decide_eq_true h2, if_true]; rw [if_neg h0]
          · simp only [spec_SetHas.f, hK k (by omega), hK2 k (by omega), l01In_eq, bS, hs, decide_eq_true h1, decide_eq_true h2, if_true]; rw [if_neg h0]
        · refine ⟨(false, 4), ?_, K, fun k hk => ?_⟩
          · simp only [impl_SetHas.f, implSetOK_eq, within_eq, bS, hs, decide_eq_true h1, decide_eq_false h2, if_true]; rw [if_neg h0]; rfl
          · simp only [spec_SetHas.f, hK k hk, l01In_eq, bS, hs, decide_eq_true h1, decide_eq_false h2, if_true]; rw [if_neg h0]; rfl
      · refine ⟨(false, 4), ?_, K, fun k hk => ?_⟩
        · simp only [impl_SetHas.f, implSetOK_eq, within_eq, bS, hs, decide_eq_false h1, if_true]; rw [if_neg h0]; rfl
        · simp only [spec_SetHas.f, hK k hk, l01In_eq, bS, hs, decide_eq_false h1, if_true]; rw [if_neg h0]; rfl
end Go.Proofs.Ytejdnbdppgakeaa.P
namespace Go.Proofs.Ytejdnbdppgakeaa.Pure
open Go.RowKit Go.Proofs.Ytejdnbdppgakeaa.P Go.Proofs.YtejdnbdppgakeaaW.PrintWords
theorem FnExactSetHas : laws_FnExactSetHas.Pure := by
  intro l n top hl _ _
  obtain ⟨_, hlen, _⟩ := hl
  obtain ⟨z, hz⟩ := szRangeS_some l 1048576
  obtain ⟨K1, h1⟩ := toRangeS_ev l (by omega)
  obtain ⟨⟨a, b⟩, h2, K2, h3⟩ := setHas_both (l.map rgM) n top
  obtain ⟨K4, h4⟩ := eqRangeS_self (l.map rgM) (by rw [List.length_map]; omega)
  refine ⟨K1 + K2 + K4 + 1, ?_⟩
  have e1 : ∀ k, K1 ≤ k → laws_toRangeS.f k l = some (l.map rgM) := h1
  have e3 : ∀ k, K2 ≤ k → spec_SetHas.f k (l.map rgM) n top = some (a, b) := h3
  have e4 : ∀ k, K4 ≤ k → laws_eqRangeS.f k (l.map rgM) (l.map rgM) = some true := h4
  clear h1 h3 h4
  have ej : laws_FnExactSetHas.j0 (K1 + K2 + K4 + 1) l (l.map rgM) false = some true := by
    simp only [laws_FnExactSetHas.j0, e1 (K1 + K2 + K4) (by omega), e4 (K1 + K2 + K4) (by omega), bS, if_true]
    rfl
  simp only [laws_FnExactSetHas.f, hz, e1 (K1 + K2 + K4 + 1) (by omega), e3 (K1 + K2 + K4 + 1) (by omega), h2, bS]
  split
  · rfl
  · have ha : (a != a) = false := by simp
    have hb : (b != b) = false := by simp
    rw [ha, hb, if_neg (by decide)]
    exact ej
end Go.Proofs.Ytejdnbdppgakeaa.Pure
/- The row of the law FnExactSetHas: for every input the call returns true and each argument reads behind the call as it read before. No condition of mine. -/
namespace Go.Proofs.Ytejdnbdppgakeaa.fnExactSetHas
open Go.ChangeShapes Go.WideShapes Go.ChangeAt Go.RowKit Go.Proofs.Ytejdnbdppgakeaa.P Go.Proofs.YtejdnbdppgakeaaW.PrintWords
open Go.ChangeMaps (open_string shut_string)
set_option linter.unusedVariables false
theorem own : ownKnob Try.prog.godebug = none := by kernel_rfl
theorem laidOut : laidOutB Try.prog = true := by kernel_rfl
set_option maxRecDepth 100000 in
theorem lifted (os : Os) (started : os.Started) (H : Type) (enc : TypeId × Value → H) :
    ReturnsInHanded {} Try.checked os 8 .any (Rows.fnExactSetHasSpec.pre6 enc Try.prog Try.f8 Rows.fnExactSetHasRow.domain false) (Rows.fnExactSetHasSpec.post enc Try.prog Try.f8 false true false false) := by
  refine returnsInHanded_of_change_sized (C := Try.checked) own started (by kernel_rfl) Try.func8
    (ChangeSpec.witness6 (enc := enc) (C := Try.checked) false ⟨#[], #[.slice none 0 0, .int .i64 0, .int .i64 0], []⟩ 8 (by kernel_rfl) (by kernel_rfl) (by kernel_rfl) (by kernel_rfl)) ?_
  intro W base args ds gs before hval0 hW hcnd hsz0 _
  have hsz : (DataW.weightsEach Try.prog (Try.f8.params.toList ++ Rows.fnExactSetHasSpec.plain.varTypes Try.prog) (ds ++ gs)).all (· ≤ reachBytes) = true := hsz0
  have hval : ∀ (j : Nat) t v, Try.f8.params[j]? = some t → args[j]? = some v → Value.okWide Try.prog W .any base t v := hval0
  have hW' := hW
  obtain ⟨p, q, hA0, hV, rfl, hfz, hnd⟩ := hW
  have hA : DataW.TrodAll enc Try.prog W 0 (fun _ => true) true Try.f8.params.toList args.toList ds p := hA0
  rw [Try.params8] at hA hval hsz
  obtain ⟨v0, vs0, d0, ds0, p0, q0, hargs, rfl, rfl, h0, r0⟩ := trodAll_cons hA
  obtain ⟨v1, vs1, d1, ds1, p1, q1, rfl, rfl, rfl, h1, r1⟩ := trodAll_cons r0
  obtain ⟨v2, vs2, d2, ds2, p2, q2, rfl, rfl, rfl, h2, r2⟩ := trodAll_cons r1
  obtain ⟨rfl, rfl, rfl⟩ := trodAll_nil r2
  obtain rfl : args = #[v0, v1, v2] := by cases args; simp_all
  obtain ⟨rfl, rfl⟩ := trodVars_none hV
  have kk0 := h0
  have lt0 : ∀ x ∈ p0, x.block < W.heap.size := by obtain ⟨m, hm⟩ := kk0; exact DataW.trod_lt m _ _ _ hm
  obtain ⟨x0, hK0, hS0⟩ := Tells.arg (Tells.slice (b := 16) Try.underlying43 (by kernel_rfl) (by kernel_rfl) tells88) h0 hsz (j := 0) (t := 43) rfl rfl
  obtain ⟨a0, len0, cap0, rfl⟩ := okWide_slice Try.underlying43 (hval 0 43 v0 rfl rfl)
  obtain ⟨A0, c0, hq0, hl0, hC0⟩ := hK0
  obtain ⟨rfl, rfl, rfl⟩ : a0 = A0 ∧ len0 = x0.length ∧ cap0 = c0 := by simpa [Value.cells] using hq0
  have kk1 := h1
  have lt1 : ∀ x ∈ p1, x.block < W.heap.size := by obtain ⟨m, hm⟩ := kk1; exact DataW.trod_lt m _ _ _ hm
  obtain ⟨x1, hK1, hS1⟩ := Tells.arg (Tells.int Try.underlying3) h1 hsz (j := 1) (t := 3) rfl rfl
  obtain ⟨a1, rfl⟩ := okWide_int Try.underlying3 (hval 1 3 v1 rfl rfl)
  have hq1 : [Value.int .i64 a1] = [Value.int .i64 x1] := hK1
  obtain rfl : a1 = x1 := by simpa using hq1
  have kk2 := h2
  have lt2 : ∀ x ∈ p2, x.block < W.heap.size := by obtain ⟨m, hm⟩ := kk2; exact DataW.trod_lt m _ _ _ hm
  obtain ⟨x2, hK2, hS2⟩ := Tells.arg (Tells.int Try.underlying3) h2 hsz (j := 2) (t := 3) rfl rfl
  obtain ⟨a2, rfl⟩ := okWide_int Try.underlying3 (hval 2 3 v2 rfl rfl)
  have hq2 : [Value.int .i64 a2] = [Value.int .i64 x2] := hK2
  obtain rfl : a2 = x2 := by simpa using hq2
  clear hA0 hval0 hsz0 hsz
  obtain ⟨k, h⟩ := Pure.FnExactSetHas x0 a1 a2 hS0 hS1 hS2
  refine (laws_FnExactSetHas.calls k _ _ x0 a1 a2 true W hC0 hl0 h).mono fun e W' ⟨he, bel0⟩ => ?_
  have bel : Below W.heap.size W W' := bel0
  subst he
  exact ⟨_, rfl, _, _, _, [], _, [], hW', trodAll_mk1 (shut_bool Try.underlying4 _), (trodAll_cons_mk (Below.trod laidOut (by kernel_rfl) (of_decide_eq_true (by kernel_rfl)) kk0 bel lt0) (trodAll_cons_mk (Below.trod laidOut (by kernel_rfl) (of_decide_eq_true (by kernel_rfl)) kk1 bel lt1) (trodAll_cons_mk (Below.trod laidOut (by kernel_rfl) (of_decide_eq_true (by kernel_rfl)) kk2 bel lt2) trodAll_mk0))), rfl, bel.frame _, fun h => by cases h⟩
theorem over : Rows.fnExactSetHasRow.holds Try.pinned (OpenSpec.ofChange Rows.fnExactSetHasSpec) :=
  OpenClaim.holds_of_wide 8 Try.f8 rfl rfl rfl rfl rfl rfl rfl ⟨rfl, rfl, rfl, rfl, rfl⟩ rfl rfl rfl rfl rfl (by kernel_rfl) Try.func8 (by kernel_rfl)
    (of_decide_eq_true (by kernel_rfl)) (by unfold Func.isWrapper; first | (rw [if_pos (by decide +kernel)]; kernel_rfl) | (rw [if_neg (by decide +kernel)]; exact ⟨rfl, rfl⟩))
    (fun os started H enc _ => lifted os started H enc)
theorem proved : Rows.FnExactSetHasSaid := over
#print axioms proved
end Go.Proofs.Ytejdnbdppgakeaa.fnExactSetHas
namespace Go.Proofs.Ytejdnbdppgakeaa
/-- The row, under a short name, for the claim. -/
theorem fnExactSetHas_holds : Rows.FnExactSetHasSaid := fnExactSetHas.proved
end Go.Proofs.Ytejdnbdppgakeaa
