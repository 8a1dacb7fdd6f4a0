/- Part 14 of what the law FnExactSameStore stands on; the last part ends with the law's row. No condition of mine. -/
import Derived.Test.YtjaedjcdgeikpaaMFnExactSameStore1
import Derived.Test.YtjaedjcdgeikpaaMFnExactSameStore2
import Derived.Test.YtjaedjcdgeikpaaMFnExactSameStore3
import Derived.Test.YtjaedjcdgeikpaaMFnExactSameStore4
import Derived.Test.YtjaedjcdgeikpaaMFnExactSameStore10
import Derived.Test.YtjaedjcdgeikpaaMFnExactSameStore13
import Derived.Lib.Strings
import Derived.Lib.IndexBytes
import Derived.Laws.BitsLemmas
import Derived.IntWalk
import Derived.Test.YtjaedjcdgeikpaaMFnExactSameStore5
import Derived.Test.YtjaedjcdgeikpaaMFnExactSameStore11
namespace Go.Proofs.Ytjaedjcdgeikpaa.P
open Go.RowKit Go.Proofs.YtjaedjcdgeikpaaW.PrintWords Go.Proofs.YtjaedjcdgeikpaaW.PrintLast Go.Proofs.YtjaedjcdgeikpaaW.PrintMore
attribute [local go_sem] max2_int min2_int max_two min_two max_three min_three max_four min_four   -- for this text's walks alone
set_option linter.unusedVariables false
set_option linter.unusedSimpArgs false

/-! ### laws_FnExactSameStore: function 5 -/
def laws_FnExactSameStore.j0 : Nat → List (S25) → List (S25) → List (S33) → List (S33) → Bool → Option (Bool)
 | 0, _, _, _, _, _ => none
 | k + 1, x0, x1, x8, x9, x47 => if x47 = true then (some false) else ((laws_toBoxS.f k x0).bind fun t119 => ((laws_eqBoxS.f k x8 t119).bind fun t122 => (if t122 = true then ((laws_toBoxS.f k x1).bind fun t123 => ((laws_eqBoxS.f k x9 t123).bind fun t126 => (if t126 = true then (some true) else (some false)))) else (some false))))
def laws_FnExactSameStore.f (k : Nat) (l0 : List (S25)) (l1 : List (S25)) : Option (Bool) := (laws_szBoxS.f k l0 1048576).bind fun t101 => (if t101 < 0 then (some true) else ((laws_szBoxS.f k l1 t101).bind fun t102 => (if t102 < 0 then (some true) else ((laws_toBoxS.f k l0).bind fun t103 => ((laws_toBoxS.f k l1).bind fun t106 => ((spec_SameStore.f k t103 t106).bind fun bt109 => ((laws_toBoxS.f k l0).bind fun t111 => ((laws_toBoxS.f k l1).bind fun t114 => ((impl_SameStore.f k t111 t114).bind fun bt117 => (if (bt117.1 != bt109.1) = true then (laws_FnExactSameStore.j0 k l0 l1 t111 t114 true) else (laws_FnExactSameStore.j0 k l0 l1 t111 t114 (bt117.2 != bt109.2))))))))))))
theorem laws_FnExactSameStore.mono_l : ∀ k, (∀ y0 y1 y2 y3 y4, LeO (laws_FnExactSameStore.j0 k y0 y1 y2 y3 y4) (laws_FnExactSameStore.j0 (k + 1) y0 y1 y2 y3 y4))
 | 0 => fun _ _ _ _ _ r h => by simp [laws_FnExactSameStore.j0] at h
 | k + 1 => by
  have ih0 := laws_FnExactSameStore.mono_l k
  ·intro y0 y1 y2 y3 y4
   unfold laws_FnExactSameStore.j0
   repeat' first
   | (with_reducible exact ih0 _ _ _ _ _)
   | (with_reducible exact impl_SameStore.mono _ _ _)
   | (with_reducible exact laws_eqBoxS.mono _ _ _)
   | (with_reducible exact laws_szBoxS.mono _ _ _)
   | (with_reducible exact laws_toBoxS.mono _ _)
   | (with_reducible exact spec_SameStore.mono _ _ _)
   | (with_reducible exact LeO.refl _)
   | (with_reducible exact LeO.none _)
   | (with_reducible refine LeO.ite ?_ ?_)
   | (with_reducible refine LeO.bind ?_ (fun _ => ?_))
   | exact ih0 _ _ _ _ _
   | exact impl_SameStore.mono _ _ _
   | exact laws_eqBoxS.mono _ _ _
   | exact laws_szBoxS.mono _ _ _
   | exact laws_toBoxS.mono _ _
   | exact spec_SameStore.mono _ _ _
   | exact LeO.none _
   | refine LeO.ite ?_ ?_
   | refine LeO.bind ?_ (fun _ => ?_)
theorem laws_FnExactSameStore.mono : ∀ a0 a1 k, LeO (laws_FnExactSameStore.f k a0 a1) (laws_FnExactSameStore.f (k + 1) a0 a1) := by
 intro a0 a1 k
 have ih0 := laws_FnExactSameStore.mono_l k
 unfold laws_FnExactSameStore.f
 repeat' first
   | (with_reducible exact ih0 _ _ _ _ _)
   | (with_reducible exact impl_SameStore.mono _ _ _)
   | (with_reducible exact laws_eqBoxS.mono _ _ _)
   | (with_reducible exact laws_szBoxS.mono _ _ _)
   | (with_reducible exact laws_toBoxS.mono _ _)
   | (with_reducible exact spec_SameStore.mono _ _ _)
   | (with_reducible exact LeO.refl _)
   | (with_reducible exact LeO.none _)
   | (with_reducible refine LeO.ite ?_ ?_)
   | (with_reducible refine LeO.bind ?_ (fun _ => ?_))
   | exact ih0 _ _ _ _ _
   | exact impl_SameStore.mono _ _ _
   | exact laws_eqBoxS.mono _ _ _
   | exact laws_szBoxS.mono _ _ _
   | exact laws_toBoxS.mono _ _
   | exact spec_SameStore.mono _ _ _
   | exact LeO.none _
   | refine LeO.ite ?_ ?_
   | refine LeO.bind ?_ (fun _ => ?_)
set_option maxHeartbeats 8000000 in
set_option maxRecDepth 100000 in
theorem laws_FnExactSameStore.calls (k : Nat) (A0 : Option Addr) (c0 : Nat) (l0 : List (S25)) (A1 : Option Addr) (c1 : Nat) (l1 : List (S25)) (r : Bool) (w : World) (hr0 : Kd.C k25 w A0 l0.length l0) (hc0 : l0.length ≤ c0) (hr1 : Kd.C k25 w A1 l1.length l1) (hc1 : l1.length ≤ c1) (h : laws_FnExactSameStore.f k l0 l1 = some r) :
  Calls Try.prog 5 #[.slice A0 l0.length c0, .slice A1 l1.length c1] w fun e w' => e = .returned (.bool r) ∧ Below w.heap.size w w' := by
 have HR0 := qM_ hr0
 have HC0 := qM_ hc0
 clear hr0 hc0
 have HR1 := qM_ hr1
 have HC1 := qM_ hc1
 clear hr1 hc1
 have HB := qM_ (Below.refl w.heap.size w)
 have H : ((laws_szBoxS.f k l0 1048576).bind fun t101 => (if t101 < 0 then (some true) else ((laws_szBoxS.f k l1 t101).bind fun t102 => (if t102 < 0 then (some true) else ((laws_toBoxS.f k l0).bind fun t103 => ((laws_toBoxS.f k l1).bind fun t106 => ((spec_SameStore.f k t103 t106).bind fun bt109 => ((laws_toBoxS.f k l0).bind fun t111 => ((laws_toBoxS.f k l1).bind fun t114 => ((impl_SameStore.f k t111 t114).bind fun bt117 => (if (bt117.1 != bt109.1) = true then (laws_FnExactSameStore.j0 k l0 l1 t111 t114 true) else (laws_FnExactSameStore.j0 k l0 l1 t111 t114 (bt117.2 != bt109.2))))))))))))) = some r := h
 clear h
 replace H := Option.bind_eq_some_iff.mp H
 obtain ⟨t101, A30, H⟩ := H
 replace H : (if t101 < 0 then (some true) else ((laws_szBoxS.f k l1 t101).bind fun t102 => (if t102 < 0 then (some true) else ((laws_toBoxS.f k l0).bind fun t103 => ((laws_toBoxS.f k l1).bind fun t106 => ((spec_SameStore.f k t103 t106).bind fun bt109 => ((laws_toBoxS.f k l0).bind fun t111 => ((laws_toBoxS.f k l1).bind fun t114 => ((impl_SameStore.f k t111 t114).bind fun bt117 => (if (bt117.1 != bt109.1) = true then (laws_FnExactSameStore.j0 k l0 l1 t111 t114 true) else (laws_FnExactSameStore.j0 k l0 l1 t111 t114 (bt117.2 != bt109.2)))))))))))) = some r := H
 have A3 := qM_ A30
 clear A30
 by_cases c4 : t101 < 0
 ·rw [if_pos c4] at H
  have c4b0 : decide (t101 < 0) = true := decide_eq_true c4
  clear c4
  obtain rfl := Option.some.inj H
  go_enter Try.func5, Try.ntmps5
  go_wp2_with (first | ((with_reducible refine gate_callee (f := 13) rfl ?_); refine goesL_ (some 14) rfl rfl Try.func13 (by kernel_rfl) rfl #[.slice A0 l0.length c0, .int .i64 1048576] rfl (by (try simp only [List.map_toArray, List.map_cons, List.map_nil]); first | done | rfl | (simp only [List.length_drop, List.length_take]; rfl)) ?_; (with_reducible refine (laws_szBoxS.calls k _ _ l0 1048576 t101 _ ?side1 ?side2 A3.out).mono ?_); (case side1 => repeat (first | exact HR0.out | (with_reducible refine Kd.C_alloc ?_ _) | (with_reducible refine Kd.C_drewN ?_ _) | (with_reducible refine Kd.C_drew ?_))); (case side2 => exact HC0.out); rintro e w5 ⟨rfl, hb⟩; refine ⟨_, rfl, ?_⟩; have n0_ := qM_ (below_step (by repeat (first | (with_reducible first | exact HB.out | apply qA_ | apply qD_ | apply qE_) | exact HB.out)) hb); clear HB; have HB := n0_; clear n0_; (try clear hb); (try clear hb2); (try clear hk); (try clear hi)))
  go_ret
  exact ⟨by first | rfl | (simp [errW_none, errW_some] <;> rfl) | (simp [*, errW_none, errW_some] <;> rfl), by repeat (first | (with_reducible first | exact HB.out | apply qA_ | apply qD_ | apply qE_) | exact HB.out)⟩
 ·rw [if_neg c4] at H
  have c4b0 : decide (t101 < 0) = false := decide_eq_false c4
  clear c4
  replace H := Option.bind_eq_some_iff.mp H
  obtain ⟨t102, A60, H⟩ := H
  replace H : (if t102 < 0 then (some true) else ((laws_toBoxS.f k l0).bind fun t103 => ((laws_toBoxS.f k l1).bind fun t106 => ((spec_SameStore.f k t103 t106).bind fun bt109 => ((laws_toBoxS.f k l0).bind fun t111 => ((laws_toBoxS.f k l1).bind fun t114 => ((impl_SameStore.f k t111 t114).bind fun bt117 => (if (bt117.1 != bt109.1) = true then (laws_FnExactSameStore.j0 k l0 l1 t111 t114 true) else (laws_FnExactSameStore.j0 k l0 l1 t111 t114 (bt117.2 != bt109.2)))))))))) = some r := H
  have A6 := qM_ A60
  clear A60
  by_cases c7 : t102 < 0
  ·rw [if_pos c7] at H
   have c7b0 : decide (t102 < 0) = true := decide_eq_true c7
   clear c7
   obtain rfl := Option.some.inj H
   go_enter Try.func5, Try.ntmps5
   go_wp2_with (first | ((with_reducible refine gate_callee (f := 13) rfl ?_); refine goesL_ (some 14) rfl rfl Try.func13 (by kernel_rfl) rfl #[.slice A0 l0.length c0, .int .i64 1048576] rfl (by (try simp only [List.map_toArray, List.map_cons, List.map_nil]); first | done | rfl | (simp only [List.length_drop, List.length_take]; rfl)) ?_; (with_reducible refine (laws_szBoxS.calls k _ _ l0 1048576 t101 _ ?side1 ?side2 A3.out).mono ?_); (case side1 => repeat (first | exact HR0.out | (with_reducible refine Kd.C_alloc ?_ _) | (with_reducible refine Kd.C_drewN ?_ _) | (with_reducible refine Kd.C_drew ?_))); (case side2 => exact HC0.out); rintro e w8 ⟨rfl, hb⟩; refine ⟨_, rfl, ?_⟩; have n0_ := qM_ (below_step (by repeat (first | (with_reducible first | exact HB.out | apply qA_ | apply qD_ | apply qE_) | exact HB.out)) hb); clear HB; have HB := n0_; clear n0_; (try clear hb); (try clear hb2); (try clear hk); (try clear hi)) | ((with_reducible refine gate_callee (f := 13) rfl ?_); refine goesL_ (some 19) rfl rfl Try.func13 (by kernel_rfl) rfl #[.slice A1 l1.length c1, .int .i64 t101] rfl (by (try simp only [List.map_toArray, List.map_cons, List.map_nil]); first | done | rfl | (simp only [List.length_drop, List.length_take]; rfl)) ?_; (with_reducible refine (laws_szBoxS.calls k _ _ l1 t101 t102 _ ?side1 ?side2 A6.out).mono ?_); (case side1 => repeat (first | exact (Kd.C_below HR1.out HB.out) | (with_reducible refine Kd.C_alloc ?_ _) | (with_reducible refine Kd.C_drewN ?_ _) | (with_reducible refine Kd.C_drew ?_))); (case side2 => exact HC1.out); rintro e w9 ⟨rfl, hb⟩; refine ⟨_, rfl, ?_⟩; have n0_ := qM_ (below_step (by repeat (first | (with_reducible first | exact HB.out | apply qA_ | apply qD_ | apply qE_) | exact HB.out)) hb); clear HB; have HB := n0_; clear n0_; (try clear hb); (try clear hb2); (try clear hk); (try clear hi)))
   go_ret
   exact ⟨by first | rfl | (simp [errW_none, errW_some] <;> rfl) | (simp [*, errW_none, errW_some] <;> rfl), by repeat (first | (with_reducible first | exact HB.out | apply qA_ | apply qD_ | apply qE_) | exact HB.out)⟩
  ·rw [if_neg c7] at H
   have c7b0 : decide (t102 < 0) = false := decide_eq_false c7
   clear c7
   replace H := Option.bind_eq_some_iff.mp H
   obtain ⟨t103, A100, H⟩ := H
   replace H : ((laws_toBoxS.f k l1).bind fun t106 => ((spec_SameStore.f k t103 t106).bind fun bt109 => ((laws_toBoxS.f k l0).bind fun t111 => ((laws_toBoxS.f k l1).bind fun t114 => ((impl_SameStore.f k t111 t114).bind fun bt117 => (if (bt117.1 != bt109.1) = true then (laws_FnExactSameStore.j0 k l0 l1 t111 t114 true) else (laws_FnExactSameStore.j0 k l0 l1 t111 t114 (bt117.2 != bt109.2)))))))) = some r := H
   have A10 := qM_ A100
   clear A100
   replace H := Option.bind_eq_some_iff.mp H
   obtain ⟨t106, A110, H⟩ := H
   replace H : ((spec_SameStore.f k t103 t106).bind fun bt109 => ((laws_toBoxS.f k l0).bind fun t111 => ((laws_toBoxS.f k l1).bind fun t114 => ((impl_SameStore.f k t111 t114).bind fun bt117 => (if (bt117.1 != bt109.1) = true then (laws_FnExactSameStore.j0 k l0 l1 t111 t114 true) else (laws_FnExactSameStore.j0 k l0 l1 t111 t114 (bt117.2 != bt109.2))))))) = some r := H
   have A11 := qM_ A110
   clear A110
   replace H := Option.bind_eq_some_iff.mp H
   obtain ⟨⟨t109, t110⟩, A120, H⟩ := H
   replace H : ((laws_toBoxS.f k l0).bind fun t111 => ((laws_toBoxS.f k l1).bind fun t114 => ((impl_SameStore.f k t111 t114).bind fun bt117 => (if (bt117.1 != t109) = true then (laws_FnExactSameStore.j0 k l0 l1 t111 t114 true) else (laws_FnExactSameStore.j0 k l0 l1 t111 t114 (bt117.2 != t110)))))) = some r := H
   have A12 := qM_ A120
   clear A120
   replace H := Option.bind_eq_some_iff.mp H
   obtain ⟨t111, A130, H⟩ := H
   replace H : ((laws_toBoxS.f k l1).bind fun t114 => ((impl_SameStore.f k t111 t114).bind fun bt117 => (if (bt117.1 != t109) = true then (laws_FnExactSameStore.j0 k l0 l1 t111 t114 true) else (laws_FnExactSameStore.j0 k l0 l1 t111 t114 (bt117.2 != t110))))) = some r := H
   have A13 := qM_ A130
   clear A130
   replace H := Option.bind_eq_some_iff.mp H
   obtain ⟨t114, A140, H⟩ := H
   replace H : ((impl_SameStore.f k t111 t114).bind fun bt117 => (if (bt117.1 != t109) = true then (laws_FnExactSameStore.j0 k l0 l1 t111 t114 true) else (laws_FnExactSameStore.j0 k l0 l1 t111 t114 (bt117.2 != t110)))) = some r := H
   have A14 := qM_ A140
   clear A140
   replace H := Option.bind_eq_some_iff.mp H
   obtain ⟨⟨t117, t118⟩, A150, H⟩ := H
   replace H : (if (t117 != t109) = true then (laws_FnExactSameStore.j0 k l0 l1 t111 t114 true) else (laws_FnExactSameStore.j0 k l0 l1 t111 t114 (t118 != t110))) = some r := H
   have A15 := qM_ A150
   clear A150
   have HC16 := qM_ H
   clear H
   go_enter Try.func5, Try.ntmps5
   go_upto_region 12 with (first | ((with_reducible refine gate_callee (f := 13) rfl ?_); refine goesL_ (some 14) rfl rfl Try.func13 (by kernel_rfl) rfl #[.slice A0 l0.length c0, .int .i64 1048576] rfl (by (try simp only [List.map_toArray, List.map_cons, List.map_nil]); first | done | rfl | (simp only [List.length_drop, List.length_take]; rfl)) ?_; (with_reducible refine (laws_szBoxS.calls k _ _ l0 1048576 t101 _ ?side1 ?side2 A3.out).mono ?_); (case side1 => repeat (first | exact HR0.out | (with_reducible refine Kd.C_alloc ?_ _) | (with_reducible refine Kd.C_drewN ?_ _) | (with_reducible refine Kd.C_drew ?_))); (case side2 => exact HC0.out); rintro e w17 ⟨rfl, hb⟩; refine ⟨_, rfl, ?_⟩; have n0_ := qM_ (below_step (by repeat (first | (with_reducible first | exact HB.out | apply qA_ | apply qD_ | apply qE_) | exact HB.out)) hb); clear HB; have HB := n0_; clear n0_; (try clear hb); (try clear hb2); (try clear hk); (try clear hi)) | ((with_reducible refine gate_callee (f := 13) rfl ?_); refine goesL_ (some 19) rfl rfl Try.func13 (by kernel_rfl) rfl #[.slice A1 l1.length c1, .int .i64 t101] rfl (by (try simp only [List.map_toArray, List.map_cons, List.map_nil]); first | done | rfl | (simp only [List.length_drop, List.length_take]; rfl)) ?_; (with_reducible refine (laws_szBoxS.calls k _ _ l1 t101 t102 _ ?side1 ?side2 A6.out).mono ?_); (case side1 => repeat (first | exact (Kd.C_below HR1.out HB.out) | (with_reducible refine Kd.C_alloc ?_ _) | (with_reducible refine Kd.C_drewN ?_ _) | (with_reducible refine Kd.C_drew ?_))); (case side2 => exact HC1.out); rintro e w18 ⟨rfl, hb⟩; refine ⟨_, rfl, ?_⟩; have n0_ := qM_ (below_step (by repeat (first | (with_reducible first | exact HB.out | apply qA_ | apply qD_ | apply qE_) | exact HB.out)) hb); clear HB; have HB := n0_; clear n0_; (try clear hb); (try clear hb2); (try clear hk); (try clear hi)) | ((with_reducible refine gate_callee (f := 15) rfl ?_); refine goesL_ (some 24) rfl rfl Try.func15 (by kernel_rfl) rfl #[.slice A0 l0.length c0] rfl (by (try simp only [List.map_toArray, List.map_cons, List.map_nil]); first | done | rfl | (simp only [List.length_drop, List.length_take]; rfl)) ?_; (with_reducible refine (laws_toBoxS.calls k _ _ l0 t103 _ ?side1 ?side2 A10.out).mono ?_); (case side1 => repeat (first | exact (Kd.C_below HR0.out HB.out) | (with_reducible refine Kd.C_alloc ?_ _) | (with_reducible refine Kd.C_drewN ?_ _) | (with_reducible refine Kd.C_drew ?_))); (case side2 => exact HC0.out); rintro e w19 ⟨v104, rfl, ho0, hb⟩; refine ⟨_, rfl, ?_⟩; have n0_ := qM_ (Kd.S_lower ho0 (below_size (by repeat (first | (with_reducible first | exact HB.out | apply qA_ | apply qD_ | apply qE_) | exact HB.out)))); have n1_ := qM_ (below_step (by repeat (first | (with_reducible first | exact HB.out | apply qA_ | apply qD_ | apply qE_) | exact HB.out)) hb); clear HB; have HO105 := n0_; have HB := n1_; clear n0_ n1_; (try clear hb); (try clear hb2); (try clear hk); (try clear hi); (try clear ho0)) | ((with_reducible refine gate_callee (f := 15) rfl ?_); refine goesL_ (some 26) rfl rfl Try.func15 (by kernel_rfl) rfl #[.slice A1 l1.length c1] rfl (by (try simp only [List.map_toArray, List.map_cons, List.map_nil]); first | done | rfl | (simp only [List.length_drop, List.length_take]; rfl)) ?_; (with_reducible refine (laws_toBoxS.calls k _ _ l1 t106 _ ?side1 ?side2 A11.out).mono ?_); (case side1 => repeat (first | exact (Kd.C_below HR1.out HB.out) | (with_reducible refine Kd.C_alloc ?_ _) | (with_reducible refine Kd.C_drewN ?_ _) | (with_reducible refine Kd.C_drew ?_))); (case side2 => exact HC1.out); rintro e w20 ⟨v107, rfl, ho0, hb⟩; refine ⟨_, rfl, ?_⟩; have n0_ := qM_ (Kd.S_elder' (by (with_reducible repeat (first | apply Kd.S_alloc | apply Kd.S_drewN | apply Kd.S_drew)); exact HO105.out) (Kd.S_base ho0) hb); have n1_ := qM_ (Kd.S_lower (Kd.S_new' ho0 (Kd.S_lt (by (with_reducible repeat (first | apply Kd.S_alloc | apply Kd.S_drewN | apply Kd.S_drew)); exact HO105.out))) (below_size (by repeat (first | (with_reducible first | exact HB.out | apply qA_ | apply qD_ | apply qE_) | exact HB.out)))); have n2_ := qM_ (below_step (by repeat (first | (with_reducible first | exact HB.out | apply qA_ | apply qD_ | apply qE_) | exact HB.out)) hb); clear HO105; clear HB; have HO105 := n0_; have HO108 := n1_; have HB := n2_; clear n0_ n1_ n2_; (try clear hb); (try clear hb2); (try clear hk); (try clear hi); (try clear ho0); obtain ⟨Ao21, co21, eo21⟩ := Kd.S_slice HO105.out; subst eo21; obtain ⟨Ao22, co22, eo22⟩ := Kd.S_slice HO108.out; subst eo22) | ((with_reducible refine gate_callee (f := 18) rfl ?_); refine goesL_ (some 27) rfl rfl Try.func18 (by kernel_rfl) rfl #[.slice Ao21 t103.length co21, .slice Ao22 t106.length co22] rfl (by (try simp only [List.map_toArray, List.map_cons, List.map_nil]); first | done | rfl | (simp only [List.length_drop, List.length_take]; rfl)) ?_; (with_reducible refine (spec_SameStore.calls k _ _ t103 _ _ t106 t109 t110 _ ?side1 ?side2 ?side3 ?side4 A12.out).mono ?_); (case side1 => repeat (first | exact (Kd.S_reads' HO105.out).2.2 | (with_reducible refine Kd.C_alloc ?_ _) | (with_reducible refine Kd.C_drewN ?_ _) | (with_reducible refine Kd.C_drew ?_))); (case side2 => exact (Kd.S_reads' HO105.out).2.1); (case side3 => repeat (first | exact (Kd.S_reads' HO108.out).2.2 | (with_reducible refine Kd.C_alloc ?_ _) | (with_reducible refine Kd.C_drewN ?_ _) | (with_reducible refine Kd.C_drew ?_))); (case side4 => exact (Kd.S_reads' HO108.out).2.1); rintro e w23 ⟨rfl, hb⟩; refine ⟨_, rfl, ?_⟩; have n0_ := qM_ (Kd.S_below (by (with_reducible repeat (first | apply Kd.S_alloc | apply Kd.S_drewN | apply Kd.S_drew)); exact HO105.out) hb); have n1_ := qM_ (Kd.S_below (by (with_reducible repeat (first | apply Kd.S_alloc | apply Kd.S_drewN | apply Kd.S_drew)); exact HO108.out) hb); have n2_ := qM_ (below_step (by repeat (first | (with_reducible first | exact HB.out | apply qA_ | apply qD_ | apply qE_) | exact HB.out)) hb); clear HO105; clear HO108; clear HB; have HO105 := n0_; have HO108 := n1_; have HB := n2_; clear n0_ n1_ n2_; (try clear hb); (try clear hb2); (try clear hk); (try clear hi)) | ((with_reducible refine gate_callee (f := 15) rfl ?_); refine goesL_ (some 31) rfl rfl Try.func15 (by kernel_rfl) rfl #[.slice A0 l0.length c0] rfl (by (try simp only [List.map_toArray, List.map_cons, List.map_nil]); first | done | rfl | (simp only [List.length_drop, List.length_take]; rfl)) ?_; (with_reducible refine (laws_toBoxS.calls k _ _ l0 t111 _ ?side1 ?side2 A13.out).mono ?_); (case side1 => repeat (first | exact (Kd.C_below HR0.out HB.out) | (with_reducible refine Kd.C_alloc ?_ _) | (with_reducible refine Kd.C_drewN ?_ _) | (with_reducible refine Kd.C_drew ?_))); (case side2 => exact HC0.out); rintro e w24 ⟨v112, rfl, ho0, hb⟩; refine ⟨_, rfl, ?_⟩; have n0_ := qM_ (Kd.S_elder' (by (with_reducible repeat (first | apply Kd.S_alloc | apply Kd.S_drewN | apply Kd.S_drew)); exact HO105.out) (Kd.S_base ho0) hb); have n1_ := qM_ (Kd.S_elder' (by (with_reducible repeat (first | apply Kd.S_alloc | apply Kd.S_drewN | apply Kd.S_drew)); exact HO108.out) (Kd.S_base ho0) hb); have n2_ := qM_ (Kd.S_lower (Kd.S_new' (Kd.S_new' ho0 (Kd.S_lt (by (with_reducible repeat (first | apply Kd.S_alloc | apply Kd.S_drewN | apply Kd.S_drew)); exact HO105.out))) (Kd.S_lt (by (with_reducible repeat (first | apply Kd.S_alloc | apply Kd.S_drewN | apply Kd.S_drew)); exact HO108.out))) (below_size (by repeat (first | (with_reducible first | exact HB.out | apply qA_ | apply qD_ | apply qE_) | exact HB.out)))); have n3_ := qM_ (below_step (by repeat (first | (with_reducible first | exact HB.out | apply qA_ | apply qD_ | apply qE_) | exact HB.out)) hb); clear HO105; clear HO108; clear HB; have HO105 := n0_; have HO108 := n1_; have HO113 := n2_; have HB := n3_; clear n0_ n1_ n2_ n3_; (try clear hb); (try clear hb2); (try clear hk); (try clear hi); (try clear ho0)) | ((with_reducible refine gate_callee (f := 15) rfl ?_); refine goesL_ (some 33) rfl rfl Try.func15 (by kernel_rfl) rfl #[.slice A1 l1.length c1] rfl (by (try simp only [List.map_toArray, List.map_cons, List.map_nil]); first | done | rfl | (simp only [List.length_drop, List.length_take]; rfl)) ?_; (with_reducible refine (laws_toBoxS.calls k _ _ l1 t114 _ ?side1 ?side2 A14.out).mono ?_); (case side1 => repeat (first | exact (Kd.C_below HR1.out HB.out) | (with_reducible refine Kd.C_alloc ?_ _) | (with_reducible refine Kd.C_drewN ?_ _) | (with_reducible refine Kd.C_drew ?_))); (case side2 => exact HC1.out); rintro e w25 ⟨v115, rfl, ho0, hb⟩; refine ⟨_, rfl, ?_⟩; have n0_ := qM_ (Kd.S_elder' (by (with_reducible repeat (first | apply Kd.S_alloc | apply Kd.S_drewN | apply Kd.S_drew)); exact HO105.out) (Kd.S_base ho0) hb); have n1_ := qM_ (Kd.S_elder' (by (with_reducible repeat (first | apply Kd.S_alloc | apply Kd.S_drewN | apply Kd.S_drew)); exact HO108.out) (Kd.S_base ho0) hb); have n2_ := qM_ (Kd.S_elder' (by (with_reducible repeat (first | apply Kd.S_alloc | apply Kd.S_drewN | apply Kd.S_drew)); exact HO113.out) (Kd.S_base ho0) hb); have n3_ := qM_ (Kd.S_lower (Kd.S_new' (Kd.S_new' (Kd.S_new' ho0 (Kd.S_lt (by (with_reducible repeat (first | apply Kd.S_alloc | apply Kd.S_drewN | apply Kd.S_drew)); exact HO105.out))) (Kd.S_lt (by (with_reducible repeat (first | apply Kd.S_alloc | apply Kd.S_drewN | apply Kd.S_drew)); exact HO108.out))) (Kd.S_lt (by (with_reducible repeat (first | apply Kd.S_alloc | apply Kd.S_drewN | apply Kd.S_drew)); exact HO113.out))) (below_size (by repeat (first | (with_reducible first | exact HB.out | apply qA_ | apply qD_ | apply qE_) | exact HB.out)))); have n4_ := qM_ (below_step (by repeat (first | (with_reducible first | exact HB.out | apply qA_ | apply qD_ | apply qE_) | exact HB.out)) hb); clear HO105; clear HO108; clear HO113; clear HB; have HO105 := n0_; have HO108 := n1_; have HO113 := n2_; have HO116 := n3_; have HB := n4_; clear n0_ n1_ n2_ n3_ n4_; (try clear hb); (try clear hb2); (try clear hk); (try clear hi); (try clear ho0); obtain ⟨Ao26, co26, eo26⟩ := Kd.S_slice HO113.out; subst eo26; obtain ⟨Ao27, co27, eo27⟩ := Kd.S_slice HO116.out; subst eo27) | ((with_reducible refine gate_callee (f := 19) rfl ?_); refine goesL_ (some 37) rfl rfl Try.func19 (by kernel_rfl) rfl #[.slice Ao26 t111.length co26, .slice Ao27 t114.length co27] rfl (by (try simp only [List.map_toArray, List.map_cons, List.map_nil]); first | done | rfl | (simp only [List.length_drop, List.length_take]; rfl)) ?_; (with_reducible refine (impl_SameStore.calls k _ _ t111 _ _ t114 t117 t118 _ ?side1 ?side2 ?side3 ?side4 A15.out).mono ?_); (case side1 => repeat (first | exact (Kd.S_reads' HO113.out).2.2 | (with_reducible refine Kd.C_alloc ?_ _) | (with_reducible refine Kd.C_drewN ?_ _) | (with_reducible refine Kd.C_drew ?_))); (case side2 => exact (Kd.S_reads' HO113.out).2.1); (case side3 => repeat (first | exact (Kd.S_reads' HO116.out).2.2 | (with_reducible refine Kd.C_alloc ?_ _) | (with_reducible refine Kd.C_drewN ?_ _) | (with_reducible refine Kd.C_drew ?_))); (case side4 => exact (Kd.S_reads' HO116.out).2.1); rintro e w28 ⟨rfl, hb⟩; refine ⟨_, rfl, ?_⟩; have n0_ := qM_ (Kd.S_below (by (with_reducible repeat (first | apply Kd.S_alloc | apply Kd.S_drewN | apply Kd.S_drew)); exact HO105.out) hb); have n1_ := qM_ (Kd.S_below (by (with_reducible repeat (first | apply Kd.S_alloc | apply Kd.S_drewN | apply Kd.S_drew)); exact HO108.out) hb); have n2_ := qM_ (Kd.S_below (by (with_reducible repeat (first | apply Kd.S_alloc | apply Kd.S_drewN | apply Kd.S_drew)); exact HO113.out) hb); have n3_ := qM_ (Kd.S_below (by (with_reducible repeat (first | apply Kd.S_alloc | apply Kd.S_drewN | apply Kd.S_drew)); exact HO116.out) hb); have n4_ := qM_ (below_step (by repeat (first | (with_reducible first | exact HB.out | apply qA_ | apply qD_ | apply qE_) | exact HB.out)) hb); clear HO105; clear HO108; clear HO113; clear HO116; clear HB; have HO105 := n0_; have HO108 := n1_; have HO113 := n2_; have HO116 := n3_; have HB := n4_; clear n0_ n1_ n2_ n3_ n4_; (try clear hb); (try clear hb2); (try clear hk); (try clear hi)))
   (try simp only [Act.put, List.setIfInBounds_toArray, List.set_cons_zero, List.set_cons_succ])
   go_cut [47] (fun v47 wc => ∃ (kq : Nat) (x47_15 : Bool), v47 = .bool x47_15 ∧ Aside0 (laws_FnExactSameStore.j0 kq l0 l1 t111 t114 x47_15 = some r) ∧ Aside0 (kq ≤ k) ∧ Aside0 (Kd.S k33 33 wc w.heap.size (fun k_ => some k_ ≠ ((.slice Ao27 t114.length co27) : Value).ownBlock) (.slice Ao26 t111.length co26) t111) ∧ Aside0 (Kd.S k33 33 wc w.heap.size (fun k_ => some k_ ≠ ((.slice Ao26 t111.length co26) : Value).ownBlock) (.slice Ao27 t114.length co27) t114) ∧ Aside0 (Below w.heap.size w wc))
   case first =>
    have H := HC16.out
    clear HC16
    by_cases c29 : (t117 != t109) = true
    ·rw [if_pos c29] at H
     have c29b0 : (t117 != t109) = true := c29
     (try (have c29b1 : decide (t117 = t109) = false := by simpa using c29))
     (try (have c29b2 : (t117 == t109) = false := by simpa using c29))
     (try (have c29b3 : ¬ (t117 = t109) := by simpa using c29))
     clear c29
     (first | rw [c29b0] | (simp only [i64_w, i32_w]; rw [c29b0]) | skip)
     have H' := qM_ H
     clear H
     go_wp2
     go_meet
     case rel => exact ⟨_, (true), (by first | rfl | (simp; done) | (simp [*]; done)), H', ⟨by first | omega | exact Nat.le_refl _⟩, ⟨by (with_reducible repeat (first | apply Kd.S_alloc | apply Kd.S_drewN | apply Kd.S_drew)); exact Kd.S_mono HO113.out (fun _ hk => hk.2)⟩, ⟨by (with_reducible repeat (first | apply Kd.S_alloc | apply Kd.S_drewN | apply Kd.S_drew)); exact Kd.S_mono HO116.out (fun _ hk => hk.2)⟩, ⟨by repeat (first | (with_reducible first | exact HB.out | apply qA_ | apply qD_ | apply qE_) | exact HB.out)⟩⟩
    ·rw [if_neg c29] at H
     have c29b0 : (t117 != t109) = false := by simpa using c29
     (try (have c29b1 : decide (t117 = t109) = true := by simpa using c29))
     (try (have c29b2 : (t117 == t109) = true := by simpa using c29))
     clear c29
     (first | rw [c29b0] | (simp only [i64_w, i32_w]; rw [c29b0]) | skip)
     have H' := qM_ H
     clear H
     go_wp2
     go_meet
     case rel => exact ⟨_, ((t118 != t110)), (by first | rfl | (simp; done) | (simp [*]; done)), H', ⟨by first | omega | exact Nat.le_refl _⟩, ⟨by (with_reducible repeat (first | apply Kd.S_alloc | apply Kd.S_drewN | apply Kd.S_drew)); exact Kd.S_mono HO113.out (fun _ hk => hk.2)⟩, ⟨by (with_reducible repeat (first | apply Kd.S_alloc | apply Kd.S_drewN | apply Kd.S_drew)); exact Kd.S_mono HO116.out (fun _ hk => hk.2)⟩, ⟨by repeat (first | (with_reducible first | exact HB.out | apply qA_ | apply qD_ | apply qE_) | exact HB.out)⟩⟩
   case rest =>
    clear HC16
    try clear c1
    try clear c2
    try clear p2
    try clear c4
    try clear c4b0
    try clear c5
    try clear c7
    try clear c7b0
    try clear c13
    try clear c15
    try clear c18
    try clear c19
    try clear c29
    try clear c29b0
    try clear c29b1
    try clear c29b2
    obtain ⟨kq, x47_15, rfl, HA, HJ15, HO_8, HO_9, HB⟩ := hcut
    cases kq with
    | zero => exact absurd HA.out (by simp [laws_FnExactSameStore.j0])
    | succ kj15 =>
     have H := HA.out
     clear HA
     simp only [laws_FnExactSameStore.j0] at H
     by_cases c30 : x47_15 = true
     ·subst c30
      have H1 : (some false) = some r := by rw [if_pos rfl] at H; exact H
      clear H
      have H := H1
      clear H1
      obtain rfl := Option.some.inj H
      go_wp2
      go_ret
      exact ⟨by first | rfl | (simp [errW_none, errW_some] <;> rfl) | (simp [*, errW_none, errW_some] <;> rfl), by repeat (first | (with_reducible first | exact HB.out | apply qA_ | apply qD_ | apply qE_) | exact HB.out)⟩
     ·replace c30 := Bool.eq_false_iff.mpr c30
      subst c30
      have H1 : ((laws_toBoxS.f kj15 l0).bind fun t119 => ((laws_eqBoxS.f kj15 t111 t119).bind fun t122 => (if t122 = true then ((laws_toBoxS.f kj15 l1).bind fun t123 => ((laws_eqBoxS.f kj15 t114 t123).bind fun t126 => (if t126 = true then (some true) else (some false)))) else (some false)))) = some r := by rw [if_neg (show ¬ (false = true) by decide)] at H; exact H
      clear H
      have H := H1
      clear H1
      replace H := Option.bind_eq_some_iff.mp H
      obtain ⟨t119, A310, H⟩ := H
      replace H : ((laws_eqBoxS.f kj15 t111 t119).bind fun t122 => (if t122 = true then ((laws_toBoxS.f kj15 l1).bind fun t123 => ((laws_eqBoxS.f kj15 t114 t123).bind fun t126 => (if t126 = true then (some true) else (some false)))) else (some false))) = some r := H
      have A31 := qM_ A310
      clear A310
      replace H := Option.bind_eq_some_iff.mp H
      obtain ⟨t122, A320, H⟩ := H
      replace H : (if t122 = true then ((laws_toBoxS.f kj15 l1).bind fun t123 => ((laws_eqBoxS.f kj15 t114 t123).bind fun t126 => (if t126 = true then (some true) else (some false)))) else (some false)) = some r := H
      have A32 := qM_ A320
      clear A320
      by_cases c33 : t122 = true
      ·subst c33
       have H1 : ((laws_toBoxS.f kj15 l1).bind fun t123 => ((laws_eqBoxS.f kj15 t114 t123).bind fun t126 => (if t126 = true then (some true) else (some false)))) = some r := by rw [if_pos rfl] at H; exact H
       clear H
       have H := H1
       clear H1
       replace H := Option.bind_eq_some_iff.mp H
       obtain ⟨t123, A340, H⟩ := H
       replace H : ((laws_eqBoxS.f kj15 t114 t123).bind fun t126 => (if t126 = true then (some true) else (some false))) = some r := H
       have A34 := qM_ A340
       clear A340
       replace H := Option.bind_eq_some_iff.mp H
       obtain ⟨t126, A350, H⟩ := H
       replace H : (if t126 = true then (some true) else (some false)) = some r := H
       have A35 := qM_ A350
       clear A350
       by_cases c36 : t126 = true
       ·subst c36
        have H1 : (some true) = some r := by rw [if_pos rfl] at H; exact H
        clear H
        have H := H1
        clear H1
        obtain rfl := Option.some.inj H
        go_wp2_with (first | ((with_reducible refine gate_callee (f := 15) rfl ?_); refine goesL_ (some 50) rfl rfl Try.func15 (by kernel_rfl) rfl #[.slice A0 l0.length c0] rfl (by (try simp only [List.map_toArray, List.map_cons, List.map_nil]); first | done | rfl | (simp only [List.length_drop, List.length_take]; rfl)) ?_; (with_reducible refine (laws_toBoxS.calls kj15 _ _ l0 t119 _ ?side1 ?side2 A31.out).mono ?_); (case side1 => repeat (first | exact (Kd.C_below HR0.out HB.out) | (with_reducible refine Kd.C_alloc ?_ _) | (with_reducible refine Kd.C_drewN ?_ _) | (with_reducible refine Kd.C_drew ?_))); (case side2 => exact HC0.out); rintro e w37 ⟨v120, rfl, ho0, hb⟩; refine ⟨_, rfl, ?_⟩; have n0_ := qM_ (Kd.S_elder' (by (with_reducible repeat (first | apply Kd.S_alloc | apply Kd.S_drewN | apply Kd.S_drew)); exact HO_8.out) (Kd.S_base ho0) hb); have n1_ := qM_ (Kd.S_elder' (by (with_reducible repeat (first | apply Kd.S_alloc | apply Kd.S_drewN | apply Kd.S_drew)); exact HO_9.out) (Kd.S_base ho0) hb); have n2_ := qM_ (Kd.S_lower (Kd.S_new' (Kd.S_new' ho0 (Kd.S_lt (by (with_reducible repeat (first | apply Kd.S_alloc | apply Kd.S_drewN | apply Kd.S_drew)); exact HO_8.out))) (Kd.S_lt (by (with_reducible repeat (first | apply Kd.S_alloc | apply Kd.S_drewN | apply Kd.S_drew)); exact HO_9.out))) (below_size (by repeat (first | (with_reducible first | exact HB.out | apply qA_ | apply qD_ | apply qE_) | exact HB.out)))); have n3_ := qM_ (below_step (by repeat (first | (with_reducible first | exact HB.out | apply qA_ | apply qD_ | apply qE_) | exact HB.out)) hb); clear HO_8; clear HO_9; clear HB; have HO_8 := n0_; have HO_9 := n1_; have HO121 := n2_; have HB := n3_; clear n0_ n1_ n2_ n3_; (try clear hb); (try clear hb2); (try clear hk); (try clear hi); (try clear ho0); obtain ⟨Ao38, co38, eo38⟩ := Kd.S_slice HO121.out; subst eo38) | ((with_reducible refine gate_callee (f := 17) rfl ?_); refine goesL_ (some 51) rfl rfl Try.func17 (by kernel_rfl) rfl #[.slice Ao26 t111.length co26, .slice Ao38 t119.length co38] rfl (by (try simp only [List.map_toArray, List.map_cons, List.map_nil]); first | done | rfl | (simp only [List.length_drop, List.length_take]; rfl)) ?_; (with_reducible refine (laws_eqBoxS.calls kj15 _ _ t111 _ _ t119 true _ ?side1 ?side2 ?side3 ?side4 A32.out).mono ?_); (case side1 => repeat (first | exact (Kd.S_reads' HO_8.out).2.2 | (with_reducible refine Kd.C_alloc ?_ _) | (with_reducible refine Kd.C_drewN ?_ _) | (with_reducible refine Kd.C_drew ?_))); (case side2 => exact (Kd.S_reads' HO_8.out).2.1); (case side3 => repeat (first | exact (Kd.S_reads' HO121.out).2.2 | (with_reducible refine Kd.C_alloc ?_ _) | (with_reducible refine Kd.C_drewN ?_ _) | (with_reducible refine Kd.C_drew ?_))); (case side4 => exact (Kd.S_reads' HO121.out).2.1); rintro e w39 ⟨rfl, hb⟩; refine ⟨_, rfl, ?_⟩; have n0_ := qM_ (Kd.S_below (by (with_reducible repeat (first | apply Kd.S_alloc | apply Kd.S_drewN | apply Kd.S_drew)); exact HO_8.out) hb); have n1_ := qM_ (Kd.S_below (by (with_reducible repeat (first | apply Kd.S_alloc | apply Kd.S_drewN | apply Kd.S_drew)); exact HO_9.out) hb); have n2_ := qM_ (Kd.S_below (by (with_reducible repeat (first | apply Kd.S_alloc | apply Kd.S_drewN | apply Kd.S_drew)); exact HO121.out) hb); have n3_ := qM_ (below_step (by repeat (first | (with_reducible first | exact HB.out | apply qA_ | apply qD_ | apply qE_) | exact HB.out)) hb); clear HO_8; clear HO_9; clear HO121; clear HB; have HO_8 := n0_; have HO_9 := n1_; have HO121 := n2_; have HB := n3_; clear n0_ n1_ n2_ n3_; (try clear hb); (try clear hb2); (try clear hk); (try clear hi)) | ((with_reducible refine gate_callee (f := 15) rfl ?_); refine goesL_ (some 55) rfl rfl Try.func15 (by kernel_rfl) rfl #[.slice A1 l1.length c1] rfl (by (try simp only [List.map_toArray, List.map_cons, List.map_nil]); first | done | rfl | (simp only [List.length_drop, List.length_take]; rfl)) ?_; (with_reducible refine (laws_toBoxS.calls kj15 _ _ l1 t123 _ ?side1 ?side2 A34.out).mono ?_); (case side1 => repeat (first | exact (Kd.C_below HR1.out HB.out) | (with_reducible refine Kd.C_alloc ?_ _) | (with_reducible refine Kd.C_drewN ?_ _) | (with_reducible refine Kd.C_drew ?_))); (case side2 => exact HC1.out); rintro e w40 ⟨v124, rfl, ho0, hb⟩; refine ⟨_, rfl, ?_⟩; have n0_ := qM_ (Kd.S_elder' (by (with_reducible repeat (first | apply Kd.S_alloc | apply Kd.S_drewN | apply Kd.S_drew)); exact HO_8.out) (Kd.S_base ho0) hb); have n1_ := qM_ (Kd.S_elder' (by (with_reducible repeat (first | apply Kd.S_alloc | apply Kd.S_drewN | apply Kd.S_drew)); exact HO_9.out) (Kd.S_base ho0) hb); have n2_ := qM_ (Kd.S_elder' (by (with_reducible repeat (first | apply Kd.S_alloc | apply Kd.S_drewN | apply Kd.S_drew)); exact HO121.out) (Kd.S_base ho0) hb); have n3_ := qM_ (Kd.S_lower (Kd.S_new' (Kd.S_new' (Kd.S_new' ho0 (Kd.S_lt (by (with_reducible repeat (first | apply Kd.S_alloc | apply Kd.S_drewN | apply Kd.S_drew)); exact HO_8.out))) (Kd.S_lt (by (with_reducible repeat (first | apply Kd.S_alloc | apply Kd.S_drewN | apply Kd.S_drew)); exact HO_9.out))) (Kd.S_lt (by (with_reducible repeat (first | apply Kd.S_alloc | apply Kd.S_drewN | apply Kd.S_drew)); exact HO121.out))) (below_size (by repeat (first | (with_reducible first | exact HB.out | apply qA_ | apply qD_ | apply qE_) | exact HB.out)))); have n4_ := qM_ (below_step (by repeat (first | (with_reducible first | exact HB.out | apply qA_ | apply qD_ | apply qE_) | exact HB.out)) hb); clear HO_8; clear HO_9; clear HO121; clear HB; have HO_8 := n0_; have HO_9 := n1_; have HO121 := n2_; have HO125 := n3_; have HB := n4_; clear n0_ n1_ n2_ n3_ n4_; (try clear hb); (try clear hb2); (try clear hk); (try clear hi); (try clear ho0); obtain ⟨Ao41, co41, eo41⟩ := Kd.S_slice HO125.out; subst eo41) | ((with_reducible refine gate_callee (f := 17) rfl ?_); refine goesL_ (some 56) rfl rfl Try.func17 (by kernel_rfl) rfl #[.slice Ao27 t114.length co27, .slice Ao41 t123.length co41] rfl (by (try simp only [List.map_toArray, List.map_cons, List.map_nil]); first | done | rfl | (simp only [List.length_drop, List.length_take]; rfl)) ?_; (with_reducible refine (laws_eqBoxS.calls kj15 _ _ t114 _ _ t123 true _ ?side1 ?side2 ?side3 ?side4 A35.out).mono ?_); (case side1 => repeat (first | exact (Kd.S_reads' HO_9.out).2.2 | (with_reducible refine Kd.C_alloc ?_ _) | (with_reducible refine Kd.C_drewN ?_ _) | (with_reducible refine Kd.C_drew ?_))); (case side2 => exact (Kd.S_reads' HO_9.out).2.1); (case side3 => repeat (first | exact (Kd.S_reads' HO125.out).2.2 | (with_reducible refine Kd.C_alloc ?_ _) | (with_reducible refine Kd.C_drewN ?_ _) | (with_reducible refine Kd.C_drew ?_))); (case side4 => exact (Kd.S_reads' HO125.out).2.1); rintro e w42 ⟨rfl, hb⟩; refine ⟨_, rfl, ?_⟩; have n0_ := qM_ (Kd.S_below (by (with_reducible repeat (first | apply Kd.S_alloc | apply Kd.S_drewN | apply Kd.S_drew)); exact HO_8.out) hb); have n1_ := qM_ (Kd.S_below (by (with_reducible repeat (first | apply Kd.S_alloc | apply Kd.S_drewN | apply Kd.S_drew)); exact HO_9.out) hb); have n2_ := qM_ (Kd.S_below (by (with_reducible repeat (first | apply Kd.S_alloc | apply Kd.S_drewN | apply Kd.S_drew)); exact HO121.out) hb); have n3_ := qM_ (Kd.S_below (by (with_reducible repeat (first | apply Kd.S_alloc | apply Kd.S_drewN | apply Kd.S_drew)); exact HO125.out) hb); have n4_ := qM_ (below_step (by repeat (first | (with_reducible first | exact HB.out | apply qA_ | apply qD_ | apply qE_) | exact HB.out)) hb); clear HO_8; clear HO_9; clear HO121; clear HO125; clear HB; have HO_8 := n0_; have HO_9 := n1_; have HO121 := n2_; have HO125 := n3_; have HB := n4_; clear n0_ n1_ n2_ n3_ n4_; (try clear hb); (try clear hb2); (try clear hk); (try clear hi)))
        go_ret
        exact ⟨by first | rfl | (simp [errW_none, errW_some] <;> rfl) | (simp [*, errW_none, errW_some] <;> rfl), by repeat (first | (with_reducible first | exact HB.out | apply qA_ | apply qD_ | apply qE_) | exact HB.out)⟩
       ·replace c36 := Bool.eq_false_iff.mpr c36
        subst c36
        have H1 : (some false) = some r := by rw [if_neg (show ¬ (false = true) by decide)] at H; exact H
        clear H
        have H := H1
        clear H1
        obtain rfl := Option.some.inj H
        go_wp2_with (first | ((with_reducible refine gate_callee (f := 15) rfl ?_); refine goesL_ (some 50) rfl rfl Try.func15 (by kernel_rfl) rfl #[.slice A0 l0.length c0] rfl (by (try simp only [List.map_toArray, List.map_cons, List.map_nil]); first | done | rfl | (simp only [List.length_drop, List.length_take]; rfl)) ?_; (with_reducible refine (laws_toBoxS.calls kj15 _ _ l0 t119 _ ?side1 ?side2 A31.out).mono ?_); (case side1 => repeat (first | exact (Kd.C_below HR0.out HB.out) | (with_reducible refine Kd.C_alloc ?_ _) | (with_reducible refine Kd.C_drewN ?_ _) | (with_reducible refine Kd.C_drew ?_))); (case side2 => exact HC0.out); rintro e w43 ⟨v120, rfl, ho0, hb⟩; refine ⟨_, rfl, ?_⟩; have n0_ := qM_ (Kd.S_elder' (by (with_reducible repeat (first | apply Kd.S_alloc | apply Kd.S_drewN | apply Kd.S_drew)); exact HO_8.out) (Kd.S_base ho0) hb); have n1_ := qM_ (Kd.S_elder' (by (with_reducible repeat (first | apply Kd.S_alloc | apply Kd.S_drewN | apply Kd.S_drew)); exact HO_9.out) (Kd.S_base ho0) hb); have n2_ := qM_ (Kd.S_lower (Kd.S_new' (Kd.S_new' ho0 (Kd.S_lt (by (with_reducible repeat (first | apply Kd.S_alloc | apply Kd.S_drewN | apply Kd.S_drew)); exact HO_8.out))) (Kd.S_lt (by (with_reducible repeat (first | apply Kd.S_alloc | apply Kd.S_drewN | apply Kd.S_drew)); exact HO_9.out))) (below_size (by repeat (first | (with_reducible first | exact HB.out | apply qA_ | apply qD_ | apply qE_) | exact HB.out)))); have n3_ := qM_ (below_step (by repeat (first | (with_reducible first | exact HB.out | apply qA_ | apply qD_ | apply qE_) | exact HB.out)) hb); clear HO_8; clear HO_9; clear HB; have HO_8 := n0_; have HO_9 := n1_; have HO121 := n2_; have HB := n3_; clear n0_ n1_ n2_ n3_; (try clear hb); (try clear hb2); (try clear hk); (try clear hi); (try clear ho0); obtain ⟨Ao44, co44, eo44⟩ := Kd.S_slice HO121.out; subst eo44) | ((with_reducible refine gate_callee (f := 17) rfl ?_); refine goesL_ (some 51) rfl rfl Try.func17 (by kernel_rfl) rfl #[.slice Ao26 t111.length co26, .slice Ao44 t119.length co44] rfl (by (try simp only [List.map_toArray, List.map_cons, List.map_nil]); first | done | rfl | (simp only [List.length_drop, List.length_take]; rfl)) ?_; (with_reducible refine (laws_eqBoxS.calls kj15 _ _ t111 _ _ t119 true _ ?side1 ?side2 ?side3 ?side4 A32.out).mono ?_); (case side1 => repeat (first | exact (Kd.S_reads' HO_8.out).2.2 | (with_reducible refine Kd.C_alloc ?_ _) | (with_reducible refine Kd.C_drewN ?_ _) | (with_reducible refine Kd.C_drew ?_))); (case side2 => exact (Kd.S_reads' HO_8.out).2.1); (case side3 => repeat (first | exact (Kd.S_reads' HO121.out).2.2 | (with_reducible refine Kd.C_alloc ?_ _) | (with_reducible refine Kd.C_drewN ?_ _) | (with_reducible refine Kd.C_drew ?_))); (case side4 => exact (Kd.S_reads' HO121.out).2.1); rintro e w45 ⟨rfl, hb⟩; refine ⟨_, rfl, ?_⟩; have n0_ := qM_ (Kd.S_below (by (with_reducible repeat (first | apply Kd.S_alloc | apply Kd.S_drewN | apply Kd.S_drew)); exact HO_8.out) hb); have n1_ := qM_ (Kd.S_below (by (with_reducible repeat (first | apply Kd.S_alloc | apply Kd.S_drewN | apply Kd.S_drew)); exact HO_9.out) hb); have n2_ := qM_ (Kd.S_below (by (with_reducible repeat (first | apply Kd.S_alloc | apply Kd.S_drewN | apply Kd.S_drew)); exact HO121.out) hb); have n3_ := qM_ (below_step (by repeat (first | (with_reducible first | exact HB.out | apply qA_ | apply qD_ | apply qE_) | exact HB.out)) hb); clear HO_8; clear HO_9; clear HO121; clear HB; have HO_8 := n0_; have HO_9 := n1_; have HO121 := n2_; have HB := n3_; clear n0_ n1_ n2_ n3_; (try clear hb); (try clear hb2); (try clear hk); (try clear hi)) | ((with_reducible refine gate_callee (f := 15) rfl ?_); refine goesL_ (some 55) rfl rfl Try.func15 (by kernel_rfl) rfl #[.slice A1 l1.length c1] rfl (by (try simp only [List.map_toArray, List.map_cons, List.map_nil]); first | done | rfl | (simp only [List.length_drop, List.length_take]; rfl)) ?_; (with_reducible refine (laws_toBoxS.calls kj15 _ _ l1 t123 _ ?side1 ?side2 A34.out).mono ?_); (case side1 => repeat (first | exact (Kd.C_below HR1.out HB.out) | (with_reducible refine Kd.C_alloc ?_ _) | (with_reducible refine Kd.C_drewN ?_ _) | (with_reducible refine Kd.C_drew ?_))); (case side2 => exact HC1.out); rintro e w46 ⟨v124, rfl, ho0, hb⟩; refine ⟨_, rfl, ?_⟩; have n0_ := qM_ (Kd.S_elder' (by (with_reducible repeat (first | apply Kd.S_alloc | apply Kd.S_drewN | apply Kd.S_drew)); exact HO_8.out) (Kd.S_base ho0) hb); have n1_ := qM_ (Kd.S_elder' (by (with_reducible repeat (first | apply Kd.S_alloc | apply Kd.S_drewN | apply Kd.S_drew)); exact HO_9.out) (Kd.S_base ho0) hb); have n2_ := qM_ (Kd.S_elder' (by (with_reducible repeat (first | apply Kd.S_alloc | apply Kd.S_drewN | apply Kd.S_drew)); exact HO121.out) (Kd.S_base ho0) hb); have n3_ := qM_ (Kd.S_lower (Kd.S_new' (Kd.S_new' (Kd.S_new' ho0 (Kd.S_lt (by (with_reducible repeat (first | apply Kd.S_alloc | apply Kd.S_drewN | apply Kd.S_drew)); exact HO_8.out))) (Kd.S_lt (by (with_reducible repeat (first | apply Kd.S_alloc | apply Kd.S_drewN | apply Kd.S_drew)); exact HO_9.out))) (Kd.S_lt (by (with_reducible repeat (first | apply Kd.S_alloc | apply Kd.S_drewN | apply Kd.S_drew)); exact HO121.out))) (below_size (by repeat (first | (with_reducible first | exact HB.out | apply qA_ | apply qD_ | apply qE_) | exact HB.out)))); have n4_ := qM_ (below_step (by repeat (first | (with_reducible first | exact HB.out | apply qA_ | apply qD_ | apply qE_) | exact HB.out)) hb); clear HO_8; clear HO_9; clear HO121; clear HB; have HO_8 := n0_; have HO_9 := n1_; have HO121 := n2_; have HO125 := n3_; have HB := n4_; clear n0_ n1_ n2_ n3_ n4_; (try clear hb); (try clear hb2); (try clear hk); (try clear hi); (try clear ho0); obtain ⟨Ao47, co47, eo47⟩ := Kd.S_slice HO125.out; subst eo47) | ((with_reducible refine gate_callee (f := 17) rfl ?_); refine goesL_ (some 56) rfl rfl Try.func17 (by kernel_rfl) rfl #[.slice Ao27 t114.length co27, .slice Ao47 t123.length co47] rfl (by (try simp only [List.map_toArray, List.map_cons, List.map_nil]); first | done | rfl | (simp only [List.length_drop, List.length_take]; rfl)) ?_; (with_reducible refine (laws_eqBoxS.calls kj15 _ _ t114 _ _ t123 false _ ?side1 ?side2 ?side3 ?side4 A35.out).mono ?_); (case side1 => repeat (first | exact (Kd.S_reads' HO_9.out).2.2 | (with_reducible refine Kd.C_alloc ?_ _) | (with_reducible refine Kd.C_drewN ?_ _) | (with_reducible refine Kd.C_drew ?_))); (case side2 => exact (Kd.S_reads' HO_9.out).2.1); (case side3 => repeat (first | exact (Kd.S_reads' HO125.out).2.2 | (with_reducible refine Kd.C_alloc ?_ _) | (with_reducible refine Kd.C_drewN ?_ _) | (with_reducible refine Kd.C_drew ?_))); (case side4 => exact (Kd.S_reads' HO125.out).2.1); rintro e w48 ⟨rfl, hb⟩; refine ⟨_, rfl, ?_⟩; have n0_ := qM_ (Kd.S_below (by (with_reducible repeat (first | apply Kd.S_alloc | apply Kd.S_drewN | apply Kd.S_drew)); exact HO_8.out) hb); have n1_ := qM_ (Kd.S_below (by (with_reducible repeat (first | apply Kd.S_alloc | apply Kd.S_drewN | apply Kd.S_drew)); exact HO_9.out) hb); have n2_ := qM_ (Kd.S_below (by (with_reducible repeat (first | apply Kd.S_alloc | apply Kd.S_drewN | apply Kd.S_drew)); exact HO121.out) hb); have n3_ := qM_ (Kd.S_below (by (with_reducible repeat (first | apply Kd.S_alloc | apply Kd.S_drewN | apply Kd.S_drew)); exact HO125.out) hb); have n4_ := qM_ (below_step (by repeat (first | (with_reducible first | exact HB.out | apply qA_ | apply qD_ | apply qE_) | exact HB.out)) hb); clear HO_8; clear HO_9; clear HO121; clear HO125; clear HB; have HO_8 := n0_; have HO_9 := n1_; have HO121 := n2_; have HO125 := n3_; have HB := n4_; clear n0_ n1_ n2_ n3_ n4_; (try clear hb); (try clear hb2); (try clear hk); (try clear hi)))
        go_ret
        exact ⟨by first | rfl | (simp [errW_none, errW_some] <;> rfl) | (simp [*, errW_none, errW_some] <;> rfl), by repeat (first | (with_reducible first | exact HB.out | apply qA_ | apply qD_ | apply qE_) | exact HB.out)⟩
      ·replace c33 := Bool.eq_false_iff.mpr c33
       subst c33
       have H1 : (some false) = some r := by rw [if_neg (show ¬ (false = true) by decide)] at H; exact H
       clear H
       have H := H1
       clear H1
       obtain rfl := Option.some.inj H
       go_wp2_with (first | ((with_reducible refine gate_callee (f := 15) rfl ?_); refine goesL_ (some 50) rfl rfl Try.func15 (by kernel_rfl) rfl #[.slice A0 l0.length c0] rfl (by (try simp only [List.map_toArray, List.map_cons, List.map_nil]); first | done | rfl | (simp only [List.length_drop, List.length_take]; rfl)) ?_; (with_reducible refine (laws_toBoxS.calls kj15 _ _ l0 t119 _ ?side1 ?side2 A31.out).mono ?_); (case side1 => repeat (first | exact (Kd.C_below HR0.out HB.out) | (with_reducible refine Kd.C_alloc ?_ _) | (with_reducible refine Kd.C_drewN ?_ _) | (with_reducible refine Kd.C_drew ?_))); (case side2 => exact HC0.out); rintro e w49 ⟨v120, rfl, ho0, hb⟩; refine ⟨_, rfl, ?_⟩; have n0_ := qM_ (Kd.S_elder' (by (with_reducible repeat (first | apply Kd.S_alloc | apply Kd.S_drewN | apply Kd.S_drew)); exact HO_8.out) (Kd.S_base ho0) hb); have n1_ := qM_ (Kd.S_elder' (by (with_reducible repeat (first | apply Kd.S_alloc | apply Kd.S_drewN | apply Kd.S_drew)); exact HO_9.out) (Kd.S_base ho0) hb); have n2_ := qM_ (Kd.S_lower (Kd.S_new' (Kd.S_new' ho0 (Kd.S_lt (by (with_reducible repeat (first | apply Kd.S_alloc | apply Kd.S_drewN | apply Kd.S_drew)); exact HO_8.out))) (Kd.S_lt (by (with_reducible repeat (first | apply Kd.S_alloc | apply Kd.S_drewN | apply Kd.S_drew)); exact HO_9.out))) (below_size (by repeat (first | (with_reducible first | exact HB.out | apply qA_ | apply qD_ | apply qE_) | exact HB.out)))); have n3_ := qM_ (below_step (by repeat (first | (with_reducible first | exact HB.out | apply qA_ | apply qD_ | apply qE_) | exact HB.out)) hb); clear HO_8; clear HO_9; clear HB; have HO_8 := n0_; have HO_9 := n1_; have HO121 := n2_; have HB := n3_; clear n0_ n1_ n2_ n3_; (try clear hb); (try clear hb2); (try clear hk); (try clear hi); (try clear ho0); obtain ⟨Ao50, co50, eo50⟩ := Kd.S_slice HO121.out; subst eo50) | ((with_reducible refine gate_callee (f := 17) rfl ?_); refine goesL_ (some 51) rfl rfl Try.func17 (by kernel_rfl) rfl #[.slice Ao26 t111.length co26, .slice Ao50 t119.length co50] rfl (by (try simp only [List.map_toArray, List.map_cons, List.map_nil]); first | done | rfl | (simp only [List.length_drop, List.length_take]; rfl)) ?_; (with_reducible refine (laws_eqBoxS.calls kj15 _ _ t111 _ _ t119 false _ ?side1 ?side2 ?side3 ?side4 A32.out).mono ?_); (case side1 => repeat (first | exact (Kd.S_reads' HO_8.out).2.2 | (with_reducible refine Kd.C_alloc ?_ _) | (with_reducible refine Kd.C_drewN ?_ _) | (with_reducible refine Kd.C_drew ?_))); (case side2 => exact (Kd.S_reads' HO_8.out).2.1); (case side3 => repeat (first | exact (Kd.S_reads' HO121.out).2.2 | (with_reducible refine Kd.C_alloc ?_ _) | (with_reducible refine Kd.C_drewN ?_ _) | (with_reducible refine Kd.C_drew ?_))); (case side4 => exact (Kd.S_reads' HO121.out).2.1); rintro e w51 ⟨rfl, hb⟩; refine ⟨_, rfl, ?_⟩; have n0_ := qM_ (Kd.S_below (by (with_reducible repeat (first | apply Kd.S_alloc | apply Kd.S_drewN | apply Kd.S_drew)); exact HO_8.out) hb); have n1_ := qM_ (Kd.S_below (by (with_reducible repeat (first | apply Kd.S_alloc | apply Kd.S_drewN | apply Kd.S_drew)); exact HO_9.out) hb); have n2_ := qM_ (Kd.S_below (by (with_reducible repeat (first | apply Kd.S_alloc | apply Kd.S_drewN | apply Kd.S_drew)); exact HO121.out) hb); have n3_ := qM_ (below_step (by repeat (first | (with_reducible first | exact HB.out | apply qA_ | apply qD_ | apply qE_) | exact HB.out)) hb); clear HO_8; clear HO_9; clear HO121; clear HB; have HO_8 := n0_; have HO_9 := n1_; have HO121 := n2_; have HB := n3_; clear n0_ n1_ n2_ n3_; (try clear hb); (try clear hb2); (try clear hk); (try clear hi)))
       go_ret
       exact ⟨by first | rfl | (simp [errW_none, errW_some] <;> rfl) | (simp [*, errW_none, errW_some] <;> rfl), by repeat (first | (with_reducible first | exact HB.out | apply qA_ | apply qD_ | apply qE_) | exact HB.out)⟩

end Go.Proofs.Ytjaedjcdgeikpaa.P
namespace Go.Proofs.Ytjaedjcdgeikpaa.P
open Go.RowKit Go.ChangeShapes Go.WideShapes Go.Proofs.YtjaedjcdgeikpaaW.PrintWords

def ok67 (x : S67) : Prop := (Lit.int .i64 x.f0).wf = true ∧ (Lit.int .i64 x.f1).wf = true ∧ x.f2.size ≤ 140737488351232
theorem tells67 {H : Type} {enc : TypeId × Value → H} {W : World} : Tells enc Try.prog W 67 k67 ok67 := Tells.struct (fun y => ⟨y.1, y.2.1, y.2.2⟩) (fun _ => rfl) Try.underlying67 (by kernel_rfl) (TellsF.cons (by kernel_rfl) (Tells.int Try.underlying3) rfl (TellsF.cons (by kernel_rfl) (Tells.int Try.underlying3) rfl (TellsF.one (by kernel_rfl) (Tells.string Try.underlying9))))
def ok25 (x : S25) : Prop := x.f0.size ≤ 140737488351232 ∧ (Lit.int .i64 x.f1).wf = true ∧ (Lit.int .i64 x.f2).wf = true ∧ (x.f3.length ≤ maxLen ∧ x.f3.length * 32 ≤ 140737488351232 ∧ ∀ y ∈ x.f3, ok67 y) ∧ (x.f4.length ≤ maxLen ∧ x.f4.length * 16 ≤ 140737488351232 ∧ ∀ y ∈ x.f4, y.size ≤ 140737488351232)
theorem tells25 {H : Type} {enc : TypeId × Value → H} {W : World} : Tells enc Try.prog W 25 k25 ok25 := Tells.struct (fun y => ⟨y.1, y.2.1, y.2.2.1, y.2.2.2.1, y.2.2.2.2⟩) (fun _ => rfl) Try.underlying25 (by kernel_rfl) (TellsF.cons (by kernel_rfl) (Tells.string Try.underlying9) rfl (TellsF.cons (by kernel_rfl) (Tells.int Try.underlying3) rfl (TellsF.cons (by kernel_rfl) (Tells.int Try.underlying3) rfl (TellsF.cons (by kernel_rfl) (Tells.slice (b := 32) Try.underlying22 (by kernel_rfl) (by kernel_rfl) tells67) rfl (TellsF.one (by kernel_rfl) (Tells.slice (b := 16) Try.underlying23 (by kernel_rfl) (by kernel_rfl) (Tells.string Try.underlying9)))))))
end Go.Proofs.Ytjaedjcdgeikpaa.P
namespace Go.Proofs.Ytjaedjcdgeikpaa.P
open Go.RowKit Go.ChangeShapes Go.WideShapes Go.Proofs.YtjaedjcdgeikpaaW.PrintWords

/-- What is to be proved of the law FnExactSameStore, over numbers and lists alone. -/
def laws_FnExactSameStore.Pure : Prop := ∀ (x0 : List (S25)) (x1 : List (S25)), (x0.length ≤ maxLen ∧ x0.length * 80 ≤ 140737488351232 ∧ ∀ y ∈ x0, ok25 y) → (x1.length ≤ maxLen ∧ x1.length * 80 ≤ 140737488351232 ∧ ∀ y ∈ x1, ok25 y) → ∃ k, laws_FnExactSameStore.f k x0 x1 = some true
end Go.Proofs.Ytjaedjcdgeikpaa.P
/- Lemmas of mine: strings as lists of bytes; whole numbers of 64 bits; rounds. Plain. -/
set_option linter.unusedVariables false
set_option linter.unusedSimpArgs false
namespace Go.Proofs.Ytjaedjcdgeikpaa.P
open Go.RowKit Go.Proofs.YtjaedjcdgeikpaaW.PrintWords
/-- As Option.bind_some, but no equation by computing: for terms that are not to be computed by the kernel. -/
theorem bS {α β : Type} (a : α) (f : α → Option β) : (some a).bind f = f a := Eq.trans (Option.bind_some a f) (Eq.refl (f a))
/-- A string's bytes. -/
def bl (s : ByteArray) : List UInt8 := s.data.toList
/-- Bytes as numbers. -/
def nb (l : List UInt8) : List Int := l.map fun b => (b.toNat : Int)
theorem bl_inj {a b : ByteArray} (h : bl a = bl b) : a = b := WideShapes.bytes_inj h
theorem toList_bl (s : ByteArray) : s.toList = bl s := Lib.toList_data s
theorem toList_iff {a b : ByteArray} : a.toList = b.toList ↔ a = b := ⟨fun h => bl_inj (by rw [← toList_bl, ← toList_bl, h]), fun h => by rw [h]⟩
theorem bl_size (s : ByteArray) : s.size = (bl s).length := Lib.size_eq s
theorem bl_append (a b : ByteArray) : bl (a ++ b) = bl a ++ bl b := by simp [bl]
theorem bl_extract (s : ByteArray) (i j : Nat) : bl (s.extract i j) = ((bl s).drop i).take (j - i) := Lib.extract_data s i j
theorem bl_mk (l : List UInt8) : bl ⟨l.toArray⟩ = l := by simp [bl]
theorem bl_empty : bl (⟨#[]⟩ : ByteArray) = [] := rfl
theorem mk_bl (s : ByteArray) : (⟨(bl s).toArray⟩ : ByteArray) = s := bl_inj (bl_mk _)
theorem bytesOf_bl (s : ByteArray) : bytesOf s = nb (bl s) := rfl
theorem nb_length (l : List UInt8) : (nb l).length = l.length := by simp [nb]
theorem nb_append (l m : List UInt8) : nb (l ++ m) = nb l ++ nb m := by simp [nb]
theorem strOf_nb (l : List UInt8) : strOfNums (nb l) = ⟨l.toArray⟩ := by
 simp [strOfNums, nb, Function.comp_def]
theorem bl_strOf_nb (l : List UInt8) : bl (strOfNums (nb l)) = l := by rw [strOf_nb, bl_mk]
theorem bt_eq (s : ByteArray) (i : Nat) (h : i < (bl s).length) : bt s (i : Int) = (((bl s)[i]'h).toNat : Int) := by
 have hs : i < s.size := by rw [bl_size]; exact h
 unfold bt
 rw [dif_pos (by simpa using hs)]
 have h1 := Lib.data_getElem? s i hs
 have h2 : (bl s)[i]? = some ((bl s)[i]'h) := List.getElem?_eq_getElem h
 have h3 : s[i]'hs = (bl s)[i]'h := Option.some.inj (h1.symm.trans h2)
 simp only [Int.toNat_natCast]
 rw [← h3]
theorem rd_nb (l : List UInt8) (i : Nat) (h : i < l.length) : rd (nb l) (i : Int) = ((l[i]'h).toNat : Int) := by
 simp [rd, nb, List.getD_eq_getElem?_getD, List.getElem?_map, List.getElem?_eq_getElem h]
theorem byte_lt (b : UInt8) : b.toNat < 256 := b.toNat_lt
/-- No wrap within the bounds. -/
theorem w64 {n : Int} (h0 : -9223372036854775808 ≤ n) (h1 : n ≤ 9223372036854775807) : wrap64 n = n := by unfold wrap64; omega
theorem w64n (n : Nat) (h1 : n ≤ 9223372036854775807) : wrap64 (n : Int) = n := w64 (by omega) (by omega)
theorem w64s (n : Nat) (h1 : n + 1 ≤ 9223372036854775807) : wrap64 ((n : Int) + 1) = ((n + 1 : Nat) : Int) := by rw [w64 (by omega) (by omega)]; rfl
theorem w64add (a b : Nat) (h : a + b ≤ 9223372036854775807) : wrap64 ((a : Int) + (b : Int)) = ((a + b : Nat) : Int) := by rw [w64 (by omega) (by omega)]; rfl
theorem w64lit (a b : Nat) (h : a + b ≤ 9223372036854775807) : wrap64 ((a : Int) + wrap64 ((b : Int))) = ((a + b : Nat) : Int) := by rw [w64n b (by omega), w64add a b h]
theorem w64sub (a b : Nat) (h : b ≤ a) (h2 : a ≤ 9223372036854775807) : wrap64 ((a : Int) - (b : Int)) = ((a - b : Nat) : Int) := by rw [w64 (by omega) (by omega)]; omega
theorem bits_xor_nat (k : IntKind) (j : Nat) (hj : j ≤ k.bits) (hk : ∀ n : Int, 0 ≤ n → n < 2 ^ j → k.wrap n = n) (a b : Nat) (ha : a < 2 ^ j) (hb : b < 2 ^ j) : bits .xor k a b = ((a ^^^ b : Nat) : Int) := by
 have hp : 2 ^ j ≤ 2 ^ k.bits := Nat.pow_le_pow_right (by decide) hj
 have ha' : a % 2 ^ k.bits = a := Nat.mod_eq_of_lt (Nat.lt_of_lt_of_le ha hp)
 have hb' : b % 2 ^ k.bits = b := Nat.mod_eq_of_lt (Nat.lt_of_lt_of_le hb hp)
 simp only [bits, BitVec.ofInt_natCast, BitVec.toNat_xor, BitVec.toNat_ofNat, ha', hb']
 exact hk _ (Int.natCast_nonneg _) (by exact_mod_cast Nat.xor_lt_two_pow ha hb)
theorem u32_in (n : Int) (h0 : 0 ≤ n) (h1 : n < 2 ^ 32) : IntKind.u32.wrap n = n := by rw [IntKind.wrap_u32]; omega
theorem i64_in32 (n : Int) (h0 : 0 ≤ n) (h1 : n < 2 ^ 32) : IntKind.i64.wrap n = n := by rw [IntKind.wrap_i64]; omega
theorem xor_u32 (a b : Nat) (ha : a < 4294967296) (hb : b < 4294967296) : bits .xor .u32 a b = ((a ^^^ b : Nat) : Int) := bits_xor_nat .u32 32 (by decide) u32_in a b ha hb
theorem xor_i64 (a b : Nat) (ha : a < 4294967296) (hb : b < 4294967296) : bits .xor .i64 a b = ((a ^^^ b : Nat) : Int) := bits_xor_nat .i64 32 (by decide) i64_in32 a b ha hb
/-- Rounds: what is told for all numbers of rounds from some on. -/
theorem Ev.k {α : Type} {g : Nat → Option α} {r : α} (h : Ev g r) : ∃ k, g k = some r := h.rounds
theorem Ev.and {α β : Type} {g : Nat → Option α} {f : Nat → Option β} {r : α} {q : β} (h : Ev g r) (h' : Ev f q) : ∃ K, ∀ k, K ≤ k → g k = some r ∧ f k = some q := by
 obtain ⟨K, h⟩ := h
 obtain ⟨K', h'⟩ := h'
 exact ⟨max K K', fun k hk => ⟨h k (by omega), h' k (by omega)⟩⟩
theorem Ev.uniq {α : Type} {g : Nat → Option α} {r q : α} (h : Ev g r) (h' : Ev g q) : r = q := by
 obtain ⟨K, hk⟩ := Ev.and h h'
 have h1 := hk K (Nat.le_refl _)
 exact Option.some.inj (h1.1.symm.trans h1.2)
end Go.Proofs.Ytjaedjcdgeikpaa.P
/- Lemmas of mine: loops that count up: over any function of rounds. Plain. -/
set_option linter.unusedVariables false
set_option linter.unusedSimpArgs false
namespace Go.Proofs.Ytjaedjcdgeikpaa.P
open Go.RowKit Go.Proofs.YtjaedjcdgeikpaaW.PrintWords
/-- A loop whose rounds change the place alone. -/
theorem up_loop {R : Type} (L : Nat → Int → Option R) (n : Nat) (r : R)
  (hstep : ∀ i : Nat, i < n → ∃ K, ∀ k, K ≤ k → L (k + 1) (i : Int) = L k ((i + 1 : Nat) : Int))
  (hend : ∃ K, ∀ k, K ≤ k → L (k + 1) (n : Int) = some r) : ∀ d i : Nat, i + d = n → Ev (fun k => L k (i : Int)) r := by
 intro d
 induction d with
 | zero =>
  intro i hi
  obtain rfl : i = n := by omega
  obtain ⟨K, h⟩ := hend
  exact ⟨K + 1, fun k hk => by obtain ⟨m, rfl⟩ : ∃ m, k = m + 1 := ⟨k - 1, by omega⟩; exact h m (by omega)⟩
 | succ d ih =>
  intro i hi
  obtain ⟨K, h⟩ := hstep i (by omega)
  obtain ⟨K2, h2⟩ := ih (i + 1) (by omega)
  refine ⟨K + K2 + 1, fun k hk => ?_⟩
  obtain ⟨m, rfl⟩ : ∃ m, k = m + 1 := ⟨k - 1, by omega⟩
  show L (m + 1) (i : Int) = some r
  rw [h m (by omega)]
  exact h2 m (by omega)
/-- A loop with a state: what holds of the state says what comes out. -/
theorem st_loop {σ R : Type} (L : Nat → σ → Int → Option R) (n : Nat) (out : Nat → σ → R → Prop)
  (hstep : ∀ (i : Nat) (s : σ), i < n → (∃ r, (∃ K, ∀ k, K ≤ k → L (k + 1) s (i : Int) = some r) ∧ out i s r) ∨ ∃ s', (∃ K, ∀ k, K ≤ k → L (k + 1) s (i : Int) = L k s' ((i + 1 : Nat) : Int)) ∧ ∀ r, out (i + 1) s' r → out i s r)
  (hend : ∀ s, ∃ r, (∃ K, ∀ k, K ≤ k → L (k + 1) s (n : Int) = some r) ∧ out n s r) : ∀ (d i : Nat) (s : σ), i + d = n → ∃ r, Ev (fun k => L k s (i : Int)) r ∧ out i s r := by
 intro d
 induction d with
 | zero =>
  intro i s hi
  obtain rfl : i = n := by omega
  obtain ⟨r, ⟨K, h⟩, ho⟩ := hend s
  exact ⟨r, ⟨K + 1, fun k hk => by obtain ⟨m, rfl⟩ : ∃ m, k = m + 1 := ⟨k - 1, by omega⟩; exact h m (by omega)⟩, ho⟩
 | succ d ih =>
  intro i s hi
  rcases hstep i s (by omega) with ⟨r, ⟨K, h⟩, ho⟩ | ⟨s', ⟨K, h⟩, ho⟩
  ·exact ⟨r, ⟨K + 1, fun k hk => by obtain ⟨m, rfl⟩ : ∃ m, k = m + 1 := ⟨k - 1, by omega⟩; exact h m (by omega)⟩, ho⟩
  ·obtain ⟨r, ⟨K2, h2⟩, ho2⟩ := ih (i + 1) s' (by omega)
   refine ⟨r, ⟨K + K2 + 1, fun k hk => ?_⟩, ho r ho2⟩
   obtain ⟨m, rfl⟩ : ∃ m, k = m + 1 := ⟨k - 1, by omega⟩
   show L (m + 1) s (i : Int) = some r
   rw [h m (by omega)]
   exact h2 m (by omega)
theorem map_set {α β : Type} (xs : List α) (ys : List β) (g : α → β) (i : Nat) (hi : i < xs.length) (hl : ys.length = xs.length) (hy : ys.take i = (xs.take i).map g) :
  (ys.set i (g (xs[i]'hi))).take (i + 1) = (xs.take (i + 1)).map g := by
 have e2 : (xs.take (i + 1)).map g = (xs.take i).map g ++ [g (xs[i]'hi)] := by
  rw [List.take_add_one, List.getElem?_eq_getElem hi, List.map_append]
  rfl
 have e : ((xs.take i).map g).length = i := by rw [List.length_map, List.length_take]; omega
 rw [e2, List.take_set, List.take_add_one, List.getElem?_eq_getElem (by omega), hy, List.set_append_right _ _ (by omega), e, Nat.sub_self]
 rfl
/-- A loop that fills a row of the same length. -/
theorem copy_loop {α β : Type} (L : Nat → List β → Int → Option (List β)) (xs : List α) (g : α → β)
  (hstep : ∀ (i : Nat) (ys : List β) (hi : i < xs.length), ys.length = xs.length → ∃ K, ∀ k, K ≤ k → L (k + 1) ys (i : Int) = L k (ys.set i (g (xs[i]'hi))) ((i + 1 : Nat) : Int))
  (hend : ∀ ys, ys.length = xs.length → ∃ K, ∀ k, K ≤ k → L (k + 1) ys (xs.length : Int) = some ys) :
  ∀ (d i : Nat) (ys : List β), i + d = xs.length → ys.length = xs.length → ys.take i = (xs.take i).map g → Ev (fun k => L k ys (i : Int)) (xs.map g) := by
 intro d
 induction d with
 | zero =>
  intro i ys hi hl hy
  obtain rfl : i = xs.length := by omega
  rw [List.take_of_length_le (by omega), List.take_of_length_le (Nat.le_refl _)] at hy
  subst hy
  obtain ⟨K, h⟩ := hend _ hl
  exact ⟨K + 1, fun k hk => by obtain ⟨m, rfl⟩ : ∃ m, k = m + 1 := ⟨k - 1, by omega⟩; exact h m (by omega)⟩
 | succ d ih =>
  intro i ys hi hl hy
  obtain ⟨K, h⟩ := hstep i ys (by omega) hl
  obtain ⟨K2, h2⟩ := ih (i + 1) (ys.set i (g (xs[i]'(by omega)))) (by omega) (by rw [List.length_set]; exact hl) (map_set xs ys g i (by omega) hl hy)
  refine ⟨K + K2 + 1, fun k hk => ?_⟩
  obtain ⟨m, rfl⟩ : ∃ m, k = m + 1 := ⟨k - 1, by omega⟩
  show L (m + 1) ys (i : Int) = _
  rw [h m (by omega)]
  exact h2 m (by omega)
theorem getD_nat {α : Type} (xs : List α) (z : α) (i : Nat) (h : i < xs.length) : xs.getD ((i : Nat) : Int).toNat z = xs[i]'h := by
 rw [Int.toNat_natCast, List.getD_eq_getElem?_getD, List.getElem?_eq_getElem h]; rfl
end Go.Proofs.Ytjaedjcdgeikpaa.P
/- Lemmas of mine: bounds, the fields of a log. Plain. -/
set_option linter.unusedVariables false
set_option linter.unusedSimpArgs false
namespace Go.Proofs.Ytjaedjcdgeikpaa.P
open Go.RowKit Go.Proofs.YtjaedjcdgeikpaaW.PrintWords
theorem l01In_eq (a b c : Int) : spec_l01In.f a b c = some (decide (b ≤ a ∧ a ≤ c)) := by
 unfold spec_l01In.f
 by_cases h : a ≥ b
 ·rw [if_pos h]; simp [show b ≤ a from h]
 ·rw [if_neg h]; simp; omega
theorem within_eq (a b c : Int) : impl_within.f a b c = some (decide (b ≤ a ∧ a ≤ c)) := l01In_eq a b c
end Go.Proofs.Ytjaedjcdgeikpaa.P
/- Lemmas of mine: the two NameOK tell the same. Plain. -/
set_option linter.unusedVariables false
set_option linter.unusedSimpArgs false
namespace Go.Proofs.Ytjaedjcdgeikpaa.P
open Go.RowKit Go.Proofs.YtjaedjcdgeikpaaW.PrintWords
def isLet (c : Int) : Bool := decide (97 ≤ c ∧ c ≤ 122 ∨ 65 ≤ c ∧ c ≤ 90)
def isDig (c : Int) : Bool := decide (48 ≤ c ∧ c ≤ 57)
theorem implDigit_eq (c : Int) : impl_isDigit.f c = some (isDig c) := by
 unfold impl_isDigit.f isDig
 by_cases h : c ≥ 48 <;> simp [h] <;> omega
theorem specDigit_eq (c : Int) : spec_l00Digit.f c = some (isDig c) := implDigit_eq c
theorem implLetter_eq (c : Int) : impl_isLetter.f c = some (isLet c) := by
 unfold impl_isLetter.f isLet
 by_cases h1 : c ≥ 97 <;> by_cases h2 : c ≤ 122 <;> by_cases h3 : c ≥ 65 <;> by_cases h4 : c ≤ 90 <;> simp [h1, h2, h3, h4] <;> omega
theorem specLetter_eq (c : Int) : spec_l00Letter.f c = some (isLet c || c == 95) := by
 unfold spec_l00Letter.f isLet
 by_cases h1 : c ≥ 97 <;> by_cases h2 : c ≤ 122 <;> by_cases h3 : c ≥ 65 <;> by_cases h4 : c ≤ 90 <;> simp [h1, h2, h3, h4] <;> omega
/-- A byte of a name. -/
def nameB (b : UInt8) : Bool := isLet b.toNat || isDig b.toNat || b.toNat == 95
/-- A name. -/
def nameR (l : List UInt8) : Bool := decide (1 ≤ l.length ∧ l.length ≤ 40) && !(l.head?.any fun b => isDig b.toNat) && l.all nameB
theorem implName_l0 (s : ByteArray) (hs : (bl s).length ≤ 40) : ∀ (d i : Nat), i + d = (bl s).length →
  Ev (fun k => impl_NameOK.l0 k s (s.size : Int) (i : Int)) (((bl s).drop i).all nameB) := by
 intro d
 induction d with
 | zero =>
  intro i hi
  rw [List.drop_eq_nil_of_le (by omega)]
  refine Ev.step (f := fun _ => some _) (fun k => ?_) (Ev.now _)
  simp only [impl_NameOK.l0]
  rw [if_neg (by rw [bl_size]; omega)]
  rfl
 | succ d ih =>
  intro i hi
  have hlt : i < (bl s).length := by omega
  have hz : i < s.size := by rw [bl_size]; exact hlt
  have hbt := bt_eq s i hlt
  rw [List.drop_eq_getElem_cons hlt, List.all_cons]
  generalize (bl s)[i]'hlt = b at hbt ⊢
  by_cases hc : nameB b = true
  ·rw [hc, Bool.true_and]
   refine Ev.step (f := fun k => impl_NameOK.l0 k s (s.size : Int) ((i + 1 : Nat) : Int)) (fun k => ?_) (ih (i + 1) (by omega))
   simp only [impl_NameOK.l0]
   rw [if_pos (by omega), if_pos (by omega), if_pos (by omega), hbt, w64s i (by omega)]
   simp only [implLetter_eq, implDigit_eq, Option.bind_some]
   unfold nameB at hc
   cases h1 : isLet b.toNat with
   | true => rfl
   | false =>
    cases h2 : isDig b.toNat with
    | true => rfl
    | false =>
     have h3 : b.toNat = 95 := by simpa [h1, h2] using hc
     simp [h3]
  ·have hc' : nameB b = false := by simpa using hc
   rw [hc', Bool.false_and]
   refine Ev.step (f := fun _ => some _) (fun k => ?_) (Ev.now _)
   simp only [impl_NameOK.l0]
   rw [if_pos (by omega), if_pos (by omega), if_pos (by omega), hbt]
   simp only [implLetter_eq, implDigit_eq, Option.bind_some]
   unfold nameB at hc'
   simp only [Bool.or_eq_false_iff] at hc'
   obtain ⟨⟨h1, h2⟩, h3⟩ := hc'
   have h4 : ¬ (b.toNat : Int) = 95 := by
    intro h
    have : b.toNat = 95 := by omega
    simp [this] at h3
   simp [h1, h2, h4]
theorem implName_ev (s : ByteArray) : Ev (fun k => impl_NameOK.f k s) (nameR (bl s)) := by
 by_cases h : 1 ≤ s.size ∧ s.size ≤ 40
 ·have hlt : 0 < (bl s).length := by rw [← bl_size]; omega
  have hhd : (bl s).head? = some (bl s)[0] := by rw [List.head?_eq_getElem?, List.getElem?_eq_getElem hlt]
  have e : nameR (bl s) = (!(isDig ((bl s)[0]).toNat) && (bl s).all nameB) := by
   unfold nameR
   rw [hhd, ← bl_size]
   simp [h]
  have hf : ∀ k, impl_NameOK.f k s = impl_NameOK.j0 k s (isDig ((bl s)[0]).toNat) := fun k => by
   simp only [impl_NameOK.f, within_eq, Option.bind_some]
   rw [if_pos (by simp; omega), if_pos (by omega)]
   have := bt_eq s 0 hlt
   rw [show ((0 : Nat) : Int) = 0 from rfl] at this
   rw [this, implDigit_eq]
   rfl
  refine Ev.congr hf ?_
  rw [e]
  cases hd : isDig ((bl s)[0]).toNat with
  | true =>
   refine Ev.step (f := fun _ => some _) (fun k => ?_) (Ev.now _)
   simp [impl_NameOK.j0]
  | false =>
   refine Ev.step (f := fun k => impl_NameOK.l0 k s (s.size : Int) ((0 : Nat) : Int)) (fun k => ?_) (implName_l0 s (by rw [← bl_size]; exact h.2) (bl s).length 0 (by omega))
   simp [impl_NameOK.j0]
 ·have e : nameR (bl s) = false := by
   unfold nameR
   rw [← bl_size]
   simp only [decide_eq_false h, Bool.false_and]
  rw [e]
  refine Ev.congr (f := fun k => impl_NameOK.j0 k s true) (fun k => ?_) ?_
  ·simp only [impl_NameOK.f, within_eq, Option.bind_some]
   rw [if_neg (by simp; omega)]
  ·refine Ev.step (f := fun _ => some _) (fun k => ?_) (Ev.now _)
   simp [impl_NameOK.j0]
theorem specName_l0 (s : ByteArray) (hs : (bl s).length ≤ 40) : ∀ (d i : Nat), i + d = (bl s).length →
  Ev (fun k => spec_l00Word.l0 k s (i : Int)) (((bl s).drop i).all nameB) := by
 intro d
 induction d with
 | zero =>
  intro i hi
  rw [List.drop_eq_nil_of_le (by omega)]
  refine Ev.step (f := fun _ => some _) (fun k => ?_) (Ev.now _)
  simp only [spec_l00Word.l0]
  rw [if_neg (by rw [bl_size]; omega)]
  rfl
 | succ d ih =>
  intro i hi
  have hlt : i < (bl s).length := by omega
  have hz : i < s.size := by rw [bl_size]; exact hlt
  have hbt := bt_eq s i hlt
  rw [List.drop_eq_getElem_cons hlt, List.all_cons]
  generalize (bl s)[i]'hlt = b at hbt ⊢
  have hn : nameB b = ((isLet b.toNat || (b.toNat : Int) == 95) || isDig b.toNat) := by
   unfold nameB
   have : ((b.toNat : Int) == 95) = (b.toNat == 95) := by
    rw [Bool.eq_iff_iff]; simp; omega
   rw [this]
   cases isLet b.toNat <;> cases isDig b.toNat <;> simp
  rw [hn]
  cases h1 : (isLet b.toNat || (b.toNat : Int) == 95) with
  | true =>
   rw [Bool.true_or, Bool.true_and]
   refine Ev.step (f := fun k => spec_l00Word.l0 k s ((i + 1 : Nat) : Int)) (fun k => ?_) (ih (i + 1) (by omega))
   simp only [spec_l00Word.l0]
   rw [if_pos (by omega), if_pos (by omega), hbt, w64s i (by omega)]
   simp only [specLetter_eq, Option.bind_some, h1, if_true]
  | false =>
   rw [Bool.false_or]
   cases h2 : isDig b.toNat with
   | true =>
    rw [Bool.true_and]
    refine Ev.step (f := fun k => spec_l00Word.l0 k s ((i + 1 : Nat) : Int)) (fun k => ?_) (ih (i + 1) (by omega))
    simp only [spec_l00Word.l0]
    rw [if_pos (by omega), if_pos (by omega), hbt, w64s i (by omega)]
    simp only [specLetter_eq, specDigit_eq, Option.bind_some, h1, h2, if_true]
    rfl
   | false =>
    rw [Bool.false_and]
    refine Ev.step (f := fun _ => some _) (fun k => ?_) (Ev.now _)
    simp only [spec_l00Word.l0]
    rw [if_pos (by omega), if_pos (by omega), hbt]
    simp only [specLetter_eq, specDigit_eq, Option.bind_some, h1, h2]
    rfl
theorem specName_ev (s : ByteArray) : Ev (fun k => spec_NameOK.f k s) (nameR (bl s)) := by
 suffices h : Ev (fun k => spec_l00Word.f k s) (nameR (bl s)) by
  obtain ⟨K, h⟩ := h
  exact ⟨K, fun k hk => by simp only [spec_NameOK.f, h k hk]; rfl⟩
 by_cases h : 1 ≤ s.size ∧ s.size ≤ 40
 ·have hlt : 0 < (bl s).length := by rw [← bl_size]; omega
  have hhd : (bl s).head? = some (bl s)[0] := by rw [List.head?_eq_getElem?, List.getElem?_eq_getElem hlt]
  have e : nameR (bl s) = (!(isDig ((bl s)[0]).toNat) && (bl s).all nameB) := by
   unfold nameR
   rw [hhd, ← bl_size]
   simp [h]
  have hf : ∀ k, spec_l00Word.f k s = spec_l00Word.j0 k s (!(isLet ((bl s)[0]).toNat || (((bl s)[0]).toNat : Int) == 95)) := fun k => by
   simp only [spec_l00Word.f]
   rw [if_neg (by omega), if_neg (by omega), if_pos (by omega)]
   have := bt_eq s 0 hlt
   rw [show ((0 : Nat) : Int) = 0 from rfl] at this
   rw [this, specLetter_eq]
   rfl
  refine Ev.congr hf ?_
  have hall : (bl s).all nameB = (nameB (bl s)[0] && ((bl s).drop 1).all nameB) := by
   have := List.drop_eq_getElem_cons hlt
   rw [List.drop_zero] at this
   conv => lhs; rw [this]
   rfl
  rw [e, hall]
  have h95 : ((((bl s)[0]).toNat : Int) == 95) = (((bl s)[0]).toNat == 95) := by
   rw [Bool.eq_iff_iff]; simp; omega
  have hx : isDig ((bl s)[0]).toNat = true → (isLet ((bl s)[0]).toNat || (((bl s)[0]).toNat : Int) == 95) = false := by
   unfold isDig isLet
   simp
   omega
  cases hl : (isLet ((bl s)[0]).toNat || (((bl s)[0]).toNat : Int) == 95) with
  | true =>
   have hd : isDig ((bl s)[0]).toNat = false := by
    cases hd : isDig ((bl s)[0]).toNat with
    | true => rw [hx hd] at hl; cases hl
    | false => rfl
   have hn : nameB (bl s)[0] = true := by
    unfold nameB
    rw [← h95]
    revert hl
    cases isLet ((bl s)[0]).toNat <;> simp [hd]
   rw [hd, hn]
   simp only [Bool.not_false, Bool.true_and]
   refine Ev.step (f := fun k => spec_l00Word.l0 k s ((1 : Nat) : Int)) (fun k => ?_) (specName_l0 s (by rw [← bl_size]; exact h.2) ((bl s).length - 1) 1 (by omega))
   simp [spec_l00Word.j0]
  | false =>
   have hn : (!(isDig ((bl s)[0]).toNat) && (nameB (bl s)[0] && ((bl s).drop 1).all nameB)) = false := by
    cases hd : isDig ((bl s)[0]).toNat with
    | true => rfl
    | false =>
     have : nameB (bl s)[0] = false := by
      unfold nameB
      rw [← h95]
      revert hl
      cases isLet ((bl s)[0]).toNat <;> simp [hd]
     rw [this]
     rfl
   rw [hn]
   refine Ev.step (f := fun _ => some _) (fun k => ?_) (Ev.now _)
   simp [spec_l00Word.j0]
 ·have e : nameR (bl s) = false := by
   unfold nameR
   rw [← bl_size]
   simp only [decide_eq_false h, Bool.false_and]
  rw [e]
  refine Ev.congr (f := fun k => spec_l00Word.j0 k s true) (fun k => ?_) ?_
  ·simp only [spec_l00Word.f]
   by_cases h1 : (s.size : Int) < 1
   ·rw [if_pos h1]
   ·rw [if_neg h1, if_pos (by omega)]
  ·refine Ev.step (f := fun _ => some _) (fun k => ?_) (Ev.now _)
   simp [spec_l00Word.j0]
end Go.Proofs.Ytjaedjcdgeikpaa.P
/- Lemmas of mine: the two BoxOK tell the same. Plain. -/
set_option linter.unusedVariables false
set_option linter.unusedSimpArgs false
namespace Go.Proofs.Ytjaedjcdgeikpaa.P
open Go.RowKit Go.Proofs.YtjaedjcdgeikpaaW.PrintWords
/-- Right mails behind a uid, below a next one. -/
def mailsR (nx : Int) : Int → List S28 → Bool
 | _, [] => true
 | b, x :: l => decide (b + 1 ≤ x.f0 ∧ x.f0 ≤ nx - 1) && decide (0 ≤ x.f1 ∧ x.f1 ≤ 31) && decide (x.f2.size ≤ 4000) && mailsR nx x.f0 l
/-- A text is in a list. -/
def hasT (l : List ByteArray) (x : ByteArray) : Bool := l.any fun y => bl y == bl x
theorem hasT_nil (x : ByteArray) : hasT [] x = false := rfl
theorem hasT_hit (l : List ByteArray) (a x : ByteArray) (h : a = x) : hasT (a :: l) x = true := by simp [hasT, h]
theorem hasT_miss (l : List ByteArray) (a x : ByteArray) (h : ¬ a = x) : hasT (a :: l) x = hasT l x := by
 have : (bl a == bl x) = false := beq_eq_false_iff_ne.mpr fun e => h (bl_inj e)
 simp [hasT, this]
/-- Right keys behind others: each of 1 to 200 bytes, none that stood before. -/
def keysR : List ByteArray → List ByteArray → Bool
 | _, [] => true
 | p, x :: l => decide (1 ≤ x.size ∧ x.size ≤ 200) && !(hasT p x) && keysR (p ++ [x]) l
/-- A right box. -/
def boxR (s : ByteArray) (v nx : Int) (ms : List S28) (ks : List ByteArray) : Bool :=
 nameR (bl s) && decide ((1 ≤ v ∧ v ≤ 1000000) ∧ (1 ≤ nx ∧ nx ≤ 1001) ∧ ms.length ≤ 30 ∧ ks.length ≤ 60 ∧ (ks.length : Int) = nx - 1) && mailsR nx 0 ms && keysR [] ks
theorem rdOf_nat (xs : List ByteArray) (i : Nat) (h : i < xs.length) : rdOf ByteArray.empty xs (i : Int) = xs[i]'h := by
 unfold rdOf
 exact getD_nat xs _ i h
theorem specHasT_l0 (l : List ByteArray) (x : ByteArray) (hl : l.length ≤ 4611686018427387904) : ∀ (d i : Nat), i + d = l.length → Ev (fun k => spec_l06Has.l0 k l x (i : Int)) (hasT (l.drop i) x) := by
 intro d
 induction d with
 | zero =>
  intro i hi
  rw [List.drop_eq_nil_of_le (by omega)]
  refine Ev.step (f := fun _ => some _) (fun k => ?_) (Ev.now _)
  simp only [spec_l06Has.l0]
  rw [if_neg (by omega)]
  rfl
 | succ d ih =>
  intro i hi
  have hlt : i < l.length := by omega
  rw [List.drop_eq_getElem_cons hlt]
  have e : ∀ k, spec_l06Has.l0 (k + 1) l x (i : Int) = if l[i]'hlt = x then some true else spec_l06Has.l0 k l x ((i + 1 : Nat) : Int) := fun k => by
   simp only [spec_l06Has.l0, rdOf_nat l i hlt, toList_iff]
   rw [if_pos (by omega), if_pos (by omega), w64s i (by omega)]
  by_cases hx : l[i]'hlt = x
  ·rw [hasT_hit _ _ _ hx]
   exact Ev.step (f := fun _ => some _) (fun k => by rw [e, if_pos hx]) (Ev.now _)
  ·rw [hasT_miss _ _ _ hx]
   exact Ev.step (f := fun k => spec_l06Has.l0 k l x ((i + 1 : Nat) : Int)) (fun k => by rw [e, if_neg hx]) (ih (i + 1) (by omega))
theorem specHasT_ev (l : List ByteArray) (x : ByteArray) (hl : l.length ≤ 4611686018427387904) : Ev (fun k => spec_l06Has.f k l x) (hasT l x) := specHasT_l0 l x hl l.length 0 (by omega)
theorem index_l0 (l : List ByteArray) (x : ByteArray) (hl : l.length ≤ 4611686018427387904) : ∀ (d i : Nat), i + d = l.length → ∃ r, Ev (fun k => slices_Index_string.l0 k l x (l.length : Int) (i : Int)) r ∧ decide (r ≥ 0) = hasT (l.drop i) x := by
 intro d
 induction d with
 | zero =>
  intro i hi
  rw [List.drop_eq_nil_of_le (by omega)]
  refine ⟨-1, Ev.step (f := fun _ => some _) (fun k => ?_) (Ev.now _), by rw [hasT_nil]; decide⟩
  simp only [slices_Index_string.l0]
  rw [if_neg (by omega)]
 | succ d ih =>
  intro i hi
  have hlt : i < l.length := by omega
  rw [List.drop_eq_getElem_cons hlt]
  have e : ∀ k, slices_Index_string.l0 (k + 1) l x (l.length : Int) (i : Int) = if x = l[i]'hlt then some (i : Int) else slices_Index_string.l0 k l x (l.length : Int) ((i + 1 : Nat) : Int) := fun k => by
   simp only [slices_Index_string.l0, rdOf_nat l i hlt, toList_iff]
   rw [if_pos (by omega), if_pos (by omega), if_pos (by omega), w64s i (by omega)]
  by_cases hx : x = l[i]'hlt
  ·refine ⟨(i : Int), Ev.step (f := fun _ => some _) (fun k => by rw [e, if_pos hx]) (Ev.now _), ?_⟩
   rw [hasT_hit _ _ _ hx.symm]
   exact decide_eq_true (Int.natCast_nonneg i)
  ·obtain ⟨r, h1, h2⟩ := ih (i + 1) (by omega)
   refine ⟨r, Ev.step (f := fun k => slices_Index_string.l0 k l x (l.length : Int) ((i + 1 : Nat) : Int)) (fun k => by rw [e, if_neg hx]) h1, ?_⟩
   rw [h2, hasT_miss _ _ _ (fun h => hx h.symm)]
theorem contains_ev (l : List ByteArray) (x : ByteArray) (hl : l.length ≤ 4611686018427387904) : Ev (fun k => slices_Contains_string.f k l x) (hasT l x) := by
 obtain ⟨r, ⟨K, h1⟩, h2⟩ := index_l0 l x hl l.length 0 (by omega)
 rw [List.drop_zero] at h2
 refine ⟨K, fun k hk => ?_⟩
 have e : slices_Index_string.f k l x = some r := h1 k hk
 simp only [slices_Contains_string.f, e, bS, h2]
theorem specKeys_l1 (s : ByteArray) (v nx : Int) (ms : List S28) (ks : List ByteArray) (hl : ks.length ≤ 60) : ∀ (d i : Nat), i + d = ks.length → Ev (fun k => spec_BoxOK.l1 k (i : Int) s v nx ms ks) (keysR (ks.take i) (ks.drop i)) := by
 intro d
 induction d with
 | zero =>
  intro i hi
  rw [List.drop_eq_nil_of_le (by omega)]
  refine Ev.step (f := fun _ => some _) (fun k => ?_) (Ev.now _)
  simp only [spec_BoxOK.l1]
  rw [if_neg (by omega)]
  rfl
 | succ d ih =>
  intro i hi
  have hlt : i < ks.length := by omega
  obtain ⟨K, hK⟩ := specHasT_ev (ks.take i) (ks[i]'hlt) (by rw [List.length_take]; omega)
  obtain ⟨K2, hK2⟩ := ih (i + 1) (by omega)
  have ht : ks.take (i + 1) = ks.take i ++ [ks[i]'hlt] := by rw [List.take_add_one, List.getElem?_eq_getElem hlt]; rfl
  rw [ht] at hK2
  rw [List.drop_eq_getElem_cons hlt]
  simp only [keysR]
  refine ⟨K + K2 + 1, fun k hk => ?_⟩
  obtain ⟨m, rfl⟩ : ∃ m, k = m + 1 := ⟨k - 1, by omega⟩
  have h1 := hK m (by omega)
  have h2 := hK2 m (by omega)
  simp only at h1 h2
  simp only [spec_BoxOK.l1, rdOf_nat ks i hlt, l01In_eq, Int.toNat_natCast, h1, bS]
  rw [if_pos (by omega), if_pos (by omega), if_pos (show (i : Int) ≤ (ks.length : Int) by omega), w64s i (by omega), h2]
  generalize ks[i]'hlt = x
  by_cases c1 : 1 ≤ x.size ∧ x.size ≤ 200
  ·rw [if_pos (by rw [decide_eq_true_eq]; omega), decide_eq_true c1]
   cases hasT (ks.take i) x <;> rfl
  ·rw [if_neg (by rw [decide_eq_true_eq]; omega), decide_eq_false c1]
   rfl
theorem implKeys_l1 (s : ByteArray) (v nx : Int) (ms : List S28) (ks : List ByteArray) (hl : ks.length ≤ 60) : ∀ (d i : Nat), i + d = ks.length → Ev (fun k => impl_BoxOK.l1 k ks (ks.length : Int) (i : Int) s v nx ms ks) (keysR (ks.take i) (ks.drop i)) := by
 intro d
 induction d with
 | zero =>
  intro i hi
  rw [List.drop_eq_nil_of_le (by omega)]
  refine Ev.step (f := fun _ => some _) (fun k => ?_) (Ev.now _)
  simp only [impl_BoxOK.l1]
  rw [if_neg (by omega)]
  rfl
 | succ d ih =>
  intro i hi
  have hlt : i < ks.length := by omega
  obtain ⟨K, hK⟩ := contains_ev (ks.take i) (ks[i]'hlt) (by rw [List.length_take]; omega)
  obtain ⟨K2, hK2⟩ := ih (i + 1) (by omega)
  have ht : ks.take (i + 1) = ks.take i ++ [ks[i]'hlt] := by rw [List.take_add_one, List.getElem?_eq_getElem hlt]; rfl
  rw [ht] at hK2
  rw [List.drop_eq_getElem_cons hlt]
  simp only [keysR]
  refine ⟨K + K2 + 1, fun k hk => ?_⟩
  obtain ⟨m, rfl⟩ : ∃ m, k = m + 1 := ⟨k - 1, by omega⟩
  have h1 := hK m (by omega)
  have h2 := hK2 m (by omega)
  simp only at h1 h2
  simp only [impl_BoxOK.l1, impl_keyOK.f, rdOf_nat ks i hlt, within_eq, Int.toNat_natCast, h1, bS]
  rw [if_pos (by omega), if_pos (by omega), if_pos (by omega), if_pos (show (i : Int) ≤ (ks.length : Int) by omega), w64s i (by omega), h2]
  generalize ks[i]'hlt = x
  by_cases c1 : 1 ≤ x.size ∧ x.size ≤ 200
  ·rw [if_pos (by rw [decide_eq_true_eq]; omega), decide_eq_true c1]
   cases hasT (ks.take i) x <;> rfl
  ·rw [if_neg (by rw [decide_eq_true_eq]; omega), decide_eq_false c1]
   rfl
/-- The uid before a place. -/
def uidB (ms : List S28) (i : Nat) : Int := if h : 0 < i ∧ i ≤ ms.length then (ms[i - 1]'(by omega)).f0 else 0
theorem specMails_l0 (s : ByteArray) (v nx : Int) (ms : List S28) (ks : List ByteArray) (hm : ms.length ≤ 30) (hl : ks.length ≤ 60) (hn : 1 ≤ nx ∧ nx ≤ 1001) : ∀ (d i : Nat) (b : Int), i + d = ms.length → (i = 0 → b = 0) → (∀ h : 0 < i ∧ i ≤ ms.length, (ms[i - 1]'(by omega)).f0 = b) → 0 ≤ b → b ≤ 1000 →
  Ev (fun k => spec_BoxOK.l0 k (i : Int) s v nx ms ks) (mailsR nx b (ms.drop i) && keysR [] ks) := by
 intro d
 induction d with
 | zero =>
  intro i b hi _ _ _ _
  rw [List.drop_eq_nil_of_le (by omega)]
  have h := specKeys_l1 s v nx ms ks hl ks.length 0 (by omega)
  rw [List.take_zero, List.drop_zero] at h
  simp only [mailsR, Bool.true_and]
  refine Ev.step (f := fun k => spec_BoxOK.l1 k ((0 : Nat) : Int) s v nx ms ks) (fun k => ?_) h
  simp only [spec_BoxOK.l0]
  rw [if_neg (by omega)]
  rfl
 | succ d ih =>
  intro i b hi hz hb h0 h1
  have hlt : i < ms.length := by omega
  rw [List.drop_eq_getElem_cons hlt]
  have e : ∀ k, spec_BoxOK.l0 (k + 1) (i : Int) s v nx ms ks = if (b + 1 ≤ (ms[i]'hlt).f0 ∧ (ms[i]'hlt).f0 ≤ nx - 1) ∧ (0 ≤ (ms[i]'hlt).f1 ∧ (ms[i]'hlt).f1 ≤ 31) ∧ (ms[i]'hlt).f2.size ≤ 4000 then spec_BoxOK.l0 k ((i + 1 : Nat) : Int) s v nx ms ks else some false := fun k => by
   simp only [spec_BoxOK.l0, rd_T28, getD_nat ms _ i hlt, l01In_eq, bS]
   rw [if_pos (by omega), if_pos (by omega), w64s i (by omega), w64 (n := nx - 1) (by omega) (by omega)]
   by_cases hi0 : (i : Int) > 0
   ·have hp := hb ⟨by omega, by omega⟩
    have hw : wrap64 ((i : Int) - 1) = ((i - 1 : Nat) : Int) := by rw [w64 (by omega) (by omega)]; omega
    have hg : ms.getD ((i - 1 : Nat) : Int).toNat z28 = ms[i - 1]'(by omega) := getD_nat ms _ (i - 1) (by omega)
    rw [hw, hg, hp]
    clear hw hg
    generalize ms[i]'hlt = x
    simp only [decide_eq_true_eq]
    by_cases c1 : 1 ≤ x.f0 ∧ x.f0 ≤ nx - 1
    ·rw [if_pos c1, if_pos hi0, if_pos (by omega), if_pos (by omega)]
     by_cases c2 : b ≥ x.f0
     ·rw [if_pos c2, if_neg (by omega)]
     ·rw [if_neg c2]
      by_cases c3 : 0 ≤ x.f1 ∧ x.f1 ≤ 31
      ·rw [if_pos c3]
       by_cases c4 : (x.f2.size : Int) > 4000
       ·rw [if_pos c4, if_neg (by omega)]
       ·rw [if_neg c4, if_pos (by omega)]
      ·rw [if_neg c3, if_neg (by omega)]
    ·rw [if_neg c1, if_neg (by omega)]
   ·have hb0 := hz (by omega)
    generalize ms[i]'hlt = x
    simp only [decide_eq_true_eq]
    by_cases c1 : 1 ≤ x.f0 ∧ x.f0 ≤ nx - 1
    ·rw [if_pos c1, if_neg hi0]
     by_cases c3 : 0 ≤ x.f1 ∧ x.f1 ≤ 31
     ·rw [if_pos c3]
      by_cases c4 : (x.f2.size : Int) > 4000
      ·rw [if_pos c4, if_neg (by omega)]
      ·rw [if_neg c4, if_pos (by omega)]
     ·rw [if_neg c3, if_neg (by omega)]
    ·rw [if_neg c1, if_neg (by omega)]
  by_cases hc : (b + 1 ≤ (ms[i]'hlt).f0 ∧ (ms[i]'hlt).f0 ≤ nx - 1) ∧ (0 ≤ (ms[i]'hlt).f1 ∧ (ms[i]'hlt).f1 ≤ 31) ∧ (ms[i]'hlt).f2.size ≤ 4000
  ·simp only [mailsR, decide_eq_true hc.1, decide_eq_true hc.2.1, decide_eq_true hc.2.2, Bool.true_and]
   refine Ev.step (f := fun k => spec_BoxOK.l0 k ((i + 1 : Nat) : Int) s v nx ms ks) (fun k => by rw [e, if_pos hc]) (ih (i + 1) _ (by omega) (by omega) (fun h => by simp only [Nat.add_sub_cancel]) (by omega) (by omega))
  ·have hf : mailsR nx b (ms[i]'hlt :: ms.drop (i + 1)) = false := by
    simp only [mailsR]
    by_cases c1 : b + 1 ≤ (ms[i]'hlt).f0 ∧ (ms[i]'hlt).f0 ≤ nx - 1
    ·by_cases c2 : 0 ≤ (ms[i]'hlt).f1 ∧ (ms[i]'hlt).f1 ≤ 31
     ·rw [decide_eq_false (show ¬ (ms[i]'hlt).f2.size ≤ 4000 from fun c3 => hc ⟨c1, c2, c3⟩), Bool.and_false, Bool.false_and]
     ·rw [decide_eq_false c2, Bool.and_false, Bool.false_and, Bool.false_and]
    ·rw [decide_eq_false c1, Bool.false_and, Bool.false_and, Bool.false_and]
   rw [hf, Bool.false_and]
   exact Ev.step (f := fun _ => some _) (fun k => by rw [e, if_neg hc]) (Ev.now _)
theorem implMails_l0 (s : ByteArray) (v nx : Int) (ms : List S28) (ks : List ByteArray) (hm : ms.length ≤ 30) (hl : ks.length ≤ 60) (hn : 1 ≤ nx ∧ nx ≤ 1001) : ∀ (d i : Nat) (b : Int), i + d = ms.length → 0 ≤ b → b ≤ 1000 →
  Ev (fun k => impl_BoxOK.l0 k b ms (ms.length : Int) (i : Int) s v nx ms ks) (mailsR nx b (ms.drop i) && keysR [] ks) := by
 intro d
 induction d with
 | zero =>
  intro i b hi _ _
  rw [List.drop_eq_nil_of_le (by omega)]
  have h := implKeys_l1 s v nx ms ks hl ks.length 0 (by omega)
  rw [List.take_zero, List.drop_zero] at h
  simp only [mailsR, Bool.true_and]
  refine Ev.step (f := fun k => impl_BoxOK.l1 k ks (ks.length : Int) ((0 : Nat) : Int) s v nx ms ks) (fun k => ?_) h
  simp only [impl_BoxOK.l0]
  rw [if_neg (by omega)]
  rfl
 | succ d ih =>
  intro i b hi h0 h1
  have hlt : i < ms.length := by omega
  rw [List.drop_eq_getElem_cons hlt]
  have e : ∀ k, impl_BoxOK.l0 (k + 1) b ms (ms.length : Int) (i : Int) s v nx ms ks = if (b + 1 ≤ (ms[i]'hlt).f0 ∧ (ms[i]'hlt).f0 ≤ nx - 1) ∧ (0 ≤ (ms[i]'hlt).f1 ∧ (ms[i]'hlt).f1 ≤ 31) ∧ (ms[i]'hlt).f2.size ≤ 4000 then impl_BoxOK.l0 k (ms[i]'hlt).f0 ms (ms.length : Int) ((i + 1 : Nat) : Int) s v nx ms ks else some false := fun k => by
   simp only [impl_BoxOK.l0, rd_T28, getD_nat ms _ i hlt, within_eq, bS]
   rw [if_pos (by omega), if_pos (by omega), if_pos (by omega), w64s i (by omega), w64 (n := nx - 1) (by omega) (by omega), w64 (n := b + 1) (by omega) (by omega)]
   generalize ms[i]'hlt = x
   simp only [decide_eq_true_eq]
   by_cases c1 : b + 1 ≤ x.f0 ∧ x.f0 ≤ nx - 1
   ·rw [if_pos c1]
    by_cases c3 : 0 ≤ x.f1 ∧ x.f1 ≤ 31
    ·rw [if_pos c3]
     by_cases c4 : (x.f2.size : Int) > 4000
     ·rw [if_pos c4, if_neg (by omega)]
     ·rw [if_neg c4, if_pos (by omega)]
    ·rw [if_neg c3, if_neg (by omega)]
   ·rw [if_neg c1, if_neg (by omega)]
  by_cases hc : (b + 1 ≤ (ms[i]'hlt).f0 ∧ (ms[i]'hlt).f0 ≤ nx - 1) ∧ (0 ≤ (ms[i]'hlt).f1 ∧ (ms[i]'hlt).f1 ≤ 31) ∧ (ms[i]'hlt).f2.size ≤ 4000
  ·simp only [mailsR, decide_eq_true hc.1, decide_eq_true hc.2.1, decide_eq_true hc.2.2, Bool.true_and]
   refine Ev.step (f := fun k => impl_BoxOK.l0 k (ms[i]'hlt).f0 ms (ms.length : Int) ((i + 1 : Nat) : Int) s v nx ms ks) (fun k => by rw [e, if_pos hc]) (ih (i + 1) _ (by omega) (by omega) (by omega))
  ·have hf : mailsR nx b (ms[i]'hlt :: ms.drop (i + 1)) = false := by
    simp only [mailsR]
    by_cases c1 : b + 1 ≤ (ms[i]'hlt).f0 ∧ (ms[i]'hlt).f0 ≤ nx - 1
    ·by_cases c2 : 0 ≤ (ms[i]'hlt).f1 ∧ (ms[i]'hlt).f1 ≤ 31
     ·rw [decide_eq_false (show ¬ (ms[i]'hlt).f2.size ≤ 4000 from fun c3 => hc ⟨c1, c2, c3⟩), Bool.and_false, Bool.false_and]
     ·rw [decide_eq_false c2, Bool.and_false, Bool.false_and, Bool.false_and]
    ·rw [decide_eq_false c1, Bool.false_and, Bool.false_and, Bool.false_and]
   rw [hf, Bool.false_and]
   exact Ev.step (f := fun _ => some _) (fun k => by rw [e, if_neg hc]) (Ev.now _)
theorem specBox_ev (s : ByteArray) (v nx : Int) (ms : List S28) (ks : List ByteArray) : Ev (fun k => spec_BoxOK.f k s v nx ms ks) (boxR s v nx ms ks) := by
 obtain ⟨K, hK⟩ := specName_ev s
 by_cases hA : (1 ≤ v ∧ v ≤ 1000000) ∧ (1 ≤ nx ∧ nx ≤ 1001) ∧ ms.length ≤ 30 ∧ ks.length ≤ 60 ∧ (ks.length : Int) = nx - 1
 ·obtain ⟨a1, a2, a3, a4, a5⟩ := hA
  obtain ⟨K2, h2⟩ := specMails_l0 s v nx ms ks a3 a4 a2 ms.length 0 0 (by omega) (fun _ => rfl) (fun h => absurd h.1 (by omega)) (by omega) (by omega)
  rw [List.drop_zero] at h2
  unfold boxR
  rw [decide_eq_true ⟨a1, a2, a3, a4, a5⟩, Bool.and_true, Bool.and_assoc]
  refine ⟨K + K2 + 1, fun k hk => ?_⟩
  obtain ⟨m, rfl⟩ : ∃ m, k = m + 1 := ⟨k - 1, by omega⟩
  have h1 := hK (m + 1) (by omega)
  have h3 := h2 m (by omega)
  simp only at h1 h3
  have hne : ((ks.length : Int) != wrap64 (nx - 1)) = false := by rw [w64 (by omega) (by omega)]; simp [a5]
  simp only [spec_BoxOK.f, h1, bS, l01In_eq, decide_eq_true a1, decide_eq_true a2, if_true, hne]
  cases nameR (bl s) with
  | false => rw [if_neg (by decide)]; simp only [spec_BoxOK.j0, if_true, Bool.false_and]
  | true =>
   rw [if_pos rfl, if_neg (by omega), if_neg (by omega), Bool.true_and]
   simp only [spec_BoxOK.j0]
   rw [if_neg (by decide)]
   exact h3
 ·have hf : boxR s v nx ms ks = false := by
   unfold boxR
   rw [decide_eq_false hA, Bool.and_false, Bool.false_and, Bool.false_and]
  rw [hf]
  refine ⟨K + 1, fun k hk => ?_⟩
  obtain ⟨m, rfl⟩ : ∃ m, k = m + 1 := ⟨k - 1, by omega⟩
  have h1 := hK (m + 1) (by omega)
  simp only at h1
  have hj : spec_BoxOK.j0 (m + 1) true s v nx ms ks = some false := by simp only [spec_BoxOK.j0, if_true]
  simp only [spec_BoxOK.f, h1, bS, l01In_eq, decide_eq_true_eq, hj]
  cases nameR (bl s) with
  | false => rw [if_neg (by decide)]
  | true =>
   rw [if_pos rfl]
   by_cases b1 : 1 ≤ v ∧ v ≤ 1000000
   ·rw [if_pos b1]
    by_cases b2 : 1 ≤ nx ∧ nx ≤ 1001
    ·rw [if_pos b2]
     by_cases b3 : (ms.length : Int) > 30
     ·rw [if_pos b3]
     ·rw [if_neg b3]
      by_cases b4 : (ks.length : Int) > 60
      ·rw [if_pos b4]
      ·rw [if_neg b4]
       have hne : ((ks.length : Int) != wrap64 (nx - 1)) = true := by
        rw [w64 (by omega) (by omega)]
        exact bne_iff_ne.mpr (fun h => hA ⟨b1, b2, by omega, by omega, h⟩)
       rw [hne, hj]
    ·rw [if_neg b2]
   ·rw [if_neg b1]
theorem implBox_ev (s : ByteArray) (v nx : Int) (ms : List S28) (ks : List ByteArray) : Ev (fun k => impl_BoxOK.f k s v nx ms ks) (boxR s v nx ms ks) := by
 obtain ⟨K, hK⟩ := implName_ev s
 by_cases hA : (1 ≤ v ∧ v ≤ 1000000) ∧ (1 ≤ nx ∧ nx ≤ 1001) ∧ ms.length ≤ 30 ∧ ks.length ≤ 60 ∧ (ks.length : Int) = nx - 1
 ·obtain ⟨a1, a2, a3, a4, a5⟩ := hA
  obtain ⟨K2, h2⟩ := implMails_l0 s v nx ms ks a3 a4 a2 ms.length 0 0 (by omega) (by omega) (by omega)
  rw [List.drop_zero] at h2
  unfold boxR
  rw [decide_eq_true ⟨a1, a2, a3, a4, a5⟩, Bool.and_true, Bool.and_assoc]
  refine ⟨K + K2 + 2, fun k hk => ?_⟩
  obtain ⟨m, rfl⟩ : ∃ m, k = m + 1 + 1 := ⟨k - 2, by omega⟩
  have h1 := hK (m + 1 + 1) (by omega)
  have h3 := h2 m (by omega)
  simp only at h1 h3
  have hne : ((ks.length : Int) != wrap64 (nx - 1)) = false := by rw [w64 (by omega) (by omega)]; simp [a5]
  simp only [impl_BoxOK.f, h1, bS, within_eq, decide_eq_true a1, decide_eq_true a2, if_true]
  cases nameR (bl s) with
  | false => rw [if_neg (by decide)]; simp only [impl_BoxOK.j0, if_true, Bool.false_and]
  | true =>
   rw [if_pos rfl, Bool.true_and]
   simp only [impl_BoxOK.j0, Bool.not_true, hne]
   rw [if_neg (by decide), if_neg (by omega), if_neg (by omega)]
   simp only [impl_BoxOK.j1]
   rw [if_neg (by decide)]
   exact h3
 ·have hf : boxR s v nx ms ks = false := by
   unfold boxR
   rw [decide_eq_false hA, Bool.and_false, Bool.false_and, Bool.false_and]
  rw [hf]
  refine ⟨K + 2, fun k hk => ?_⟩
  obtain ⟨m, rfl⟩ : ∃ m, k = m + 1 + 1 := ⟨k - 2, by omega⟩
  have h1 := hK (m + 1 + 1) (by omega)
  simp only at h1
  have hj : impl_BoxOK.j0 (m + 1 + 1) true s v nx ms ks = some false := by simp only [impl_BoxOK.j0, if_true]
  have hj1 : impl_BoxOK.j1 (m + 1) true s v nx ms ks = some false := by simp only [impl_BoxOK.j1, if_true]
  simp only [impl_BoxOK.f, h1, bS, within_eq, decide_eq_true_eq, hj]
  cases nameR (bl s) with
  | false => rw [if_neg (by decide)]
  | true =>
   rw [if_pos rfl]
   by_cases b1 : 1 ≤ v ∧ v ≤ 1000000
   ·rw [if_pos b1]
    by_cases b2 : 1 ≤ nx ∧ nx ≤ 1001
    ·rw [decide_eq_true b2]
     simp only [impl_BoxOK.j0, Bool.not_true]
     rw [if_neg (by decide)]
     by_cases b3 : (ms.length : Int) > 30
     ·rw [if_pos b3, hj1]
     ·rw [if_neg b3]
      by_cases b4 : (ks.length : Int) > 60
      ·rw [if_pos b4, hj1]
      ·rw [if_neg b4]
       have hne : ((ks.length : Int) != wrap64 (nx - 1)) = true := by
        rw [w64 (by omega) (by omega)]
        exact bne_iff_ne.mpr (fun h => hA ⟨b1, b2, by omega, by omega, h⟩)
       rw [hne, hj1]
    ·rw [decide_eq_false b2]
     exact hj
   ·rw [if_neg b1]
end Go.Proofs.Ytjaedjcdgeikpaa.P
namespace Go.Proofs.Ytjaedjcdgeikpaa.P
open Go.RowKit Go.Proofs.YtjaedjcdgeikpaaW.PrintWords Go.Proofs.YtjaedjcdgeikpaaW.PrintLast Go.Proofs.YtjaedjcdgeikpaaW.PrintMore
attribute [local go_sem] max2_int min2_int max_two min_two max_three min_three max_four min_four   -- for this text's walks alone
set_option linter.unusedVariables false
set_option linter.unusedSimpArgs false

/-! ### laws_markText: function 42 -/
def laws_markText.l0 : Nat → Int → ByteArray → Option (ByteArray)
 | 0, _, _ => none
 | k + 1, x0, x3 => if x0 > 0 then ((some (([(wrap64 (48 + (Int.tmod x0 10))) % 256] : List Int) : List Int)).bind fun y101 => (if (strOfNums y101).size + x3.size ≤ 9223372036854775807 then (laws_markText.l0 k (wrap64 (Int.tdiv x0 10)) ((strOfNums y101) ++ x3)) else (none))) else (if 1 + x3.size ≤ 9223372036854775807 then (some ((⟨#[109]⟩ : ByteArray) ++ x3)) else (none))
def laws_markText.f (k : Nat) (a0 : Int) : Option (ByteArray) := if a0 ≤ 0 then (some (⟨#[109, 48]⟩ : ByteArray)) else (laws_markText.l0 k a0 (⟨#[]⟩ : ByteArray))
theorem laws_markText.mono_l : ∀ k, (∀ y0 y1, LeO (laws_markText.l0 k y0 y1) (laws_markText.l0 (k + 1) y0 y1))
 | 0 => fun _ _ r h => by simp [laws_markText.l0] at h
 | k + 1 => by
  have ih0 := laws_markText.mono_l k
  ·intro y0 y1
   unfold laws_markText.l0
   repeat' first
   | (with_reducible exact ih0 _ _)
   | (with_reducible exact LeO.refl _)
   | (with_reducible exact LeO.none _)
   | (with_reducible refine LeO.ite ?_ ?_)
   | (with_reducible refine LeO.bind ?_ (fun _ => ?_))
   | exact ih0 _ _
   | exact LeO.none _
   | refine LeO.ite ?_ ?_
   | refine LeO.bind ?_ (fun _ => ?_)
theorem laws_markText.mono : ∀ a0 k, LeO (laws_markText.f k a0) (laws_markText.f (k + 1) a0) := by
 intro a0 k
 have ih0 := laws_markText.mono_l k
 unfold laws_markText.f
 repeat' first
   | (with_reducible exact ih0 _ _)
   | (with_reducible exact LeO.refl _)
   | (with_reducible exact LeO.none _)
   | (with_reducible refine LeO.ite ?_ ?_)
   | (with_reducible refine LeO.bind ?_ (fun _ => ?_))
   | exact ih0 _ _
   | exact LeO.none _
   | refine LeO.ite ?_ ?_
   | refine LeO.bind ?_ (fun _ => ?_)
set_option maxHeartbeats 8000000 in
set_option maxRecDepth 100000 in
theorem laws_markText.calls (k : Nat) (a0 : Int) (r : ByteArray) (w : World) (h : laws_markText.f k a0 = some r) :
  Calls Try.prog 42 #[.int .i64 a0] w fun e w' => e = .returned (.string r) ∧ Below w.heap.size w w' := by
 have HB := qM_ (Below.refl w.heap.size w)
 have H : (if a0 ≤ 0 then (some (⟨#[109, 48]⟩ : ByteArray)) else (laws_markText.l0 k a0 (⟨#[]⟩ : ByteArray))) = some r := h
 clear h
 by_cases c2 : a0 ≤ 0
 ·rw [if_pos c2] at H
  have c2b0 : decide (a0 ≤ 0) = true := decide_eq_true c2
  clear c2
  obtain rfl := Option.some.inj H
  go_enter Try.func42, Try.ntmps42
  go_wp2
  go_ret
  exact ⟨by first | rfl | (simp [errW_none, errW_some] <;> rfl) | (simp [*, errW_none, errW_some] <;> rfl), by repeat (first | (with_reducible first | exact HB.out | apply qA_ | apply qD_ | apply qE_) | exact HB.out)⟩
 ·rw [if_neg c2] at H
  have c2b0 : decide (a0 ≤ 0) = false := decide_eq_false c2
  clear c2
  have H' := qM_ H
  clear H
  go_enter Try.func42, Try.ntmps42
  go_wp2
  go_loopg [0, 3] k (fun kq v0 v3 w' => ∃ (x0_1 : Int) (x3_1 : ByteArray), v0 = .int .i64 x0_1 ∧ v3 = .string x3_1 ∧ Aside0 (laws_markText.l0 kq x0_1 x3_1 = some r) ∧ Aside0 (kq ≤ k) ∧ Aside0 (Below w.heap.size w w'))
  case atStart => exact ⟨(a0), ((⟨#[]⟩ : ByteArray)), (by first | rfl | (simp; done) | (simp [*]; done)), (by first | rfl | (simp; done) | (simp [*]; done)), H', ⟨Nat.le_refl _⟩, ⟨by repeat (first | (with_reducible first | exact HB.out | apply qA_ | apply qD_ | apply qE_) | exact HB.out)⟩⟩
  case round =>
   clear H'
   try clear c2
   try clear c2b0
   try clear p2
   obtain ⟨x0_1, x3_1, rfl, rfl, HA, HK1, HB⟩ := hrel
   cases gk with
   | zero => exact absurd HA.out (by simp [laws_markText.l0])
   | succ k1 =>
    have H := HA.out
    clear HA
    simp only [laws_markText.l0] at H
    by_cases c3 : x0_1 > 0
    ·rw [if_pos c3] at H
     have c3b0 : decide (0 < x0_1) = true := decide_eq_true c3
     clear c3
     obtain ⟨y101, hy101⟩ : ∃ y_ : List Int, y_ = (([(wrap64 (48 + (Int.tmod x0_1 10))) % 256] : List Int)) := ⟨_, rfl⟩
     replace H : (if (strOfNums y101).size + x3_1.size ≤ 9223372036854775807 then (laws_markText.l0 k1 (wrap64 (Int.tdiv x0_1 10)) ((strOfNums y101) ++ x3_1)) else (none)) = some r := by first | (rw [hy101]; with_reducible exact H) | (have H2_ := (Option.bind_some _ _).symm.trans H; rw [hy101]; with_reducible exact H2_) | (have H2_ := (Option.bind_some _ _).symm.trans H; with_reducible exact H2_) | with_reducible exact H | (rw [hy101]; exact H) | exact H
     have Ny101 := qM_ hy101
     clear hy101
     by_cases c4 : (strOfNums y101).size + x3_1.size ≤ 9223372036854775807
     ·rw [if_pos c4] at H
      have c4b0 := eq_true c4
      have c4b1 : decide ((strOfNums y101).size + x3_1.size ≤ 9223372036854775807) = true := decide_eq_true c4
      try have c4b2 : (9223372036854775807 < (strOfNums y101).size + x3_1.size) = False := eq_false (Nat.not_lt.2 c4)
      have H' := qM_ H
      clear H
      go_wp2_with (first | ((with_reducible refine gate_dst (N := 12) rfl ?_); refine Kd.R_lit (Kd.int .u8) _ 5 ?hg (N := 12) ?hd (xs := ([(wrap64 (48 + (Int.tmod x0_1 10))) % 256] : List Int)) (inner := [.int .u8 ((wrap64 (48 + (Int.tmod x0_1 10))) % 256)]) (ok := fun _ => True) (okp := fun _ => True) ?hr ?hp (fun _ hk => hk) trivial (Below.refl _ _) (Nat.le_refl _) (by simp) ?_; (case hd => rfl); (case hg => rfl); (case hr => first | (go_simp; done) | (go_simp; rfl)); (case hp => exact (Reps.one (show Kd.M (Kd.int .u8) _ _ _ ((wrap64 (48 + (Int.tmod x0_1 10))) % 256) [.int .u8 ((wrap64 (48 + (Int.tmod x0_1 10))) % 256)] from rfl) (Reps.none _ _))); intro v102 w5 ho6 hb hg_ hnew_; clear hg_ hnew_; (first | rw [← Ny101.out] at ho6 | (simp only [Int.reduceToNat] at ho6; rw [← Ny101.out] at ho6)); have n0_ := qM_ (Kd.R_lower ho6 (below_size (by repeat (first | (with_reducible first | exact HB.out | apply qA_ | apply qD_ | apply qE_) | exact HB.out)))); have n1_ := qM_ (below_step (by repeat (first | (with_reducible first | exact HB.out | apply qA_ | apply qD_ | apply qE_) | exact HB.out)) hb); clear HB; have HO103 := n0_; have HB := n1_; clear n0_ n1_; clear hb ho6; have hcv7 := own_string (P := Try.prog) Try.underlying78 Try.underlying5 Try.underlying9 (Kd.own_of_R HO103.out)))
      go_roundg k1
      case measure => have := HK1.out; omega
      case rel => exact ⟨(wrap64 (Int.tdiv x0_1 10)), ((strOfNums y101) ++ x3_1), (by first | rfl | (simp; done) | (simp [*]; done)), (by first | rfl | (simp; done) | (simp [*]; done)), H', ⟨by have := HK1.out; omega⟩, ⟨by repeat (first | (with_reducible first | exact HB.out | apply qA_ | apply qD_ | apply qE_) | exact HB.out)⟩⟩
     ·rw [if_neg c4] at H
      exact absurd H (by simp)
    ·rw [if_neg c3] at H
     have c3b0 : decide (0 < x0_1) = false := decide_eq_false c3
     clear c3
     by_cases c8 : 1 + x3_1.size ≤ 9223372036854775807
     ·rw [if_pos c8] at H
      have c8b0 := eq_true c8
      have c8b1 : decide (1 + x3_1.size ≤ 9223372036854775807) = true := decide_eq_true c8
      try have c8b2 : (9223372036854775807 < 1 + x3_1.size) = False := eq_false (Nat.not_lt.2 c8)
      obtain rfl := Option.some.inj H
      go_wp2
      go_ret
      exact ⟨by first | rfl | (simp [errW_none, errW_some] <;> rfl) | (simp [*, errW_none, errW_some] <;> rfl), by repeat (first | (with_reducible first | exact HB.out | apply qA_ | apply qD_ | apply qE_) | exact HB.out)⟩
     ·rw [if_neg c8] at H
      exact absurd H (by simp)


/-! ### laws_markStringS: function 44 -/
def laws_markStringS.l0 : Nat → List ByteArray → Int → Int → Option (Int × List ByteArray)
 | 0, _, _, _ => none
 | k + 1, x0, x1, x5 => if x5 < (x0.length : Int) then ((laws_markText.f k x1).bind fun t101 => (if 0 ≤ x5 then (laws_markStringS.l0 k (x0.set (x5 : Int).toNat t101) (wrap64 (x1 + 1)) (wrap64 (x5 + 1))) else (none))) else (some (x1, x0))
def laws_markStringS.f (k : Nat) (l0 : List ByteArray) (a1 : Int) : Option (Int × List ByteArray) := laws_markStringS.l0 k l0 a1 0
theorem laws_markStringS.mono_l : ∀ k, (∀ y0 y1 y2, LeO (laws_markStringS.l0 k y0 y1 y2) (laws_markStringS.l0 (k + 1) y0 y1 y2))
 | 0 => fun _ _ _ r h => by simp [laws_markStringS.l0] at h
 | k + 1 => by
  have ih0 := laws_markStringS.mono_l k
  ·intro y0 y1 y2
   unfold laws_markStringS.l0
   repeat' first
   | (with_reducible exact ih0 _ _ _)
   | (with_reducible exact laws_markText.mono _ _)
   | (with_reducible exact LeO.refl _)
   | (with_reducible exact LeO.none _)
   | (with_reducible refine LeO.ite ?_ ?_)
   | (with_reducible refine LeO.bind ?_ (fun _ => ?_))
   | exact ih0 _ _ _
   | exact laws_markText.mono _ _
   | exact LeO.none _
   | refine LeO.ite ?_ ?_
   | refine LeO.bind ?_ (fun _ => ?_)
theorem laws_markStringS.mono : ∀ a0 a1 k, LeO (laws_markStringS.f k a0 a1) (laws_markStringS.f (k + 1) a0 a1) := by
 intro a0 a1 k
 have ih0 := laws_markStringS.mono_l k
 unfold laws_markStringS.f
 repeat' first
   | (with_reducible exact ih0 _ _ _)
   | (with_reducible exact laws_markText.mono _ _)
   | (with_reducible exact LeO.refl _)
   | (with_reducible exact LeO.none _)
   | (with_reducible refine LeO.ite ?_ ?_)
   | (with_reducible refine LeO.bind ?_ (fun _ => ?_))
   | exact ih0 _ _ _
   | exact laws_markText.mono _ _
   | exact LeO.none _
   | refine LeO.ite ?_ ?_
   | refine LeO.bind ?_ (fun _ => ?_)
set_option maxHeartbeats 8000000 in
set_option maxRecDepth 100000 in
theorem laws_markStringS.calls (k : Nat) (P0_ : Nat → Prop) (u9000_ : Value) (l0 : List ByteArray) (a1 : Int) (r1 : Int) (r2 : List ByteArray) (w0 w : World) (hB : Below w0.heap.size w0 w) (ho0 : Kd.R Kd.string 9 w w0.heap.size P0_ u9000_ l0) (h : laws_markStringS.f k l0 a1 = some (r1, r2)) :
  Calls Try.prog 44 #[u9000_, .int .i64 a1] w fun e w' => e = .returned (.int .i64 r1) ∧ Kd.R Kd.string 9 w' w0.heap.size (fun k_ => (P0_ k_ ∨ w.heap.size ≤ k_)) u9000_ r2 ∧ Below w0.heap.size w0 w' ∧ Kept w w' (fun k_ => P0_ k_) := by
 have HO0 := qM_ (show Kd.R Kd.string 9 w w0.heap.size (fun k_ => (P0_ k_ ∨ w.heap.size ≤ k_)) u9000_ l0 from Kd.R_mono ho0 (fun k_ hk => (.inl hk)))
 have HK := qM_ (Kept.refl w (fun k_ => P0_ k_))
 have HW0 := qM_ hB.size
 have HB := qM_ hB
 clear hB
 have H : (laws_markStringS.l0 k l0 a1 0) = some (r1, r2) := h
 clear h
 have H' := qM_ H
 clear H
 go_enter Try.func44, Try.ntmps44
 go_wp2
 go_loopg [1, 5] k (fun kq v1 v5 w' => ∃ (x0_1 : List ByteArray) (x1_1 : Int) (x5_1 : Int), v1 = .int .i64 x1_1 ∧ v5 = .int .i64 x5_1 ∧ Aside0 (laws_markStringS.l0 kq x0_1 x1_1 x5_1 = some (r1, r2)) ∧ Aside0 (kq ≤ k) ∧ Aside0 (Kd.R Kd.string 9 w' w0.heap.size (fun k_ => (P0_ k_ ∨ w.heap.size ≤ k_)) u9000_ x0_1) ∧ Aside0 (Kept w w' (fun k_ => P0_ k_)) ∧ Aside0 (Below w0.heap.size w0 w'))
 case atStart => exact ⟨(l0), (a1), (0), (by first | rfl | (simp; done) | (simp [*]; done)), (by first | rfl | (simp; done) | (simp [*]; done)), H', ⟨Nat.le_refl _⟩, ⟨by (with_reducible repeat (first | apply Kd.R_alloc | apply Kd.R_drewN | apply Kd.R_drew)); exact HO0.out⟩, ⟨by repeat (first | (with_reducible first | exact HK.out | apply Kept.alloc | apply Kept.drewN | apply Kept.drew) | exact HK.out)⟩, ⟨by repeat (first | (with_reducible first | exact HB.out | apply qA_ | apply qD_ | apply qE_) | exact HB.out)⟩⟩
 case round =>
  clear H'
  try clear p2
  obtain ⟨x0_1, x1_1, x5_1, rfl, rfl, HA, HK1, HO_0, HK, HB⟩ := hrel
  cases gk with
  | zero => exact absurd HA.out (by simp [laws_markStringS.l0])
  | succ k1 =>
   have H := HA.out
   clear HA
   simp only [laws_markStringS.l0] at H
   by_cases c3 : x5_1 < (x0_1.length : Int)
   ·rw [if_pos c3] at H
    have c3b0 : decide (x5_1 < (x0_1.length : Int)) = true := decide_eq_true c3
    clear c3
    replace H := Option.bind_eq_some_iff.mp H
    obtain ⟨t101, A40, H⟩ := H
    replace H : (if 0 ≤ x5_1 then (laws_markStringS.l0 k1 (x0_1.set (x5_1 : Int).toNat t101) (wrap64 (x1_1 + 1)) (wrap64 (x5_1 + 1))) else (none)) = some (r1, r2) := H
    have A4 := qM_ A40
    clear A40
    by_cases c5 : 0 ≤ x5_1
    ·rw [if_pos c5] at H
     have c5b0 : decide (0 ≤ x5_1) = true := decide_eq_true c5
     clear c5
     obtain ⟨y102, hy102⟩ : ∃ y_ : List ByteArray, y_ = (x0_1.set (x5_1 : Int).toNat t101) := ⟨_, rfl⟩
     replace H : (laws_markStringS.l0 k1 y102 (wrap64 (x1_1 + 1)) (wrap64 (x5_1 + 1))) = some (r1, r2) := by first | (rw [hy102]; with_reducible exact H) | (have H2_ := (Option.bind_some _ _).symm.trans H; rw [hy102]; with_reducible exact H2_) | (have H2_ := (Option.bind_some _ _).symm.trans H; with_reducible exact H2_) | with_reducible exact H | (rw [hy102]; exact H) | exact H
     have Ny102 := qM_ hy102
     clear hy102
     have H' := qM_ H
     clear H
     obtain ⟨Ao7, co7, eo7⟩ := Kd.R_slice HO_0.out
     subst eo7
     go_wp2_with (first | ((with_reducible refine gate_callee (f := 42) rfl ?_); refine goesL_ (some 15) rfl rfl Try.func42 (by kernel_rfl) rfl #[.int .i64 x1_1] rfl (by (try simp only [List.map_toArray, List.map_cons, List.map_nil]); first | done | rfl | (simp only [List.length_drop, List.length_take]; rfl)) ?_; (with_reducible refine (laws_markText.calls k1 x1_1 t101 _ A4.out).mono ?_); rintro e w8 ⟨rfl, hb⟩; refine ⟨_, rfl, ?_⟩; have n0_ := qM_ (Kd.R_below (by (with_reducible repeat (first | apply Kd.R_alloc | apply Kd.R_drewN | apply Kd.R_drew)); exact HO_0.out) hb); have n1_ := qM_ (Kept.below (S := (fun k_ => P0_ k_)) (by repeat (first | (with_reducible first | exact HK.out | apply Kept.alloc | apply Kept.drewN | apply Kept.drew) | exact HK.out)) hb); have n2_ := qM_ (below_step (by repeat (first | (with_reducible first | exact HB.out | apply qA_ | apply qD_ | apply qE_) | exact HB.out)) hb); clear HO_0; clear HK; clear HB; have HO_0 := n0_; have HK := n1_; have HB := n2_; clear n0_ n1_ n2_; (try clear hb); (try clear hb2); (try clear hk); (try clear hi); have p6 : 0 ≤ (x5_1 : Int) := qT_ (by first | (with_reducible assumption) | assumption); have q6 : (x5_1 : Int) < ((x0_1.length : Int) : Int) := qT_ (by first | (with_reducible assumption) | assumption); obtain ⟨go6, co6, eo6, gb6, gl6, cl6, HG6⟩ := Kd.R_form HO_0.out (by omega); (first | cases eo6 | (injection eo6 with ea_ en_ ec_; (first | subst ea_ | (injection ea_ with ea_; subst ea_)); subst ec_; clear en_)); have GB6 := qM_ gb6; have GG6 := qM_ HG6; clear gb6 gl6 HG6; have HMgo6 := qM_ (show (P0_ go6 ∨ w.heap.size ≤ go6) from (HO_0.out.1 _ rfl)); obtain ⟨hx6_0, hf6_0⟩ := Kd.R_celln (⟨#[]⟩ : ByteArray) HO_0.out (x5_1 : Int) p6 q6; replace p6 := eq_true p6; replace q6 := eq_true q6; obtain ⟨hy9_, hz9_⟩ := Kd.R_celln (⟨#[]⟩ : ByteArray) HO_0.out (x5_1 : Int) (qT_ (by first | (with_reducible assumption) | assumption)) (qT_ (by first | (with_reducible assumption) | assumption)); have HP9 := Kd.R_putg HO_0.out (x5_1 : Int) t101) | ((with_reducible refine gate_store (t := 9) (p := 16) rfl ?_); refine store_event (t := 9) (p := 16) (v := ?vo_w10) (w1 := (w8.setCell ⟨go6, (x5_1 : Int).toNat, none⟩ (.string t101))) ?hg ?ho ?hn ?hr ?_; (case ho => rfl); (case hg => rfl); (case hn => rfl); (case hr => first | (go_simp; done) | (go_simp; rfl)); intro w10 hw; have hg : w8.grownBy w10 (some go6) := (by rw [hw]; exact HP9.2); have hp_ : Kd.R Kd.string 9 w10 w0.heap.size (fun k_ => (P0_ k_ ∨ w.heap.size ≤ k_)) (.slice (some ⟨go6, 0, none⟩) x0_1.length co7) y102 := (by rw [hw, Ny102.out]; exact HP9.1); clear HP9; have n0_ := qM_ (hp_); have n1_ := qM_ ((by rw [hw]; exact below_set (HB.out) GB6.out : Below w0.heap.size w0 w10)); have n2_ := qM_ (Kept.of_grown (S := (fun k_ => P0_ k_)) hg (by repeat (first | (with_reducible first | exact HK.out | apply Kept.alloc | apply Kept.drewN | apply Kept.drew) | exact HK.out)) (fun k_ e_ => (HO_0.out.1 k_ e_))); clear HO_0; clear HB; clear HK; have HO_0 := n0_; have HB := n1_; have HK := n2_; clear n0_ n1_ n2_; clear hg hw hp_))
     go_roundg k1
     case measure => have := HK1.out; omega
     case rel => exact ⟨(y102), (wrap64 (x1_1 + 1)), (wrap64 (x5_1 + 1)), (by first | rfl | (simp; done) | (simp [*]; done)), (by first | rfl | (simp; done) | (simp [*]; done)), H', ⟨by have := HK1.out; omega⟩, ⟨by (with_reducible repeat (first | apply Kd.R_alloc | apply Kd.R_drewN | apply Kd.R_drew)); exact HO_0.out⟩, ⟨by repeat (first | (with_reducible first | exact HK.out | apply Kept.alloc | apply Kept.drewN | apply Kept.drew) | exact HK.out)⟩, ⟨by repeat (first | (with_reducible first | exact HB.out | apply qA_ | apply qD_ | apply qE_) | exact HB.out)⟩⟩
    ·rw [if_neg c5] at H
     exact absurd H (by simp)
   ·rw [if_neg c3] at H
    have c3b0 : decide (x5_1 < (x0_1.length : Int)) = false := decide_eq_false c3
    clear c3
    simp only [Option.some.injEq, Prod.mk.injEq] at H
    obtain ⟨rfl, rfl⟩ := H
    obtain ⟨Ao11, co11, eo11⟩ := Kd.R_slice HO_0.out
    subst eo11
    go_wp2
    go_ret
    exact ⟨by first | rfl | (simp [errW_none, errW_some] <;> rfl) | (simp [*, errW_none, errW_some] <;> rfl), by (with_reducible repeat (first | apply Kd.R_alloc | apply Kd.R_drewN | apply Kd.R_drew)); exact HO_0.out, by repeat (first | (with_reducible first | exact HB.out | apply qA_ | apply qD_ | apply qE_) | exact HB.out), by repeat (first | (with_reducible first | exact HK.out | apply Kept.alloc | apply Kept.drewN | apply Kept.drew) | exact HK.out)⟩

end Go.Proofs.Ytjaedjcdgeikpaa.P
