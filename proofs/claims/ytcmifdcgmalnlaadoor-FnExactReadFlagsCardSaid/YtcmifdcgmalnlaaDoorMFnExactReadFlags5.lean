/- Part 5 of what the law FnExactReadFlags stands on; the last part ends with the law's row. No condition of mine. -/
import Derived.Test.YtcmifdcgmalnlaaDoorMFnExactReadFlags1
import Derived.Test.YtcmifdcgmalnlaaDoorMFnExactReadFlags3
import Derived.Test.YtcmifdcgmalnlaaDoorMFnExactReadFlags4
import Derived.Test.YtcmifdcgmalnlaaDoorMFnExactReadFlags2
namespace Go.Proofs.YtcmifdcgmalnlaaDoor.P
open Go.RowKit Go.Proofs.YtcmifdcgmalnlaaDoorW.PrintWords Go.Proofs.YtcmifdcgmalnlaaDoorW.PrintLast Go.Proofs.YtcmifdcgmalnlaaDoorW.PrintMore
attribute [local go_sem] max2_int min2_int max_two min_two max_three min_three max_four min_four   -- for this text's walks alone
set_option linter.unusedVariables false
set_option linter.unusedSimpArgs false

/-! ### impl_listWords: function 56 -/
def impl_listWords.f (k : Nat) (a0 : ByteArray) : Option (List ByteArray × Bool) := (impl_inBrackets.f a0).bind fun bt101 => ((strings_Split.f k bt101.1 (⟨#[32]⟩ : ByteArray)).bind fun t103 => (if bt101.2 = true then (if (t103.length : Int) > 30 then (some (([] : List ByteArray), false)) else ((slices_ContainsFunc_string_at_impl_listWords_L1.f k t103).bind fun t106 => (some (t103, !t106)))) else (some (([] : List ByteArray), false))))
theorem impl_listWords.mono : ∀ a0 k, LeO (impl_listWords.f k a0) (impl_listWords.f (k + 1) a0) := by
 intro a0 k
 unfold impl_listWords.f
 repeat' first
   | (with_reducible exact slices_ContainsFunc_string_at_impl_listWords_L1.mono _ _)
   | (with_reducible exact strings_Split.mono _ _ _)
   | (with_reducible exact LeO.refl _)
   | (with_reducible exact LeO.none _)
   | (with_reducible refine LeO.ite ?_ ?_)
   | (with_reducible refine LeO.bind ?_ (fun _ => ?_))
   | exact slices_ContainsFunc_string_at_impl_listWords_L1.mono _ _
   | exact strings_Split.mono _ _ _
   | exact LeO.none _
   | refine LeO.ite ?_ ?_
   | refine LeO.bind ?_ (fun _ => ?_)
set_option maxHeartbeats 8000000 in
set_option maxRecDepth 100000 in
theorem impl_listWords.calls (k : Nat) (a0 : ByteArray) (r1 : List ByteArray) (r2 : Bool) (w : World) (h : impl_listWords.f k a0 = some (r1, r2)) :
  Calls Tryd.prog 56 #[.string a0] w fun e w' => ∃ v0_ : Value, e = .returned (.tuple #[v0_, .bool r2]) ∧ Kd.R Kd.string 9 w' w.heap.size (fun _ => True) v0_ r1 ∧ Below w.heap.size w w' := by
 have HB := Aside0.mk (Below.refl w.heap.size w)
 have H : ((impl_inBrackets.f a0).bind fun bt101 => ((strings_Split.f k bt101.1 (⟨#[32]⟩ : ByteArray)).bind fun t103 => (if bt101.2 = true then (if (t103.length : Int) > 30 then (some (([] : List ByteArray), false)) else ((slices_ContainsFunc_string_at_impl_listWords_L1.f k t103).bind fun t106 => (some (t103, !t106)))) else (some (([] : List ByteArray), false))))) = some (r1, r2) := h
 clear h
 replace H := Option.bind_eq_some_iff.mp H
 obtain ⟨⟨t101, t102⟩, A20, H⟩ := H
 replace H : ((strings_Split.f k t101 (⟨#[32]⟩ : ByteArray)).bind fun t103 => (if t102 = true then (if (t103.length : Int) > 30 then (some (([] : List ByteArray), false)) else ((slices_ContainsFunc_string_at_impl_listWords_L1.f k t103).bind fun t106 => (some (t103, !t106)))) else (some (([] : List ByteArray), false)))) = some (r1, r2) := H
 have A2 := Aside0.mk A20
 clear A20
 replace H := Option.bind_eq_some_iff.mp H
 obtain ⟨t103, A30, H⟩ := H
 replace H : (if t102 = true then (if (t103.length : Int) > 30 then (some (([] : List ByteArray), false)) else ((slices_ContainsFunc_string_at_impl_listWords_L1.f k t103).bind fun t106 => (some (t103, !t106)))) else (some (([] : List ByteArray), false))) = some (r1, r2) := H
 have A3 := Aside0.mk A30
 clear A30
 by_cases c4 : t102 = true
 ·subst c4
  have H1 : (if (t103.length : Int) > 30 then (some (([] : List ByteArray), false)) else ((slices_ContainsFunc_string_at_impl_listWords_L1.f k t103).bind fun t106 => (some (t103, !t106)))) = some (r1, r2) := by rw [if_pos rfl] at H; exact H
  clear H
  have H := H1
  clear H1
  by_cases c5 : (t103.length : Int) > 30
  ·rw [if_pos c5] at H
   have c5b0 : decide (30 < (t103.length : Int)) = true := decide_eq_true c5
   have c5b1 : decide (30 < t103.length) = true := decide_eq_true (by omega)
   clear c5
   simp only [Option.some.injEq, Prod.mk.injEq] at H
   obtain ⟨rfl, rfl⟩ := H
   go_enter Tryd.func56, Tryd.ntmps56
   go_wp2_with (first | ((with_reducible refine gate_callee (f := 49) rfl ?_); refine goesL_ (some 9) rfl rfl Tryd.func49 (by kernel_rfl) rfl #[.string a0] rfl (by (try simp only [List.map_toArray, List.map_cons, List.map_nil]); first | done | rfl | (simp only [List.length_drop, List.length_take]; rfl)) ?_; (with_reducible refine (impl_inBrackets.calls a0 t101 true _ A2.out).mono ?_); rintro e w' ⟨rfl, ⟨nd, rfl⟩⟩; refine ⟨_, rfl, ?_⟩) | ((with_reducible refine gate_callee (f := 50) rfl ?_); refine goesL_ (some 13) rfl rfl Tryd.func50 (by kernel_rfl) rfl #[.string t101, .string (⟨#[32]⟩ : ByteArray)] rfl (by (try simp only [List.map_toArray, List.map_cons, List.map_nil]); first | done | rfl | (simp only [List.length_drop, List.length_take]; rfl)) ?_; (with_reducible refine (strings_Split.calls k t101 (⟨#[32]⟩ : ByteArray) t103 _ A3.out).mono ?_); rintro e w6 ⟨v104, rfl, ho0, hb⟩; refine ⟨_, rfl, ?_⟩; have n0_ := Aside0.mk (Kd.R_lower ho0 (below_size (by repeat (first | (with_reducible first | exact HB.out | apply below_alloc | apply pw_below_drewN | apply below_drew1) | exact HB.out)))); have n1_ := Aside0.mk (below_step (by repeat (first | (with_reducible first | exact HB.out | apply below_alloc | apply pw_below_drewN | apply below_drew1) | exact HB.out)) hb); clear HB; have HO105 := n0_; have HB := n1_; clear n0_ n1_; (try clear hb); (try clear hb2); (try clear hk); (try clear hi); (try clear ho0); obtain ⟨Ao7, co7, eo7⟩ := Kd.R_slice HO105.out; subst eo7))
   go_ret2
   exact ⟨_, by first | rfl | (simp [errW_none, errW_some] <;> rfl) | (simp [*, errW_none, errW_some] <;> rfl), by first | exact Kd.R_nil _ _ _ _ _ | exact Kd.N_nil _ _ _ _ _ | exact Kd.V_nil _ _ _ _ _ | exact Kd.Q_nil _ _ _ _ _ | exact Kd.S_nil _ _ _ _ _, by repeat (first | (with_reducible first | exact HB.out | apply below_alloc | apply pw_below_drewN | apply below_drew1) | exact HB.out)⟩
  ·rw [if_neg c5] at H
   have c5b0 : decide (30 < (t103.length : Int)) = false := decide_eq_false c5
   have c5b1 : decide (30 < t103.length) = false := decide_eq_false (by omega)
   clear c5
   replace H := Option.bind_eq_some_iff.mp H
   obtain ⟨t106, A80, H⟩ := H
   replace H : (some (t103, !t106)) = some (r1, r2) := H
   have A8 := Aside0.mk A80
   clear A80
   simp only [Option.some.injEq, Prod.mk.injEq] at H
   obtain ⟨rfl, rfl⟩ := H
   go_enter Tryd.func56, Tryd.ntmps56
   go_wp2_with (first | ((with_reducible refine gate_callee (f := 49) rfl ?_); refine goesL_ (some 9) rfl rfl Tryd.func49 (by kernel_rfl) rfl #[.string a0] rfl (by (try simp only [List.map_toArray, List.map_cons, List.map_nil]); first | done | rfl | (simp only [List.length_drop, List.length_take]; rfl)) ?_; (with_reducible refine (impl_inBrackets.calls a0 t101 true _ A2.out).mono ?_); rintro e w' ⟨rfl, ⟨nd, rfl⟩⟩; refine ⟨_, rfl, ?_⟩) | ((with_reducible refine gate_callee (f := 50) rfl ?_); refine goesL_ (some 13) rfl rfl Tryd.func50 (by kernel_rfl) rfl #[.string t101, .string (⟨#[32]⟩ : ByteArray)] rfl (by (try simp only [List.map_toArray, List.map_cons, List.map_nil]); first | done | rfl | (simp only [List.length_drop, List.length_take]; rfl)) ?_; (with_reducible refine (strings_Split.calls k t101 (⟨#[32]⟩ : ByteArray) t103 _ A3.out).mono ?_); rintro e w9 ⟨v104, rfl, ho0, hb⟩; refine ⟨_, rfl, ?_⟩; have n0_ := Aside0.mk (Kd.R_lower ho0 (below_size (by repeat (first | (with_reducible first | exact HB.out | apply below_alloc | apply pw_below_drewN | apply below_drew1) | exact HB.out)))); have n1_ := Aside0.mk (below_step (by repeat (first | (with_reducible first | exact HB.out | apply below_alloc | apply pw_below_drewN | apply below_drew1) | exact HB.out)) hb); clear HB; have HO105 := n0_; have HB := n1_; clear n0_ n1_; (try clear hb); (try clear hb2); (try clear hk); (try clear hi); (try clear ho0); obtain ⟨Ao10, co10, eo10⟩ := Kd.R_slice HO105.out; subst eo10) | ((with_reducible refine gate_callee (f := 89) rfl ?_); refine goesL_ (some 23) rfl rfl Tryd.func89 (by kernel_rfl) rfl #[.slice Ao10 t103.length co10, .func (.func 90) #[] #[]] rfl (by (try simp only [List.map_toArray, List.map_cons, List.map_nil]); first | done | rfl | (simp only [List.length_drop, List.length_take]; rfl)) ?_; (with_reducible refine (slices_ContainsFunc_string_at_impl_listWords_L1.calls k _ _ t103 t106 _ ?side1 ?side2 A8.out).mono ?_); (case side1 => repeat (first | exact (Kd.R_reads' HO105.out).2.2 | (with_reducible refine Kd.C_alloc ?_ _) | (with_reducible refine Kd.C_drewN ?_ _) | (with_reducible refine Kd.C_drew ?_))); (case side2 => exact (Kd.R_reads' HO105.out).2.1); rintro e w11 ⟨rfl, hb⟩; refine ⟨_, rfl, ?_⟩; have n0_ := Aside0.mk (Kd.R_below (by (with_reducible repeat (first | apply Kd.R_alloc | apply Kd.R_drewN | apply Kd.R_drew)); exact HO105.out) hb); have n1_ := Aside0.mk (below_step (by repeat (first | (with_reducible first | exact HB.out | apply below_alloc | apply pw_below_drewN | apply below_drew1) | exact HB.out)) hb); clear HO105; clear HB; have HO105 := n0_; have HB := n1_; clear n0_ n1_; (try clear hb); (try clear hb2); (try clear hk); (try clear hi)))
   go_ret2
   exact ⟨_, by first | rfl | (simp [errW_none, errW_some] <;> rfl) | (simp [*, errW_none, errW_some] <;> rfl), by (with_reducible repeat (first | apply Kd.R_alloc | apply Kd.R_drewN | apply Kd.R_drew)); exact HO105.out, by repeat (first | (with_reducible first | exact HB.out | apply below_alloc | apply pw_below_drewN | apply below_drew1) | exact HB.out)⟩
 ·replace c4 := Bool.eq_false_iff.mpr c4
  subst c4
  have H1 : (some (([] : List ByteArray), false)) = some (r1, r2) := by rw [if_neg (show ¬ (false = true) by decide)] at H; exact H
  clear H
  have H := H1
  clear H1
  simp only [Option.some.injEq, Prod.mk.injEq] at H
  obtain ⟨rfl, rfl⟩ := H
  go_enter Tryd.func56, Tryd.ntmps56
  go_wp2_with (first | ((with_reducible refine gate_callee (f := 49) rfl ?_); refine goesL_ (some 9) rfl rfl Tryd.func49 (by kernel_rfl) rfl #[.string a0] rfl (by (try simp only [List.map_toArray, List.map_cons, List.map_nil]); first | done | rfl | (simp only [List.length_drop, List.length_take]; rfl)) ?_; (with_reducible refine (impl_inBrackets.calls a0 t101 false _ A2.out).mono ?_); rintro e w' ⟨rfl, ⟨nd, rfl⟩⟩; refine ⟨_, rfl, ?_⟩) | ((with_reducible refine gate_callee (f := 50) rfl ?_); refine goesL_ (some 13) rfl rfl Tryd.func50 (by kernel_rfl) rfl #[.string t101, .string (⟨#[32]⟩ : ByteArray)] rfl (by (try simp only [List.map_toArray, List.map_cons, List.map_nil]); first | done | rfl | (simp only [List.length_drop, List.length_take]; rfl)) ?_; (with_reducible refine (strings_Split.calls k t101 (⟨#[32]⟩ : ByteArray) t103 _ A3.out).mono ?_); rintro e w12 ⟨v104, rfl, ho0, hb⟩; refine ⟨_, rfl, ?_⟩; have n0_ := Aside0.mk (Kd.R_lower ho0 (below_size (by repeat (first | (with_reducible first | exact HB.out | apply below_alloc | apply pw_below_drewN | apply below_drew1) | exact HB.out)))); have n1_ := Aside0.mk (below_step (by repeat (first | (with_reducible first | exact HB.out | apply below_alloc | apply pw_below_drewN | apply below_drew1) | exact HB.out)) hb); clear HB; have HO105 := n0_; have HB := n1_; clear n0_ n1_; (try clear hb); (try clear hb2); (try clear hk); (try clear hi); (try clear ho0)))
  go_ret2
  exact ⟨_, by first | rfl | (simp [errW_none, errW_some] <;> rfl) | (simp [*, errW_none, errW_some] <;> rfl), by first | exact Kd.R_nil _ _ _ _ _ | exact Kd.N_nil _ _ _ _ _ | exact Kd.V_nil _ _ _ _ _ | exact Kd.Q_nil _ _ _ _ _ | exact Kd.S_nil _ _ _ _ _, by repeat (first | (with_reducible first | exact HB.out | apply below_alloc | apply pw_below_drewN | apply below_drew1) | exact HB.out)⟩


/-! ### impl_ListWords: function 16 -/
def impl_ListWords.f (k : Nat) (a0 : ByteArray) : Option (List ByteArray × Int) := if (a0.size : Int) > 65536 then (some (([] : List ByteArray), 2)) else ((impl_listWords.f k a0).bind fun bt101 => (if bt101.2 = true then (some (bt101.1, 0)) else (some (([] : List ByteArray), 3))))
theorem impl_ListWords.mono : ∀ a0 k, LeO (impl_ListWords.f k a0) (impl_ListWords.f (k + 1) a0) := by
 intro a0 k
 unfold impl_ListWords.f
 repeat' first
   | (with_reducible exact impl_listWords.mono _ _)
   | (with_reducible exact LeO.refl _)
   | (with_reducible exact LeO.none _)
   | (with_reducible refine LeO.ite ?_ ?_)
   | (with_reducible refine LeO.bind ?_ (fun _ => ?_))
   | exact impl_listWords.mono _ _
   | exact LeO.none _
   | refine LeO.ite ?_ ?_
   | refine LeO.bind ?_ (fun _ => ?_)
set_option maxHeartbeats 8000000 in
set_option maxRecDepth 100000 in
theorem impl_ListWords.calls (k : Nat) (a0 : ByteArray) (r1 : List ByteArray) (r2 : Int) (w : World) (h : impl_ListWords.f k a0 = some (r1, r2)) :
  Calls Tryd.prog 16 #[.string a0] w fun e w' => ∃ v0_ : Value, e = .returned (.tuple #[v0_, .int .i64 r2]) ∧ Kd.R Kd.string 9 w' w.heap.size (fun _ => True) v0_ r1 ∧ Below w.heap.size w w' := by
 have HB := Aside0.mk (Below.refl w.heap.size w)
 have H : (if (a0.size : Int) > 65536 then (some (([] : List ByteArray), 2)) else ((impl_listWords.f k a0).bind fun bt101 => (if bt101.2 = true then (some (bt101.1, 0)) else (some (([] : List ByteArray), 3))))) = some (r1, r2) := h
 clear h
 by_cases c2 : (a0.size : Int) > 65536
 ·rw [if_pos c2] at H
  have c2b0 : decide (65536 < (a0.size : Int)) = true := decide_eq_true c2
  have c2b1 : decide (65536 < a0.size) = true := decide_eq_true (by omega)
  clear c2
  simp only [Option.some.injEq, Prod.mk.injEq] at H
  obtain ⟨rfl, rfl⟩ := H
  go_enter Tryd.func16, Tryd.ntmps16
  go_wp2
  go_ret2
  exact ⟨_, by first | rfl | (simp [errW_none, errW_some] <;> rfl) | (simp [*, errW_none, errW_some] <;> rfl), by first | exact Kd.R_nil _ _ _ _ _ | exact Kd.N_nil _ _ _ _ _ | exact Kd.V_nil _ _ _ _ _ | exact Kd.Q_nil _ _ _ _ _ | exact Kd.S_nil _ _ _ _ _, by repeat (first | (with_reducible first | exact HB.out | apply below_alloc | apply pw_below_drewN | apply below_drew1) | exact HB.out)⟩
 ·rw [if_neg c2] at H
  have c2b0 : decide (65536 < (a0.size : Int)) = false := decide_eq_false c2
  have c2b1 : decide (65536 < a0.size) = false := decide_eq_false (by omega)
  clear c2
  replace H := Option.bind_eq_some_iff.mp H
  obtain ⟨⟨t101, t102⟩, A30, H⟩ := H
  replace H : (if t102 = true then (some (t101, 0)) else (some (([] : List ByteArray), 3))) = some (r1, r2) := H
  have A3 := Aside0.mk A30
  clear A30
  by_cases c4 : t102 = true
  ·subst c4
   have H1 : (some (t101, 0)) = some (r1, r2) := by rw [if_pos rfl] at H; exact H
   clear H
   have H := H1
   clear H1
   simp only [Option.some.injEq, Prod.mk.injEq] at H
   obtain ⟨rfl, rfl⟩ := H
   go_enter Tryd.func16, Tryd.ntmps16
   go_wp2_with (first | ((with_reducible refine gate_callee (f := 56) rfl ?_); refine goesL_ (some 11) rfl rfl Tryd.func56 (by kernel_rfl) rfl #[.string a0] rfl (by (try simp only [List.map_toArray, List.map_cons, List.map_nil]); first | done | rfl | (simp only [List.length_drop, List.length_take]; rfl)) ?_; (with_reducible refine (impl_listWords.calls k a0 t101 true _ A3.out).mono ?_); rintro e w5 ⟨v103, rfl, ho0, hb⟩; refine ⟨_, rfl, ?_⟩; have n0_ := Aside0.mk (Kd.R_lower ho0 (below_size (by repeat (first | (with_reducible first | exact HB.out | apply below_alloc | apply pw_below_drewN | apply below_drew1) | exact HB.out)))); have n1_ := Aside0.mk (below_step (by repeat (first | (with_reducible first | exact HB.out | apply below_alloc | apply pw_below_drewN | apply below_drew1) | exact HB.out)) hb); clear HB; have HO104 := n0_; have HB := n1_; clear n0_ n1_; (try clear hb); (try clear hb2); (try clear hk); (try clear hi); (try clear ho0)))
   go_ret2
   exact ⟨_, by first | rfl | (simp [errW_none, errW_some] <;> rfl) | (simp [*, errW_none, errW_some] <;> rfl), by (with_reducible repeat (first | apply Kd.R_alloc | apply Kd.R_drewN | apply Kd.R_drew)); exact HO104.out, by repeat (first | (with_reducible first | exact HB.out | apply below_alloc | apply pw_below_drewN | apply below_drew1) | exact HB.out)⟩
  ·replace c4 := Bool.eq_false_iff.mpr c4
   subst c4
   have H1 : (some (([] : List ByteArray), 3)) = some (r1, r2) := by rw [if_neg (show ¬ (false = true) by decide)] at H; exact H
   clear H
   have H := H1
   clear H1
   simp only [Option.some.injEq, Prod.mk.injEq] at H
   obtain ⟨rfl, rfl⟩ := H
   go_enter Tryd.func16, Tryd.ntmps16
   go_wp2_with (first | ((with_reducible refine gate_callee (f := 56) rfl ?_); refine goesL_ (some 11) rfl rfl Tryd.func56 (by kernel_rfl) rfl #[.string a0] rfl (by (try simp only [List.map_toArray, List.map_cons, List.map_nil]); first | done | rfl | (simp only [List.length_drop, List.length_take]; rfl)) ?_; (with_reducible refine (impl_listWords.calls k a0 t101 false _ A3.out).mono ?_); rintro e w6 ⟨v103, rfl, ho0, hb⟩; refine ⟨_, rfl, ?_⟩; have n0_ := Aside0.mk (Kd.R_lower ho0 (below_size (by repeat (first | (with_reducible first | exact HB.out | apply below_alloc | apply pw_below_drewN | apply below_drew1) | exact HB.out)))); have n1_ := Aside0.mk (below_step (by repeat (first | (with_reducible first | exact HB.out | apply below_alloc | apply pw_below_drewN | apply below_drew1) | exact HB.out)) hb); clear HB; have HO104 := n0_; have HB := n1_; clear n0_ n1_; (try clear hb); (try clear hb2); (try clear hk); (try clear hi); (try clear ho0)))
   go_ret2
   exact ⟨_, by first | rfl | (simp [errW_none, errW_some] <;> rfl) | (simp [*, errW_none, errW_some] <;> rfl), by first | exact Kd.R_nil _ _ _ _ _ | exact Kd.N_nil _ _ _ _ _ | exact Kd.V_nil _ _ _ _ _ | exact Kd.Q_nil _ _ _ _ _ | exact Kd.S_nil _ _ _ _ _, by repeat (first | (with_reducible first | exact HB.out | apply below_alloc | apply pw_below_drewN | apply below_drew1) | exact HB.out)⟩

end Go.Proofs.YtcmifdcgmalnlaaDoor.P
/- Lemmas of mine: the words of a list: the two ListWords tell the same. Plain. -/
set_option linter.unusedVariables false
set_option linter.unusedSimpArgs false
namespace Go.Proofs.YtcmifdcgmalnlaaDoor.P
open Go.RowKit Go.Proofs.YtcmifdcgmalnlaaDoorW.PrintWords
/-- A byte that may stand in a word. -/
def atomI (n : Int) : Bool := decide (33 ≤ n ∧ n ≤ 126) && (decide (n ≠ 40) && (decide (n ≠ 41) && (decide (n ≠ 123) && decide (n ≠ 34))))
def atomB (b : UInt8) : Bool := atomI (b.toNat : Int)
theorem specAtom (n : Int) (h : 0 ≤ n ∧ n ≤ 255) : spec_l12Atom.f n = some (atomI n) := by
 simp only [spec_l12Atom.f, l01In_eq, bS]
 rw [w64 (by omega) (by omega)]
 unfold atomI
 by_cases h1 : 33 ≤ n ∧ n ≤ 126
 ·rw [decide_eq_true h1, if_pos rfl]
  by_cases h2 : n = 40
  ·subst h2; rfl
  ·rw [if_neg h2, decide_eq_true h2]
   by_cases h3 : n = 41
   ·subst h3; rfl
   ·rw [if_neg h3, decide_eq_true h3]
    by_cases h4 : n = 123
    ·subst h4; rfl
    ·rw [if_neg h4, decide_eq_true h4]
     by_cases h5 : n = 34
     ·subst h5; rfl
     ·rw [decide_eq_true h5]
      simp [h5]
 ·rw [decide_eq_false h1, if_neg (by decide)]; rfl
theorem implAtom (n : Int) : impl_atomByte.f n = some (atomI n) := by
 simp only [impl_atomByte.f]
 unfold atomI
 by_cases h1 : 33 ≤ n ∧ n ≤ 126
 ·rw [decide_eq_true h1, if_pos (by omega), if_pos (by omega)]
  by_cases h2 : n = 40
  ·subst h2; rfl
  ·rw [if_neg h2, decide_eq_true h2]
   by_cases h3 : n = 41
   ·subst h3; rfl
   ·rw [if_neg h3, decide_eq_true h3]
    by_cases h4 : n = 123
    ·subst h4; rfl
    ·rw [if_neg h4, decide_eq_true h4]
     by_cases h5 : n = 34
     ·subst h5; rfl
     ·rw [decide_eq_true h5]
      simp [h5]
 ·rw [decide_eq_false h1]
  by_cases h2 : 33 ≤ n
  ·rw [if_pos (by omega), if_neg (by omega)]; rfl
  ·rw [if_neg (by omega)]; rfl
/-- The length of the word at the beginning. -/
def atomN (l : List UInt8) : Nat := (l.takeWhile atomB).length
theorem takeWhile_at (p : UInt8 → Bool) : ∀ (l : List UInt8) (i : Nat) (h : i < l.length), (∀ j (hj : j < i), p (l[j]'(by omega)) = true) → p l[i] = false → (l.takeWhile p).length = i
 | [], i, h, _, _ => by simp at h
 | b :: l, 0, h, _, hn => by
  have : p b = false := hn
  simp [List.takeWhile, this]
 | b :: l, i + 1, h, hp, hn => by
  have hb : p b = true := hp 0 (by omega)
  rw [List.takeWhile_cons_of_pos hb, List.length_cons, takeWhile_at p l i (by simpa using h) (fun j hj => hp (j + 1) (by omega)) hn]
theorem takeWhile_len (p : UInt8 → Bool) : ∀ (l : List UInt8), (∀ j (hj : j < l.length), p l[j] = true) → (l.takeWhile p).length = l.length
 | [], _ => rfl
 | b :: l, hp => by
  have hb : p b = true := hp 0 (by simp)
  rw [List.takeWhile_cons_of_pos hb, List.length_cons, List.length_cons, takeWhile_len p l (fun j hj => hp (j + 1) (by simpa using hj))]
theorem takeWhile_all (p : UInt8 → Bool) (l : List UInt8) : (l.takeWhile p).length = l.length ↔ l.all p = true := by
 induction l with
 | nil => simp
 | cons b l ih =>
  cases hb : p b with
  | true => rw [List.takeWhile_cons_of_pos hb, List.length_cons, List.length_cons, List.all_cons, hb, Bool.true_and, ← ih]; omega
  | false =>
   have : List.takeWhile p (b :: l) = [] := by simp [List.takeWhile, hb]
   rw [this, List.all_cons, hb]
   simp
theorem atomAt_l0 (s : ByteArray) (hs : s.size ≤ 4611686018427387904) : ∀ (d i : Nat), i + d = s.size → (∀ j (hj : j < i) (h : j < (bl s).length), atomB (bl s)[j] = true) → Ev (fun k => impl_atomAt.l0 k s (i : Int)) (s.extract 0 (atomN (bl s))) := by
 have hsz := bl_size s
 intro d
 induction d with
 | zero =>
  intro i hi hp
  have hn : atomN (bl s) = i := by rw [show i = (bl s).length by omega]; exact takeWhile_len atomB _ (fun j hj => hp j (by omega) hj)
  refine Ev.step (f := fun _ => some _) (fun k => ?_) (Ev.now _)
  simp only [impl_atomAt.l0]
  rw [if_neg (by omega), if_pos (by omega), if_pos (by omega), hn, Int.toNat_natCast]
 | succ d ih =>
  intro i hi hp
  have hlt : i < (bl s).length := by omega
  have hv : impl_atomByte.f (bt s (i : Int)) = some (atomB (bl s)[i]) := by rw [bt_eq s i hlt, implAtom]; rfl
  cases hb : atomB (bl s)[i] with
  | true =>
   refine Ev.step (fun k => ?_) (ih (i + 1) (by omega) (fun j hj h => ?_))
   ·simp only [impl_atomAt.l0, hv, hb, bS]
    rw [if_pos (by omega), if_pos (by omega), if_pos trivial, w64s i (by omega)]
   ·by_cases e : j = i
    ·subst e; exact hb
    ·exact hp j (by omega) h
  | false =>
   have hn : atomN (bl s) = i := takeWhile_at atomB _ i hlt (fun j hj => hp j hj (by omega)) hb
   refine Ev.step (f := fun _ => some _) (fun k => ?_) (Ev.now _)
   simp only [impl_atomAt.l0, hv, hb, bS]
   rw [if_pos (by omega), if_pos (by omega), if_neg (by decide), if_pos (by omega), hn, Int.toNat_natCast]
/-- A right word. -/
def okW (s : ByteArray) : Bool := !(bl s).isEmpty && (bl s).all atomB
theorem listL1_ev (s : ByteArray) (hs : s.size ≤ 4611686018427387904) : Ev (fun k => impl_listWords_L1.f k s) (!(okW s)) := by
 have hsz := bl_size s
 obtain ⟨K, hK⟩ := atomAt_l0 s hs s.size 0 (by omega) (fun j hj => absurd hj (Nat.not_lt_zero _))
 refine ⟨K, fun k hk => ?_⟩
 have e : impl_atomAt.f k s = some (s.extract 0 (atomN (bl s))) := hK k hk
 simp only [impl_listWords_L1.f, e, bS]
 unfold okW
 by_cases h0 : s.toList = ([] : List UInt8)
 ·rw [if_pos h0]
  rw [toList_bl] at h0
  rw [h0]; rfl
 ·rw [if_neg h0]
  have h1 : (bl s).isEmpty = false := by
   rw [toList_bl] at h0
   cases hb : bl s with
   | nil => exact absurd hb h0
   | cons _ _ => rfl
  rw [h1, Bool.not_false, Bool.true_and]
  congr 1
  rw [Bool.eq_iff_iff, bne_iff_ne, toList_bl, toList_bl, bl_extract, List.drop_zero, Nat.sub_zero, Bool.not_eq_true', ← Bool.not_eq_true, ← takeWhile_all]
  refine not_congr ⟨fun h => ?_, fun h => ?_⟩
  ·have := congrArg List.length h
   rw [List.length_take] at this
   have h2 : atomN (bl s) ≤ (bl s).length := List.IsPrefix.length_le (List.takeWhile_prefix _)
   unfold atomN at this h2
   omega
  ·exact List.take_of_length_le (by unfold atomN; omega)
theorem ev_all {α β : Type} (f : α → Nat → Option β) (r : α → β) : ∀ (l : List α), (∀ x ∈ l, Ev (f x) (r x)) → ∃ K, ∀ k, K ≤ k → ∀ x ∈ l, f x k = some (r x)
 | [], _ => ⟨0, fun _ _ x hx => by cases hx⟩
 | a :: l, h => by
  obtain ⟨K1, h1⟩ := h a (List.mem_cons_self ..)
  obtain ⟨K2, h2⟩ := ev_all f r l (fun x hx => h x (List.mem_cons_of_mem _ hx))
  refine ⟨K1 + K2, fun k hk x hx => ?_⟩
  rcases List.mem_cons.1 hx with rfl | e
  ·exact h1 k (by omega)
  ·exact h2 k (by omega) x e
theorem containsW_ev (l : List ByteArray) (hl : l.length ≤ 4611686018427387904) (hs : ∀ x ∈ l, x.size ≤ 4611686018427387904) : Ev (fun k => slices_ContainsFunc_string_at_impl_listWords_L1.f k l) (!(l.all okW)) := by
 obtain ⟨K, hK⟩ := ev_all (fun x k => impl_listWords_L1.f k x) (fun x => !(okW x)) l (fun x hx => listL1_ev x (hs x hx))
 refine ⟨K, fun k hk => ?_⟩
 have e := hK k hk
 simp only [slices_ContainsFunc_string_at_impl_listWords_L1.f]
 rw [if_pos ⟨by omega, List.all_eq_true.2 fun x hx => by rw [e x hx]; rfl⟩]
 congr 1
 rw [Bool.eq_iff_iff, List.any_eq_true, Bool.not_eq_true', ← Bool.not_eq_true, List.all_eq_true]
 constructor
 ·rintro ⟨x, hx, hp⟩ ha
  rw [e x hx, ha x hx] at hp
  simp at hp
 ·intro hn
  by_cases h : ∃ x ∈ l, okW x = false
  ·obtain ⟨x, hx, hp⟩ := h
   exact ⟨x, hx, by rw [e x hx, hp]; rfl⟩
  ·exact absurd (fun x hx => by
    cases hb : okW x with
    | true => rfl
    | false => exact absurd ⟨x, hx, hb⟩ h) hn
theorem cutB_size (c : UInt8) (s : ByteArray) : ∀ x ∈ cutB c s, x.size ≤ s.size := by
 have h : ∀ (l acc : List UInt8), ∀ x ∈ cutA c acc l, x.length ≤ acc.length + l.length := by
  intro l
  induction l with
  | nil => intro acc x hx; simp [cutA] at hx; subst hx; simp
  | cons b l ih =>
   intro acc x hx
   rw [cutA] at hx
   split at hx
   ·rcases List.mem_cons.1 hx with rfl | hx
    ·simp
    ·have := ih [] x hx; simp only [List.length_nil, List.length_cons] at this ⊢; omega
   ·have := ih _ x hx; simp only [List.length_append, List.length_nil, List.length_cons] at this ⊢; omega
 intro x hx
 unfold cutB at hx
 obtain ⟨y, hy, rfl⟩ := List.mem_map.1 hx
 have := h _ _ y hy
 rw [bl_size, bl_size, bl_mkB]
 simpa using this
theorem cutB_length (c : UInt8) (s : ByteArray) : (cutB c s).length ≤ s.size + 1 := by
 have hsz := bl_size s
 unfold cutB
 rw [List.length_map, cutA_length]
 have : (bl s).count c ≤ (bl s).length := List.count_le_length
 omega
/-- The words of a list, where it is right. -/
def goodL (s : ByteArray) : Prop := inR s ∧ (cutB 32 (s.extract 1 (s.size - 1))).length ≤ 30 ∧ (cutB 32 (s.extract 1 (s.size - 1))).all okW = true
theorem implWords_ev (s : ByteArray) (hs : s.size ≤ 65536) : ∃ r, Ev (fun k => impl_listWords.f k s) r ∧ (r.2 = true ↔ goodL s) ∧ (r.2 = true → r.1 = cutB 32 (s.extract 1 (s.size - 1))) := by
 obtain ⟨x, b, h1, h2, h3, h4⟩ := inBr s (by omega)
 obtain ⟨K1, hK1⟩ := split_ev x 32 (by omega)
 obtain ⟨K2, hK2⟩ := containsW_ev (cutB 32 x) (by have := cutB_length 32 x; omega) (fun y hy => by have := cutB_size 32 x y hy; omega)
 cases b with
 | false =>
  refine ⟨([], false), ⟨K1, fun k hk => ?_⟩, ⟨(fun h => by cases h), fun h => absurd (h3.2 h.1) (by decide)⟩, (fun h => by cases h)⟩
  have e1 : strings_Split.f k x (⟨#[32]⟩ : ByteArray) = some (cutB 32 x) := hK1 k hk
  simp only [impl_listWords.f, h1, e1, bS]
  rfl
 | true =>
  have hx := h4 rfl
  subst hx
  by_cases hl : (cutB 32 (s.extract 1 (s.size - 1))).length ≤ 30
  ·refine ⟨(cutB 32 (s.extract 1 (s.size - 1)), !(!((cutB 32 (s.extract 1 (s.size - 1))).all okW))), ⟨K1 + K2, fun k hk => ?_⟩, ?_, fun _ => rfl⟩
   ·have e1 : strings_Split.f k (s.extract 1 (s.size - 1)) (⟨#[32]⟩ : ByteArray) = some (cutB 32 (s.extract 1 (s.size - 1))) := hK1 k (by omega)
    have e2 := hK2 k (by omega)
    simp only at e2
    simp only [impl_listWords.f, h1, e1, e2, bS]
    rw [if_pos trivial, if_neg (by omega)]
   ·simp only [Bool.not_not]
    exact ⟨fun h => ⟨h3.1 rfl, hl, h⟩, fun h => h.2.2⟩
  ·refine ⟨([], false), ⟨K1, fun k hk => ?_⟩, ⟨(fun h => by cases h), fun h => absurd h.2.1 hl⟩, (fun h => by cases h)⟩
   have e1 : strings_Split.f k (s.extract 1 (s.size - 1)) (⟨#[32]⟩ : ByteArray) = some (cutB 32 (s.extract 1 (s.size - 1))) := hK1 k hk
   simp only [impl_listWords.f, h1, e1, bS]
   rw [if_pos trivial, if_pos (by omega)]
theorem rdOf_nat2 (xs : List ByteArray) (i : Nat) (h : i < xs.length) : rdOf ByteArray.empty xs (i : Int) = xs[i]'h := by
 unfold rdOf
 rw [Int.toNat_natCast, List.getD_eq_getElem?_getD, List.getElem?_eq_getElem h]; rfl
theorem specWords_l1 (l out : List ByteArray) (i : Nat) (hi : i < l.length) (ho : out.length < 8796093022208) (hw : (l[i]'hi).size ≤ 4611686018427387904) (T : List ByteArray × Bool) (hT : Ev (fun k => spec_l12Words.l0 k (out ++ [l[i]'hi]) l (wrap64 ((i : Int) + 1))) T) :
  ∀ (d j : Nat), j + d = (l[i]'hi).size → Ev (fun k => spec_l12Words.l1 k out l (i : Int) (j : Int)) (if ((bl (l[i]'hi)).drop j).all atomB = true then T else ([], false)) := by
 have hr := rdOf_nat2 l i hi
 generalize hX : l[i]'hi = w at *
 have hsz := bl_size w
 intro d
 induction d with
 | zero =>
  intro j hj
  rw [List.drop_eq_nil_of_le (by omega), List.all_nil, if_pos rfl]
  refine Ev.step (fun k => ?_) hT
  simp only [spec_l12Words.l1, hr]
  rw [if_pos (by omega), if_pos (by omega), if_neg (by omega), if_pos ho]
 | succ d ih =>
  intro j hj
  have hlt : j < (bl w).length := by omega
  have hv : spec_l12Atom.f (bt w (j : Int)) = some (atomB (bl w)[j]) := by
   rw [bt_eq w j hlt, specAtom _ ⟨by omega, by have := byte_lt (bl w)[j]; omega⟩]; rfl
  rw [List.drop_eq_getElem_cons hlt, List.all_cons]
  cases hb : atomB (bl w)[j] with
  | true =>
   rw [Bool.true_and]
   refine Ev.step (fun k => ?_) (ih (j + 1) (by omega))
   simp only [spec_l12Words.l1, hr, hv, hb, bS]
   rw [if_pos (by omega), if_pos (by omega), if_pos (by omega), if_pos (by omega), if_pos trivial, w64s j (by omega)]
  | false =>
   rw [Bool.false_and, if_neg (by decide)]
   refine Ev.step (f := fun _ => some _) (fun k => ?_) (Ev.now _)
   simp only [spec_l12Words.l1, hr, hv, hb, bS]
   rw [if_pos (by omega), if_pos (by omega), if_pos (by omega), if_pos (by omega), if_neg (by decide)]
theorem specWords_l0 (l : List ByteArray) (hl : l.length ≤ 4611686018427387904) (hs : ∀ x ∈ l, x.size ≤ 4611686018427387904) : ∀ (d i : Nat), i + d = l.length → i ≤ 30 → Ev (fun k => spec_l12Words.l0 k (l.take i) l (i : Int)) (if (l.drop i).all okW = true ∧ l.length ≤ 30 then (l, true) else ([], false)) := by
 intro d
 induction d with
 | zero =>
  intro i hi h30
  rw [List.drop_eq_nil_of_le (by omega), List.all_nil, if_pos ⟨rfl, by omega⟩]
  refine Ev.step (f := fun _ => some _) (fun k => ?_) (Ev.now _)
  simp only [spec_l12Words.l0]
  rw [if_neg (by omega), List.take_of_length_le (by omega)]
 | succ d ih =>
  intro i hi h30
  have hlt : i < l.length := by omega
  have hr := rdOf_nat2 l i hlt
  have hti : (l.take i).length = i := by rw [List.length_take]; omega
  have ej : ∀ k, spec_l12Words.j2 (k + 1) (l.take i) l (i : Int) true = some ([], false) := fun k => by
   simp only [spec_l12Words.j2]; exact if_pos trivial
  rw [List.drop_eq_getElem_cons hlt, List.all_cons]
  by_cases hbad : (bl (l[i]'hlt)) = [] ∨ i = 30
  ·have hf : ¬ ((okW (l[i]'hlt) && (l.drop (i + 1)).all okW) = true ∧ l.length ≤ 30) := by
    rintro ⟨h1, h2⟩
    rcases hbad with h | h
    ·rw [Bool.and_eq_true] at h1
     have := h1.1
     unfold okW at this
     rw [h] at this
     cases this
    ·omega
   rw [if_neg hf]
   refine Ev.step (f := fun k => spec_l12Words.j2 k (l.take i) l (i : Int) true) (fun k => ?_) (Ev.step (f := fun _ => some _) (fun k => ej k) (Ev.now _))
   simp only [spec_l12Words.l0, hr]
   rw [if_pos (by omega), if_pos (by omega)]
   by_cases h0 : (l[i]'hlt).toList = ([] : List UInt8)
   ·rw [if_pos h0]
   ·rw [if_neg h0, hti]
    rcases hbad with h | h
    ·exact absurd (by rw [toList_bl]; exact h) h0
    ·subst h; rfl
  ·have h0 : ¬ (l[i]'hlt).toList = ([] : List UInt8) := fun h => hbad (.inl (by rw [← toList_bl]; exact h))
   have h1 : ¬ i = 30 := fun h => hbad (.inr h)
   have hT := ih (i + 1) (by omega) (by omega)
   have ht : l.take (i + 1) = l.take i ++ [l[i]'hlt] := by rw [List.take_add_one, List.getElem?_eq_getElem hlt]; rfl
   rw [ht, ← w64s i (by omega)] at hT
   have h := specWords_l1 l (l.take i) i hlt (by omega) (hs _ (List.getElem_mem hlt)) _ hT (l[i]'hlt).size 0 (by omega)
   rw [List.drop_zero] at h
   have hok : okW (l[i]'hlt) = (bl (l[i]'hlt)).all atomB := by
    unfold okW
    have : (bl (l[i]'hlt)).isEmpty = false := by
     cases hb : bl (l[i]'hlt) with
     | nil => exact absurd (.inl hb) hbad
     | cons _ _ => rfl
    rw [this]; rfl
   have he : (if ((bl (l[i]'hlt)).all atomB) = true then (if (l.drop (i + 1)).all okW = true ∧ l.length ≤ 30 then (l, true) else (([], false) : List ByteArray × Bool)) else ([], false)) = if (okW (l[i]'hlt) && (l.drop (i + 1)).all okW) = true ∧ l.length ≤ 30 then (l, true) else ([], false) := by
    rw [hok]
    cases (bl (l[i]'hlt)).all atomB <;> simp
   rw [he] at h
   refine Ev.step (f := fun k => spec_l12Words.j2 k (l.take i) l (i : Int) false) (fun k => ?_) (Ev.step (f := fun k => spec_l12Words.l1 k (l.take i) l (i : Int) ((0 : Nat) : Int)) (fun k => ?_) h)
   ·simp only [spec_l12Words.l0, hr]
    rw [if_pos (by omega), if_pos (by omega), if_neg h0, hti]
    have : ((i : Int) == 30) = false := beq_eq_false_iff_ne.mpr (by omega)
    rw [this]
   ·simp only [spec_l12Words.j2]
    rw [if_neg (by decide)]
    rfl
theorem specWords_ev (s : ByteArray) (hs : s.size ≤ 65536) : ∃ r, Ev (fun k => spec_l12Words.f k s) r ∧ (r.2 = true ↔ goodL s) ∧ (r.2 = true → r.1 = cutB 32 (s.extract 1 (s.size - 1))) := by
 have hsz := bl_size s
 by_cases hin : inR s
 ·have hx : (s.extract 1 (s.size - 1)).size ≤ s.size := by rw [bl_size, bl_extract, List.length_take, List.length_drop]; omega
  obtain ⟨K1, hK1⟩ := specCut_ev (s.extract 1 (s.size - 1)) 32 (by omega)
  have h := specWords_l0 (cutB 32 (s.extract 1 (s.size - 1))) (by have := cutB_length 32 (s.extract 1 (s.size - 1)); omega) (fun y hy => by have := cutB_size 32 _ y hy; omega) _ 0 (Nat.zero_add _) (by omega)
  obtain ⟨K2, hK2⟩ := h
  refine ⟨if (cutB 32 (s.extract 1 (s.size - 1))).all okW = true ∧ (cutB 32 (s.extract 1 (s.size - 1))).length ≤ 30 then (cutB 32 (s.extract 1 (s.size - 1)), true) else ([], false), ⟨K1 + K2 + 1, fun k hk => ?_⟩, ?_, ?_⟩
  ·obtain ⟨m, rfl⟩ : ∃ m, k = m + 1 := ⟨k - 1, by omega⟩
   have e1 : spec_l00Cut.f m (s.extract 1 (s.size - 1)) 32 = some (cutB 32 (s.extract 1 (s.size - 1))) := hK1 m (by omega)
   have e2 := hK2 m (by omega)
   simp only [List.take_zero, List.drop_zero] at e2
   have w1 : Aside0 (wrap64 ((s.size : Int) - 1) = ((s.size - 1 : Nat) : Int)) := ⟨by have := hin.1; exact w64sub s.size 1 (by omega) (by omega)⟩
   have hj : spec_l12Words.j0 (m + 1) s false = some (if (cutB 32 (s.extract 1 (s.size - 1))).all okW = true ∧ (cutB 32 (s.extract 1 (s.size - 1))).length ≤ 30 then (cutB 32 (s.extract 1 (s.size - 1)), true) else ([], false)) := by
    simp only [spec_l12Words.j0, w1.out, Int.toNat_natCast, e1, bS]
    have := hin.1
    rw [if_neg (by decide), if_pos (by omega), if_pos (by omega)]
    exact e2
   have hb0 : bt s 0 = 40 := by
    have h0 := bt_eq s 0 (by have := hin.1; omega)
    have h1 := hin.2.1
    rw [List.getElem?_eq_getElem (by have := hin.1; omega)] at h1
    rw [Option.some.inj h1] at h0
    exact h0
   have hb1 : bt s ((s.size - 1 : Nat) : Int) = 41 := by
    have h0 := bt_eq s (s.size - 1) (by have := hin.1; omega)
    have h1 := hin.2.2
    rw [List.getElem?_eq_getElem (by have := hin.1; omega)] at h1
    rw [Option.some.inj h1] at h0
    exact h0
   simp only [spec_l12Words.f, w1.out, hb1]
   have := hin.1
   rw [if_neg (by omega), if_pos (by omega), if_pos hb0, if_pos (by omega), if_pos (by omega)]
   exact hj
  ·constructor
   ·intro h
    by_cases hc : (cutB 32 (s.extract 1 (s.size - 1))).all okW = true ∧ (cutB 32 (s.extract 1 (s.size - 1))).length ≤ 30
    ·exact ⟨hin, hc.2, hc.1⟩
    ·rw [if_neg hc] at h; cases h
   ·intro h
    rw [if_pos ⟨h.2.2, h.2.1⟩]
  ·intro h
   by_cases hc : (cutB 32 (s.extract 1 (s.size - 1))).all okW = true ∧ (cutB 32 (s.extract 1 (s.size - 1))).length ≤ 30
   ·rw [if_pos hc]
   ·rw [if_neg hc] at h; cases h
 ·refine ⟨([], false), ⟨1, fun k hk => ?_⟩, ⟨(fun h => by cases h), fun h => absurd h.1 hin⟩, (fun h => by cases h)⟩
  obtain ⟨m, rfl⟩ : ∃ m, k = m + 1 := ⟨k - 1, by omega⟩
  have hj : spec_l12Words.j0 (m + 1) s true = some ([], false) := by
   simp only [spec_l12Words.j0]; exact if_pos trivial
  simp only [spec_l12Words.f]
  by_cases h2 : s.size < 2
  ·rw [if_pos (by omega)]; exact hj
  ·rw [if_neg (by omega), if_pos (by omega)]
   by_cases hb0 : bt s 0 = 40
   ·rw [if_pos hb0]
    have w1 : wrap64 ((s.size : Int) - 1) = ((s.size - 1 : Nat) : Int) := w64sub s.size 1 (by omega) (by omega)
    rw [w1, if_pos (by omega), if_pos (by omega)]
    have hb1 : ¬ bt s ((s.size - 1 : Nat) : Int) = 41 := by
     intro hb1
     have h0 := bt_eq s 0 (by omega)
     have h1 := bt_eq s (s.size - 1) (by omega)
     rw [hb1] at h1
     have hb0' : bt s ((0 : Nat) : Int) = 40 := hb0
     rw [hb0'] at h0
     refine hin ⟨by omega, ?_, ?_⟩
     ·rw [List.getElem?_eq_getElem (by omega)]
      exact congrArg some ((byte_iff _ _).1 h0.symm)
     ·rw [List.getElem?_eq_getElem (by omega)]
      exact congrArg some ((byte_iff _ _).1 h1.symm)
    have : (bt s ((s.size - 1 : Nat) : Int) != 41) = true := bne_iff_ne.mpr hb1
    rw [this]
    exact hj
   ·rw [if_neg hb0]; exact hj
theorem list_both (s : ByteArray) : ∃ r, Ev (fun k => spec_ListWords.f k s) r ∧ Ev (fun k => impl_ListWords.f k s) r ∧ r.1.length ≤ 30 := by
 by_cases h : s.size > 65536
 ·refine ⟨([], 2), ⟨0, fun k _ => ?_⟩, ⟨0, fun k _ => ?_⟩, by simp⟩
  ·simp only [spec_ListWords.f]; rw [if_pos (by omega)]
  ·simp only [impl_ListWords.f]; rw [if_pos (by omega)]
 ·obtain ⟨⟨a, b⟩, ⟨K1, h1⟩, g1, x1⟩ := specWords_ev s (by omega)
  obtain ⟨⟨c, d⟩, ⟨K2, h2⟩, g2, x2⟩ := implWords_ev s (by omega)
  simp only at g1 x1 g2 x2 h1 h2
  have hbd : b = d := by
   cases b <;> cases d
   ·rfl
   ·exact absurd (g1.2 (g2.1 rfl)) (by decide)
   ·exact absurd (g2.2 (g1.1 rfl)) (by decide)
   ·rfl
  subst hbd
  cases b with
  | true =>
   have e1 := x1 rfl
   have e2 := x2 rfl
   have hl := (g1.1 rfl).2.1
   subst e1; subst e2
   refine ⟨(cutB 32 (s.extract 1 (s.size - 1)), 0), ⟨K1, fun k hk => ?_⟩, ⟨K2, fun k hk => ?_⟩, hl⟩
   ·simp only [spec_ListWords.f, h1 k hk, bS]; rw [if_neg (by omega), if_pos trivial]
   ·simp only [impl_ListWords.f, h2 k hk, bS]; rw [if_neg (by omega), if_pos trivial]
  | false =>
   refine ⟨([], 3), ⟨K1, fun k hk => ?_⟩, ⟨K2, fun k hk => ?_⟩, by simp⟩
   ·simp only [spec_ListWords.f, h1 k hk, bS]; rw [if_neg (by omega), if_neg (by decide)]
   ·simp only [impl_ListWords.f, h2 k hk, bS]; rw [if_neg (by omega), if_neg (by decide)]
end Go.Proofs.YtcmifdcgmalnlaaDoor.P
/- Lemmas of mine: flags read from their text: the two ReadFlags tell the same. Plain. -/
set_option linter.unusedVariables false
set_option linter.unusedSimpArgs false
namespace Go.Proofs.YtcmifdcgmalnlaaDoor.P
open Go.RowKit Go.Proofs.YtcmifdcgmalnlaaDoorW.PrintWords
def nm0 : ByteArray := ⟨#[92, 83, 101, 101, 110]⟩
def nm1 : ByteArray := ⟨#[92, 65, 110, 115, 119, 101, 114, 101, 100]⟩
def nm2 : ByteArray := ⟨#[92, 70, 108, 97, 103, 103, 101, 100]⟩
def nm3 : ByteArray := ⟨#[92, 68, 101, 108, 101, 116, 101, 100]⟩
def nm4 : ByteArray := ⟨#[92, 68, 114, 97, 102, 116]⟩
def nmL : List ByteArray := [nm0, nm1, nm2, nm3, nm4]
def loL (s : ByteArray) : List UInt8 := (bl s).map lowB
theorem lowS_list (s : ByteArray) : (lowS s).toList = loL s := by rw [toList_bl]; exact bl_mk _
theorem sameLow_iff (w x : ByteArray) : sameLow w x = true ↔ loL x = loL w := by
 unfold sameLow
 rw [beq_iff_eq, lowS_list, lowS_list]
/-- The place of a word among the names: 5 for none. -/
def plc (w : ByteArray) : Nat := if loL nm0 = loL w then 0 else if loL nm1 = loL w then 1 else if loL nm2 = loL w then 2 else if loL nm3 = loL w then 3 else if loL nm4 = loL w then 4 else 5
theorem idx_plc (w : ByteArray) : idxOf (sameLow w) nmL = if plc w = 5 then -1 else (plc w : Int) := by
 have hb : ∀ x, sameLow w x = decide (loL x = loL w) := fun x => by
  rw [Bool.eq_iff_iff, sameLow_iff, decide_eq_true_eq]
 unfold idxOf nmL plc
 simp only [List.findIdx?_cons, List.findIdx?_nil, hb]
 by_cases h0 : loL nm0 = loL w
 ·simp [h0]
 ·by_cases h1 : loL nm1 = loL w
  ·simp [h0, h1]
  ·by_cases h2 : loL nm2 = loL w
   ·simp [h0, h1, h2]
   ·by_cases h3 : loL nm3 = loL w
    ·simp [h0, h1, h2, h3]
    ·by_cases h4 : loL nm4 = loL w
     ·simp [h0, h1, h2, h3, h4]
     ·simp [h0, h1, h2, h3, h4]
theorem plc_le (w : ByteArray) : plc w ≤ 5 := by
 unfold plc
 repeat' split
 all_goals omega
theorem orFl : ∀ a : Fin 32, ∀ b : Fin 5, 0 ≤ Go.bits .or .i64 ((a.val : Nat) : Int) (2 ^ b.val) ∧ Go.bits .or .i64 ((a.val : Nat) : Int) (2 ^ b.val) ≤ 31 := by decide +kernel
theorem orFl' (fl : Int) (q : Nat) (h : 0 ≤ fl ∧ fl ≤ 31) (hq : q < 5) : 0 ≤ Go.bits .or .i64 fl (2 ^ q) ∧ Go.bits .or .i64 fl (2 ^ q) ≤ 31 := by
 obtain ⟨n, rfl⟩ := Int.eq_ofNat_of_zero_le h.1
 exact orFl ⟨n, by omega⟩ ⟨q, hq⟩
theorem fold_cons (w : ByteArray) (ws : List ByteArray) (fl : Int) (hw : w.size ≤ 9223372036854775807) (hf : 0 ≤ fl ∧ fl ≤ 31) :
  flagsFold nmL (w :: ws) fl = if plc w = 5 then some (0, 16) else flagsFold nmL ws (Go.bits .or .i64 fl (2 ^ plc w)) := by
 have hp := plc_le w
 simp only [flagsFold, idx_plc]
 by_cases h : plc w = 5
 ·rw [if_pos h, if_pos h, if_pos ⟨hw, by omega, hf.1, hf.2⟩, if_pos (by omega)]
 ·rw [if_neg h, if_neg h, if_pos ⟨hw, by omega, hf.1, hf.2⟩, if_neg (by omega), Int.toNat_natCast]
theorem fold_some : ∀ (ws : List ByteArray) (fl : Int), (∀ w ∈ ws, w.size ≤ 9223372036854775807) → 0 ≤ fl ∧ fl ≤ 31 → ∃ r, flagsFold nmL ws fl = some r
 | [], fl, _, _ => ⟨_, rfl⟩
 | w :: ws, fl, hw, hf => by
  rw [fold_cons w ws fl (hw w (List.mem_cons_self ..)) hf]
  by_cases h : plc w = 5
  ·rw [if_pos h]; exact ⟨_, rfl⟩
  ·rw [if_neg h]
   exact fold_some ws _ (fun x hx => hw x (List.mem_cons_of_mem _ hx)) (orFl' fl _ hf (by have := plc_le w; omega))
theorem specLow (s : ByteArray) (h : s.size ≤ 9223372036854775807) : spec_l07Lower.f s = some (lowS s) := by
 unfold spec_l07Lower.f
 rw [if_pos h]; rfl
theorem nm_ne : loL nm0 ≠ loL nm1 ∧ loL nm0 ≠ loL nm2 ∧ loL nm0 ≠ loL nm3 ∧ loL nm0 ≠ loL nm4 ∧ loL nm1 ≠ loL nm2 ∧ loL nm1 ≠ loL nm3 ∧ loL nm1 ≠ loL nm4 ∧ loL nm2 ≠ loL nm3 ∧ loL nm2 ≠ loL nm4 ∧ loL nm3 ≠ loL nm4 := by decide +kernel
theorem shl1 : shl .i64 1 (IntKind.u64.wrap 0) = 1 ∧ shl .i64 1 (IntKind.u64.wrap 1) = 2 ∧ shl .i64 1 (IntKind.u64.wrap 2) = 4 ∧ shl .i64 1 (IntKind.u64.wrap 3) = 8 ∧ shl .i64 1 (IntKind.u64.wrap 4) = 16 := by decide +kernel
theorem u64pos : 0 ≤ IntKind.u64.wrap 0 ∧ 0 ≤ IntKind.u64.wrap 1 ∧ 0 ≤ IntKind.u64.wrap 2 ∧ 0 ≤ IntKind.u64.wrap 3 ∧ 0 ≤ IntKind.u64.wrap 4 := by decide +kernel
/-- One name is asked. -/
theorem specAsk (l : List ByteArray) (i : Nat) (hi : i < l.length) (w : ByteArray) (hr : rdOf ByteArray.empty l (i : Int) = w) (hw : w.size ≤ 9223372036854775807) (k : Nat) (fl : Int) (b : Bool) (q : Nat) (hq : q < 5) (nm : ByteArray) (hn : rdOf ByteArray.empty nmL (q : Int) = nm) (hs : nm.size ≤ 9223372036854775807) :
  spec_l11ReadFlags.l1 (k + 1) fl l nmL (i : Int) b (q : Int) = if loL nm = loL w then spec_l11ReadFlags.l1 k (Go.bits .or .i64 fl (2 ^ q)) l nmL (i : Int) true ((q + 1 : Nat) : Int) else spec_l11ReadFlags.l1 k fl l nmL (i : Int) b ((q + 1 : Nat) : Int) := by
 have hlen : nmL.length = 5 := rfl
 have hsh : shl .i64 1 (IntKind.u64.wrap (q : Int)) = 2 ^ q ∧ 0 ≤ IntKind.u64.wrap (q : Int) := by
  obtain ⟨a0, a1, a2, a3, a4⟩ := shl1
  obtain ⟨b0, b1, b2, b3, b4⟩ := u64pos
  have : q = 0 ∨ q = 1 ∨ q = 2 ∨ q = 3 ∨ q = 4 := by omega
  rcases this with rfl | rfl | rfl | rfl | rfl
  ·exact ⟨a0, b0⟩
  ·exact ⟨a1, b1⟩
  ·exact ⟨a2, b2⟩
  ·exact ⟨a3, b3⟩
  ·exact ⟨a4, b4⟩
 simp only [spec_l11ReadFlags.l1, hr, hn, specLow w hw, specLow nm hs, bS, lowS_list, hsh.1]
 rw [if_pos (by omega), if_pos (by omega), if_pos (by omega), if_pos (by omega), if_pos (by omega), if_pos hsh.2, w64s q (by omega)]
 by_cases h : loL nm = loL w
 ·rw [if_pos h, if_pos h.symm]
 ·rw [if_neg h, if_neg (fun e => h e.symm)]
theorem specEnd (l : List ByteArray) (i : Nat) (k : Nat) (fl : Int) (b : Bool) : spec_l11ReadFlags.l1 (k + 1) fl l nmL (i : Int) b ((5 : Nat) : Int) = if b = true then spec_l11ReadFlags.l0 k fl l nmL (wrap64 ((i : Int) + 1)) else some (0, 16) := by
 simp only [spec_l11ReadFlags.l1]
 rw [if_neg (by decide)]
theorem specWord (l : List ByteArray) (i : Nat) (hi : i < l.length) (w : ByteArray) (hr : rdOf ByteArray.empty l (i : Int) = w) (hw : w.size ≤ 9223372036854775807) (k : Nat) (fl : Int) :
  spec_l11ReadFlags.l1 (k + 6) fl l nmL (i : Int) false ((0 : Nat) : Int) = if plc w = 5 then some (0, 16) else spec_l11ReadFlags.l0 k (Go.bits .or .i64 fl (2 ^ plc w)) l nmL (wrap64 ((i : Int) + 1)) := by
 have s0 := fun k fl b => specAsk l i hi w hr hw k fl b 0 (by omega) nm0 rfl (by decide)
 have s1 := fun k fl b => specAsk l i hi w hr hw k fl b 1 (by omega) nm1 rfl (by decide)
 have s2 := fun k fl b => specAsk l i hi w hr hw k fl b 2 (by omega) nm2 rfl (by decide)
 have s3 := fun k fl b => specAsk l i hi w hr hw k fl b 3 (by omega) nm3 rfl (by decide)
 have s4 := fun k fl b => specAsk l i hi w hr hw k fl b 4 (by omega) nm4 rfl (by decide)
 have se := fun k fl b => specEnd l i k fl b
 obtain ⟨n01, n02, n03, n04, n12, n13, n14, n23, n24, n34⟩ := nm_ne
 unfold plc
 rw [s0]
 by_cases h0 : loL nm0 = loL w
 ·rw [if_pos h0, if_pos h0, if_neg (by decide), s1, if_neg (fun e => n01 (h0.trans e.symm)), s2, if_neg (fun e => n02 (h0.trans e.symm)), s3, if_neg (fun e => n03 (h0.trans e.symm)), s4, if_neg (fun e => n04 (h0.trans e.symm)), se, if_pos rfl]
 ·rw [if_neg h0, if_neg h0, s1]
  by_cases h1 : loL nm1 = loL w
  ·rw [if_pos h1, if_pos h1, if_neg (by decide), s2, if_neg (fun e => n12 (h1.trans e.symm)), s3, if_neg (fun e => n13 (h1.trans e.symm)), s4, if_neg (fun e => n14 (h1.trans e.symm)), se, if_pos rfl]
  ·rw [if_neg h1, if_neg h1, s2]
   by_cases h2 : loL nm2 = loL w
   ·rw [if_pos h2, if_pos h2, if_neg (by decide), s3, if_neg (fun e => n23 (h2.trans e.symm)), s4, if_neg (fun e => n24 (h2.trans e.symm)), se, if_pos rfl]
   ·rw [if_neg h2, if_neg h2, s3]
    by_cases h3 : loL nm3 = loL w
    ·rw [if_pos h3, if_pos h3, if_neg (by decide), s4, if_neg (fun e => n34 (h3.trans e.symm)), se, if_pos rfl]
    ·rw [if_neg h3, if_neg h3, s4]
     by_cases h4 : loL nm4 = loL w
     ·rw [if_pos h4, if_pos h4, if_neg (by decide), se, if_pos rfl]
     ·rw [if_neg h4, if_neg h4, se, if_neg (by decide), if_pos rfl]
theorem specFlags_l0 (l : List ByteArray) (hl : l.length ≤ 4611686018427387904) (hs : ∀ x ∈ l, x.size ≤ 9223372036854775807) : ∀ (d i : Nat) (fl : Int) (r : Int × Int), i + d = l.length → 0 ≤ fl ∧ fl ≤ 31 → flagsFold nmL (l.drop i) fl = some r → Ev (fun k => spec_l11ReadFlags.l0 k fl l nmL (i : Int)) r := by
 intro d
 induction d with
 | zero =>
  intro i fl r hi hf h
  rw [List.drop_eq_nil_of_le (by omega)] at h
  obtain rfl := Option.some.inj h
  refine Ev.step (f := fun _ => some _) (fun k => ?_) (Ev.now _)
  simp only [spec_l11ReadFlags.l0]
  rw [if_neg (by omega)]
 | succ d ih =>
  intro i fl r hi hf h
  have hlt : i < l.length := by omega
  have hr := rdOf_nat2 l i hlt
  have hw := hs _ (List.getElem_mem hlt)
  rw [List.drop_eq_getElem_cons hlt, fold_cons _ _ fl hw hf] at h
  have hW := fun k => specWord l i hlt (l[i]'hlt) hr hw k fl
  have hstep : ∀ k, spec_l11ReadFlags.l0 (k + 1) fl l nmL (i : Int) = spec_l11ReadFlags.l1 k fl l nmL (i : Int) false ((0 : Nat) : Int) := fun k => by
   simp only [spec_l11ReadFlags.l0]
   rw [if_pos (by omega)]
   rfl
  by_cases hp : plc (l[i]'hlt) = 5
  ·rw [if_pos hp] at h
   obtain rfl := Option.some.inj h
   refine ⟨7, fun k hk => ?_⟩
   obtain ⟨m, rfl⟩ : ∃ m, k = m + 6 + 1 := ⟨k - 7, by omega⟩
   simp only
   rw [hstep, hW, if_pos hp]
  ·rw [if_neg hp] at h
   obtain ⟨K, hK⟩ := ih (i + 1) _ r (by omega) (orFl' fl _ hf (by have := plc_le (l[i]'hlt); omega)) h
   refine ⟨K + 7, fun k hk => ?_⟩
   obtain ⟨m, rfl⟩ : ∃ m, k = m + 6 + 1 := ⟨k - 7, by omega⟩
   have e := hK m (by omega)
   simp only at e ⊢
   rw [hstep, hW, if_neg hp, w64s i (by omega)]
   exact e
theorem inR_dec (s : ByteArray) : inR s ∨ ¬ inR s := Classical.em _
theorem flags_both (s : ByteArray) : ∃ r, Ev (fun k => spec_ReadFlags.f k s) r ∧ Ev (fun k => impl_ReadFlags.f k s) r := by
 by_cases h : s.size > 65536
 ·refine ⟨(0, 2), ⟨0, fun k _ => ?_⟩, ⟨0, fun k _ => ?_⟩⟩
  ·simp only [spec_ReadFlags.f]; rw [if_pos (by omega)]
  ·simp only [impl_ReadFlags.f]; rw [if_pos (by omega)]
 ·have hsz := bl_size s
  obtain ⟨x, b, g1, g2, g3, g4⟩ := inBr s (by omega)
  suffices hh : ∃ r, Ev (fun k => spec_l11ReadFlags.f k s) r ∧ Ev (fun k => impl_ReadFlags.f k s) r by
   obtain ⟨r, ⟨K, hK⟩, h2⟩ := hh
   refine ⟨r, ⟨K, fun k hk => ?_⟩, h2⟩
   have e := hK k hk
   simp only at e
   simp only [spec_ReadFlags.f, e, bS]
   rw [if_neg (by omega)]
  by_cases hin : inR s
  ·have hb : b = true := g3.2 hin
   subst hb
   have hx := g4 rfl
   subst hx
   have w1 : Aside0 (wrap64 ((s.size : Int) - 1) = ((s.size - 1 : Nat) : Int)) := ⟨by have := hin.1; exact w64sub s.size 1 (by omega) (by omega)⟩
   have hb0 : bt s 0 = 40 := by
    have h0 := bt_eq s 0 (by have := hin.1; omega)
    have h1 := hin.2.1
    rw [List.getElem?_eq_getElem (by have := hin.1; omega)] at h1
    rw [Option.some.inj h1] at h0
    exact h0
   have hb1 : bt s ((s.size - 1 : Nat) : Int) = 41 := by
    have h0 := bt_eq s (s.size - 1) (by have := hin.1; omega)
    have h1 := hin.2.2
    rw [List.getElem?_eq_getElem (by have := hin.1; omega)] at h1
    rw [Option.some.inj h1] at h0
    exact h0
   have hj : ∀ k, spec_l11ReadFlags.f k s = spec_l11ReadFlags.j0 k s false := fun k => by
    simp only [spec_l11ReadFlags.f, w1.out, hb1]
    have := hin.1
    rw [if_neg (by omega), if_pos (by omega), if_pos hb0, if_pos (by omega), if_pos (by omega)]
    rfl
   by_cases he : (s.extract 1 (s.size - 1)).toList = ([] : List UInt8)
   ·refine ⟨(0, 0), ⟨1, fun k hk => ?_⟩, ⟨0, fun k _ => ?_⟩⟩
    ·obtain ⟨m, rfl⟩ : ∃ m, k = m + 1 := ⟨k - 1, by omega⟩
     simp only
     rw [hj]
     simp only [spec_l11ReadFlags.j0, w1.out, Int.toNat_natCast]
     have := hin.1
     rw [if_neg (by decide), if_pos (by omega), if_pos (by omega), if_pos he]
    ·simp only [impl_ReadFlags.f, g1, bS]
     rw [if_neg (by omega), if_pos trivial, if_pos he]
   ·obtain ⟨K1, hK1⟩ := specCut_ev (s.extract 1 (s.size - 1)) 32 (by omega)
    obtain ⟨K2, hK2⟩ := split_ev (s.extract 1 (s.size - 1)) 32 (by omega)
    have hcl := cutB_length 32 (s.extract 1 (s.size - 1))
    have hcs : ∀ y ∈ cutB 32 (s.extract 1 (s.size - 1)), y.size ≤ 9223372036854775807 := fun y hy => by have := cutB_size 32 _ y hy; omega
    obtain ⟨r, hr⟩ := fold_some (cutB 32 (s.extract 1 (s.size - 1))) 0 hcs ⟨by decide, by decide⟩
    obtain ⟨K3, hK3⟩ := specFlags_l0 (cutB 32 (s.extract 1 (s.size - 1))) (by omega) hcs _ 0 0 r (Nat.zero_add _) ⟨by decide, by decide⟩ (by rw [List.drop_zero]; exact hr)
    refine ⟨r, ⟨K1 + K3 + 1, fun k hk => ?_⟩, ⟨K2, fun k hk => ?_⟩⟩
    ·obtain ⟨m, rfl⟩ : ∃ m, k = m + 1 := ⟨k - 1, by omega⟩
     have e1 : spec_l00Cut.f m (s.extract 1 (s.size - 1)) 32 = some (cutB 32 (s.extract 1 (s.size - 1))) := hK1 m (by omega)
     have e3 := hK3 m (by omega)
     have en : spec_l11FlagNames.f = some nmL := rfl
     simp only
     rw [hj]
     simp only [spec_l11ReadFlags.j0, w1.out, Int.toNat_natCast, e1, en, bS]
     have := hin.1
     rw [if_neg (by decide), if_pos (by omega), if_pos (by omega), if_neg he]
     exact e3
    ·have e2 : strings_Split.f k (s.extract 1 (s.size - 1)) (⟨#[32]⟩ : ByteArray) = some (cutB 32 (s.extract 1 (s.size - 1))) := hK2 k hk
     have en : impl_flagNames.f = some nmL := rfl
     simp only [impl_ReadFlags.f, g1, e2, en, bS]
     rw [if_neg (by omega), if_pos trivial, if_neg he, if_pos ⟨by decide, by omega, by decide⟩]
     exact hr
  ·have hb : b = false := by
    cases b with
    | false => rfl
    | true => exact absurd (g3.1 rfl) hin
   subst hb
   refine ⟨(0, 3), ⟨1, fun k hk => ?_⟩, ⟨0, fun k _ => ?_⟩⟩
   ·obtain ⟨m, rfl⟩ : ∃ m, k = m + 1 := ⟨k - 1, by omega⟩
    have hj : spec_l11ReadFlags.j0 (m + 1) s true = some (0, 3) := by
     simp only [spec_l11ReadFlags.j0]; exact if_pos trivial
    simp only [spec_l11ReadFlags.f]
    by_cases h2 : s.size < 2
    ·rw [if_pos (by omega)]; exact hj
    ·rw [if_neg (by omega), if_pos (by omega)]
     by_cases hb0 : bt s 0 = 40
     ·rw [if_pos hb0]
      have w1 : wrap64 ((s.size : Int) - 1) = ((s.size - 1 : Nat) : Int) := w64sub s.size 1 (by omega) (by omega)
      rw [w1, if_pos (by omega), if_pos (by omega)]
      have hb1 : ¬ bt s ((s.size - 1 : Nat) : Int) = 41 := by
       intro hb1
       have h0 := bt_eq s 0 (by omega)
       have h1 := bt_eq s (s.size - 1) (by omega)
       rw [hb1] at h1
       have hb0' : bt s ((0 : Nat) : Int) = 40 := hb0
       rw [hb0'] at h0
       refine hin ⟨by omega, ?_, ?_⟩
       ·rw [List.getElem?_eq_getElem (by omega)]
        exact congrArg some ((byte_iff _ _).1 h0.symm)
       ·rw [List.getElem?_eq_getElem (by omega)]
        exact congrArg some ((byte_iff _ _).1 h1.symm)
      have : (bt s ((s.size - 1 : Nat) : Int) != 41) = true := bne_iff_ne.mpr hb1
      rw [this]
      exact hj
     ·rw [if_neg hb0]; exact hj
   ·simp only [impl_ReadFlags.f, g1, bS]
    rw [if_neg (by omega), if_neg (by decide)]
end Go.Proofs.YtcmifdcgmalnlaaDoor.P
/- The pure statement of the law FnExactReadFlags: the two ReadFlags tell the same. No condition. -/
set_option linter.unusedVariables false
set_option linter.unusedSimpArgs false
namespace Go.Proofs.YtcmifdcgmalnlaaDoor.Pure
open Go.RowKit Go.Proofs.YtcmifdcgmalnlaaDoor.P Go.Proofs.YtcmifdcgmalnlaaDoorW.PrintWords
theorem FnExactReadFlags : laws_FnExactReadFlags.Pure := by
 intro s hs
 obtain ⟨⟨a, b⟩, ⟨K1, h1⟩, ⟨K2, h2⟩⟩ := flags_both s
 simp only at h1 h2
 refine ⟨K1 + K2, ?_⟩
 simp only [laws_FnExactReadFlags.f, h1 (K1 + K2) (by omega), h2 (K1 + K2) (by omega), bS, if_true]
 split <;> rfl
end Go.Proofs.YtcmifdcgmalnlaaDoor.Pure
