/- Part 4 of what the law FnExactLogRecords stands on; the last part ends with the law's row. No condition of mine. -/
import Derived.Test.YtejdnbdppgakeaaMFnExactLogRecords0
import Derived.Test.YtejdnbdppgakeaaMFnExactLogRecords3
import Derived.Test.YtejdnbdppgakeaaMFnExactLogRecords1
import Derived.Test.YtejdnbdppgakeaaMFnExactLogRecords2
import Derived.Test.YtejdnbdppgakeaaRows
import Derived.WalkKit
import Derived.ProofKit
import Derived.OpenShut
import Derived.ShutString
import Derived.ChangeOld
import Derived.Below
import Derived.SizedLaws
import Derived.Carry
namespace Go.Proofs.Ytejdnbdppgakeaa.P
open Go.RowKit Go.Proofs.YtejdnbdppgakeaaW.PrintWords Go.Proofs.YtejdnbdppgakeaaW.PrintLast Go.Proofs.YtejdnbdppgakeaaW.PrintMore
attribute [local go_sem] max2_int min2_int max_two min_two max_three min_three max_four min_four   -- for this text's walks alone
set_option linter.unusedVariables false
set_option linter.unusedSimpArgs false

/-! ### laws_eqLog: function 21 -/
def laws_eqLog.f (a0_0 : Int) (a0_1 : ByteArray) (a0_2 : Int) (a1_0 : Int) (a1_1 : ByteArray) (a1_2 : Int) : Option (Bool) := if a0_0 = a1_0 then (if a0_1.toList = a1_1.toList then (if a0_2 = a1_2 then (some true) else (some false)) else (some false)) else (some false)
set_option maxHeartbeats 8000000 in
set_option maxRecDepth 100000 in
theorem laws_eqLog.calls (a0_0 : Int) (a0_1 : ByteArray) (a0_2 : Int) (a1_0 : Int) (a1_1 : ByteArray) (a1_2 : Int) (r : Bool) (w : World) (h : laws_eqLog.f a0_0 a0_1 a0_2 a1_0 a1_1 a1_2 = some r) :
    Calls Try.prog 21 #[.agg #[.int .i64 a0_0, .string a0_1, .int .i64 a0_2], .agg #[.int .i64 a1_0, .string a1_1, .int .i64 a1_2]] w fun e w' => e = .returned (.bool r) ∧ Below w.heap.size w w' := by
  have hu26 := Try.underlying26
  have HB := Aside0.mk (Below.refl w.heap.size w)
  have H : (if a0_0 = a1_0 then (if a0_1.toList = a1_1.toList then (if a0_2 = a1_2 then (some true) else (some false)) else (some false)) else (some false)) = some r := h
  clear h
  by_cases c3 : a0_0 = a1_0
  · rw [if_pos c3] at H
    have c3b0 : (a0_0 == a1_0) = true := beq_iff_eq.mpr c3
    have c3b1 : (a0_0 != a1_0) = false := bne_eq_false_iff_eq.mpr c3
    clear c3
    by_cases c4 : a0_1.toList = a1_1.toList
    · rw [if_pos c4] at H
      have c4b0 : (a0_1.toList == a1_1.toList) = true := beq_iff_eq.mpr c4
      have c4b1 : (a0_1.toList != a1_1.toList) = false := bne_eq_false_iff_eq.mpr c4
      clear c4
      by_cases c5 : a0_2 = a1_2
      · rw [if_pos c5] at H
        have c5b0 : (a0_2 == a1_2) = true := beq_iff_eq.mpr c5
        have c5b1 : (a0_2 != a1_2) = false := bne_eq_false_iff_eq.mpr c5
        clear c5
        obtain rfl := Option.some.inj H
        go_enter Try.func21, Try.ntmps21
        go_wp2_with (first | ((with_reducible refine gate_dst (N := 2) rfl ?_); refine box_event ?hg (N := 2) ?hd (cs := #[.int .i64 a0_0, .string a0_1, .int .i64 a0_2]) (t := 26) ?hr ?_; (case hd => rfl); (case hg => rfl); (case hr => first | (go_simp; done) | (go_simp; rfl)); intro gb101 hg w6 hbox hb; have n0_ := Aside0.mk (below_step (by repeat (first | (with_reducible first | exact HB.out | apply below_alloc | apply pw_below_drewN | apply below_drew1) | exact HB.out)) hb); have n1_ := Aside0.mk (hbox); have n2_ := Aside0.mk ((by rw [hg]; exact (below_size (by repeat (first | (with_reducible first | exact HB.out | apply below_alloc | apply pw_below_drewN | apply below_drew1) | exact HB.out))) : w.heap.size ≤ gb101)); have n3_ := Aside0.mk ((by rw [hg]; exact (below_size (by repeat (first | (with_reducible first | exact HB.out | apply below_alloc | apply pw_below_drewN | apply below_drew1) | exact HB.out))) : w.heap.size ≤ gb101)); clear HB; have HB := n0_; have BK101 := n1_; have GW101 := n2_; have GE101 := n3_; clear n0_ n1_ n2_ n3_; clear hb hbox hg) | ((with_reducible refine gate_dst (N := 3) rfl ?_); refine box_event ?hg (N := 3) ?hd (cs := #[.int .i64 a1_0, .string a1_1, .int .i64 a1_2]) (t := 26) ?hr ?_; (case hd => rfl); (case hg => rfl); (case hr => first | (go_simp; done) | (go_simp; rfl)); intro gb102 hg w7 hbox hb; have n0_ := Aside0.mk (blk_below (g := gb101) (o := .cells #[.int .i64 a0_0, .string a0_1, .int .i64 a0_2] 26 (0, 0)) (by (with_reducible repeat (first | refine blk_drewN ?_ _ | refine blk_drew ?_ | refine blk_alloc ?_ _)); exact BK101.out) hb); have n1_ := Aside0.mk (below_step (by repeat (first | (with_reducible first | exact HB.out | apply below_alloc | apply pw_below_drewN | apply below_drew1 | refine below_set ?_ GE101.out) | exact HB.out)) hb); have n2_ := Aside0.mk (hbox); have n3_ := Aside0.mk ((by rw [hg]; exact (below_size (by repeat (first | (with_reducible first | exact HB.out | apply below_alloc | apply pw_below_drewN | apply below_drew1 | refine below_set ?_ GE101.out) | exact HB.out))) : w.heap.size ≤ gb102)); have n4_ := Aside0.mk ((by rw [hg]; exact (below_size (by repeat (first | (with_reducible first | exact HB.out | apply below_alloc | apply pw_below_drewN | apply below_drew1 | refine below_set ?_ GE101.out) | exact HB.out))) : w.heap.size ≤ gb102)); have n5_ := Aside0.mk ((by rw [hg]; exact Nat.ne_of_lt (blk_lt (g := gb101) (o := .cells #[.int .i64 a0_0, .string a0_1, .int .i64 a0_2] 26 (0, 0)) (by (with_reducible repeat (first | refine blk_drewN ?_ _ | refine blk_drew ?_ | refine blk_alloc ?_ _)); exact BK101.out)) : gb101 ≠ gb102)); have n6_ := Aside0.mk ((by rw [hg]; exact Nat.ne_of_gt (blk_lt (g := gb101) (o := .cells #[.int .i64 a0_0, .string a0_1, .int .i64 a0_2] 26 (0, 0)) (by (with_reducible repeat (first | refine blk_drewN ?_ _ | refine blk_drew ?_ | refine blk_alloc ?_ _)); exact BK101.out)) : gb102 ≠ gb101)); clear BK101; clear HB; have BK101 := n0_; have HB := n1_; have BK102 := n2_; have GW102 := n3_; have GE102 := n4_; have NB101_102 := n5_; have NB102_101 := n6_; clear n0_ n1_ n2_ n3_ n4_ n5_ n6_; clear hb hbox hg; have hnb8 := NB101_102.out; have hnc8 := NB102_101.out; have hcz9_0 : w7.cell? ⟨gb101, 0, none⟩ = some (.int .i64 a0_0) := (blk_cell BK101.out 0).trans rfl; have hcz9_1 : w7.cell? ⟨gb101, 1, none⟩ = some (.string a0_1) := (blk_cell BK101.out 1).trans rfl; have hcz9_2 : w7.cell? ⟨gb101, 2, none⟩ = some (.int .i64 a0_2) := (blk_cell BK101.out 2).trans rfl; have hfz9_0 := blk_frozen BK101.out 0; have hfz9_1 := blk_frozen BK101.out 1; have hfz9_2 := blk_frozen BK101.out 2; have hcz10_0 : w7.cell? ⟨gb102, 0, none⟩ = some (.int .i64 a1_0) := (blk_cell BK102.out 0).trans rfl; have hcz10_1 : w7.cell? ⟨gb102, 1, none⟩ = some (.string a1_1) := (blk_cell BK102.out 1).trans rfl; have hcz10_2 : w7.cell? ⟨gb102, 2, none⟩ = some (.int .i64 a1_2) := (blk_cell BK102.out 2).trans rfl; have hfz10_0 := blk_frozen BK102.out 0; have hfz10_1 := blk_frozen BK102.out 1; have hfz10_2 := blk_frozen BK102.out 2))
        go_ret
        exact ⟨by first | rfl | (simp [errW_none, errW_some] <;> rfl) | (simp [*, errW_none, errW_some] <;> rfl), by repeat (first | (with_reducible first | exact HB.out | apply below_alloc | apply pw_below_drewN | apply below_drew1 | refine below_set ?_ GE101.out | refine below_set ?_ GE102.out) | exact HB.out)⟩
      · rw [if_neg c5] at H
        have c5b0 : (a0_2 == a1_2) = false := beq_eq_false_iff_ne.mpr c5
        have c5b1 : (a0_2 != a1_2) = true := bne_iff_ne.mpr c5
        obtain rfl := Option.some.inj H
        go_enter Try.func21, Try.ntmps21
        go_wp2_with (first | ((with_reducible refine gate_dst (N := 2) rfl ?_); refine box_event ?hg (N := 2) ?hd (cs := #[.int .i64 a0_0, .string a0_1, .int .i64 a0_2]) (t := 26) ?hr ?_; (case hd => rfl); (case hg => rfl); (case hr => first | (go_simp; done) | (go_simp; rfl)); intro gb101 hg w11 hbox hb; have n0_ := Aside0.mk (below_step (by repeat (first | (with_reducible first | exact HB.out | apply below_alloc | apply pw_below_drewN | apply below_drew1) | exact HB.out)) hb); have n1_ := Aside0.mk (hbox); have n2_ := Aside0.mk ((by rw [hg]; exact (below_size (by repeat (first | (with_reducible first | exact HB.out | apply below_alloc | apply pw_below_drewN | apply below_drew1) | exact HB.out))) : w.heap.size ≤ gb101)); have n3_ := Aside0.mk ((by rw [hg]; exact (below_size (by repeat (first | (with_reducible first | exact HB.out | apply below_alloc | apply pw_below_drewN | apply below_drew1) | exact HB.out))) : w.heap.size ≤ gb101)); clear HB; have HB := n0_; have BK101 := n1_; have GW101 := n2_; have GE101 := n3_; clear n0_ n1_ n2_ n3_; clear hb hbox hg) | ((with_reducible refine gate_dst (N := 3) rfl ?_); refine box_event ?hg (N := 3) ?hd (cs := #[.int .i64 a1_0, .string a1_1, .int .i64 a1_2]) (t := 26) ?hr ?_; (case hd => rfl); (case hg => rfl); (case hr => first | (go_simp; done) | (go_simp; rfl)); intro gb102 hg w12 hbox hb; have n0_ := Aside0.mk (blk_below (g := gb101) (o := .cells #[.int .i64 a0_0, .string a0_1, .int .i64 a0_2] 26 (0, 0)) (by (with_reducible repeat (first | refine blk_drewN ?_ _ | refine blk_drew ?_ | refine blk_alloc ?_ _)); exact BK101.out) hb); have n1_ := Aside0.mk (below_step (by repeat (first | (with_reducible first | exact HB.out | apply below_alloc | apply pw_below_drewN | apply below_drew1 | refine below_set ?_ GE101.out) | exact HB.out)) hb); have n2_ := Aside0.mk (hbox); have n3_ := Aside0.mk ((by rw [hg]; exact (below_size (by repeat (first | (with_reducible first | exact HB.out | apply below_alloc | apply pw_below_drewN | apply below_drew1 | refine below_set ?_ GE101.out) | exact HB.out))) : w.heap.size ≤ gb102)); have n4_ := Aside0.mk ((by rw [hg]; exact (below_size (by repeat (first | (with_reducible first | exact HB.out | apply below_alloc | apply pw_below_drewN | apply below_drew1 | refine below_set ?_ GE101.out) | exact HB.out))) : w.heap.size ≤ gb102)); have n5_ := Aside0.mk ((by rw [hg]; exact Nat.ne_of_lt (blk_lt (g := gb101) (o := .cells #[.int .i64 a0_0, .string a0_1, .int .i64 a0_2] 26 (0, 0)) (by (with_reducible repeat (first | refine blk_drewN ?_ _ | refine blk_drew ?_ | refine blk_alloc ?_ _)); exact BK101.out)) : gb101 ≠ gb102)); have n6_ := Aside0.mk ((by rw [hg]; exact Nat.ne_of_gt (blk_lt (g := gb101) (o := .cells #[.int .i64 a0_0, .string a0_1, .int .i64 a0_2] 26 (0, 0)) (by (with_reducible repeat (first | refine blk_drewN ?_ _ | refine blk_drew ?_ | refine blk_alloc ?_ _)); exact BK101.out)) : gb102 ≠ gb101)); clear BK101; clear HB; have BK101 := n0_; have HB := n1_; have BK102 := n2_; have GW102 := n3_; have GE102 := n4_; have NB101_102 := n5_; have NB102_101 := n6_; clear n0_ n1_ n2_ n3_ n4_ n5_ n6_; clear hb hbox hg; have hnb13 := NB101_102.out; have hnc13 := NB102_101.out; have hcz14_0 : w12.cell? ⟨gb101, 0, none⟩ = some (.int .i64 a0_0) := (blk_cell BK101.out 0).trans rfl; have hcz14_1 : w12.cell? ⟨gb101, 1, none⟩ = some (.string a0_1) := (blk_cell BK101.out 1).trans rfl; have hcz14_2 : w12.cell? ⟨gb101, 2, none⟩ = some (.int .i64 a0_2) := (blk_cell BK101.out 2).trans rfl; have hfz14_0 := blk_frozen BK101.out 0; have hfz14_1 := blk_frozen BK101.out 1; have hfz14_2 := blk_frozen BK101.out 2; have hcz15_0 : w12.cell? ⟨gb102, 0, none⟩ = some (.int .i64 a1_0) := (blk_cell BK102.out 0).trans rfl; have hcz15_1 : w12.cell? ⟨gb102, 1, none⟩ = some (.string a1_1) := (blk_cell BK102.out 1).trans rfl; have hcz15_2 : w12.cell? ⟨gb102, 2, none⟩ = some (.int .i64 a1_2) := (blk_cell BK102.out 2).trans rfl; have hfz15_0 := blk_frozen BK102.out 0; have hfz15_1 := blk_frozen BK102.out 1; have hfz15_2 := blk_frozen BK102.out 2))
        go_ret
        exact ⟨by first | rfl | (simp [errW_none, errW_some] <;> rfl) | (simp [*, errW_none, errW_some] <;> rfl), by repeat (first | (with_reducible first | exact HB.out | apply below_alloc | apply pw_below_drewN | apply below_drew1 | refine below_set ?_ GE101.out | refine below_set ?_ GE102.out) | exact HB.out)⟩
    · rw [if_neg c4] at H
      have c4b0 : (a0_1.toList == a1_1.toList) = false := beq_eq_false_iff_ne.mpr c4
      have c4b1 : (a0_1.toList != a1_1.toList) = true := bne_iff_ne.mpr c4
      obtain rfl := Option.some.inj H
      go_enter Try.func21, Try.ntmps21
      go_wp2_with (first | ((with_reducible refine gate_dst (N := 2) rfl ?_); refine box_event ?hg (N := 2) ?hd (cs := #[.int .i64 a0_0, .string a0_1, .int .i64 a0_2]) (t := 26) ?hr ?_; (case hd => rfl); (case hg => rfl); (case hr => first | (go_simp; done) | (go_simp; rfl)); intro gb101 hg w16 hbox hb; have n0_ := Aside0.mk (below_step (by repeat (first | (with_reducible first | exact HB.out | apply below_alloc | apply pw_below_drewN | apply below_drew1) | exact HB.out)) hb); have n1_ := Aside0.mk (hbox); have n2_ := Aside0.mk ((by rw [hg]; exact (below_size (by repeat (first | (with_reducible first | exact HB.out | apply below_alloc | apply pw_below_drewN | apply below_drew1) | exact HB.out))) : w.heap.size ≤ gb101)); have n3_ := Aside0.mk ((by rw [hg]; exact (below_size (by repeat (first | (with_reducible first | exact HB.out | apply below_alloc | apply pw_below_drewN | apply below_drew1) | exact HB.out))) : w.heap.size ≤ gb101)); clear HB; have HB := n0_; have BK101 := n1_; have GW101 := n2_; have GE101 := n3_; clear n0_ n1_ n2_ n3_; clear hb hbox hg) | ((with_reducible refine gate_dst (N := 3) rfl ?_); refine box_event ?hg (N := 3) ?hd (cs := #[.int .i64 a1_0, .string a1_1, .int .i64 a1_2]) (t := 26) ?hr ?_; (case hd => rfl); (case hg => rfl); (case hr => first | (go_simp; done) | (go_simp; rfl)); intro gb102 hg w17 hbox hb; have n0_ := Aside0.mk (blk_below (g := gb101) (o := .cells #[.int .i64 a0_0, .string a0_1, .int .i64 a0_2] 26 (0, 0)) (by (with_reducible repeat (first | refine blk_drewN ?_ _ | refine blk_drew ?_ | refine blk_alloc ?_ _)); exact BK101.out) hb); have n1_ := Aside0.mk (below_step (by repeat (first | (with_reducible first | exact HB.out | apply below_alloc | apply pw_below_drewN | apply below_drew1 | refine below_set ?_ GE101.out) | exact HB.out)) hb); have n2_ := Aside0.mk (hbox); have n3_ := Aside0.mk ((by rw [hg]; exact (below_size (by repeat (first | (with_reducible first | exact HB.out | apply below_alloc | apply pw_below_drewN | apply below_drew1 | refine below_set ?_ GE101.out) | exact HB.out))) : w.heap.size ≤ gb102)); have n4_ := Aside0.mk ((by rw [hg]; exact (below_size (by repeat (first | (with_reducible first | exact HB.out | apply below_alloc | apply pw_below_drewN | apply below_drew1 | refine below_set ?_ GE101.out) | exact HB.out))) : w.heap.size ≤ gb102)); have n5_ := Aside0.mk ((by rw [hg]; exact Nat.ne_of_lt (blk_lt (g := gb101) (o := .cells #[.int .i64 a0_0, .string a0_1, .int .i64 a0_2] 26 (0, 0)) (by (with_reducible repeat (first | refine blk_drewN ?_ _ | refine blk_drew ?_ | refine blk_alloc ?_ _)); exact BK101.out)) : gb101 ≠ gb102)); have n6_ := Aside0.mk ((by rw [hg]; exact Nat.ne_of_gt (blk_lt (g := gb101) (o := .cells #[.int .i64 a0_0, .string a0_1, .int .i64 a0_2] 26 (0, 0)) (by (with_reducible repeat (first | refine blk_drewN ?_ _ | refine blk_drew ?_ | refine blk_alloc ?_ _)); exact BK101.out)) : gb102 ≠ gb101)); clear BK101; clear HB; have BK101 := n0_; have HB := n1_; have BK102 := n2_; have GW102 := n3_; have GE102 := n4_; have NB101_102 := n5_; have NB102_101 := n6_; clear n0_ n1_ n2_ n3_ n4_ n5_ n6_; clear hb hbox hg; have hnb18 := NB101_102.out; have hnc18 := NB102_101.out; have hcz19_0 : w17.cell? ⟨gb101, 0, none⟩ = some (.int .i64 a0_0) := (blk_cell BK101.out 0).trans rfl; have hcz19_1 : w17.cell? ⟨gb101, 1, none⟩ = some (.string a0_1) := (blk_cell BK101.out 1).trans rfl; have hcz19_2 : w17.cell? ⟨gb101, 2, none⟩ = some (.int .i64 a0_2) := (blk_cell BK101.out 2).trans rfl; have hfz19_0 := blk_frozen BK101.out 0; have hfz19_1 := blk_frozen BK101.out 1; have hfz19_2 := blk_frozen BK101.out 2; have hcz20_0 : w17.cell? ⟨gb102, 0, none⟩ = some (.int .i64 a1_0) := (blk_cell BK102.out 0).trans rfl; have hcz20_1 : w17.cell? ⟨gb102, 1, none⟩ = some (.string a1_1) := (blk_cell BK102.out 1).trans rfl; have hcz20_2 : w17.cell? ⟨gb102, 2, none⟩ = some (.int .i64 a1_2) := (blk_cell BK102.out 2).trans rfl; have hfz20_0 := blk_frozen BK102.out 0; have hfz20_1 := blk_frozen BK102.out 1; have hfz20_2 := blk_frozen BK102.out 2))
      go_ret
      exact ⟨by first | rfl | (simp [errW_none, errW_some] <;> rfl) | (simp [*, errW_none, errW_some] <;> rfl), by repeat (first | (with_reducible first | exact HB.out | apply below_alloc | apply pw_below_drewN | apply below_drew1 | refine below_set ?_ GE101.out | refine below_set ?_ GE102.out) | exact HB.out)⟩
  · rw [if_neg c3] at H
    have c3b0 : (a0_0 == a1_0) = false := beq_eq_false_iff_ne.mpr c3
    have c3b1 : (a0_0 != a1_0) = true := bne_iff_ne.mpr c3
    obtain rfl := Option.some.inj H
    go_enter Try.func21, Try.ntmps21
    go_wp2_with (first | ((with_reducible refine gate_dst (N := 2) rfl ?_); refine box_event ?hg (N := 2) ?hd (cs := #[.int .i64 a0_0, .string a0_1, .int .i64 a0_2]) (t := 26) ?hr ?_; (case hd => rfl); (case hg => rfl); (case hr => first | (go_simp; done) | (go_simp; rfl)); intro gb101 hg w21 hbox hb; have n0_ := Aside0.mk (below_step (by repeat (first | (with_reducible first | exact HB.out | apply below_alloc | apply pw_below_drewN | apply below_drew1) | exact HB.out)) hb); have n1_ := Aside0.mk (hbox); have n2_ := Aside0.mk ((by rw [hg]; exact (below_size (by repeat (first | (with_reducible first | exact HB.out | apply below_alloc | apply pw_below_drewN | apply below_drew1) | exact HB.out))) : w.heap.size ≤ gb101)); have n3_ := Aside0.mk ((by rw [hg]; exact (below_size (by repeat (first | (with_reducible first | exact HB.out | apply below_alloc | apply pw_below_drewN | apply below_drew1) | exact HB.out))) : w.heap.size ≤ gb101)); clear HB; have HB := n0_; have BK101 := n1_; have GW101 := n2_; have GE101 := n3_; clear n0_ n1_ n2_ n3_; clear hb hbox hg) | ((with_reducible refine gate_dst (N := 3) rfl ?_); refine box_event ?hg (N := 3) ?hd (cs := #[.int .i64 a1_0, .string a1_1, .int .i64 a1_2]) (t := 26) ?hr ?_; (case hd => rfl); (case hg => rfl); (case hr => first | (go_simp; done) | (go_simp; rfl)); intro gb102 hg w22 hbox hb; have n0_ := Aside0.mk (blk_below (g := gb101) (o := .cells #[.int .i64 a0_0, .string a0_1, .int .i64 a0_2] 26 (0, 0)) (by (with_reducible repeat (first | refine blk_drewN ?_ _ | refine blk_drew ?_ | refine blk_alloc ?_ _)); exact BK101.out) hb); have n1_ := Aside0.mk (below_step (by repeat (first | (with_reducible first | exact HB.out | apply below_alloc | apply pw_below_drewN | apply below_drew1 | refine below_set ?_ GE101.out) | exact HB.out)) hb); have n2_ := Aside0.mk (hbox); have n3_ := Aside0.mk ((by rw [hg]; exact (below_size (by repeat (first | (with_reducible first | exact HB.out | apply below_alloc | apply pw_below_drewN | apply below_drew1 | refine below_set ?_ GE101.out) | exact HB.out))) : w.heap.size ≤ gb102)); have n4_ := Aside0.mk ((by rw [hg]; exact (below_size (by repeat (first | (with_reducible first | exact HB.out | apply below_alloc | apply pw_below_drewN | apply below_drew1 | refine below_set ?_ GE101.out) | exact HB.out))) : w.heap.size ≤ gb102)); have n5_ := Aside0.mk ((by rw [hg]; exact Nat.ne_of_lt (blk_lt (g := gb101) (o := .cells #[.int .i64 a0_0, .string a0_1, .int .i64 a0_2] 26 (0, 0)) (by (with_reducible repeat (first | refine blk_drewN ?_ _ | refine blk_drew ?_ | refine blk_alloc ?_ _)); exact BK101.out)) : gb101 ≠ gb102)); have n6_ := Aside0.mk ((by rw [hg]; exact Nat.ne_of_gt (blk_lt (g := gb101) (o := .cells #[.int .i64 a0_0, .string a0_1, .int .i64 a0_2] 26 (0, 0)) (by (with_reducible repeat (first | refine blk_drewN ?_ _ | refine blk_drew ?_ | refine blk_alloc ?_ _)); exact BK101.out)) : gb102 ≠ gb101)); clear BK101; clear HB; have BK101 := n0_; have HB := n1_; have BK102 := n2_; have GW102 := n3_; have GE102 := n4_; have NB101_102 := n5_; have NB102_101 := n6_; clear n0_ n1_ n2_ n3_ n4_ n5_ n6_; clear hb hbox hg; have hnb23 := NB101_102.out; have hnc23 := NB102_101.out; have hcz24_0 : w22.cell? ⟨gb101, 0, none⟩ = some (.int .i64 a0_0) := (blk_cell BK101.out 0).trans rfl; have hcz24_1 : w22.cell? ⟨gb101, 1, none⟩ = some (.string a0_1) := (blk_cell BK101.out 1).trans rfl; have hcz24_2 : w22.cell? ⟨gb101, 2, none⟩ = some (.int .i64 a0_2) := (blk_cell BK101.out 2).trans rfl; have hfz24_0 := blk_frozen BK101.out 0; have hfz24_1 := blk_frozen BK101.out 1; have hfz24_2 := blk_frozen BK101.out 2; have hcz25_0 : w22.cell? ⟨gb102, 0, none⟩ = some (.int .i64 a1_0) := (blk_cell BK102.out 0).trans rfl; have hcz25_1 : w22.cell? ⟨gb102, 1, none⟩ = some (.string a1_1) := (blk_cell BK102.out 1).trans rfl; have hcz25_2 : w22.cell? ⟨gb102, 2, none⟩ = some (.int .i64 a1_2) := (blk_cell BK102.out 2).trans rfl; have hfz25_0 := blk_frozen BK102.out 0; have hfz25_1 := blk_frozen BK102.out 1; have hfz25_2 := blk_frozen BK102.out 2))
    go_ret
    exact ⟨by first | rfl | (simp [errW_none, errW_some] <;> rfl) | (simp [*, errW_none, errW_some] <;> rfl), by repeat (first | (with_reducible first | exact HB.out | apply below_alloc | apply pw_below_drewN | apply below_drew1 | refine below_set ?_ GE101.out | refine below_set ?_ GE102.out) | exact HB.out)⟩

end Go.Proofs.Ytejdnbdppgakeaa.P
/- Lemmas of mine: logs: when one is right; that the laws' copies tell nothing else. Plain. -/
set_option linter.unusedVariables false
set_option linter.unusedSimpArgs false
namespace Go.Proofs.Ytejdnbdppgakeaa.P
open Go.RowKit Go.Proofs.YtejdnbdppgakeaaW.PrintWords
/-- A right log. -/
def LogRight (r : Int) (d : ByteArray) (s : Int) : Prop := (0 ≤ r ∧ r ≤ 60000) ∧ (d.size : Int) ≤ r ∧ (0 ≤ s ∧ s ≤ (d.size : Int))
instance (r : Int) (d : ByteArray) (s : Int) : Decidable (LogRight r d s) := by unfold LogRight; infer_instance
theorem specLogOK_eq (r : Int) (d : ByteArray) (s : Int) : spec_LogOK.f r d s = some (decide (LogRight r d s)) := by
  unfold spec_LogOK.f LogRight
  simp only [l01In_eq, Option.bind_some]
  by_cases h : 0 ≤ r ∧ r ≤ 60000 <;> by_cases h2 : (d.size : Int) ≤ r <;> simp [h, h2]
theorem implLogOK_eq (r : Int) (d : ByteArray) (s : Int) : impl_LogOK.f r d s = some (decide (LogRight r d s)) := specLogOK_eq r d s
theorem szLog_some (r : Int) (d : ByteArray) (s n : Int) : ∃ z, laws_szLog.f r d s n = some z := by
  unfold laws_szLog.f
  split <;> exact ⟨_, rfl⟩
theorem eqLog_self (r : Int) (d : ByteArray) (s : Int) : laws_eqLog.f r d s r d s = some true := by simp [laws_eqLog.f]
end Go.Proofs.Ytejdnbdppgakeaa.P
/- Lemmas of mine: the records of a log's data, in both programs. Plain. -/
set_option linter.unusedVariables false
set_option linter.unusedSimpArgs false
namespace Go.Proofs.Ytejdnbdppgakeaa.P
open Go.RowKit Go.Proofs.YtejdnbdppgakeaaW.PrintWords
/-- What one look at the data from a place on tells: an end with a code, or a record. -/
def lookAt (d : List UInt8) (at_ : Nat) : Int ⊕ List UInt8 :=
  let rest := d.drop at_
  if rest.length < 7 then .inl 18
  else
    let n := numOf (rest.take 3)
    if ¬ (1 ≤ n ∧ n ≤ 20000) then .inl 8
    else if rest.length < 7 + n then .inl 18
    else
      let r := (rest.drop 7).take n
      if rest.take (7 + n) = frame r then .inr r else .inl 8
theorem lookAt_short {d : List UInt8} {at_ : Nat} (h : (d.drop at_).length < 7) : lookAt d at_ = .inl 18 := by
  simp only [lookAt]
  rw [if_pos h]
theorem lookAt_size {d : List UInt8} {at_ : Nat} (h : ¬ (d.drop at_).length < 7) (h2 : ¬ (1 ≤ numOf ((d.drop at_).take 3) ∧ numOf ((d.drop at_).take 3) ≤ 20000)) : lookAt d at_ = .inl 8 := by
  simp only [lookAt]
  rw [if_neg h, if_pos h2]
theorem lookAt_more {d : List UInt8} {at_ : Nat} (h : ¬ (d.drop at_).length < 7) (h2 : 1 ≤ numOf ((d.drop at_).take 3) ∧ numOf ((d.drop at_).take 3) ≤ 20000) (h3 : (d.drop at_).length < 7 + numOf ((d.drop at_).take 3)) : lookAt d at_ = .inl 18 := by
  simp only [lookAt]
  rw [if_neg h, if_neg (by simpa using h2), if_pos h3]
theorem lookAt_sum {d : List UInt8} {at_ : Nat} (h : ¬ (d.drop at_).length < 7) (h2 : 1 ≤ numOf ((d.drop at_).take 3) ∧ numOf ((d.drop at_).take 3) ≤ 20000) (h3 : ¬ (d.drop at_).length < 7 + numOf ((d.drop at_).take 3))
    (h4 : ¬ (d.drop at_).take (7 + numOf ((d.drop at_).take 3)) = frame (((d.drop at_).drop 7).take (numOf ((d.drop at_).take 3)))) : lookAt d at_ = .inl 8 := by
  simp only [lookAt]
  rw [if_neg h, if_neg (by simpa using h2), if_neg h3, if_neg h4]
theorem lookAt_rec {d : List UInt8} {at_ : Nat} (h : ¬ (d.drop at_).length < 7) (h2 : 1 ≤ numOf ((d.drop at_).take 3) ∧ numOf ((d.drop at_).take 3) ≤ 20000) (h3 : ¬ (d.drop at_).length < 7 + numOf ((d.drop at_).take 3))
    (h4 : (d.drop at_).take (7 + numOf ((d.drop at_).take 3)) = frame (((d.drop at_).drop 7).take (numOf ((d.drop at_).take 3)))) : lookAt d at_ = .inr (((d.drop at_).drop 7).take (numOf ((d.drop at_).take 3))) := by
  simp only [lookAt]
  rw [if_neg h, if_neg (by simpa using h2), if_neg h3, if_pos h4]
theorem num3_lt (l : List UInt8) : numOf (l.take 3) < 16777216 := by
  have h := numOf_lt (l.take 3) 0
  have h2 : (l.take 3).length ≤ 3 := by simp; omega
  have h3 : (256 : Nat) ^ (l.take 3).length ≤ 256 ^ 3 := Nat.pow_le_pow_right (by decide) h2
  have h4 : (256 : Nat) ^ 3 = 16777216 := by decide
  unfold numOf
  omega
/-- What a step of a reader of records does. -/
def Steps (l0 : Nat → List ByteArray → Int → Option (List ByteArray × Int × Int)) (d : ByteArray) (out : List ByteArray) (at_ : Nat) : Prop :=
    (∀ c, lookAt (bl d) at_ = .inl c → Ev (fun k => l0 k out (at_ : Int)) (out, (at_ : Int), c)) ∧
    (∀ r, lookAt (bl d) at_ = .inr r → (1 ≤ r.length ∧ r.length ≤ 20000 ∧ at_ + 7 + r.length ≤ d.size) ∧ ∀ q, Ev (fun k => l0 k (out ++ [sm r]) ((at_ + 7 + r.length : Nat) : Int)) q → Ev (fun k => l0 k out (at_ : Int)) q)
theorem implRecs_step (r0 s0 : Int) (d : ByteArray) (hd : d.size ≤ 1048576) (out : List ByteArray) (ho : out.length ≤ 1048576) (at_ : Nat) (ha : at_ < d.size) :
    Steps (fun k o i => impl_Log_records.l0 k o i r0 d s0) d out at_ := by
  have hs : (bl d).length = d.size := (bl_size d).symm
  obtain ⟨R, hRd⟩ : ∃ R, d.extract at_ d.size = R := ⟨_, rfl⟩
  have hR : bl R = (bl d).drop at_ := by rw [← hRd, bl_extract, List.take_of_length_le (by rw [List.length_drop, hs]; exact Nat.le_refl _)]
  have hRs : R.size = d.size - at_ := by rw [bl_size, hR, List.length_drop, hs]
  have hRl : ((bl d).drop at_).length = R.size := by rw [← hR, bl_size]
  by_cases h7 : R.size < 7
  · have hl := lookAt_short (d := bl d) (at_ := at_) (by rw [hRl]; exact h7)
    refine ⟨fun c hc => ?_, fun r hr => by rw [hl] at hr; cases hr⟩
    rw [hl] at hc
    cases hc
    refine Ev.step (f := fun _ => some _) (fun k => ?_) (Ev.now _)
    simp only [impl_Log_records.l0, Int.toNat_natCast, hRd]
    rw [if_pos (by omega), if_pos (by omega), if_pos (by omega), if_pos (by omega)]
  · have hx : bl (R.extract 0 3) = ((bl d).drop at_).take 3 := by rw [bl_extract, hR]; simp
    obtain ⟨K1, h1⟩ := implNum_ev (R.extract 0 3) (by rw [hx]; simp; omega)
    rw [hx] at h1
    have hlt := num3_lt ((bl d).drop at_)
    obtain ⟨n, hn⟩ : ∃ n, numOf (((bl d).drop at_).take 3) = n := ⟨_, rfl⟩
    have e0 : ∀ k, impl_Log_records.l0 (k + 1) out (at_ : Int) r0 d s0 = ((impl_numberOf.f k (R.extract 0 3)).bind fun t105 => ((impl_within.f t105 1 20000).bind fun t106 => (if t106 = true then (if ((R.size : Int)) < (wrap64 (7 + t105)) then (some (out, (at_ : Int), 18)) else (if 7 ≤ (wrap64 (7 + t105)) then (if (wrap64 (7 + t105)) ≤ (R.size : Int) then ((impl_recordBytes.f k (R.extract 7 ((wrap64 (7 + t105)) : Int).toNat)).bind fun t107 => ((strings_HasPrefix.f R t107).bind fun t108 => (if t108 = true then (if out.length < 8796093022208 then (impl_Log_records.l0 k (out ++ [R.extract 7 ((wrap64 (7 + t105)) : Int).toNat]) (wrap64 ((at_ : Int) + (wrap64 (7 + t105)))) r0 d s0) else (none)) else (some (out, (at_ : Int), 8))))) else (none)) else (none))) else (some (out, (at_ : Int), 8))))) := fun k => by
      simp only [impl_Log_records.l0, Int.toNat_natCast, hRd]
      rw [if_pos (by omega), if_pos (by omega), if_pos (by omega), if_neg (by omega), if_pos (by omega), if_pos (by omega)]
    rw [hn] at h1 hlt
    by_cases hr : 1 ≤ n ∧ n ≤ 20000
    · have w7 : wrap64 (7 + (n : Int)) = ((7 + n : Nat) : Int) := by rw [w64 (by omega) (by omega)]; rfl
      have hwi : impl_within.f (n : Int) 1 20000 = some true := by rw [within_eq]; simp; omega
      by_cases hlen : R.size < 7 + n
      · have hl := lookAt_more (d := bl d) (at_ := at_) (by rw [hRl]; exact h7) (by rw [hn]; exact hr) (by rw [hRl, hn]; exact hlen)
        refine ⟨fun c hc => ?_, fun r hr => by rw [hl] at hr; cases hr⟩
        rw [hl] at hc
        cases hc
        refine ⟨K1 + 1, fun k hk => ?_⟩
        obtain ⟨m, rfl⟩ : ∃ m, k = m + 1 := ⟨k - 1, by omega⟩
        simp only [e0, h1 m (by omega), Option.bind_some, hwi, if_true, w7]
        rw [if_pos (by omega)]
      · have hrec : bl (R.extract 7 (7 + n)) = (((bl d).drop at_).drop 7).take n := by rw [bl_extract, hR, Nat.add_sub_cancel_left]
        have hrl : (((bl d).drop at_).drop 7).length = R.size - 7 := by rw [List.length_drop, hRl]
        have hrn : ((((bl d).drop at_).drop 7).take n).length = n := by rw [List.length_take, hrl]; omega
        obtain ⟨K2, h2⟩ := implRec_ev (R.extract 7 (7 + n)) (by rw [bl_size, hrec, hrn]; omega)
        rw [hrec] at h2
        have hpre : strings_HasPrefix.f R (sm (frame ((((bl d).drop at_).drop 7).take n))) = some (decide (((bl d).drop at_).take (7 + n) = frame ((((bl d).drop at_).drop 7).take n))) := by
          rw [hasPrefix_eq, sm_size, frame_length, hrn, bl_sm, hR]
          have : decide (7 + n ≤ R.size) = true := by simp; omega
          rw [this, Bool.true_and]
          exact congrArg some (by rw [Bool.eq_iff_iff]; simp)
        by_cases hf : ((bl d).drop at_).take (7 + n) = frame ((((bl d).drop at_).drop 7).take n)
        · have hl := lookAt_rec (d := bl d) (at_ := at_) (by rw [hRl]; exact h7) (by rw [hn]; exact hr) (by rw [hRl, hn]; exact hlen) (by rw [hn]; exact hf)
          rw [hn] at hl
          refine ⟨fun c hc => (by rw [hl] at hc; cases hc), fun r hr2 => ?_⟩
          rw [hl] at hr2
          cases hr2
          refine ⟨⟨by rw [hrn]; omega, by rw [hrn]; omega, by rw [hrn]; omega⟩, fun q h3 => ?_⟩
          obtain ⟨K3, h3⟩ := h3
          refine ⟨K1 + K2 + K3 + 1, fun k hk => ?_⟩
          obtain ⟨m, rfl⟩ : ∃ m, k = m + 1 := ⟨k - 1, by omega⟩
          have h4 := h3 m (by omega)
          rw [hrn] at h4
          simp only [e0, h1 m (by omega), Option.bind_some, hwi, if_true, w7]
          rw [if_neg (by omega), if_pos (by omega), if_pos (by omega), Int.toNat_natCast]
          simp only [h2 m (by omega), Option.bind_some, hpre, hf, decide_true, if_true]
          rw [if_pos (by omega)]
          have ew : wrap64 ((at_ : Int) + ((7 + n : Nat) : Int)) = ((at_ + 7 + n : Nat) : Int) := by rw [w64 (by omega) (by omega)]; omega
          have es : R.extract 7 (7 + n) = sm ((((bl d).drop at_).drop 7).take n) := bl_inj (by rw [bl_sm, hrec])
          rw [ew, es]
          exact h4
        · have hl := lookAt_sum (d := bl d) (at_ := at_) (by rw [hRl]; exact h7) (by rw [hn]; exact hr) (by rw [hRl, hn]; exact hlen) (by rw [hn]; exact hf)
          refine ⟨fun c hc => ?_, fun r hr => by rw [hl] at hr; cases hr⟩
          rw [hl] at hc
          cases hc
          refine ⟨K1 + K2 + 1, fun k hk => ?_⟩
          obtain ⟨m, rfl⟩ : ∃ m, k = m + 1 := ⟨k - 1, by omega⟩
          simp only [e0, h1 m (by omega), Option.bind_some, hwi, if_true, w7]
          rw [if_neg (by omega), if_pos (by omega), if_pos (by omega), Int.toNat_natCast]
          simp only [h2 m (by omega), Option.bind_some, hpre, hf, decide_false]
          rw [if_neg (by decide)]
    · have hwi : impl_within.f (n : Int) 1 20000 = some false := by rw [within_eq]; simp; omega
      have hl := lookAt_size (d := bl d) (at_ := at_) (by rw [hRl]; exact h7) (by rw [hn]; exact hr)
      refine ⟨fun c hc => ?_, fun r hr => by rw [hl] at hr; cases hr⟩
      rw [hl] at hc
      cases hc
      refine ⟨K1 + 1, fun k hk => ?_⟩
      obtain ⟨m, rfl⟩ : ∃ m, k = m + 1 := ⟨k - 1, by omega⟩
      simp only [e0, h1 m (by omega), Option.bind_some, hwi]
      rfl
theorem specRecs_step (d : ByteArray) (hd : d.size ≤ 1048576) (out : List ByteArray) (ho : out.length ≤ 1048576) (at_ : Nat) (ha : at_ < d.size) :
    Steps (fun k o i => spec_l08Records.l0 k d o i) d out at_ := by
  have hs : (bl d).length = d.size := (bl_size d).symm
  have hRl : ((bl d).drop at_).length = d.size - at_ := by rw [List.length_drop, hs]
  have w3 : Aside0 (wrap64 ((at_ : Int) + 3) = ((at_ + 3 : Nat) : Int)) := ⟨w64add at_ 3 (by omega)⟩
  have w7 : Aside0 (wrap64 ((at_ : Int) + 7) = ((at_ + 7 : Nat) : Int)) := ⟨w64add at_ 7 (by omega)⟩
  by_cases h7 : d.size - at_ < 7
  · have hl := lookAt_short (d := bl d) (at_ := at_) (by rw [hRl]; exact h7)
    refine ⟨fun c hc => ?_, fun r hr => by rw [hl] at hr; cases hr⟩
    rw [hl] at hc
    cases hc
    refine Ev.step (f := fun _ => some _) (fun k => ?_) (Ev.now _)
    simp only [spec_l08Records.l0, w7.out]
    rw [if_pos (by omega), if_pos (by omega)]
  · have hx : bl (d.extract at_ (at_ + 3)) = ((bl d).drop at_).take 3 := by rw [bl_extract, Nat.add_sub_cancel_left]
    obtain ⟨K1, h1⟩ := specNum_ev (d.extract at_ (at_ + 3)) (by rw [hx]; simp; omega)
    rw [hx] at h1
    have hlt := num3_lt ((bl d).drop at_)
    obtain ⟨n, hn⟩ : ∃ n, numOf (((bl d).drop at_).take 3) = n := ⟨_, rfl⟩
    rw [hn] at h1 hlt
    have e0 : ∀ k, spec_l08Records.l0 (k + 1) d out (at_ : Int) = ((spec_l08Number.f k (d.extract at_ (at_ + 3))).bind fun t104 => ((spec_l01In.f t104 1 20000).bind fun t105 => (if t105 = true then (if (wrap64 (((at_ + 7 : Nat) : Int) + t104)) > (d.size : Int) then (some (out, (at_ : Int), 18)) else (if 0 ≤ ((at_ + 7 : Nat) : Int) then (if ((at_ + 7 : Nat) : Int) ≤ (wrap64 (((at_ + 7 : Nat) : Int) + t104)) then (if (wrap64 (((at_ + 7 : Nat) : Int) + t104)) ≤ (d.size : Int) then ((spec_l08Frame.f k (d.extract (at_ + 7) ((wrap64 (((at_ + 7 : Nat) : Int) + t104)) : Int).toNat)).bind fun t106 => (if (at_ : Int) ≤ (wrap64 (((at_ + 7 : Nat) : Int) + t104)) then (if t106.toList = (d.extract at_ ((wrap64 (((at_ + 7 : Nat) : Int) + t104)) : Int).toNat).toList then (if out.length < 8796093022208 then (spec_l08Records.l0 k d (out ++ [d.extract (at_ + 7) ((wrap64 (((at_ + 7 : Nat) : Int) + t104)) : Int).toNat]) (wrap64 ((at_ : Int) + (wrap64 (7 + t104))))) else (none)) else (some (out, (at_ : Int), 8))) else (none))) else (none)) else (none)) else (none))) else (some (out, (at_ : Int), 8))))) := fun k => by
      simp only [spec_l08Records.l0, w7.out, w3.out, Int.toNat_natCast]
      rw [if_pos (by omega), if_neg (by omega), if_pos (by omega), if_pos (by omega), if_pos (by omega)]
    by_cases hr : 1 ≤ n ∧ n ≤ 20000
    · have wn : Aside0 (wrap64 (((at_ + 7 : Nat) : Int) + (n : Int)) = ((at_ + 7 + n : Nat) : Int)) := ⟨w64add (at_ + 7) n (by omega)⟩
      have wk : Aside0 (wrap64 ((at_ : Int) + wrap64 (7 + (n : Int))) = ((at_ + 7 + n : Nat) : Int)) := ⟨by
        have e1 : wrap64 (7 + (n : Int)) = ((7 + n : Nat) : Int) := w64add 7 n (by omega)
        rw [e1, w64add at_ (7 + n) (by clear e1; omega), Nat.add_assoc]⟩
      have hwi : spec_l01In.f (n : Int) 1 20000 = some true := by rw [l01In_eq]; simp; omega
      by_cases hlen : d.size - at_ < 7 + n
      · have hl := lookAt_more (d := bl d) (at_ := at_) (by rw [hRl]; exact h7) (by rw [hn]; exact hr) (by rw [hRl, hn]; exact hlen)
        refine ⟨fun c hc => ?_, fun r hr => by rw [hl] at hr; cases hr⟩
        rw [hl] at hc
        cases hc
        refine ⟨K1 + 1, fun k hk => ?_⟩
        obtain ⟨m, rfl⟩ : ∃ m, k = m + 1 := ⟨k - 1, by omega⟩
        simp only [e0, h1 m (by omega), Option.bind_some, hwi, if_true, wn.out]
        rw [if_pos (by omega)]
      · have hrec : bl (d.extract (at_ + 7) (at_ + 7 + n)) = (((bl d).drop at_).drop 7).take n := by rw [bl_extract, Nat.add_sub_cancel_left, List.drop_drop]
        have hall : bl (d.extract at_ (at_ + 7 + n)) = ((bl d).drop at_).take (7 + n) := by rw [bl_extract, Nat.add_assoc, Nat.add_sub_cancel_left]
        have hrl : (((bl d).drop at_).drop 7).length = d.size - at_ - 7 := by rw [List.length_drop, hRl]
        have hrn : ((((bl d).drop at_).drop 7).take n).length = n := by rw [List.length_take, hrl]; omega
        obtain ⟨K2, h2⟩ := specFrame_ev (d.extract (at_ + 7) (at_ + 7 + n)) (by rw [bl_size, hrec, hrn]; omega)
        rw [hrec] at h2
        by_cases hf : ((bl d).drop at_).take (7 + n) = frame ((((bl d).drop at_).drop 7).take n)
        · have hl := lookAt_rec (d := bl d) (at_ := at_) (by rw [hRl]; exact h7) (by rw [hn]; exact hr) (by rw [hRl, hn]; exact hlen) (by rw [hn]; exact hf)
          rw [hn] at hl
          refine ⟨fun c hc => (by rw [hl] at hc; cases hc), fun r hr2 => ?_⟩
          rw [hl] at hr2
          cases hr2
          refine ⟨⟨by rw [hrn]; omega, by rw [hrn]; omega, by rw [hrn]; omega⟩, fun q h3 => ?_⟩
          obtain ⟨K3, h3⟩ := h3
          refine ⟨K1 + K2 + K3 + 1, fun k hk => ?_⟩
          obtain ⟨m, rfl⟩ : ∃ m, k = m + 1 := ⟨k - 1, by omega⟩
          have h4 := h3 m (by omega)
          rw [hrn] at h4
          simp only [e0, h1 m (by omega), Option.bind_some, hwi, if_true, wn.out, wk.out, Int.toNat_natCast, h2 m (by omega)]
          have es : d.extract (at_ + 7) (at_ + 7 + n) = sm ((((bl d).drop at_).drop 7).take n) := bl_inj (by rw [bl_sm, hrec])
          rw [if_neg (by omega), if_pos (by omega), if_pos (by omega), if_pos (by omega), if_pos (by omega), if_pos (by rw [toList_bl, toList_bl, bl_sm, hall, hf]), if_pos (by omega), es]
          exact h4
        · have hl := lookAt_sum (d := bl d) (at_ := at_) (by rw [hRl]; exact h7) (by rw [hn]; exact hr) (by rw [hRl, hn]; exact hlen) (by rw [hn]; exact hf)
          refine ⟨fun c hc => ?_, fun r hr => by rw [hl] at hr; cases hr⟩
          rw [hl] at hc
          cases hc
          refine ⟨K1 + K2 + 1, fun k hk => ?_⟩
          obtain ⟨m, rfl⟩ : ∃ m, k = m + 1 := ⟨k - 1, by omega⟩
          simp only [e0, h1 m (by omega), Option.bind_some, hwi, if_true, wn.out, Int.toNat_natCast, h2 m (by omega)]
          rw [if_neg (by omega), if_pos (by omega), if_pos (by omega), if_pos (by omega), if_pos (by omega), if_neg (by rw [toList_bl, toList_bl, bl_sm, hall]; exact fun h => hf h.symm)]
    · have hwi : spec_l01In.f (n : Int) 1 20000 = some false := by rw [l01In_eq]; simp; omega
      have hl := lookAt_size (d := bl d) (at_ := at_) (by rw [hRl]; exact h7) (by rw [hn]; exact hr)
      refine ⟨fun c hc => ?_, fun r hr => by rw [hl] at hr; cases hr⟩
      rw [hl] at hc
      cases hc
      refine ⟨K1 + 1, fun k hk => ?_⟩
      obtain ⟨m, rfl⟩ : ∃ m, k = m + 1 := ⟨k - 1, by omega⟩
      simp only [e0, h1 m (by omega), Option.bind_some, hwi]
      rfl
/-- What both readers come to. -/
theorem recs_both (r0 s0 : Int) (d : ByteArray) (hd : d.size ≤ 1048576) : ∀ (m : Nat) (out : List ByteArray) (at_ : Nat), at_ ≤ d.size → d.size - at_ ≤ m → out.length ≤ at_ →
    ∃ q : List ByteArray × Int × Int, Ev (fun k => impl_Log_records.l0 k out (at_ : Int) r0 d s0) q ∧ Ev (fun k => spec_l08Records.l0 k d out (at_ : Int)) q ∧
      (0 ≤ q.2.1 ∧ q.2.1 ≤ d.size) ∧ (q.2.2 = 0 ∨ q.2.2 = 8 ∨ q.2.2 = 18) ∧ (q.1.length : Int) ≤ q.2.1 ∧ (∀ r ∈ q.1, r ∈ out ∨ (1 ≤ r.size ∧ r.size ≤ 20000)) := by
  intro m
  induction m with
  | zero =>
    intro out at_ ha hm ho
    refine ⟨(out, (at_ : Int), 0), ?_, ?_, ⟨by simp, by simpa using ha⟩, .inl rfl, by simpa using ho, fun r hr => .inl hr⟩
    · refine Ev.step (f := fun _ => some _) (fun k => ?_) (Ev.now _)
      simp only [impl_Log_records.l0]
      rw [if_neg (by omega)]
    · refine Ev.step (f := fun _ => some _) (fun k => ?_) (Ev.now _)
      simp only [spec_l08Records.l0]
      rw [if_neg (by omega)]
  | succ m ih =>
    intro out at_ ha hm ho
    by_cases hlt : at_ < d.size
    · obtain ⟨i1, i2⟩ := implRecs_step r0 s0 d hd out (by omega) at_ hlt
      obtain ⟨s1, s2⟩ := specRecs_step d hd out (by omega) at_ hlt
      cases hl : lookAt (bl d) at_ with
      | inl c =>
        refine ⟨_, i1 c hl, s1 c hl, ⟨by simp, by simpa using ha⟩, ?_, by simpa using ho, fun r hr => .inl hr⟩
        have : c = 8 ∨ c = 18 := by
          simp only [lookAt] at hl
          split at hl
          · cases hl; exact .inr rfl
          · split at hl
            · cases hl; exact .inl rfl
            · split at hl
              · cases hl; exact .inr rfl
              · split at hl
                · cases hl
                · cases hl; exact .inl rfl
        exact .inr this
      | inr r =>
        obtain ⟨⟨h1, h2, h3⟩, h4⟩ := i2 r hl
        obtain ⟨_, h5⟩ := s2 r hl
        obtain ⟨q, hq1, hq2, hq3, hq4, hq5, hq6⟩ := ih (out ++ [sm r]) (at_ + 7 + r.length) (by omega) (by omega) (by simp; omega)
        refine ⟨q, h4 q hq1, h5 q hq2, hq3, hq4, hq5, fun x hx => ?_⟩
        rcases hq6 x hx with h | h
        · rcases List.mem_append.1 h with h | h
          · exact .inl h
          · rw [List.mem_singleton] at h
            subst h
            exact .inr (by rw [sm_size]; exact ⟨h1, h2⟩)
        · exact .inr h
    · refine ⟨(out, (at_ : Int), 0), ?_, ?_, ⟨by simp, by simpa using ha⟩, .inl rfl, by simpa using ho, fun r hr => .inl hr⟩
      · refine Ev.step (f := fun _ => some _) (fun k => ?_) (Ev.now _)
        simp only [impl_Log_records.l0]
        rw [if_neg (by omega)]
      · refine Ev.step (f := fun _ => some _) (fun k => ?_) (Ev.now _)
        simp only [spec_l08Records.l0]
        rw [if_neg (by omega)]
theorem records_both (r0 s0 : Int) (d : ByteArray) (hd : d.size ≤ 1048576) :
    ∃ q : List ByteArray × Int × Int, Ev (fun k => impl_Log_records.f k r0 d s0) q ∧ Ev (fun k => spec_l08Records.f k d) q ∧
      (0 ≤ q.2.1 ∧ q.2.1 ≤ d.size) ∧ (q.2.2 = 0 ∨ q.2.2 = 8 ∨ q.2.2 = 18) ∧ (q.1.length : Int) ≤ q.2.1 ∧ (∀ r ∈ q.1, 1 ≤ r.size ∧ r.size ≤ 20000) := by
  obtain ⟨q, h1, h2, h3, h4, h5, h6⟩ := recs_both r0 s0 d hd d.size [] 0 (by omega) (by omega) (by simp)
  exact ⟨q, h1, h2, h3, h4, h5, fun r hr => by rcases h6 r hr with h | h; · cases h
                                               · exact h⟩
end Go.Proofs.Ytejdnbdppgakeaa.P
/- Lemmas of mine: the laws' marks on lists of texts: they are told, and found again. Plain. -/
set_option linter.unusedVariables false
set_option linter.unusedSimpArgs false
namespace Go.Proofs.Ytejdnbdppgakeaa.P
open Go.RowKit Go.Proofs.YtejdnbdppgakeaaW.PrintWords
theorem markText_l0 : ∀ (d n : Nat) (x : ByteArray), n < 10 ^ d → n ≤ 9223372036854775807 → x.size + d ≤ 1000 → ∃ t, Ev (fun k => laws_markText.l0 k (n : Int) x) t := by
  intro d
  induction d with
  | zero =>
    intro n x hn hn9 hx
    have : n = 0 := by simpa using hn
    subst this
    refine ⟨(⟨#[109]⟩ : ByteArray) ++ x, Ev.step (f := fun _ => some ((⟨#[109]⟩ : ByteArray) ++ x)) (fun k => ?_) (Ev.now _)⟩
    simp only [laws_markText.l0]
    rw [if_neg (by omega), if_pos (by omega)]
  | succ d ih =>
    intro n x hn hn9 hx
    by_cases h0 : n = 0
    · subst h0
      refine ⟨(⟨#[109]⟩ : ByteArray) ++ x, Ev.step (f := fun _ => some ((⟨#[109]⟩ : ByteArray) ++ x)) (fun k => ?_) (Ev.now _)⟩
      simp only [laws_markText.l0]
      rw [if_neg (by omega), if_pos (by omega)]
    · have hp : 10 ^ (d + 1) = 10 ^ d * 10 := rfl
      have hs : (strOfNums [(wrap64 (48 + (Int.tmod (n : Int) 10))) % 256]).size = 1 := by rw [strOfNums_size]; rfl
      obtain ⟨t, ht⟩ := ih (n / 10) (strOfNums [(wrap64 (48 + (Int.tmod (n : Int) 10))) % 256] ++ x) (by omega) (by omega) (by rw [ByteArray.size_append, hs]; omega)
      refine ⟨t, Ev.step (f := fun k => laws_markText.l0 k ((n / 10 : Nat) : Int) (strOfNums [(wrap64 (48 + (Int.tmod (n : Int) 10))) % 256] ++ x)) (fun k => ?_) ht⟩
      have hw : ∀ m : Int, 0 ≤ m → m ≤ n → wrap64 m = m ∨ True := fun _ _ _ => .inr trivial
      simp only [laws_markText.l0, Option.bind_some]
      rw [if_pos (by omega), if_pos (by rw [hs]; omega)]
      have hq : Int.tdiv (n : Int) 10 = ((n / 10 : Nat) : Int) := rfl
      rw [hq]
      rw [w64n _ (by omega)]
theorem markText_some (n : Nat) (hn : n < 10 ^ 18) : ∃ t, Ev (fun k => laws_markText.f k (n : Int)) t := by
  by_cases h0 : (n : Int) ≤ 0
  · refine ⟨(⟨#[109, 48]⟩ : ByteArray), ⟨0, fun k _ => ?_⟩⟩
    simp only [laws_markText.f]
    rw [if_pos h0]
  · obtain ⟨t, ht⟩ := markText_l0 18 n ⟨#[]⟩ hn (Nat.le_trans (Nat.le_of_lt hn) (by decide)) (by decide)
    refine ⟨t, Ev.congr (fun k => ?_) ht⟩
    simp only [laws_markText.f]
    rw [if_neg h0]
open Classical in
/-- The mark of a number. -/
noncomputable def mt (n : Nat) : ByteArray := if h : ∃ t, Ev (fun k => laws_markText.f k (n : Int)) t then h.choose else ⟨#[]⟩
theorem mt_ev (n : Nat) (hn : n < 10 ^ 18) : Ev (fun k => laws_markText.f k (n : Int)) (mt n) := by
  unfold mt
  rw [dif_pos (markText_some n hn)]
  exact (markText_some n hn).choose_spec
/-- Marks from a number on. -/
noncomputable def marks (n m : Nat) : List ByteArray := (List.range m).map fun i => mt (n + i)
theorem marks_length (n m : Nat) : (marks n m).length = m := by simp [marks]
theorem marks_get (n m i : Nat) (h : i < m) : (marks n m)[i]? = some (mt (n + i)) := by simp [marks, h]
theorem markS_l0 : ∀ (d i n : Nat) (xs : List ByteArray), i + d = xs.length → xs.length ≤ 4611686018427387904 → n + d < 10 ^ 18 →
    Ev (fun k => laws_markStringS.l0 k xs (n : Int) (i : Int)) (((n + d : Nat) : Int), xs.take i ++ marks n d) := by
  intro d
  induction d with
  | zero =>
    intro i n xs hi hx hn
    refine Ev.step (f := fun _ => some _) (fun k => ?_) (Ev.now _)
    simp only [laws_markStringS.l0]
    rw [if_neg (by omega), List.take_of_length_le (by omega)]
    simp [marks]
  | succ d ih =>
    intro i n xs hi hx hn
    obtain ⟨K1, h1⟩ := mt_ev n (by omega)
    have h2 := ih (i + 1) (n + 1) (xs.set i (mt n)) (by rw [List.length_set]; omega) (by rw [List.length_set]; omega) (by omega)
    obtain ⟨K2, h2⟩ := h2
    replace h1 : ∀ k, K1 ≤ k → laws_markText.f k (n : Int) = some (mt n) := h1
    replace h2 : ∀ k, K2 ≤ k → laws_markStringS.l0 k (xs.set i (mt n)) ((n + 1 : Nat) : Int) ((i + 1 : Nat) : Int) = _ := h2
    refine ⟨K1 + K2 + 1, fun k hk => ?_⟩
    obtain ⟨m, rfl⟩ : ∃ m, k = m + 1 := ⟨k - 1, by omega⟩
    simp only [laws_markStringS.l0, h1 m (by omega), Option.bind_some, Int.toNat_natCast]
    have hp : (10 : Nat) ^ 18 = 1000000000000000000 := by decide
    rw [if_pos (by omega), if_pos (by omega), w64s n (by omega), w64s i (by omega), h2 m (by omega)]
    have e : (xs.set i (mt n)).take (i + 1) ++ marks (n + 1) d = xs.take i ++ marks n (d + 1) := by
      rw [List.take_set, List.take_add_one, List.getElem?_eq_getElem (by omega)]
      have hl : (xs.take i).length = i := by rw [List.length_take]; omega
      rw [List.set_append_right _ _ (by omega), hl, Nat.sub_self]
      simp only [Option.toList, List.set_cons_zero, List.append_assoc, List.cons_append, List.nil_append]
      congr 1
      apply List.ext_getElem?
      intro j
      cases j with
      | zero => rw [marks_get n (d + 1) 0 (by omega)]; simp
      | succ j =>
        rw [List.getElem?_cons_succ]
        by_cases hj : j < d
        · rw [marks_get _ _ _ hj, marks_get _ _ _ (by omega)]
          congr 2
          omega
        · rw [List.getElem?_eq_none (by rw [marks_length]; omega), List.getElem?_eq_none (by rw [marks_length]; omega)]
    rw [e]
    congr 2
    omega
theorem markS_ev (xs : List ByteArray) (n : Nat) (hx : xs.length ≤ 4611686018427387904) (hn : n + xs.length < 10 ^ 18) : Ev (fun k => laws_markStringS.f k xs (n : Int)) (((n + xs.length : Nat) : Int), marks n xs.length) := by
  have h := markS_l0 xs.length 0 n xs (by omega) hx hn
  rw [List.take_zero, List.nil_append] at h
  exact h
theorem rdOf_get (xs : List ByteArray) (i : Nat) (x : ByteArray) (h : xs[i]? = some x) : rdOf ByteArray.empty xs (i : Int) = x := by
  simp [rdOf, List.getD_eq_getElem?_getD, h]
theorem heldS_l0 (n m : Nat) (hm : m ≤ 4611686018427387904) (hn : n + m < 10 ^ 18) : ∀ (d i : Nat), i + d = m →
    Ev (fun k => laws_heldStringS.l0 k (marks n m) ((n + i : Nat) : Int) (i : Int)) ((n + m : Nat) : Int) := by
  intro d
  induction d with
  | zero =>
    intro i hi
    refine Ev.step (f := fun _ => some _) (fun k => ?_) (Ev.now _)
    simp only [laws_heldStringS.l0, marks_length]
    rw [if_neg (by omega)]
    congr 2
    omega
  | succ d ih =>
    intro i hi
    obtain ⟨K1, h1⟩ := mt_ev (n + i) (by omega)
    obtain ⟨K2, h2⟩ := ih (i + 1) (by omega)
    refine ⟨K1 + K2 + 1, fun k hk => ?_⟩
    replace h1 : ∀ k, K1 ≤ k → laws_markText.f k ((n + i : Nat) : Int) = some (mt (n + i)) := h1
    obtain ⟨j, rfl⟩ : ∃ j, k = j + 1 := ⟨k - 1, by omega⟩
    have hp : (10 : Nat) ^ 18 = 1000000000000000000 := by decide
    simp only [laws_heldStringS.l0, h1 j (by omega), Option.bind_some, marks_length]
    rw [if_pos (by omega), if_pos (by omega), rdOf_get _ _ _ (marks_get n m i (by omega)), if_pos rfl, w64s (n + i) (by omega), w64s i (by omega)]
    exact h2 j (by omega)
theorem heldS_ev (n m : Nat) (hm : m ≤ 4611686018427387904) (hn : n + m < 10 ^ 18) : Ev (fun k => laws_heldStringS.f k (marks n m) (n : Int)) ((n + m : Nat) : Int) :=
  heldS_l0 n m hm hn m 0 (by omega)
theorem eqS_l0 (xs : List ByteArray) (hx : xs.length ≤ 4611686018427387904) : ∀ (d i : Nat), i + d = xs.length → Ev (fun k => laws_eqStringS.l0 k xs xs (i : Int)) true := by
  intro d
  induction d with
  | zero =>
    intro i hi
    refine Ev.step (f := fun _ => some _) (fun k => ?_) (Ev.now _)
    simp only [laws_eqStringS.l0]
    rw [if_neg (by omega)]
  | succ d ih =>
    intro i hi
    refine Ev.step (f := fun k => laws_eqStringS.l0 k xs xs ((i + 1 : Nat) : Int)) (fun k => ?_) (ih (i + 1) (by omega))
    simp only [laws_eqStringS.l0]
    rw [if_pos (by omega), if_pos (by omega), if_pos (by omega), if_pos trivial, w64s i (by omega)]
theorem eqS_self (xs : List ByteArray) (hx : xs.length ≤ 4611686018427387904) : Ev (fun k => laws_eqStringS.f k xs xs) true := by
  obtain ⟨K, h⟩ := eqS_l0 xs hx xs.length 0 (by omega)
  refine ⟨K, fun k hk => ?_⟩
  simp only [laws_eqStringS.f]
  rw [if_pos trivial]
  exact h k hk
end Go.Proofs.Ytejdnbdppgakeaa.P
/- The pure statement of the law FnExactLogRecords: the two LogRecords tell the same, in memory of their own. No condition. -/
set_option linter.unusedVariables false
set_option linter.unusedSimpArgs false
namespace Go.Proofs.Ytejdnbdppgakeaa.P
open Go.RowKit Go.Proofs.YtejdnbdppgakeaaW.PrintWords
theorem logRecords_both (r : Int) (d : ByteArray) (s : Int) : ∃ q : List ByteArray × Int × Int, Ev (fun k => impl_LogRecords.f k r d s) q ∧ Ev (fun k => spec_LogRecords.f k r d s) q ∧ q.1.length ≤ 1048576 := by
  by_cases hl : LogRight r d s
  · have hd : d.size ≤ 1048576 := by have := hl.2.1; have := hl.1.2; omega
    obtain ⟨⟨out, n, code⟩, h1, h2, ⟨h3, h4⟩, _, h5, _⟩ := records_both r s d hd
    obtain ⟨K, hK⟩ := Ev.and h1 h2
    simp only at h3 h4 h5
    refine ⟨(out, n, code), ⟨K, fun k hk => ?_⟩, ⟨K, fun k hk => ?_⟩, by simp only; omega⟩
    · obtain ⟨h1, _⟩ := hK k hk
      simp [impl_LogRecords.f, implLogOK_eq, hl, h1]
    · obtain ⟨_, h2⟩ := hK k hk
      simp [spec_LogRecords.f, specLogOK_eq, hl, h2]
  · refine ⟨([], 0, 1), ⟨0, fun k _ => ?_⟩, ⟨0, fun k _ => ?_⟩, by simp⟩
    · simp [impl_LogRecords.f, implLogOK_eq, hl]
    · simp [spec_LogRecords.f, specLogOK_eq, hl]
end Go.Proofs.Ytejdnbdppgakeaa.P
namespace Go.Proofs.Ytejdnbdppgakeaa.Pure
open Go.RowKit Go.Proofs.Ytejdnbdppgakeaa.P Go.Proofs.YtejdnbdppgakeaaW.PrintWords
theorem FnExactLogRecords : laws_FnExactLogRecords.Pure := by
  intro l hl
  obtain ⟨z, hz⟩ := szLog_some l.f0 l.f1 l.f2 1048576
  obtain ⟨⟨xs, n, c⟩, ⟨K1, h1⟩, ⟨K2, h2⟩, h3⟩ := logRecords_both l.f0 l.f1 l.f2
  simp only at h3
  have hp : (10 : Nat) ^ 18 = 1000000000000000000 := by decide
  obtain ⟨K3, h4⟩ := eqS_self xs (by omega)
  obtain ⟨K4, h5⟩ := markS_ev xs 1 (by omega) (by omega)
  obtain ⟨K5, h6⟩ := heldS_ev 1 xs.length (by omega) (by omega)
  refine ⟨K1 + K2 + K3 + K4 + K5 + 2, ?_⟩
  have e : ∀ j : Nat, K1 + K2 + K3 + K4 + K5 ≤ j → laws_FnExactLogRecords.j1 (j + 1) (marks 1 xs.length) ((1 + xs.length : Nat) : Int) false = some true := fun j hj => by
    simp only [laws_FnExactLogRecords.j1]
    have h6' := h6 j (by omega)
    rw [show ((1 : Nat) : Int) = 1 from rfl] at h6'
    simp only [h6', Option.bind_some]
    rw [if_neg (by decide), if_neg (by omega), if_pos trivial]
  have e2 : ∀ j : Nat, K1 + K2 + K3 + K4 + K5 ≤ j → laws_FnExactLogRecords.j0 (j + 1 + 1) xs n c xs false l.f0 l.f1 l.f2 = some true := fun j hj => by
    simp only [laws_FnExactLogRecords.j0]
    have h5' := h5 (j + 1) (by omega)
    have h6' := h6 (j + 1) (by omega)
    rw [show ((1 : Nat) : Int) = 1 from rfl] at h5' h6'
    simp only [h5', h6', Option.bind_some, laws_toLog.f, h1 (j + 1) (by omega), h4 (j + 1) (by omega)]
    rw [if_neg (by decide), if_neg (by omega)]
    simp only [if_true]
    have : (c != c) = false := by simp
    rw [this]
    exact e j hj
  simp only [laws_FnExactLogRecords.f, hz, Option.bind_some, laws_toLog.f, h1 (K1 + K2 + K3 + K4 + K5 + 2) (by omega), h2 (K1 + K2 + K3 + K4 + K5 + 2) (by omega), h4 (K1 + K2 + K3 + K4 + K5 + 2) (by omega), if_true]
  split
  · rfl
  · have : (c != c) = false := by simp
    rw [this]
    exact e2 _ (Nat.le_refl _)
end Go.Proofs.Ytejdnbdppgakeaa.Pure
/- The row of the law FnExactLogRecords: for every input the call returns true and each argument reads behind the call as it read before. No condition of mine. -/
namespace Go.Proofs.Ytejdnbdppgakeaa.fnExactLogRecords
open Go.ChangeShapes Go.WideShapes Go.ChangeAt Go.RowKit Go.Proofs.Ytejdnbdppgakeaa.P Go.Proofs.YtejdnbdppgakeaaW.PrintWords
open Go.ChangeMaps (open_string shut_string)
set_option linter.unusedVariables false
theorem own : ownKnob Try.prog.godebug = none := by kernel_rfl
theorem laidOut : laidOutB Try.prog = true := by kernel_rfl
set_option maxRecDepth 100000 in
theorem lifted (os : Os) (started : os.Started) (H : Type) (enc : TypeId × Value → H) :
    ReturnsInHanded {} Try.checked os 13 .any (Rows.fnExactLogRecordsSpec.pre6 enc Try.prog Try.f13 Rows.fnExactLogRecordsRow.domain false) (Rows.fnExactLogRecordsSpec.post enc Try.prog Try.f13 false true false false) := by
  refine returnsInHanded_of_change_sized (C := Try.checked) own started (by kernel_rfl) Try.func13
    (ChangeSpec.witness6 (enc := enc) (C := Try.checked) false ⟨#[], #[.agg #[.int .i64 0, .string ByteArray.empty, .int .i64 0]], []⟩ 8 (by kernel_rfl) (by kernel_rfl) (by kernel_rfl) (by kernel_rfl)) ?_
  intro W base args ds gs before hval0 hW hcnd hsz0 _
  have hsz : (DataW.weightsEach Try.prog (Try.f13.params.toList ++ Rows.fnExactLogRecordsSpec.plain.varTypes Try.prog) (ds ++ gs)).all (· ≤ reachBytes) = true := hsz0
  have hval : ∀ (j : Nat) t v, Try.f13.params[j]? = some t → args[j]? = some v → Value.okWide Try.prog W .any base t v := hval0
  have hW' := hW
  obtain ⟨p, q, hA0, hV, rfl, hfz, hnd⟩ := hW
  have hA : DataW.TrodAll enc Try.prog W 0 (fun _ => true) true Try.f13.params.toList args.toList ds p := hA0
  rw [Try.params13] at hA hval hsz
  obtain ⟨v0, vs0, d0, ds0, p0, q0, hargs, rfl, rfl, h0, r0⟩ := trodAll_cons hA
  obtain ⟨rfl, rfl, rfl⟩ := trodAll_nil r0
  obtain rfl : args = #[v0] := by cases args; simp_all
  obtain ⟨rfl, rfl⟩ := trodVars_none hV
  have kk0 := h0
  have lt0 : ∀ x ∈ p0, x.block < W.heap.size := by obtain ⟨m, hm⟩ := kk0; exact DataW.trod_lt m _ _ _ hm
  obtain ⟨x0, hK0, hS0⟩ := Tells.arg tells23 h0 hsz (j := 0) (t := 23) rfl rfl
  obtain ⟨cs0, rfl, _⟩ := okWide_struct Try.underlying23 (hval 0 23 v0 rfl rfl)
  have hq0 := k23_open hK0
  obtain rfl : cs0 = #[.int .i64 x0.f0, .string x0.f1, .int .i64 x0.f2] := Array.toList_inj.1 (by simpa [Value.cells] using hq0)
  clear hA0 hval0 hsz0 hsz
  obtain ⟨k, h⟩ := Pure.FnExactLogRecords x0 hS0
  refine (laws_FnExactLogRecords.calls k x0.f0 x0.f1 x0.f2 true W  h).mono fun e W' ⟨he, bel0⟩ => ?_
  have bel : Below W.heap.size W W' := bel0
  subst he
  exact ⟨_, rfl, _, _, _, [], _, [], hW', trodAll_mk1 (shut_bool Try.underlying4 _), (trodAll_cons_mk (Below.trod laidOut (by kernel_rfl) (of_decide_eq_true (by kernel_rfl)) kk0 bel lt0) trodAll_mk0), rfl, bel.frame _, fun h => by cases h⟩
theorem over : Rows.fnExactLogRecordsRow.holds Try.pinned (OpenSpec.ofChange Rows.fnExactLogRecordsSpec) :=
  OpenClaim.holds_of_wide 13 Try.f13 rfl rfl rfl rfl rfl rfl rfl ⟨rfl, rfl, rfl, rfl, rfl⟩ rfl rfl rfl rfl rfl (by kernel_rfl) Try.func13 (by kernel_rfl)
    (of_decide_eq_true (by kernel_rfl)) (by unfold Func.isWrapper; first | (rw [if_pos (by decide +kernel)]; kernel_rfl) | (rw [if_neg (by decide +kernel)]; exact ⟨rfl, rfl⟩))
    (fun os started H enc _ => lifted os started H enc)
theorem proved : Rows.FnExactLogRecordsSaid := over
#print axioms proved
end Go.Proofs.Ytejdnbdppgakeaa.fnExactLogRecords
namespace Go.Proofs.Ytejdnbdppgakeaa
/-- The row, under a short name, for the claim. -/
theorem fnExactLogRecords_holds : Rows.FnExactLogRecordsSaid := fnExactLogRecords.proved
end Go.Proofs.Ytejdnbdppgakeaa
