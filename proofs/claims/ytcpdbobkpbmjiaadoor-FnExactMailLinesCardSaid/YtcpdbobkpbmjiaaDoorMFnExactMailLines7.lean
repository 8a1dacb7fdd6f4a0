/- Part 7 of what the law FnExactMailLines stands on; the last part ends with the law's row. No condition of mine. -/
import Derived.Test.YtcpdbobkpbmjiaaDoorMFnExactMailLines1
import Derived.Test.YtcpdbobkpbmjiaaDoorMFnExactMailLines6
import Derived.Test.YtcpdbobkpbmjiaaDoorMFnExactMailLines2
import Derived.Shelf.Strings.Split
import Derived.Test.YtcpdbobkpbmjiaaDoorMFnExactMailLines4
import Derived.Lib.Strings
import Derived.Lib.IndexBytes
import Derived.Laws.BitsLemmas
import Derived.IntWalk
import Derived.Test.YtcpdbobkpbmjiaaDoorMFnExactMailLines5
import Derived.Test.YtcpdbobkpbmjiaaDoorMFnExactMailLines3
namespace Go.Proofs.YtcpdbobkpbmjiaaDoor.P
open Go.RowKit Go.Proofs.YtcpdbobkpbmjiaaDoorW.PrintWords Go.Proofs.YtcpdbobkpbmjiaaDoorW.PrintLast Go.Proofs.YtcpdbobkpbmjiaaDoorW.PrintMore
attribute [local go_sem] max2_int min2_int max_two min_two max_three min_three max_four min_four   -- for this text's walks alone
set_option linter.unusedVariables false
set_option linter.unusedSimpArgs false

/-! ### impl_ParseMail: function 11 -/
def impl_ParseMail.f (k : Nat) (a0 : ByteArray) : Option ((List (S49)) × ByteArray × Int) := if (a0.size : Int) > 65536 then (some (([] : List (S49)), (⟨#[]⟩ : ByteArray), 2)) else ((impl_parseMail.f k a0).bind fun bt102 => (if bt102.2.2 = true then (some (bt102.1, bt102.2.1, 0)) else (some (([] : List (S49)), (⟨#[]⟩ : ByteArray), 3))))
theorem impl_ParseMail.mono : ∀ a0 k, LeO (impl_ParseMail.f k a0) (impl_ParseMail.f (k + 1) a0) := by
 intro a0 k
 unfold impl_ParseMail.f
 repeat' first
   | (with_reducible exact impl_parseMail.mono _ _)
   | (with_reducible exact LeO.refl _)
   | (with_reducible exact LeO.none _)
   | (with_reducible refine LeO.ite ?_ ?_)
   | (with_reducible refine LeO.bind ?_ (fun _ => ?_))
   | exact impl_parseMail.mono _ _
   | exact LeO.none _
   | refine LeO.ite ?_ ?_
   | refine LeO.bind ?_ (fun _ => ?_)
set_option maxHeartbeats 8000000 in
set_option maxRecDepth 100000 in
theorem impl_ParseMail.calls (k : Nat) (a0 : ByteArray) (r1 : List (S49)) (r2 : ByteArray) (r3 : Int) (w : World) (hGWm : GWm w) (h : impl_ParseMail.f k a0 = some (r1, r2, r3)) :
  Calls Tryd.prog 11 #[.string a0] w fun e w' => ∃ v0_ : Value, e = .returned (.tuple #[.agg #[v0_, .string r2], .int .i64 r3]) ∧ Kd.R k49 49 w' w.heap.size (fun _ => True) v0_ r1 ∧ Below w.heap.size w w' := by
 have HGWm := Aside0.mk hGWm
 clear hGWm
 have hu30 := Tryd.underlying30
 have HB := Aside0.mk (Below.refl w.heap.size w)
 have H : (if (a0.size : Int) > 65536 then (some (([] : List (S49)), (⟨#[]⟩ : ByteArray), 2)) else ((impl_parseMail.f k a0).bind fun bt102 => (if bt102.2.2 = true then (some (bt102.1, bt102.2.1, 0)) else (some (([] : List (S49)), (⟨#[]⟩ : ByteArray), 3))))) = some (r1, r2, r3) := h
 clear h
 by_cases c2 : (a0.size : Int) > 65536
 ·rw [if_pos c2] at H
  have c2b0 : decide (65536 < (a0.size : Int)) = true := decide_eq_true c2
  have c2b1 : decide (65536 < a0.size) = true := decide_eq_true (by omega)
  clear c2
  simp only [Option.some.injEq, Prod.mk.injEq] at H
  obtain ⟨rfl, rfl, rfl⟩ := H
  go_enter Tryd.func11, Tryd.ntmps11
  go_wp2_with (first | ((with_reducible refine gate_dst (N := 2) rfl ?_); refine box_event ?hg (N := 2) ?hd (cs := #[.slice none 0 0, .string (⟨#[]⟩ : ByteArray)]) (t := 30) ?hr ?_; (case hd => rfl); (case hg => rfl); (case hr => first | (go_simp; done) | (go_simp; rfl)); intro gb101 hg w3 hbox hb; have n0_ := Aside0.mk (below_step (by repeat (first | (with_reducible first | exact HB.out | apply below_alloc | apply pw_below_drewN | apply below_drew1) | exact HB.out)) hb); have n1_ := Aside0.mk (hbox); have n2_ := Aside0.mk ((by rw [hg]; exact (below_size (by repeat (first | (with_reducible first | exact HB.out | apply below_alloc | apply pw_below_drewN | apply below_drew1) | exact HB.out))) : w.heap.size ≤ gb101)); have n3_ := Aside0.mk ((by rw [hg]; exact (below_size (by repeat (first | (with_reducible first | exact HB.out | apply below_alloc | apply pw_below_drewN | apply below_drew1) | exact HB.out))) : w.heap.size ≤ gb101)); clear HB; have HB := n0_; have BK101 := n1_; have GW101 := n2_; have GE101 := n3_; clear n0_ n1_ n2_ n3_; clear hb hbox hg; have hcz4_0 : w3.cell? ⟨gb101, 0, none⟩ = some (.slice none 0 0) := (blk_cell BK101.out 0).trans rfl; have hcz4_1 : w3.cell? ⟨gb101, 1, none⟩ = some (.string (⟨#[]⟩ : ByteArray)) := (blk_cell BK101.out 1).trans rfl; have hfz4_0 := blk_frozen BK101.out 0; have hfz4_1 := blk_frozen BK101.out 1))
  refine bodyPost_ret (results_ct rfl _ _ gb101 30 #[.slice none 0 0, .string (⟨#[]⟩ : ByteArray)] (0, 0) _ rfl (by (with_reducible repeat (first | refine blk_drewN ?_ _ | refine blk_drew ?_ | refine blk_alloc ?_ _)); refine blk_put (cs := #[.slice none 0 0, .string (⟨#[]⟩ : ByteArray)]) ?_ 1 _ rfl; (with_reducible repeat (first | refine blk_drewN ?_ _ | refine blk_drew ?_ | refine blk_alloc ?_ _)); refine blk_put (cs := #[.slice none 0 0, .string (⟨#[]⟩ : ByteArray)]) ?_ 0 _ rfl; (with_reducible repeat (first | refine blk_drewN ?_ _ | refine blk_drew ?_ | refine blk_alloc ?_ _)); exact BK101.out) Tryd.underlying30 rfl (by kernel_rfl)) rfl ?_
  exact ⟨_, by first | rfl | (simp [errW_none, errW_some] <;> rfl) | (simp [*, errW_none, errW_some] <;> rfl), by first | exact Kd.R_nil _ _ _ _ _ | exact Kd.N_nil _ _ _ _ _ | exact Kd.V_nil _ _ _ _ _ | exact Kd.Q_nil _ _ _ _ _ | exact Kd.S_nil _ _ _ _ _, by repeat (first | (with_reducible first | exact HB.out | apply below_alloc | apply pw_below_drewN | apply below_drew1 | refine below_set ?_ GE101.out) | exact HB.out)⟩
 ·rw [if_neg c2] at H
  have c2b0 : decide (65536 < (a0.size : Int)) = false := decide_eq_false c2
  have c2b1 : decide (65536 < a0.size) = false := decide_eq_false (by omega)
  clear c2
  replace H := Option.bind_eq_some_iff.mp H
  obtain ⟨⟨t102, t105, t106⟩, A50, H⟩ := H
  replace H : (if t106 = true then (some (t102, t105, 0)) else (some (([] : List (S49)), (⟨#[]⟩ : ByteArray), 3))) = some (r1, r2, r3) := H
  have A5 := Aside0.mk A50
  clear A50
  by_cases c6 : t106 = true
  ·subst c6
   have H1 : (some (t102, t105, 0)) = some (r1, r2, r3) := by rw [if_pos rfl] at H; exact H
   clear H
   have H := H1
   clear H1
   simp only [Option.some.injEq, Prod.mk.injEq] at H
   obtain ⟨rfl, rfl, rfl⟩ := H
   go_enter Tryd.func11, Tryd.ntmps11
   go_wp2_with (first | ((with_reducible refine gate_dst (N := 2) rfl ?_); refine box_event ?hg (N := 2) ?hd (cs := #[.slice none 0 0, .string (⟨#[]⟩ : ByteArray)]) (t := 30) ?hr ?_; (case hd => rfl); (case hg => rfl); (case hr => first | (go_simp; done) | (go_simp; rfl)); intro gb101 hg w7 hbox hb; have n0_ := Aside0.mk (below_step (by repeat (first | (with_reducible first | exact HB.out | apply below_alloc | apply pw_below_drewN | apply below_drew1) | exact HB.out)) hb); have n1_ := Aside0.mk (hbox); have n2_ := Aside0.mk ((by rw [hg]; exact (below_size (by repeat (first | (with_reducible first | exact HB.out | apply below_alloc | apply pw_below_drewN | apply below_drew1) | exact HB.out))) : w.heap.size ≤ gb101)); have n3_ := Aside0.mk ((by rw [hg]; exact (below_size (by repeat (first | (with_reducible first | exact HB.out | apply below_alloc | apply pw_below_drewN | apply below_drew1) | exact HB.out))) : w.heap.size ≤ gb101)); clear HB; have HB := n0_; have BK101 := n1_; have GW101 := n2_; have GE101 := n3_; clear n0_ n1_ n2_ n3_; clear hb hbox hg) | ((with_reducible refine gate_callee (f := 18) rfl ?_); refine goesL_ (some 12) rfl rfl Tryd.func18 (by kernel_rfl) rfl #[.string a0] rfl (by (try simp only [List.map_toArray, List.map_cons, List.map_nil]); first | done | rfl | (simp only [List.length_drop, List.length_take]; rfl)) ?_; (with_reducible refine (impl_parseMail.calls k a0 t102 t105 true _ (GWm.below HGWm.out (by repeat (first | (with_reducible first | exact HB.out | apply below_alloc | apply pw_below_drewN | apply below_drew1 | refine below_set ?_ GE101.out) | exact HB.out))) A5.out).mono ?_); rintro e w8 ⟨v103, rfl, ho0, hb⟩; refine ⟨_, rfl, ?_⟩; have n0_ := Aside0.mk (Kd.R_lower ho0 (below_size (by repeat (first | (with_reducible first | exact HB.out | apply below_alloc | apply pw_below_drewN | apply below_drew1 | refine below_set ?_ GE101.out) | exact HB.out)))); have n1_ := Aside0.mk (blk_below (g := gb101) (o := .cells #[.slice none 0 0, .string (⟨#[]⟩ : ByteArray)] 30 (0, 0)) (by (with_reducible repeat (first | refine blk_drewN ?_ _ | refine blk_drew ?_ | refine blk_alloc ?_ _)); exact BK101.out) hb); have n2_ := Aside0.mk (below_step (by repeat (first | (with_reducible first | exact HB.out | apply below_alloc | apply pw_below_drewN | apply below_drew1 | refine below_set ?_ GE101.out) | exact HB.out)) hb); clear BK101; clear HB; have HO104 := n0_; have BK101 := n1_; have HB := n2_; clear n0_ n1_ n2_; (try clear hb); (try clear hb2); (try clear hk); (try clear hi); (try clear ho0)) | ((with_reducible refine gate_dst (N := 4) rfl ?_); refine box_event ?hg (N := 4) ?hd (cs := #[.slice none 0 0, .string (⟨#[]⟩ : ByteArray)]) (t := 30) ?hr ?_; (case hd => rfl); (case hg => rfl); (case hr => first | (go_simp; done) | (go_simp; rfl)); intro gb107 hg w9 hbox hb; have n0_ := Aside0.mk (Kd.R_below (by (with_reducible repeat (first | apply Kd.R_alloc | apply Kd.R_drewN | apply Kd.R_drew)); exact HO104.out) hb); have n1_ := Aside0.mk (blk_below (g := gb101) (o := .cells #[.slice none 0 0, .string (⟨#[]⟩ : ByteArray)] 30 (0, 0)) (by (with_reducible repeat (first | refine blk_drewN ?_ _ | refine blk_drew ?_ | refine blk_alloc ?_ _)); exact BK101.out) hb); have n2_ := Aside0.mk (below_step (by repeat (first | (with_reducible first | exact HB.out | apply below_alloc | apply pw_below_drewN | apply below_drew1 | refine below_set ?_ GE101.out) | exact HB.out)) hb); have n3_ := Aside0.mk (hbox); have n4_ := Aside0.mk ((by rw [hg]; exact (below_size (by repeat (first | (with_reducible first | exact HB.out | apply below_alloc | apply pw_below_drewN | apply below_drew1 | refine below_set ?_ GE101.out) | exact HB.out))) : w.heap.size ≤ gb107)); have n5_ := Aside0.mk ((by rw [hg]; exact (below_size (by repeat (first | (with_reducible first | exact HB.out | apply below_alloc | apply pw_below_drewN | apply below_drew1 | refine below_set ?_ GE101.out) | exact HB.out))) : w.heap.size ≤ gb107)); have n6_ := Aside0.mk ((by rw [hg]; exact Nat.ne_of_lt (blk_lt (g := gb101) (o := .cells #[.slice none 0 0, .string (⟨#[]⟩ : ByteArray)] 30 (0, 0)) (by (with_reducible repeat (first | refine blk_drewN ?_ _ | refine blk_drew ?_ | refine blk_alloc ?_ _)); exact BK101.out)) : gb101 ≠ gb107)); have n7_ := Aside0.mk ((by rw [hg]; exact Nat.ne_of_gt (blk_lt (g := gb101) (o := .cells #[.slice none 0 0, .string (⟨#[]⟩ : ByteArray)] 30 (0, 0)) (by (with_reducible repeat (first | refine blk_drewN ?_ _ | refine blk_drew ?_ | refine blk_alloc ?_ _)); exact BK101.out)) : gb107 ≠ gb101)); clear HO104; clear BK101; clear HB; have HO104 := n0_; have BK101 := n1_; have HB := n2_; have BK107 := n3_; have GW107 := n4_; have GE107 := n5_; have NB101_107 := n6_; have NB107_101 := n7_; clear n0_ n1_ n2_ n3_ n4_ n5_ n6_ n7_; clear hb hbox hg; obtain ⟨Ao10, co10, eo10⟩ := Kd.R_slice HO104.out; subst eo10; have hnb11 := NB107_101.out; have hnc11 := NB101_107.out; have hcz12_0 : w9.cell? ⟨gb107, 0, none⟩ = some (.slice none 0 0) := (blk_cell BK107.out 0).trans rfl; have hcz12_1 : w9.cell? ⟨gb107, 1, none⟩ = some (.string (⟨#[]⟩ : ByteArray)) := (blk_cell BK107.out 1).trans rfl; have hfz12_0 := blk_frozen BK107.out 0; have hfz12_1 := blk_frozen BK107.out 1; have hcz13_0 : w9.cell? ⟨gb101, 0, none⟩ = some (.slice none 0 0) := (blk_cell BK101.out 0).trans rfl; have hcz13_1 : w9.cell? ⟨gb101, 1, none⟩ = some (.string (⟨#[]⟩ : ByteArray)) := (blk_cell BK101.out 1).trans rfl; have hfz13_0 := blk_frozen BK101.out 0; have hfz13_1 := blk_frozen BK101.out 1))
   refine bodyPost_ret (results_ct rfl _ _ gb101 30 #[.slice Ao10 t102.length co10, .string t105] (0, 0) _ rfl (by (with_reducible repeat (first | refine blk_drewN ?_ _ | refine blk_drew ?_ | refine blk_alloc ?_ _)); refine blk_put (cs := #[.slice Ao10 t102.length co10, .string (⟨#[]⟩ : ByteArray)]) ?_ 1 _ rfl; (with_reducible repeat (first | refine blk_drewN ?_ _ | refine blk_drew ?_ | refine blk_alloc ?_ _)); refine blk_put (cs := #[.slice none 0 0, .string (⟨#[]⟩ : ByteArray)]) ?_ 0 _ rfl; (with_reducible repeat (first | refine blk_drewN ?_ _ | refine blk_drew ?_ | refine blk_alloc ?_ _)); refine blk_far ?_ NB101_107.out _; (with_reducible repeat (first | refine blk_drewN ?_ _ | refine blk_drew ?_ | refine blk_alloc ?_ _)); refine blk_far ?_ NB101_107.out _; (with_reducible repeat (first | refine blk_drewN ?_ _ | refine blk_drew ?_ | refine blk_alloc ?_ _)); exact BK101.out) Tryd.underlying30 rfl (by kernel_rfl)) rfl ?_
   exact ⟨_, by first | rfl | (simp [errW_none, errW_some] <;> rfl) | (simp [*, errW_none, errW_some] <;> rfl), by (with_reducible repeat (first | apply Kd.R_alloc | apply Kd.R_drewN | apply Kd.R_drew)); exact Kd.R_mono (Kd.R_far (p := ⟨gb101, 1, none⟩) (Kd.R_far (p := ⟨gb101, 0, none⟩) (Kd.R_far (p := ⟨gb107, 1, none⟩) (Kd.R_far (p := ⟨gb107, 0, none⟩) (Kd.R_types (Kd.R_types HO104.out BK107.out (by decide)) BK101.out (by decide)) (fun _ hk => hk.1.2) (.slice Ao10 t102.length co10)) (fun _ hk => hk.1.2) (.string t105)) (fun _ hk => hk.2) (.slice Ao10 t102.length co10)) (fun _ hk => hk.2) (.string t105)) (fun _ hk => trivial), by repeat (first | (with_reducible first | exact HB.out | apply below_alloc | apply pw_below_drewN | apply below_drew1 | refine below_set ?_ GE101.out | refine below_set ?_ GE107.out) | exact HB.out)⟩
  ·replace c6 := Bool.eq_false_iff.mpr c6
   subst c6
   have H1 : (some (([] : List (S49)), (⟨#[]⟩ : ByteArray), 3)) = some (r1, r2, r3) := by rw [if_neg (show ¬ (false = true) by decide)] at H; exact H
   clear H
   have H := H1
   clear H1
   simp only [Option.some.injEq, Prod.mk.injEq] at H
   obtain ⟨rfl, rfl, rfl⟩ := H
   go_enter Tryd.func11, Tryd.ntmps11
   go_wp2_with (first | ((with_reducible refine gate_dst (N := 2) rfl ?_); refine box_event ?hg (N := 2) ?hd (cs := #[.slice none 0 0, .string (⟨#[]⟩ : ByteArray)]) (t := 30) ?hr ?_; (case hd => rfl); (case hg => rfl); (case hr => first | (go_simp; done) | (go_simp; rfl)); intro gb101 hg w14 hbox hb; have n0_ := Aside0.mk (below_step (by repeat (first | (with_reducible first | exact HB.out | apply below_alloc | apply pw_below_drewN | apply below_drew1) | exact HB.out)) hb); have n1_ := Aside0.mk (hbox); have n2_ := Aside0.mk ((by rw [hg]; exact (below_size (by repeat (first | (with_reducible first | exact HB.out | apply below_alloc | apply pw_below_drewN | apply below_drew1) | exact HB.out))) : w.heap.size ≤ gb101)); have n3_ := Aside0.mk ((by rw [hg]; exact (below_size (by repeat (first | (with_reducible first | exact HB.out | apply below_alloc | apply pw_below_drewN | apply below_drew1) | exact HB.out))) : w.heap.size ≤ gb101)); clear HB; have HB := n0_; have BK101 := n1_; have GW101 := n2_; have GE101 := n3_; clear n0_ n1_ n2_ n3_; clear hb hbox hg) | ((with_reducible refine gate_callee (f := 18) rfl ?_); refine goesL_ (some 12) rfl rfl Tryd.func18 (by kernel_rfl) rfl #[.string a0] rfl (by (try simp only [List.map_toArray, List.map_cons, List.map_nil]); first | done | rfl | (simp only [List.length_drop, List.length_take]; rfl)) ?_; (with_reducible refine (impl_parseMail.calls k a0 t102 t105 false _ (GWm.below HGWm.out (by repeat (first | (with_reducible first | exact HB.out | apply below_alloc | apply pw_below_drewN | apply below_drew1 | refine below_set ?_ GE101.out) | exact HB.out))) A5.out).mono ?_); rintro e w15 ⟨v103, rfl, ho0, hb⟩; refine ⟨_, rfl, ?_⟩; have n0_ := Aside0.mk (Kd.R_lower ho0 (below_size (by repeat (first | (with_reducible first | exact HB.out | apply below_alloc | apply pw_below_drewN | apply below_drew1 | refine below_set ?_ GE101.out) | exact HB.out)))); have n1_ := Aside0.mk (blk_below (g := gb101) (o := .cells #[.slice none 0 0, .string (⟨#[]⟩ : ByteArray)] 30 (0, 0)) (by (with_reducible repeat (first | refine blk_drewN ?_ _ | refine blk_drew ?_ | refine blk_alloc ?_ _)); exact BK101.out) hb); have n2_ := Aside0.mk (below_step (by repeat (first | (with_reducible first | exact HB.out | apply below_alloc | apply pw_below_drewN | apply below_drew1 | refine below_set ?_ GE101.out) | exact HB.out)) hb); clear BK101; clear HB; have HO104 := n0_; have BK101 := n1_; have HB := n2_; clear n0_ n1_ n2_; (try clear hb); (try clear hb2); (try clear hk); (try clear hi); (try clear ho0)) | ((with_reducible refine gate_dst (N := 4) rfl ?_); refine box_event ?hg (N := 4) ?hd (cs := #[.slice none 0 0, .string (⟨#[]⟩ : ByteArray)]) (t := 30) ?hr ?_; (case hd => rfl); (case hg => rfl); (case hr => first | (go_simp; done) | (go_simp; rfl)); intro gb107 hg w16 hbox hb; have n0_ := Aside0.mk (Kd.R_below (by (with_reducible repeat (first | apply Kd.R_alloc | apply Kd.R_drewN | apply Kd.R_drew)); exact HO104.out) hb); have n1_ := Aside0.mk (blk_below (g := gb101) (o := .cells #[.slice none 0 0, .string (⟨#[]⟩ : ByteArray)] 30 (0, 0)) (by (with_reducible repeat (first | refine blk_drewN ?_ _ | refine blk_drew ?_ | refine blk_alloc ?_ _)); exact BK101.out) hb); have n2_ := Aside0.mk (below_step (by repeat (first | (with_reducible first | exact HB.out | apply below_alloc | apply pw_below_drewN | apply below_drew1 | refine below_set ?_ GE101.out) | exact HB.out)) hb); have n3_ := Aside0.mk (hbox); have n4_ := Aside0.mk ((by rw [hg]; exact (below_size (by repeat (first | (with_reducible first | exact HB.out | apply below_alloc | apply pw_below_drewN | apply below_drew1 | refine below_set ?_ GE101.out) | exact HB.out))) : w.heap.size ≤ gb107)); have n5_ := Aside0.mk ((by rw [hg]; exact (below_size (by repeat (first | (with_reducible first | exact HB.out | apply below_alloc | apply pw_below_drewN | apply below_drew1 | refine below_set ?_ GE101.out) | exact HB.out))) : w.heap.size ≤ gb107)); have n6_ := Aside0.mk ((by rw [hg]; exact Nat.ne_of_lt (blk_lt (g := gb101) (o := .cells #[.slice none 0 0, .string (⟨#[]⟩ : ByteArray)] 30 (0, 0)) (by (with_reducible repeat (first | refine blk_drewN ?_ _ | refine blk_drew ?_ | refine blk_alloc ?_ _)); exact BK101.out)) : gb101 ≠ gb107)); have n7_ := Aside0.mk ((by rw [hg]; exact Nat.ne_of_gt (blk_lt (g := gb101) (o := .cells #[.slice none 0 0, .string (⟨#[]⟩ : ByteArray)] 30 (0, 0)) (by (with_reducible repeat (first | refine blk_drewN ?_ _ | refine blk_drew ?_ | refine blk_alloc ?_ _)); exact BK101.out)) : gb107 ≠ gb101)); clear HO104; clear BK101; clear HB; have HO104 := n0_; have BK101 := n1_; have HB := n2_; have BK107 := n3_; have GW107 := n4_; have GE107 := n5_; have NB101_107 := n6_; have NB107_101 := n7_; clear n0_ n1_ n2_ n3_ n4_ n5_ n6_ n7_; clear hb hbox hg; obtain ⟨Ao17, co17, eo17⟩ := Kd.R_slice HO104.out; subst eo17; have hnb18 := NB107_101.out; have hnc18 := NB101_107.out; have hcz19_0 : w16.cell? ⟨gb107, 0, none⟩ = some (.slice none 0 0) := (blk_cell BK107.out 0).trans rfl; have hcz19_1 : w16.cell? ⟨gb107, 1, none⟩ = some (.string (⟨#[]⟩ : ByteArray)) := (blk_cell BK107.out 1).trans rfl; have hfz19_0 := blk_frozen BK107.out 0; have hfz19_1 := blk_frozen BK107.out 1; have hcz20_0 : w16.cell? ⟨gb101, 0, none⟩ = some (.slice none 0 0) := (blk_cell BK101.out 0).trans rfl; have hcz20_1 : w16.cell? ⟨gb101, 1, none⟩ = some (.string (⟨#[]⟩ : ByteArray)) := (blk_cell BK101.out 1).trans rfl; have hfz20_0 := blk_frozen BK101.out 0; have hfz20_1 := blk_frozen BK101.out 1))
   refine bodyPost_ret (results_ct rfl _ _ gb101 30 #[.slice none 0 0, .string (⟨#[]⟩ : ByteArray)] (0, 0) _ rfl (by (with_reducible repeat (first | refine blk_drewN ?_ _ | refine blk_drew ?_ | refine blk_alloc ?_ _)); refine blk_put (cs := #[.slice none 0 0, .string (⟨#[]⟩ : ByteArray)]) ?_ 1 _ rfl; (with_reducible repeat (first | refine blk_drewN ?_ _ | refine blk_drew ?_ | refine blk_alloc ?_ _)); refine blk_put (cs := #[.slice none 0 0, .string (⟨#[]⟩ : ByteArray)]) ?_ 0 _ rfl; (with_reducible repeat (first | refine blk_drewN ?_ _ | refine blk_drew ?_ | refine blk_alloc ?_ _)); refine blk_far ?_ NB101_107.out _; (with_reducible repeat (first | refine blk_drewN ?_ _ | refine blk_drew ?_ | refine blk_alloc ?_ _)); refine blk_far ?_ NB101_107.out _; (with_reducible repeat (first | refine blk_drewN ?_ _ | refine blk_drew ?_ | refine blk_alloc ?_ _)); exact BK101.out) Tryd.underlying30 rfl (by kernel_rfl)) rfl ?_
   exact ⟨_, by first | rfl | (simp [errW_none, errW_some] <;> rfl) | (simp [*, errW_none, errW_some] <;> rfl), by first | exact Kd.R_nil _ _ _ _ _ | exact Kd.N_nil _ _ _ _ _ | exact Kd.V_nil _ _ _ _ _ | exact Kd.Q_nil _ _ _ _ _ | exact Kd.S_nil _ _ _ _ _, by repeat (first | (with_reducible first | exact HB.out | apply below_alloc | apply pw_below_drewN | apply below_drew1 | refine below_set ?_ GE101.out | refine below_set ?_ GE107.out) | exact HB.out)⟩


/-! ### strings_Count: function 16 (a text of mine) -/
section
open Go.Shelf
def sh16_lays138_ren : Go.Shelf.Ren := ⟨fun | 138 => 16 | 195 => 25 | 218 => 26 | 143 => 27 | 219 => 35 | 217 => 49 | 225 => 50 | 224 => 51 | 267 => 52 | 266 => 64 | 314 => 65 | n => n, fun | 9 => 9 | 3 => 3 | 4 => 4 | 5 => 5 | 0 => 0 | 46 => 59 | 146 => 64 | 51 => 63 | n => n, fun | 1 => 0 | n => n⟩
theorem sh16_lays138 : Go.Proofs.Lays.n138 Tryd.prog sh16_lays138_ren := {
 mixed := by kernel_rfl
 f138 := Tryd.func16.trans (congrArg some (by kernel_rfl))
 f143 := Tryd.func27.trans (congrArg some (by kernel_rfl))
 f195 := Tryd.func25.trans (congrArg some (by kernel_rfl))
 f217 := Tryd.func49.trans (congrArg some (by kernel_rfl))
 f218 := Tryd.func26.trans (congrArg some (by kernel_rfl))
 f219 := Tryd.func35.trans (congrArg some (by kernel_rfl))
 f224 := Tryd.func51.trans (congrArg some (by kernel_rfl))
 f225 := Tryd.func50.trans (congrArg some (by kernel_rfl))
 f266 := Tryd.func64.trans (congrArg some (by kernel_rfl))
 f267 := Tryd.func52.trans (congrArg some (by kernel_rfl))
 f314 := Tryd.func65.trans (congrArg some (by kernel_rfl))
 t0 := Tryd.underlying0
 a0 := Tryd.isAgg0
 z0 := Tryd.sizeOf0
 v0 := Tryd.zeroValue0
 t3 := Tryd.underlying3
 a3 := Tryd.isAgg3
 z3 := Tryd.sizeOf3
 v3 := Tryd.zeroValue3
 t4 := Tryd.underlying4
 a4 := Tryd.isAgg4
 z4 := Tryd.sizeOf4
 v4 := Tryd.zeroValue4
 t5 := Tryd.underlying5
 a5 := Tryd.isAgg5
 z5 := Tryd.sizeOf5
 v5 := Tryd.zeroValue5
 t9 := Tryd.underlying9
 a9 := Tryd.isAgg9
 z9 := Tryd.sizeOf9
 v9 := Tryd.zeroValue9
 t46 := Tryd.underlying59
 a46 := Tryd.isAgg59
 z46 := Tryd.sizeOf59
 v46 := Tryd.zeroValue59
 t51 := Tryd.underlying63
 a51 := Tryd.isAgg63
 z51 := Tryd.sizeOf63
 v51 := Tryd.zeroValue63
 t146 := Tryd.underlying64
 a146 := Tryd.isAgg64
 z146 := Tryd.sizeOf64
 v146 := Tryd.zeroValue64
 g1 := by kernel_rfl }
open Go.RowKit Go.Lib in
theorem sh16_strings_Count_any (s sep : ByteArray) (m : Int) (w : World) (hs : s.size < 4294967281) (hm : w.cell? ⟨0, 0, none⟩ = some (.int .i64 m)) (h1 : 1 ≤ sep.size) :
  Calls Tryd.prog 16 #[.string s, .string sep] w fun e w' => e = .returned (.int .i64 (Lib.countB s sep)) ∧ w' = w := Any.strings_Count_any sh16_lays138 s sep m w hs hm h1
end
def strings_Count.f (a0 : ByteArray) (a1 : ByteArray) : Option Int := if a0.size < 4294967281 ∧ 1 ≤ a1.size then some (Lib.countB a0 a1 : Nat) else none
theorem strings_Count.calls (a0 : ByteArray) (a1 : ByteArray) (r : Int) (w : World) (hGWm : GWm w) (h : strings_Count.f a0 a1 = some r) :
  Calls Tryd.prog 16 #[.string a0, .string a1] w fun e w' => e = .returned (.int .i64 r) ∧ Drawn0 w w' := by
 unfold strings_Count.f at h
 split at h
 ·rename_i hs
  obtain rfl := Option.some.inj h
  obtain ⟨m, hm⟩ := hGWm
  exact (sh16_strings_Count_any a0 a1 m w hs.1 hm hs.2).mono fun e w' ⟨he, hw⟩ => ⟨he, hw ▸ Drawn0.refl _⟩
 ·cases h


/-! ### impl_MailLines: function 7 -/
def impl_MailLines.f (k : Nat) (a0 : ByteArray) : Option (Int × Int) := (impl_ParseMail.f k a0).bind fun bt101 => (if bt101.2.2 = 0 then ((strings_Count.f bt101.2.1 (⟨#[13, 10]⟩ : ByteArray)).bind fun t107 => (some (t107, 0))) else (some (0, bt101.2.2)))
theorem impl_MailLines.mono : ∀ a0 k, LeO (impl_MailLines.f k a0) (impl_MailLines.f (k + 1) a0) := by
 intro a0 k
 unfold impl_MailLines.f
 repeat' first
   | (with_reducible exact impl_ParseMail.mono _ _)
   | (with_reducible exact LeO.refl _)
   | (with_reducible exact LeO.none _)
   | (with_reducible refine LeO.ite ?_ ?_)
   | (with_reducible refine LeO.bind ?_ (fun _ => ?_))
   | exact impl_ParseMail.mono _ _
   | exact LeO.none _
   | refine LeO.ite ?_ ?_
   | refine LeO.bind ?_ (fun _ => ?_)
set_option maxHeartbeats 8000000 in
set_option maxRecDepth 100000 in
theorem impl_MailLines.calls (k : Nat) (a0 : ByteArray) (r1 : Int) (r2 : Int) (w : World) (hGWm : GWm w) (h : impl_MailLines.f k a0 = some (r1, r2)) :
  Calls Tryd.prog 7 #[.string a0] w fun e w' => e = .returned (.tuple #[.int .i64 r1, .int .i64 r2]) ∧ Below w.heap.size w w' := by
 have HGWm := Aside0.mk hGWm
 clear hGWm
 have hu30 := Tryd.underlying30
 have HB := Aside0.mk (Below.refl w.heap.size w)
 have H : ((impl_ParseMail.f k a0).bind fun bt101 => (if bt101.2.2 = 0 then ((strings_Count.f bt101.2.1 (⟨#[13, 10]⟩ : ByteArray)).bind fun t107 => (some (t107, 0))) else (some (0, bt101.2.2)))) = some (r1, r2) := h
 clear h
 replace H := Option.bind_eq_some_iff.mp H
 obtain ⟨⟨t101, t104, t105⟩, A20, H⟩ := H
 replace H : (if t105 = 0 then ((strings_Count.f t104 (⟨#[13, 10]⟩ : ByteArray)).bind fun t107 => (some (t107, 0))) else (some (0, t105))) = some (r1, r2) := H
 have A2 := Aside0.mk A20
 clear A20
 by_cases c3 : t105 = 0
 ·rw [if_pos c3] at H
  have c3b0 : (t105 == 0) = true := beq_iff_eq.mpr c3
  have c3b1 : (t105 != 0) = false := bne_eq_false_iff_eq.mpr c3
  clear c3
  replace H := Option.bind_eq_some_iff.mp H
  obtain ⟨t107, A40, H⟩ := H
  replace H : (some (t107, 0)) = some (r1, r2) := H
  have A4 := Aside0.mk A40
  clear A40
  simp only [Option.some.injEq, Prod.mk.injEq] at H
  obtain ⟨rfl, rfl⟩ := H
  go_enter Tryd.func7, Tryd.ntmps7
  go_wp2_with (first | ((with_reducible refine gate_callee (f := 11) rfl ?_); refine goesL_ (some 8) rfl rfl Tryd.func11 (by kernel_rfl) rfl #[.string a0] rfl (by (try simp only [List.map_toArray, List.map_cons, List.map_nil]); first | done | rfl | (simp only [List.length_drop, List.length_take]; rfl)) ?_; (with_reducible refine (impl_ParseMail.calls k a0 t101 t104 t105 _ (GWm.below HGWm.out (by repeat (first | (with_reducible first | exact HB.out | apply below_alloc | apply pw_below_drewN | apply below_drew1) | exact HB.out))) A2.out).mono ?_); rintro e w5 ⟨v102, rfl, ho0, hb⟩; refine ⟨_, rfl, ?_⟩; have n0_ := Aside0.mk (Kd.R_lower ho0 (below_size (by repeat (first | (with_reducible first | exact HB.out | apply below_alloc | apply pw_below_drewN | apply below_drew1) | exact HB.out)))); have n1_ := Aside0.mk (below_step (by repeat (first | (with_reducible first | exact HB.out | apply below_alloc | apply pw_below_drewN | apply below_drew1) | exact HB.out)) hb); clear HB; have HO103 := n0_; have HB := n1_; clear n0_ n1_; (try clear hb); (try clear hb2); (try clear hk); (try clear hi); (try clear ho0)) | ((with_reducible refine gate_dst (N := 4) rfl ?_); refine box_event ?hg (N := 4) ?hd (cs := #[.slice none 0 0, .string (⟨#[]⟩ : ByteArray)]) (t := 30) ?hr ?_; (case hd => rfl); (case hg => rfl); (case hr => first | (go_simp; done) | (go_simp; rfl)); intro gb106 hg w6 hbox hb; have n0_ := Aside0.mk (Kd.R_below (by (with_reducible repeat (first | apply Kd.R_alloc | apply Kd.R_drewN | apply Kd.R_drew)); exact HO103.out) hb); have n1_ := Aside0.mk (below_step (by repeat (first | (with_reducible first | exact HB.out | apply below_alloc | apply pw_below_drewN | apply below_drew1) | exact HB.out)) hb); have n2_ := Aside0.mk (hbox); have n3_ := Aside0.mk ((by rw [hg]; exact (below_size (by repeat (first | (with_reducible first | exact HB.out | apply below_alloc | apply pw_below_drewN | apply below_drew1) | exact HB.out))) : w.heap.size ≤ gb106)); have n4_ := Aside0.mk ((by rw [hg]; exact (below_size (by repeat (first | (with_reducible first | exact HB.out | apply below_alloc | apply pw_below_drewN | apply below_drew1) | exact HB.out))) : w.heap.size ≤ gb106)); clear HO103; clear HB; have HO103 := n0_; have HB := n1_; have BK106 := n2_; have GW106 := n3_; have GE106 := n4_; clear n0_ n1_ n2_ n3_ n4_; clear hb hbox hg; obtain ⟨Ao7, co7, eo7⟩ := Kd.R_slice HO103.out; subst eo7; have hcz8_0 : w6.cell? ⟨gb106, 0, none⟩ = some (.slice none 0 0) := (blk_cell BK106.out 0).trans rfl; have hcz8_1 : w6.cell? ⟨gb106, 1, none⟩ = some (.string (⟨#[]⟩ : ByteArray)) := (blk_cell BK106.out 1).trans rfl; have hfz8_0 := blk_frozen BK106.out 0; have hfz8_1 := blk_frozen BK106.out 1) | ((with_reducible refine gate_callee (f := 16) rfl ?_); refine goesL_ (some 16) rfl rfl Tryd.func16 (by kernel_rfl) rfl #[.string t104, .string (⟨#[13, 10]⟩ : ByteArray)] rfl (by (try simp only [List.map_toArray, List.map_cons, List.map_nil]); first | done | rfl | (simp only [List.length_drop, List.length_take]; rfl)) ?_; (with_reducible refine (strings_Count.calls t104 (⟨#[13, 10]⟩ : ByteArray) t107 _ (GWm.below HGWm.out (by repeat (first | (with_reducible first | exact HB.out | exact Below.refl _ _ | apply below_alloc | refine below_set ?_ GE106.out | apply pw_below_drewN | apply below_drew1) | exact HB.out | exact Below.refl _ _))) A4.out).mono ?_); rintro e w' ⟨rfl, ⟨nd, rfl⟩⟩; refine ⟨_, rfl, ?_⟩))
  go_ret2
  exact ⟨by first | rfl | (simp [errW_none, errW_some] <;> rfl) | (simp [*, errW_none, errW_some] <;> rfl), by repeat (first | (with_reducible first | exact HB.out | apply below_alloc | apply pw_below_drewN | apply below_drew1 | refine below_set ?_ GE106.out) | exact HB.out)⟩
 ·rw [if_neg c3] at H
  have c3b0 : (t105 == 0) = false := beq_eq_false_iff_ne.mpr c3
  have c3b1 : (t105 != 0) = true := bne_iff_ne.mpr c3
  simp only [Option.some.injEq, Prod.mk.injEq] at H
  obtain ⟨rfl, rfl⟩ := H
  go_enter Tryd.func7, Tryd.ntmps7
  go_wp2_with (first | ((with_reducible refine gate_callee (f := 11) rfl ?_); refine goesL_ (some 8) rfl rfl Tryd.func11 (by kernel_rfl) rfl #[.string a0] rfl (by (try simp only [List.map_toArray, List.map_cons, List.map_nil]); first | done | rfl | (simp only [List.length_drop, List.length_take]; rfl)) ?_; (with_reducible refine (impl_ParseMail.calls k a0 t101 t104 t105 _ (GWm.below HGWm.out (by repeat (first | (with_reducible first | exact HB.out | apply below_alloc | apply pw_below_drewN | apply below_drew1) | exact HB.out))) A2.out).mono ?_); rintro e w9 ⟨v102, rfl, ho0, hb⟩; refine ⟨_, rfl, ?_⟩; have n0_ := Aside0.mk (Kd.R_lower ho0 (below_size (by repeat (first | (with_reducible first | exact HB.out | apply below_alloc | apply pw_below_drewN | apply below_drew1) | exact HB.out)))); have n1_ := Aside0.mk (below_step (by repeat (first | (with_reducible first | exact HB.out | apply below_alloc | apply pw_below_drewN | apply below_drew1) | exact HB.out)) hb); clear HB; have HO103 := n0_; have HB := n1_; clear n0_ n1_; (try clear hb); (try clear hb2); (try clear hk); (try clear hi); (try clear ho0)) | ((with_reducible refine gate_dst (N := 4) rfl ?_); refine box_event ?hg (N := 4) ?hd (cs := #[.slice none 0 0, .string (⟨#[]⟩ : ByteArray)]) (t := 30) ?hr ?_; (case hd => rfl); (case hg => rfl); (case hr => first | (go_simp; done) | (go_simp; rfl)); intro gb106 hg w10 hbox hb; have n0_ := Aside0.mk (Kd.R_below (by (with_reducible repeat (first | apply Kd.R_alloc | apply Kd.R_drewN | apply Kd.R_drew)); exact HO103.out) hb); have n1_ := Aside0.mk (below_step (by repeat (first | (with_reducible first | exact HB.out | apply below_alloc | apply pw_below_drewN | apply below_drew1) | exact HB.out)) hb); have n2_ := Aside0.mk (hbox); have n3_ := Aside0.mk ((by rw [hg]; exact (below_size (by repeat (first | (with_reducible first | exact HB.out | apply below_alloc | apply pw_below_drewN | apply below_drew1) | exact HB.out))) : w.heap.size ≤ gb106)); have n4_ := Aside0.mk ((by rw [hg]; exact (below_size (by repeat (first | (with_reducible first | exact HB.out | apply below_alloc | apply pw_below_drewN | apply below_drew1) | exact HB.out))) : w.heap.size ≤ gb106)); clear HO103; clear HB; have HO103 := n0_; have HB := n1_; have BK106 := n2_; have GW106 := n3_; have GE106 := n4_; clear n0_ n1_ n2_ n3_ n4_; clear hb hbox hg; obtain ⟨Ao11, co11, eo11⟩ := Kd.R_slice HO103.out; subst eo11; have hcz12_0 : w10.cell? ⟨gb106, 0, none⟩ = some (.slice none 0 0) := (blk_cell BK106.out 0).trans rfl; have hcz12_1 : w10.cell? ⟨gb106, 1, none⟩ = some (.string (⟨#[]⟩ : ByteArray)) := (blk_cell BK106.out 1).trans rfl; have hfz12_0 := blk_frozen BK106.out 0; have hfz12_1 := blk_frozen BK106.out 1))
  go_ret2
  exact ⟨by first | rfl | (simp [errW_none, errW_some] <;> rfl) | (simp [*, errW_none, errW_some] <;> rfl), by repeat (first | (with_reducible first | exact HB.out | apply below_alloc | apply pw_below_drewN | apply below_drew1 | refine below_set ?_ GE106.out) | exact HB.out)⟩


/-! ### laws_FnExactMailLines: function 3 -/
def laws_FnExactMailLines.f (k : Nat) (a0 : ByteArray) : Option (Bool) := if (a0.size : Int) > 1048576 then (some true) else ((spec_MailLines.f k a0).bind fun bt101 => ((impl_MailLines.f k a0).bind fun bt103 => (if bt103.1 = bt101.1 then (if bt103.2 = bt101.2 then (some true) else (some false)) else (some false))))
theorem laws_FnExactMailLines.mono : ∀ a0 k, LeO (laws_FnExactMailLines.f k a0) (laws_FnExactMailLines.f (k + 1) a0) := by
 intro a0 k
 unfold laws_FnExactMailLines.f
 repeat' first
   | (with_reducible exact impl_MailLines.mono _ _)
   | (with_reducible exact spec_MailLines.mono _ _)
   | (with_reducible exact LeO.refl _)
   | (with_reducible exact LeO.none _)
   | (with_reducible refine LeO.ite ?_ ?_)
   | (with_reducible refine LeO.bind ?_ (fun _ => ?_))
   | exact impl_MailLines.mono _ _
   | exact spec_MailLines.mono _ _
   | exact LeO.none _
   | refine LeO.ite ?_ ?_
   | refine LeO.bind ?_ (fun _ => ?_)
set_option maxHeartbeats 8000000 in
set_option maxRecDepth 100000 in
theorem laws_FnExactMailLines.calls (k : Nat) (a0 : ByteArray) (r : Bool) (w : World) (hGWm : GWm w) (h : laws_FnExactMailLines.f k a0 = some r) :
  Calls Tryd.prog 3 #[.string a0] w fun e w' => e = .returned (.bool r) ∧ Below w.heap.size w w' := by
 have HGWm := Aside0.mk hGWm
 clear hGWm
 have HB := Aside0.mk (Below.refl w.heap.size w)
 have H : (if (a0.size : Int) > 1048576 then (some true) else ((spec_MailLines.f k a0).bind fun bt101 => ((impl_MailLines.f k a0).bind fun bt103 => (if bt103.1 = bt101.1 then (if bt103.2 = bt101.2 then (some true) else (some false)) else (some false))))) = some r := h
 clear h
 by_cases c2 : (a0.size : Int) > 1048576
 ·rw [if_pos c2] at H
  have c2b0 : decide (1048576 < (a0.size : Int)) = true := decide_eq_true c2
  have c2b1 : decide (1048576 < a0.size) = true := decide_eq_true (by omega)
  clear c2
  obtain rfl := Option.some.inj H
  go_enter Tryd.func3, Tryd.ntmps3
  go_wp2
  go_ret
  exact ⟨by first | rfl | (simp [errW_none, errW_some] <;> rfl) | (simp [*, errW_none, errW_some] <;> rfl), by repeat (first | (with_reducible first | exact HB.out | apply below_alloc | apply pw_below_drewN | apply below_drew1) | exact HB.out)⟩
 ·rw [if_neg c2] at H
  have c2b0 : decide (1048576 < (a0.size : Int)) = false := decide_eq_false c2
  have c2b1 : decide (1048576 < a0.size) = false := decide_eq_false (by omega)
  clear c2
  replace H := Option.bind_eq_some_iff.mp H
  obtain ⟨⟨t101, t102⟩, A30, H⟩ := H
  replace H : ((impl_MailLines.f k a0).bind fun bt103 => (if bt103.1 = t101 then (if bt103.2 = t102 then (some true) else (some false)) else (some false))) = some r := H
  have A3 := Aside0.mk A30
  clear A30
  replace H := Option.bind_eq_some_iff.mp H
  obtain ⟨⟨t103, t104⟩, A40, H⟩ := H
  replace H : (if t103 = t101 then (if t104 = t102 then (some true) else (some false)) else (some false)) = some r := H
  have A4 := Aside0.mk A40
  clear A40
  by_cases c5 : t103 = t101
  ·rw [if_pos c5] at H
   have c5b0 : (t103 == t101) = true := beq_iff_eq.mpr c5
   have c5b1 : (t103 != t101) = false := bne_eq_false_iff_eq.mpr c5
   clear c5
   by_cases c6 : t104 = t102
   ·rw [if_pos c6] at H
    have c6b0 : (t104 == t102) = true := beq_iff_eq.mpr c6
    have c6b1 : (t104 != t102) = false := bne_eq_false_iff_eq.mpr c6
    clear c6
    obtain rfl := Option.some.inj H
    go_enter Tryd.func3, Tryd.ntmps3
    go_wp2_with (first | ((with_reducible refine gate_callee (f := 6) rfl ?_); refine goesL_ (some 12) rfl rfl Tryd.func6 (by kernel_rfl) rfl #[.string a0] rfl (by (try simp only [List.map_toArray, List.map_cons, List.map_nil]); first | done | rfl | (simp only [List.length_drop, List.length_take]; rfl)) ?_; (with_reducible refine (spec_MailLines.calls k a0 t101 t102 _ A3.out).mono ?_); rintro e w7 ⟨rfl, hb⟩; refine ⟨_, rfl, ?_⟩; have n0_ := Aside0.mk (below_step (by repeat (first | (with_reducible first | exact HB.out | apply below_alloc | apply pw_below_drewN | apply below_drew1) | exact HB.out)) hb); clear HB; have HB := n0_; clear n0_; (try clear hb); (try clear hb2); (try clear hk); (try clear hi)) | ((with_reducible refine gate_callee (f := 7) rfl ?_); refine goesL_ (some 17) rfl rfl Tryd.func7 (by kernel_rfl) rfl #[.string a0] rfl (by (try simp only [List.map_toArray, List.map_cons, List.map_nil]); first | done | rfl | (simp only [List.length_drop, List.length_take]; rfl)) ?_; (with_reducible refine (impl_MailLines.calls k a0 t103 t104 _ (GWm.below HGWm.out (by repeat (first | (with_reducible first | exact HB.out | apply below_alloc | apply pw_below_drewN | apply below_drew1) | exact HB.out))) A4.out).mono ?_); rintro e w8 ⟨rfl, hb⟩; refine ⟨_, rfl, ?_⟩; have n0_ := Aside0.mk (below_step (by repeat (first | (with_reducible first | exact HB.out | apply below_alloc | apply pw_below_drewN | apply below_drew1) | exact HB.out)) hb); clear HB; have HB := n0_; clear n0_; (try clear hb); (try clear hb2); (try clear hk); (try clear hi)))
    go_ret
    exact ⟨by first | rfl | (simp [errW_none, errW_some] <;> rfl) | (simp [*, errW_none, errW_some] <;> rfl), by repeat (first | (with_reducible first | exact HB.out | apply below_alloc | apply pw_below_drewN | apply below_drew1) | exact HB.out)⟩
   ·rw [if_neg c6] at H
    have c6b0 : (t104 == t102) = false := beq_eq_false_iff_ne.mpr c6
    have c6b1 : (t104 != t102) = true := bne_iff_ne.mpr c6
    obtain rfl := Option.some.inj H
    go_enter Tryd.func3, Tryd.ntmps3
    go_wp2_with (first | ((with_reducible refine gate_callee (f := 6) rfl ?_); refine goesL_ (some 12) rfl rfl Tryd.func6 (by kernel_rfl) rfl #[.string a0] rfl (by (try simp only [List.map_toArray, List.map_cons, List.map_nil]); first | done | rfl | (simp only [List.length_drop, List.length_take]; rfl)) ?_; (with_reducible refine (spec_MailLines.calls k a0 t101 t102 _ A3.out).mono ?_); rintro e w9 ⟨rfl, hb⟩; refine ⟨_, rfl, ?_⟩; have n0_ := Aside0.mk (below_step (by repeat (first | (with_reducible first | exact HB.out | apply below_alloc | apply pw_below_drewN | apply below_drew1) | exact HB.out)) hb); clear HB; have HB := n0_; clear n0_; (try clear hb); (try clear hb2); (try clear hk); (try clear hi)) | ((with_reducible refine gate_callee (f := 7) rfl ?_); refine goesL_ (some 17) rfl rfl Tryd.func7 (by kernel_rfl) rfl #[.string a0] rfl (by (try simp only [List.map_toArray, List.map_cons, List.map_nil]); first | done | rfl | (simp only [List.length_drop, List.length_take]; rfl)) ?_; (with_reducible refine (impl_MailLines.calls k a0 t103 t104 _ (GWm.below HGWm.out (by repeat (first | (with_reducible first | exact HB.out | apply below_alloc | apply pw_below_drewN | apply below_drew1) | exact HB.out))) A4.out).mono ?_); rintro e w10 ⟨rfl, hb⟩; refine ⟨_, rfl, ?_⟩; have n0_ := Aside0.mk (below_step (by repeat (first | (with_reducible first | exact HB.out | apply below_alloc | apply pw_below_drewN | apply below_drew1) | exact HB.out)) hb); clear HB; have HB := n0_; clear n0_; (try clear hb); (try clear hb2); (try clear hk); (try clear hi)))
    go_ret
    exact ⟨by first | rfl | (simp [errW_none, errW_some] <;> rfl) | (simp [*, errW_none, errW_some] <;> rfl), by repeat (first | (with_reducible first | exact HB.out | apply below_alloc | apply pw_below_drewN | apply below_drew1) | exact HB.out)⟩
  ·rw [if_neg c5] at H
   have c5b0 : (t103 == t101) = false := beq_eq_false_iff_ne.mpr c5
   have c5b1 : (t103 != t101) = true := bne_iff_ne.mpr c5
   obtain rfl := Option.some.inj H
   go_enter Tryd.func3, Tryd.ntmps3
   go_wp2_with (first | ((with_reducible refine gate_callee (f := 6) rfl ?_); refine goesL_ (some 12) rfl rfl Tryd.func6 (by kernel_rfl) rfl #[.string a0] rfl (by (try simp only [List.map_toArray, List.map_cons, List.map_nil]); first | done | rfl | (simp only [List.length_drop, List.length_take]; rfl)) ?_; (with_reducible refine (spec_MailLines.calls k a0 t101 t102 _ A3.out).mono ?_); rintro e w11 ⟨rfl, hb⟩; refine ⟨_, rfl, ?_⟩; have n0_ := Aside0.mk (below_step (by repeat (first | (with_reducible first | exact HB.out | apply below_alloc | apply pw_below_drewN | apply below_drew1) | exact HB.out)) hb); clear HB; have HB := n0_; clear n0_; (try clear hb); (try clear hb2); (try clear hk); (try clear hi)) | ((with_reducible refine gate_callee (f := 7) rfl ?_); refine goesL_ (some 17) rfl rfl Tryd.func7 (by kernel_rfl) rfl #[.string a0] rfl (by (try simp only [List.map_toArray, List.map_cons, List.map_nil]); first | done | rfl | (simp only [List.length_drop, List.length_take]; rfl)) ?_; (with_reducible refine (impl_MailLines.calls k a0 t103 t104 _ (GWm.below HGWm.out (by repeat (first | (with_reducible first | exact HB.out | apply below_alloc | apply pw_below_drewN | apply below_drew1) | exact HB.out))) A4.out).mono ?_); rintro e w12 ⟨rfl, hb⟩; refine ⟨_, rfl, ?_⟩; have n0_ := Aside0.mk (below_step (by repeat (first | (with_reducible first | exact HB.out | apply below_alloc | apply pw_below_drewN | apply below_drew1) | exact HB.out)) hb); clear HB; have HB := n0_; clear n0_; (try clear hb); (try clear hb2); (try clear hk); (try clear hi)))
   go_ret
   exact ⟨by first | rfl | (simp [errW_none, errW_some] <;> rfl) | (simp [*, errW_none, errW_some] <;> rfl), by repeat (first | (with_reducible first | exact HB.out | apply below_alloc | apply pw_below_drewN | apply below_drew1) | exact HB.out)⟩

end Go.Proofs.YtcpdbobkpbmjiaaDoor.P
namespace Go.Proofs.YtcpdbobkpbmjiaaDoor.P
open Go.RowKit Go.ChangeShapes Go.WideShapes Go.Proofs.YtcpdbobkpbmjiaaDoorW.PrintWords

end Go.Proofs.YtcpdbobkpbmjiaaDoor.P
namespace Go.Proofs.YtcpdbobkpbmjiaaDoor.P
open Go.RowKit Go.ChangeShapes Go.WideShapes Go.Proofs.YtcpdbobkpbmjiaaDoorW.PrintWords

/-- What is to be proved of the law FnExactMailLines, over numbers and lists alone. -/
def laws_FnExactMailLines.Pure : Prop := ∀ (x0 : ByteArray), x0.size ≤ 140737488351232 → ∃ k, laws_FnExactMailLines.f k x0 = some true
end Go.Proofs.YtcpdbobkpbmjiaaDoor.P
/- Lemmas of mine: strings as lists of bytes; whole numbers of 64 bits; rounds. Plain. -/
set_option linter.unusedVariables false
set_option linter.unusedSimpArgs false
namespace Go.Proofs.YtcpdbobkpbmjiaaDoor.P
open Go.RowKit Go.Proofs.YtcpdbobkpbmjiaaDoorW.PrintWords
/-- As Option.bind_some, but no equation by computing: for terms that are not to be computed by the kernel. -/
theorem bS {α β : Type} (a : α) (f : α → Option β) : (some a).bind f = f a := Eq.trans (Option.bind_some a f) (Eq.refl (f a))
/-- A string's bytes. -/
def bl (s : ByteArray) : List UInt8 := s.data.toList
/-- Bytes as numbers. -/
def nb (l : List UInt8) : List Int := l.map fun b => (b.toNat : Int)
theorem bl_inj {a b : ByteArray} (h : bl a = bl b) : a = b := WideShapes.bytes_inj h
theorem toList_bl (s : ByteArray) : s.toList = bl s := Lib.toList_data s
theorem toList_iff {a b : ByteArray} : a.toList = b.toList ↔ a = b := ⟨fun h => bl_inj (by rw [← toList_bl, ← toList_bl, h]), fun h => by rw [h]⟩
theorem bl_size (s : ByteArray) : s.size = (bl s).length := Lib.size_eq s
theorem bl_append (a b : ByteArray) : bl (a ++ b) = bl a ++ bl b := by simp [bl]
theorem bl_extract (s : ByteArray) (i j : Nat) : bl (s.extract i j) = ((bl s).drop i).take (j - i) := Lib.extract_data s i j
theorem bl_mk (l : List UInt8) : bl ⟨l.toArray⟩ = l := by simp [bl]
theorem bl_empty : bl (⟨#[]⟩ : ByteArray) = [] := rfl
theorem mk_bl (s : ByteArray) : (⟨(bl s).toArray⟩ : ByteArray) = s := bl_inj (bl_mk _)
theorem bytesOf_bl (s : ByteArray) : bytesOf s = nb (bl s) := rfl
theorem nb_length (l : List UInt8) : (nb l).length = l.length := by simp [nb]
theorem nb_append (l m : List UInt8) : nb (l ++ m) = nb l ++ nb m := by simp [nb]
theorem strOf_nb (l : List UInt8) : strOfNums (nb l) = ⟨l.toArray⟩ := by
 simp [strOfNums, nb, Function.comp_def]
theorem bl_strOf_nb (l : List UInt8) : bl (strOfNums (nb l)) = l := by rw [strOf_nb, bl_mk]
theorem bt_eq (s : ByteArray) (i : Nat) (h : i < (bl s).length) : bt s (i : Int) = (((bl s)[i]'h).toNat : Int) := by
 have hs : i < s.size := by rw [bl_size]; exact h
 unfold bt
 rw [dif_pos (by simpa using hs)]
 have h1 := Lib.data_getElem? s i hs
 have h2 : (bl s)[i]? = some ((bl s)[i]'h) := List.getElem?_eq_getElem h
 have h3 : s[i]'hs = (bl s)[i]'h := Option.some.inj (h1.symm.trans h2)
 simp only [Int.toNat_natCast]
 rw [← h3]
theorem rd_nb (l : List UInt8) (i : Nat) (h : i < l.length) : rd (nb l) (i : Int) = ((l[i]'h).toNat : Int) := by
 simp [rd, nb, List.getD_eq_getElem?_getD, List.getElem?_map, List.getElem?_eq_getElem h]
theorem byte_lt (b : UInt8) : b.toNat < 256 := b.toNat_lt
/-- No wrap within the bounds. -/
theorem w64 {n : Int} (h0 : -9223372036854775808 ≤ n) (h1 : n ≤ 9223372036854775807) : wrap64 n = n := by unfold wrap64; omega
theorem w64n (n : Nat) (h1 : n ≤ 9223372036854775807) : wrap64 (n : Int) = n := w64 (by omega) (by omega)
theorem w64s (n : Nat) (h1 : n + 1 ≤ 9223372036854775807) : wrap64 ((n : Int) + 1) = ((n + 1 : Nat) : Int) := by rw [w64 (by omega) (by omega)]; rfl
theorem w64add (a b : Nat) (h : a + b ≤ 9223372036854775807) : wrap64 ((a : Int) + (b : Int)) = ((a + b : Nat) : Int) := by rw [w64 (by omega) (by omega)]; rfl
theorem w64lit (a b : Nat) (h : a + b ≤ 9223372036854775807) : wrap64 ((a : Int) + wrap64 ((b : Int))) = ((a + b : Nat) : Int) := by rw [w64n b (by omega), w64add a b h]
theorem w64sub (a b : Nat) (h : b ≤ a) (h2 : a ≤ 9223372036854775807) : wrap64 ((a : Int) - (b : Int)) = ((a - b : Nat) : Int) := by rw [w64 (by omega) (by omega)]; omega
theorem bits_xor_nat (k : IntKind) (j : Nat) (hj : j ≤ k.bits) (hk : ∀ n : Int, 0 ≤ n → n < 2 ^ j → k.wrap n = n) (a b : Nat) (ha : a < 2 ^ j) (hb : b < 2 ^ j) : bits .xor k a b = ((a ^^^ b : Nat) : Int) := by
 have hp : 2 ^ j ≤ 2 ^ k.bits := Nat.pow_le_pow_right (by decide) hj
 have ha' : a % 2 ^ k.bits = a := Nat.mod_eq_of_lt (Nat.lt_of_lt_of_le ha hp)
 have hb' : b % 2 ^ k.bits = b := Nat.mod_eq_of_lt (Nat.lt_of_lt_of_le hb hp)
 simp only [bits, BitVec.ofInt_natCast, BitVec.toNat_xor, BitVec.toNat_ofNat, ha', hb']
 exact hk _ (Int.natCast_nonneg _) (by exact_mod_cast Nat.xor_lt_two_pow ha hb)
theorem u32_in (n : Int) (h0 : 0 ≤ n) (h1 : n < 2 ^ 32) : IntKind.u32.wrap n = n := by rw [IntKind.wrap_u32]; omega
theorem i64_in32 (n : Int) (h0 : 0 ≤ n) (h1 : n < 2 ^ 32) : IntKind.i64.wrap n = n := by rw [IntKind.wrap_i64]; omega
theorem xor_u32 (a b : Nat) (ha : a < 4294967296) (hb : b < 4294967296) : bits .xor .u32 a b = ((a ^^^ b : Nat) : Int) := bits_xor_nat .u32 32 (by decide) u32_in a b ha hb
theorem xor_i64 (a b : Nat) (ha : a < 4294967296) (hb : b < 4294967296) : bits .xor .i64 a b = ((a ^^^ b : Nat) : Int) := bits_xor_nat .i64 32 (by decide) i64_in32 a b ha hb
/-- Rounds: what is told for all numbers of rounds from some on. -/
theorem Ev.k {α : Type} {g : Nat → Option α} {r : α} (h : Ev g r) : ∃ k, g k = some r := h.rounds
theorem Ev.and {α β : Type} {g : Nat → Option α} {f : Nat → Option β} {r : α} {q : β} (h : Ev g r) (h' : Ev f q) : ∃ K, ∀ k, K ≤ k → g k = some r ∧ f k = some q := by
 obtain ⟨K, h⟩ := h
 obtain ⟨K', h'⟩ := h'
 exact ⟨max K K', fun k hk => ⟨h k (by omega), h' k (by omega)⟩⟩
theorem Ev.uniq {α : Type} {g : Nat → Option α} {r q : α} (h : Ev g r) (h' : Ev g q) : r = q := by
 obtain ⟨K, hk⟩ := Ev.and h h'
 have h1 := hk K (Nat.le_refl _)
 exact Option.some.inj (h1.1.symm.trans h1.2)
end Go.Proofs.YtcpdbobkpbmjiaaDoor.P
/- Lemmas of mine: loops that count up: over any function of rounds. Plain. -/
set_option linter.unusedVariables false
set_option linter.unusedSimpArgs false
namespace Go.Proofs.YtcpdbobkpbmjiaaDoor.P
open Go.RowKit Go.Proofs.YtcpdbobkpbmjiaaDoorW.PrintWords
/-- A loop whose rounds change the place alone. -/
theorem up_loop {R : Type} (L : Nat → Int → Option R) (n : Nat) (r : R)
  (hstep : ∀ i : Nat, i < n → ∃ K, ∀ k, K ≤ k → L (k + 1) (i : Int) = L k ((i + 1 : Nat) : Int))
  (hend : ∃ K, ∀ k, K ≤ k → L (k + 1) (n : Int) = some r) : ∀ d i : Nat, i + d = n → Ev (fun k => L k (i : Int)) r := by
 intro d
 induction d with
 | zero =>
  intro i hi
  obtain rfl : i = n := by omega
  obtain ⟨K, h⟩ := hend
  exact ⟨K + 1, fun k hk => by obtain ⟨m, rfl⟩ : ∃ m, k = m + 1 := ⟨k - 1, by omega⟩; exact h m (by omega)⟩
 | succ d ih =>
  intro i hi
  obtain ⟨K, h⟩ := hstep i (by omega)
  obtain ⟨K2, h2⟩ := ih (i + 1) (by omega)
  refine ⟨K + K2 + 1, fun k hk => ?_⟩
  obtain ⟨m, rfl⟩ : ∃ m, k = m + 1 := ⟨k - 1, by omega⟩
  show L (m + 1) (i : Int) = some r
  rw [h m (by omega)]
  exact h2 m (by omega)
/-- A loop with a state: what holds of the state says what comes out. -/
theorem st_loop {σ R : Type} (L : Nat → σ → Int → Option R) (n : Nat) (out : Nat → σ → R → Prop)
  (hstep : ∀ (i : Nat) (s : σ), i < n → (∃ r, (∃ K, ∀ k, K ≤ k → L (k + 1) s (i : Int) = some r) ∧ out i s r) ∨ ∃ s', (∃ K, ∀ k, K ≤ k → L (k + 1) s (i : Int) = L k s' ((i + 1 : Nat) : Int)) ∧ ∀ r, out (i + 1) s' r → out i s r)
  (hend : ∀ s, ∃ r, (∃ K, ∀ k, K ≤ k → L (k + 1) s (n : Int) = some r) ∧ out n s r) : ∀ (d i : Nat) (s : σ), i + d = n → ∃ r, Ev (fun k => L k s (i : Int)) r ∧ out i s r := by
 intro d
 induction d with
 | zero =>
  intro i s hi
  obtain rfl : i = n := by omega
  obtain ⟨r, ⟨K, h⟩, ho⟩ := hend s
  exact ⟨r, ⟨K + 1, fun k hk => by obtain ⟨m, rfl⟩ : ∃ m, k = m + 1 := ⟨k - 1, by omega⟩; exact h m (by omega)⟩, ho⟩
 | succ d ih =>
  intro i s hi
  rcases hstep i s (by omega) with ⟨r, ⟨K, h⟩, ho⟩ | ⟨s', ⟨K, h⟩, ho⟩
  ·exact ⟨r, ⟨K + 1, fun k hk => by obtain ⟨m, rfl⟩ : ∃ m, k = m + 1 := ⟨k - 1, by omega⟩; exact h m (by omega)⟩, ho⟩
  ·obtain ⟨r, ⟨K2, h2⟩, ho2⟩ := ih (i + 1) s' (by omega)
   refine ⟨r, ⟨K + K2 + 1, fun k hk => ?_⟩, ho r ho2⟩
   obtain ⟨m, rfl⟩ : ∃ m, k = m + 1 := ⟨k - 1, by omega⟩
   show L (m + 1) s (i : Int) = some r
   rw [h m (by omega)]
   exact h2 m (by omega)
theorem map_set {α β : Type} (xs : List α) (ys : List β) (g : α → β) (i : Nat) (hi : i < xs.length) (hl : ys.length = xs.length) (hy : ys.take i = (xs.take i).map g) :
  (ys.set i (g (xs[i]'hi))).take (i + 1) = (xs.take (i + 1)).map g := by
 have e2 : (xs.take (i + 1)).map g = (xs.take i).map g ++ [g (xs[i]'hi)] := by
  rw [List.take_add_one, List.getElem?_eq_getElem hi, List.map_append]
  rfl
 have e : ((xs.take i).map g).length = i := by rw [List.length_map, List.length_take]; omega
 rw [e2, List.take_set, List.take_add_one, List.getElem?_eq_getElem (by omega), hy, List.set_append_right _ _ (by omega), e, Nat.sub_self]
 rfl
/-- A loop that fills a row of the same length. -/
theorem copy_loop {α β : Type} (L : Nat → List β → Int → Option (List β)) (xs : List α) (g : α → β)
  (hstep : ∀ (i : Nat) (ys : List β) (hi : i < xs.length), ys.length = xs.length → ∃ K, ∀ k, K ≤ k → L (k + 1) ys (i : Int) = L k (ys.set i (g (xs[i]'hi))) ((i + 1 : Nat) : Int))
  (hend : ∀ ys, ys.length = xs.length → ∃ K, ∀ k, K ≤ k → L (k + 1) ys (xs.length : Int) = some ys) :
  ∀ (d i : Nat) (ys : List β), i + d = xs.length → ys.length = xs.length → ys.take i = (xs.take i).map g → Ev (fun k => L k ys (i : Int)) (xs.map g) := by
 intro d
 induction d with
 | zero =>
  intro i ys hi hl hy
  obtain rfl : i = xs.length := by omega
  rw [List.take_of_length_le (by omega), List.take_of_length_le (Nat.le_refl _)] at hy
  subst hy
  obtain ⟨K, h⟩ := hend _ hl
  exact ⟨K + 1, fun k hk => by obtain ⟨m, rfl⟩ : ∃ m, k = m + 1 := ⟨k - 1, by omega⟩; exact h m (by omega)⟩
 | succ d ih =>
  intro i ys hi hl hy
  obtain ⟨K, h⟩ := hstep i ys (by omega) hl
  obtain ⟨K2, h2⟩ := ih (i + 1) (ys.set i (g (xs[i]'(by omega)))) (by omega) (by rw [List.length_set]; exact hl) (map_set xs ys g i (by omega) hl hy)
  refine ⟨K + K2 + 1, fun k hk => ?_⟩
  obtain ⟨m, rfl⟩ : ∃ m, k = m + 1 := ⟨k - 1, by omega⟩
  show L (m + 1) ys (i : Int) = _
  rw [h m (by omega)]
  exact h2 m (by omega)
theorem getD_nat {α : Type} (xs : List α) (z : α) (i : Nat) (h : i < xs.length) : xs.getD ((i : Nat) : Int).toNat z = xs[i]'h := by
 rw [Int.toNat_natCast, List.getD_eq_getElem?_getD, List.getElem?_eq_getElem h]; rfl
end Go.Proofs.YtcpdbobkpbmjiaaDoor.P
/- Lemmas of mine: bounds, the fields of a log. Plain. -/
set_option linter.unusedVariables false
set_option linter.unusedSimpArgs false
namespace Go.Proofs.YtcpdbobkpbmjiaaDoor.P
open Go.RowKit Go.Proofs.YtcpdbobkpbmjiaaDoorW.PrintWords
theorem l01In_eq (a b c : Int) : spec_l01In.f a b c = some (decide (b ≤ a ∧ a ≤ c)) := by
 unfold spec_l01In.f
 by_cases h : a ≥ b
 ·rw [if_pos h]; simp [show b ≤ a from h]
 ·rw [if_neg h]; simp; omega
theorem within_eq (a b c : Int) : impl_within.f a b c = some (decide (b ≤ a ∧ a ≤ c)) := l01In_eq a b c
end Go.Proofs.YtcpdbobkpbmjiaaDoor.P
/- Lemmas of mine: texts of bytes within bounds, right values and names of fields, in both programs. Plain. -/
set_option linter.unusedVariables false
set_option linter.unusedSimpArgs false
namespace Go.Proofs.YtcpdbobkpbmjiaaDoor.P
open Go.RowKit Go.Proofs.YtcpdbobkpbmjiaaDoorW.PrintWords
/-- A byte between two bounds. -/
def inB (lo hi : Nat) (b : UInt8) : Bool := decide (lo ≤ b.toNat ∧ b.toNat ≤ hi)
theorem allWithin_l0 (s : ByteArray) (hs : s.size ≤ 4611686018427387904) (lo hi : Nat) : ∀ (d i : Nat), i + d = (bl s).length → Ev (fun k => impl_allWithin.l0 k s (lo : Int) (hi : Int) (s.size : Int) (i : Int)) (((bl s).drop i).all (inB lo hi)) := by
 intro d
 induction d with
 | zero =>
  intro i hi2
  have hsz := bl_size s
  rw [List.drop_eq_nil_of_le (by omega)]
  refine Ev.step (f := fun _ => some _) (fun k => ?_) (Ev.now _)
  simp only [impl_allWithin.l0]
  rw [if_neg (by omega)]
  rfl
 | succ d ih =>
  intro i hi2
  have hsz := bl_size s
  have hlt : i < (bl s).length := by omega
  have hb := bt_eq s i hlt
  rw [List.drop_eq_getElem_cons hlt, List.all_cons]
  have e : ∀ k, impl_allWithin.l0 (k + 1) s (lo : Int) (hi : Int) (s.size : Int) (i : Int) = if ((bl s)[i].toNat : Int) < lo then some false else if ((bl s)[i].toNat : Int) > hi then some false else impl_allWithin.l0 k s lo hi (s.size : Int) ((i + 1 : Nat) : Int) := fun k => by
   simp only [impl_allWithin.l0, hb]
   rw [if_pos (by omega), if_pos (by omega), if_pos (by omega), w64s i (by omega)]
  by_cases h1 : lo ≤ (bl s)[i].toNat
  ·by_cases h2 : (bl s)[i].toNat ≤ hi
   ·have hi3 : inB lo hi (bl s)[i] = true := decide_eq_true ⟨h1, h2⟩
    rw [hi3, Bool.true_and]
    exact Ev.step (fun k => by rw [e, if_neg (by omega), if_neg (by omega)]) (ih (i + 1) (by omega))
   ·have hi3 : inB lo hi (bl s)[i] = false := decide_eq_false (by omega)
    rw [hi3, Bool.false_and]
    exact Ev.step (f := fun _ => some false) (fun k => by rw [e, if_neg (by omega), if_pos (by omega)]) (Ev.now _)
  ·have hi3 : inB lo hi (bl s)[i] = false := decide_eq_false (by omega)
   rw [hi3, Bool.false_and]
   exact Ev.step (f := fun _ => some false) (fun k => by rw [e, if_pos (by omega)]) (Ev.now _)
theorem allWithin_ev (s : ByteArray) (hs : s.size ≤ 4611686018427387904) (lo hi : Nat) : Ev (fun k => impl_allWithin.f k s (lo : Int) (hi : Int)) ((bl s).all (inB lo hi)) :=
 allWithin_l0 s hs lo hi (bl s).length 0 (by omega)
/-! ### the first place of one byte, of a text -/
theorem isPref_one (c : UInt8) (l : List UInt8) (b : UInt8) : ([c] : List UInt8).isPrefixOf (b :: l) = (c == b) := by simp [List.isPrefixOf]
theorem index_one_none (c : UInt8) : ∀ l : List UInt8, c ∉ l → Lib.index l [c] = -1
 | [], _ => rfl
 | b :: l, h => by
  have hb : (c == b) = false := by simp; rintro rfl; simp at h
  have ih := index_one_none c l (fun hm => h (by simp [hm]))
  simp only [Lib.index, isPref_one, hb, ih]
  rfl
theorem index_one_at (c : UInt8) : ∀ (p r : List UInt8), c ∉ p → Lib.index (p ++ c :: r) [c] = (p.length : Int)
 | [], r, _ => by simp [Lib.index]
 | b :: p, r, h => by
  have hb : (c == b) = false := by simp; rintro rfl; simp at h
  have ih := index_one_at c p r (fun hm => h (by simp [hm]))
  simp only [List.cons_append, Lib.index, isPref_one, hb, ih]
  rw [if_neg (by decide), if_neg (by simp)]
  simp
theorem contains_one (c : UInt8) (l : List UInt8) : decide (0 ≤ Lib.index l [c]) = l.contains c := by
 by_cases h : c ∈ l
 ·obtain ⟨p, r, e, hp⟩ := List.eq_append_cons_of_mem h
  rw [List.contains_iff_mem.2 h, e, index_one_at c p r hp]
  exact decide_eq_true (by omega)
 ·rw [index_one_none c l h, Bool.eq_false_iff.2 (fun hc => h (List.contains_iff_mem.1 hc))]
  rfl
/-! ### pieces between places of one byte -/
def pcs (c : UInt8) (l : List UInt8) : List (List UInt8) := Lib.splitK [c] 0 (Lib.count l [c]) l
theorem pcs_none (c : UInt8) (l : List UInt8) (h : c ∉ l) : pcs c l = [l] := by
 unfold pcs
 rw [Lib.count_miss (index_one_none c l h)]
 rfl
theorem pcs_at (c : UInt8) (p r : List UInt8) (h : c ∉ p) : pcs c (p ++ c :: r) = p :: pcs c r := by
 unfold pcs
 have hi := index_one_at c p r h
 have hd : (p ++ c :: r).drop (p.length + 1) = r := by
  rw [← List.drop_drop, List.drop_left]
  rfl
 rw [Lib.count_hit (by simp) hi, show ([c] : List UInt8).length = 1 from rfl, hd, Nat.add_comm 1]
 rw [Lib.splitK, if_neg (by rw [hi]; simp), hi]
 simp only [Int.toNat_natCast, Nat.add_zero, List.length_singleton, hd, List.take_left]
theorem splitB_pcs (c : UInt8) (s : ByteArray) : (Lib.splitB ⟨#[c]⟩ 0 (Lib.countB s ⟨#[c]⟩) s).map bl = pcs c (bl s) := Lib.splitB_data _ _ _ _
/-! ### right values -/
def safeW : Nat → List UInt8 → Bool
 | _, [] => true
 | w, c :: cs => inB 32 126 c && (if c = 32 then (decide (w ≠ 0) && !cs.isEmpty && safeW 0 cs) else (decide (w + 1 ≤ 200) && safeW (w + 1) cs))
def safeR (l : List UInt8) : Bool := decide (l.length ≤ 2000) && safeW 0 l
theorem safeW_free : ∀ (p : List UInt8) (w : Nat), (32 : UInt8) ∉ p → w ≤ 200 → safeW w p = (p.all (inB 32 126) && decide (w + p.length ≤ 200))
 | [], w, _, hw => by simp [safeW, hw]
 | c :: p, w, h, hw => by
  have hc : c ≠ 32 := fun e => h (by simp [e])
  simp only [safeW, if_neg hc, List.all_cons, List.length_cons]
  by_cases h1 : w + 1 ≤ 200
  ·rw [safeW_free p (w + 1) (fun hm => h (by simp [hm])) h1, decide_eq_true h1, Bool.true_and, Bool.and_assoc, show w + 1 + p.length = w + (p.length + 1) by omega]
  ·rw [decide_eq_false h1, decide_eq_false (show ¬ (w + (p.length + 1) ≤ 200) by omega)]
   simp
theorem safeW_at : ∀ (p r : List UInt8) (w : Nat), (32 : UInt8) ∉ p → w ≤ 200 → safeW w (p ++ 32 :: r) = (p.all (inB 32 126) && decide (w + p.length ≤ 200) && decide (w + p.length ≠ 0) && !r.isEmpty && safeW 0 r)
 | [], r, w, _, hw => by
  simp only [List.nil_append, safeW, List.all_nil, List.length_nil, Nat.add_zero, decide_eq_true hw, if_true, Bool.true_and]
  rw [show inB 32 126 32 = true from rfl, Bool.true_and]
 | c :: p, r, w, h, hw => by
  have hc : c ≠ 32 := fun e => h (by simp [e])
  simp only [List.cons_append, safeW, if_neg hc, List.all_cons, List.length_cons]
  by_cases h1 : w + 1 ≤ 200
  ·rw [safeW_at p r (w + 1) (fun hm => h (by simp [hm])) h1, decide_eq_true h1, Bool.true_and, show w + 1 + p.length = w + (p.length + 1) by omega]
   simp only [Bool.and_assoc]
  ·rw [decide_eq_false h1, decide_eq_false (show ¬ (w + (p.length + 1) ≤ 200) by omega)]
   simp
def okW (x : List UInt8) : Bool := !x.isEmpty && decide (x.length ≤ 200)
theorem safeW_pcs : ∀ (n : Nat) (l : List UInt8), l.length ≤ n → l ≠ [] → safeW 0 l = (l.all (inB 32 126) && (pcs 32 l).all okW) := by
 intro n
 induction n with
 | zero => intro l hl h; cases l with | nil => exact absurd rfl h | cons a b => simp at hl
 | succ n ih =>
  intro l hl h
  by_cases hm : (32 : UInt8) ∈ l
  ·obtain ⟨p, r, rfl, hp⟩ := List.eq_append_cons_of_mem hm
   rw [safeW_at p r 0 hp (by omega), pcs_at 32 p r hp, List.all_cons, List.all_append, List.all_cons, show inB 32 126 32 = true from rfl, Bool.true_and, Nat.zero_add]
   by_cases hr : r = []
   ·subst hr
    rw [pcs_none 32 [] (by simp)]
    simp [okW]
   ·rw [ih r (by simp at hl; omega) hr]
    have h1 : r.isEmpty = false := by cases r with | nil => exact absurd rfl hr | cons a b => rfl
    have h2 : okW p = (decide (p.length ≤ 200) && decide (p.length ≠ 0)) := by
     unfold okW
     cases p with
     | nil => simp
     | cons a b => simp
    rw [h1, h2]
    cases p.all (inB 32 126) <;> cases r.all (inB 32 126) <;> simp
  ·rw [safeW_free l 0 hm (by omega), pcs_none 32 l hm]
   have h1 : l.isEmpty = false := by cases l with | nil => exact absurd rfl h | cons a b => rfl
   simp [okW, h1]
theorem rdOf_natS (xs : List ByteArray) (i : Nat) (h : i < xs.length) : rdOf ByteArray.empty xs (i : Int) = xs[i]'h := getD_nat xs _ i h
theorem isEmpty_iff (s : ByteArray) : s.toList = ([] : List UInt8) ↔ (bl s).isEmpty = true := by rw [toList_bl]; simp
theorem safe_l0 (ws : List ByteArray) (hw : ws.length ≤ 4611686018427387904) : ∀ (d i : Nat), i + d = ws.length → Ev (fun k => impl_SafeValue.l0 k ws (ws.length : Int) (i : Int)) ((ws.drop i).all fun x => okW (bl x)) := by
 intro d
 induction d with
 | zero =>
  intro i hi
  rw [List.drop_eq_nil_of_le (by omega)]
  refine Ev.step (f := fun _ => some _) (fun k => ?_) (Ev.now _)
  simp only [impl_SafeValue.l0]
  rw [if_neg (by omega)]
  rfl
 | succ d ih =>
  intro i hi
  have hlt : i < ws.length := by omega
  have hr := rdOf_natS ws i hlt
  have hsz := bl_size (ws[i]'hlt)
  rw [List.drop_eq_getElem_cons hlt, List.all_cons]
  have e : ∀ k, impl_SafeValue.l0 (k + 1) ws (ws.length : Int) (i : Int) = if (ws[i]'hlt).toList = ([] : List UInt8) then some false else if ((ws[i]'hlt).size : Int) > 200 then some false else impl_SafeValue.l0 k ws (ws.length : Int) ((i + 1 : Nat) : Int) := fun k => by
   simp only [impl_SafeValue.l0, hr]
   rw [if_pos (by omega), if_pos (by omega), if_pos (by omega), w64s i (by omega)]
  by_cases h1 : (ws[i]'hlt).toList = ([] : List UInt8)
  ·have : okW (bl (ws[i]'hlt)) = false := by unfold okW; rw [(isEmpty_iff _).1 h1]; rfl
   rw [this, Bool.false_and]
   exact Ev.step (f := fun _ => some false) (fun k => by rw [e, if_pos h1]) (Ev.now _)
  ·by_cases h2 : ((ws[i]'hlt).size : Int) > 200
   ·have : okW (bl (ws[i]'hlt)) = false := by unfold okW; rw [decide_eq_false (by omega)]; simp
    rw [this, Bool.false_and]
    exact Ev.step (f := fun _ => some false) (fun k => by rw [e, if_neg h1, if_pos h2]) (Ev.now _)
   ·have : okW (bl (ws[i]'hlt)) = true := by
     unfold okW
     rw [decide_eq_true (by omega), Bool.eq_false_iff.2 (fun hc => h1 ((isEmpty_iff _).2 hc))]
     rfl
    rw [this, Bool.true_and]
    exact Ev.step (fun k => by rw [e, if_neg h1, if_neg h2]) (ih (i + 1) (by omega))
theorem implSafe_ev (s : ByteArray) (hs : s.size ≤ 4000000000) : Ev (fun k => impl_SafeValue.f k s) (safeR (bl s)) := by
 have hsz := bl_size s
 unfold safeR
 by_cases h0 : (s.size : Int) > 2000
 ·rw [decide_eq_false (by omega), Bool.false_and]
  refine ⟨1, fun k hk => ?_⟩
  obtain ⟨j, rfl⟩ : ∃ j, k = j + 1 := ⟨k - 1, by omega⟩
  simp only [impl_SafeValue.f, impl_SafeValue.j0]
  rw [if_pos h0]
  rfl
 ·rw [decide_eq_true (by omega), Bool.true_and]
  obtain ⟨K, h⟩ := allWithin_ev s (by omega) 32 126
  have e : ∀ k, K ≤ k → impl_SafeValue.f k s = impl_SafeValue.j0 k s (!(bl s).all (inB 32 126)) := fun k hk => by
   have := h k hk
   simp only at this
   simp only [impl_SafeValue.f]
   rw [if_neg h0, show ((32 : Int)) = ((32 : Nat) : Int) from rfl, show ((126 : Int)) = ((126 : Nat) : Int) from rfl, this, bS]
  by_cases ha : (bl s).all (inB 32 126) = true
  ·by_cases hn : bl s = []
   ·rw [hn]
    refine ⟨K + 1, fun k hk => ?_⟩
    obtain ⟨j, rfl⟩ : ∃ j, k = j + 1 := ⟨k - 1, by omega⟩
    show impl_SafeValue.f (j + 1) s = _
    rw [e _ (by omega), hn]
    simp only [impl_SafeValue.j0]
    rw [if_neg (by decide), if_pos (by rw [toList_bl, hn])]
    rfl
   ·rw [safeW_pcs _ _ (Nat.le_refl _) hn, ha, Bool.true_and, ← splitB_pcs]
    obtain ⟨ws, hws⟩ : ∃ ws, ws = Lib.splitB ⟨#[32]⟩ 0 (Lib.countB s ⟨#[32]⟩) s := ⟨_, rfl⟩
    have hl : ws.length ≤ 4611686018427387904 := by
     have h1 := Lib.splitB_length_le ⟨#[32]⟩ 0 (Lib.countB s ⟨#[32]⟩) s
     have h2 := Lib.count_le s.data.toList (⟨#[32]⟩ : ByteArray).data.toList
     have h3 : s.data.toList.length = s.size := (Lib.size_eq s).symm
     have h4 : Lib.countB s ⟨#[32]⟩ = Lib.count s.data.toList (⟨#[32]⟩ : ByteArray).data.toList := rfl
     rw [hws]
     omega
    have hsp : strings_Split.f s (⟨#[32]⟩ : ByteArray) = some ws := by
     unfold strings_Split.f
     rw [if_pos ⟨by omega, by decide⟩, hws]
    rw [← hws]
    obtain ⟨K2, h2⟩ := safe_l0 ws hl ws.length 0 (by omega)
    refine ⟨K + K2 + 1, fun k hk => ?_⟩
    obtain ⟨j, rfl⟩ : ∃ j, k = j + 1 := ⟨k - 1, by omega⟩
    show impl_SafeValue.f (j + 1) s = _
    rw [e _ (by omega), ha]
    simp only [impl_SafeValue.j0]
    rw [if_neg (by decide), if_neg (by rw [toList_bl]; exact hn), hsp, bS, List.all_map]
    have := h2 j (by omega)
    simp only [List.drop_zero] at this
    exact this
  ·rw [Bool.not_eq_true] at ha
   have hn : bl s ≠ [] := fun hn => by rw [hn] at ha; cases ha
   rw [safeW_pcs _ _ (Nat.le_refl _) hn, ha, Bool.false_and]
   refine ⟨K + 1, fun k hk => ?_⟩
   obtain ⟨j, rfl⟩ : ∃ j, k = j + 1 := ⟨k - 1, by omega⟩
   show impl_SafeValue.f (j + 1) s = _
   rw [e _ (by omega), ha]
   simp only [impl_SafeValue.j0]
   rfl
theorem specSafe_l0 (s : ByteArray) (hs : s.size ≤ 1000000) : ∀ (d i w : Nat), i + d = (bl s).length → w ≤ 200 → Ev (fun k => spec_SafeValue.l0 k s (w : Int) (i : Int)) (safeW w ((bl s).drop i)) := by
 intro d
 induction d with
 | zero =>
  intro i w hi hw
  have hsz := bl_size s
  rw [List.drop_eq_nil_of_le (by omega)]
  refine Ev.step (f := fun _ => some _) (fun k => ?_) (Ev.now _)
  simp only [spec_SafeValue.l0]
  rw [if_neg (by omega)]
  rfl
 | succ d ih =>
  intro i w hi hw
  have hsz := bl_size s
  have hlt : i < (bl s).length := by omega
  have hb := bt_eq s i hlt
  rw [List.drop_eq_getElem_cons hlt]
  generalize hc : (bl s)[i] = c at hb ⊢
  have hc255 := byte_lt c
  have w1 : Aside0 (wrap64 ((i : Int) + 1) = ((i + 1 : Nat) : Int)) := ⟨w64s i (by omega)⟩
  have w2 : Aside0 (wrap64 ((w : Int) + 1) = ((w + 1 : Nat) : Int)) := ⟨w64s w (by omega)⟩
  have e : ∀ k, spec_SafeValue.l0 (k + 1) s (w : Int) (i : Int) = if (inB 32 126 c) = true then (if (c.toNat : Int) = 32 then (if (w : Int) = 0 then some false else if ((i + 1 : Nat) : Int) = (s.size : Int) then some false else spec_SafeValue.l0 k s 0 ((i + 1 : Nat) : Int)) else (if ((w + 1 : Nat) : Int) > 200 then some false else spec_SafeValue.l0 k s ((w + 1 : Nat) : Int) ((i + 1 : Nat) : Int))) else some false := fun k => by
   have hin : spec_l01In.f (wrap64 (c.toNat : Int)) 32 126 = some (inB 32 126 c) := by
    rw [w64n _ (by omega), l01In_eq]
    unfold inB
    congr 1
    apply decide_eq_decide.2
    omega
   simp only [spec_SafeValue.l0, hb, hin, bS, w1.out, w2.out]
   rw [if_pos (by omega), if_pos (by omega)]
  have hd : ((bl s).drop (i + 1)).isEmpty = decide (i + 1 = s.size) := by
   have hl : ((bl s).drop (i + 1)).length = s.size - (i + 1) := by rw [List.length_drop]; omega
   cases hq : (bl s).drop (i + 1) with
   | nil => rw [hq] at hl; simp at hl; exact (decide_eq_true (by omega)).symm
   | cons a b => rw [hq] at hl; simp at hl; exact (decide_eq_false (by omega)).symm
  simp only [safeW]
  by_cases h1 : inB 32 126 c = true
  ·rw [h1, Bool.true_and]
   by_cases h2 : c = 32
   ·have h2' : (c.toNat : Int) = 32 := by rw [h2]; rfl
    rw [if_pos h2]
    by_cases h3 : w = 0
    ·rw [decide_eq_false (by omega), Bool.false_and, Bool.false_and]
     exact Ev.step (f := fun _ => some false) (fun k => by rw [e, if_pos h1, if_pos h2', if_pos (by omega)]) (Ev.now _)
    ·by_cases h4 : i + 1 = s.size
     ·rw [hd, decide_eq_true h4]
      simp only [Bool.not_true, Bool.and_false, Bool.false_and]
      exact Ev.step (f := fun _ => some false) (fun k => by rw [e, if_pos h1, if_pos h2', if_neg (by omega), if_pos (by omega)]) (Ev.now _)
     ·rw [hd, decide_eq_false h4, decide_eq_true h3]
      simp only [Bool.not_false, Bool.true_and]
      exact Ev.step (fun k => by rw [e, if_pos h1, if_pos h2', if_neg (by omega), if_neg (by omega)]; rfl) (ih (i + 1) 0 (by omega) (by omega))
   ·have h2' : ¬ (c.toNat : Int) = 32 := fun hh => h2 (UInt8.toNat_inj.1 (by rw [show ((32 : UInt8)).toNat = 32 from rfl]; omega))
    rw [if_neg h2]
    by_cases h3 : w + 1 ≤ 200
    ·rw [decide_eq_true h3, Bool.true_and]
     exact Ev.step (fun k => by rw [e, if_pos h1, if_neg h2', if_neg (by omega)]) (ih (i + 1) (w + 1) (by omega) h3)
    ·rw [decide_eq_false h3, Bool.false_and]
     exact Ev.step (f := fun _ => some false) (fun k => by rw [e, if_pos h1, if_neg h2', if_pos (by omega)]) (Ev.now _)
  ·rw [Bool.not_eq_true] at h1
   rw [h1, Bool.false_and]
   exact Ev.step (f := fun _ => some false) (fun k => by rw [e, h1]; rfl) (Ev.now _)
theorem specSafe_ev (s : ByteArray) : Ev (fun k => spec_SafeValue.f k s) (safeR (bl s)) := by
 have hsz := bl_size s
 unfold safeR
 by_cases h0 : (s.size : Int) > 65536
 ·rw [decide_eq_false (by omega), Bool.false_and]
  exact ⟨0, fun k _ => by simp only [spec_SafeValue.f]; rw [if_pos h0]⟩
 ·by_cases h1 : (s.size : Int) > 2000
  ·rw [decide_eq_false (by omega), Bool.false_and]
   exact ⟨0, fun k _ => by simp only [spec_SafeValue.f]; rw [if_neg h0, if_pos h1]⟩
  ·rw [decide_eq_true (by omega), Bool.true_and]
   exact Ev.congr (fun k => by simp only [spec_SafeValue.f]; rw [if_neg h0, if_neg h1]; rfl) (specSafe_l0 s (by omega) (bl s).length 0 0 (by omega) (by omega))
/-! ### right names of fields -/
def nameF (l : List UInt8) : Bool := decide (1 ≤ l.length ∧ l.length ≤ 40) && l.all fun c => inB 33 126 c && decide (c ≠ 58)
theorem specName_l0 (s : ByteArray) (hs : s.size ≤ 1000000) : ∀ (d i : Nat), i + d = (bl s).length → Ev (fun k => spec_HeaderNameOK.l0 k s (i : Int)) (((bl s).drop i).all fun c => inB 33 126 c && decide (c ≠ 58)) := by
 intro d
 induction d with
 | zero =>
  intro i hi
  have hsz := bl_size s
  rw [List.drop_eq_nil_of_le (by omega)]
  refine Ev.step (f := fun _ => some _) (fun k => ?_) (Ev.now _)
  simp only [spec_HeaderNameOK.l0]
  rw [if_neg (by omega)]
  rfl
 | succ d ih =>
  intro i hi
  have hsz := bl_size s
  have hlt : i < (bl s).length := by omega
  have hb := bt_eq s i hlt
  rw [List.drop_eq_getElem_cons hlt, List.all_cons]
  generalize hc : (bl s)[i] = c at hb ⊢
  have hc255 := byte_lt c
  have e : ∀ k, spec_HeaderNameOK.l0 (k + 1) s (i : Int) = if (inB 33 126 c) = true then (if (c.toNat : Int) = 58 then some false else spec_HeaderNameOK.l0 k s ((i + 1 : Nat) : Int)) else some false := fun k => by
   have hin : spec_l01In.f (wrap64 (c.toNat : Int)) 33 126 = some (inB 33 126 c) := by
    rw [w64n _ (by omega), l01In_eq]
    unfold inB
    congr 1
    apply decide_eq_decide.2
    omega
   simp only [spec_HeaderNameOK.l0, hb, hin, bS]
   rw [if_pos (by omega), if_pos (by omega), w64s i (by omega)]
  by_cases h1 : inB 33 126 c = true
  ·rw [h1, Bool.true_and]
   by_cases h2 : c = 58
   ·have h2' : (c.toNat : Int) = 58 := by rw [h2]; rfl
    rw [decide_eq_false (by simp [h2]), Bool.false_and]
    exact Ev.step (f := fun _ => some false) (fun k => by rw [e, if_pos h1, if_pos h2']) (Ev.now _)
   ·have h2' : ¬ (c.toNat : Int) = 58 := fun hh => h2 (UInt8.toNat_inj.1 (by rw [show ((58 : UInt8)).toNat = 58 from rfl]; omega))
    rw [decide_eq_true h2, Bool.true_and]
    exact Ev.step (fun k => by rw [e, if_pos h1, if_neg h2']) (ih (i + 1) (by omega))
  ·rw [Bool.not_eq_true] at h1
   rw [h1, Bool.false_and, Bool.false_and]
   exact Ev.step (f := fun _ => some false) (fun k => by rw [e, h1]; rfl) (Ev.now _)
theorem specName_ev (s : ByteArray) : Ev (fun k => spec_HeaderNameOK.f k s) (nameF (bl s)) := by
 have hsz := bl_size s
 unfold nameF
 by_cases h0 : (s.size : Int) > 65536
 ·rw [decide_eq_false (by omega), Bool.false_and]
  exact ⟨0, fun k _ => by simp only [spec_HeaderNameOK.f]; rw [if_pos h0]⟩
 ·by_cases h1 : 1 ≤ (bl s).length ∧ (bl s).length ≤ 40
  ·rw [decide_eq_true h1, Bool.true_and]
   exact Ev.congr (fun k => by simp only [spec_HeaderNameOK.f, l01In_eq, bS]; rw [if_neg h0, if_pos (decide_eq_true (by omega))]; rfl) (specName_l0 s (by omega) (bl s).length 0 (by omega))
  ·rw [decide_eq_false h1, Bool.false_and]
   exact ⟨0, fun k _ => by simp only [spec_HeaderNameOK.f, l01In_eq, bS]; rw [if_neg h0, if_neg (by rw [decide_eq_true_eq]; omega)]⟩
theorem implName_ev (s : ByteArray) (hs : s.size ≤ 4000000000) : Ev (fun k => impl_HeaderNameOK.f k s) (nameF (bl s)) := by
 have hsz := bl_size s
 unfold nameF
 by_cases h1 : 1 ≤ (bl s).length ∧ (bl s).length ≤ 40
 ·rw [decide_eq_true h1, Bool.true_and]
  obtain ⟨K, h⟩ := allWithin_ev s (by omega) 33 126
  have hcont : strings_Contains.f s (⟨#[58]⟩ : ByteArray) = some ((bl s).contains 58) := by
   unfold strings_Contains.f strings_Index.f
   rw [if_pos (by omega), bS, ← contains_one]
   rfl
  have hall : ((bl s).all fun c => inB 33 126 c && decide (c ≠ 58)) = ((bl s).all (inB 33 126) && !(bl s).contains 58) := by
   generalize bl s = l
   induction l with
   | nil => rfl
   | cons a l ih =>
    rw [List.all_cons, List.all_cons, ih, List.contains_cons]
    by_cases h58 : a = 58
    ·subst h58; simp
    ·rw [decide_eq_true h58, beq_eq_false_iff_ne.2 (Ne.symm h58)]
     cases inB 33 126 a <;> simp
  rw [hall]
  refine ⟨K, fun k hk => ?_⟩
  have := h k hk
  simp only at this
  simp only [impl_HeaderNameOK.f, within_eq, bS]
  rw [if_pos (decide_eq_true (by omega)), show ((33 : Int)) = ((33 : Nat) : Int) from rfl, show ((126 : Int)) = ((126 : Nat) : Int) from rfl, this, bS, hcont, bS]
  cases (bl s).all (inB 33 126) <;> rfl
 ·rw [decide_eq_false h1, Bool.false_and]
  exact ⟨0, fun k _ => by simp only [impl_HeaderNameOK.f, within_eq, bS]; rw [if_neg (by rw [decide_eq_true_eq]; omega)]⟩
end Go.Proofs.YtcpdbobkpbmjiaaDoor.P
/- Lemmas of mine: a field taken apart in both programs. Plain. -/
set_option linter.unusedVariables false
set_option linter.unusedSimpArgs false
namespace Go.Proofs.YtcpdbobkpbmjiaaDoor.P
open Go.RowKit Go.Proofs.YtcpdbobkpbmjiaaDoorW.PrintWords
theorem hasPre (s a : ByteArray) : stringslite_HasPrefix.f s a = some (decide (a.size ≤ s.size) && ((bl s).take a.size == bl a)) := by
 unfold stringslite_HasPrefix.f
 by_cases h : (s.size : Int) ≥ (a.size : Int)
 ·rw [if_pos h, if_pos (by omega), if_pos (by omega), decide_eq_true (by omega), Bool.true_and, toList_bl, toList_bl, bl_extract, List.drop_zero]
  rfl
 ·rw [if_neg h, decide_eq_false (by omega)]
  rfl
theorem hasSuf (s a : ByteArray) (hs : s.size ≤ 4611686018427387904) : stringslite_HasSuffix.f s a = some (decide (a.size ≤ s.size) && ((bl s).drop (s.size - a.size) == bl a)) := by
 unfold stringslite_HasSuffix.f
 by_cases h : (s.size : Int) ≥ (a.size : Int)
 ·have w : wrap64 ((s.size : Int) - (a.size : Int)) = ((s.size - a.size : Nat) : Int) := w64sub s.size a.size (by omega) (by omega)
  rw [w, if_pos h, if_pos (by omega), if_pos (by omega), decide_eq_true (by omega), Bool.true_and, toList_bl, toList_bl, Int.toNat_natCast, bl_extract]
  rw [List.take_of_length_le (by rw [List.length_drop, ← bl_size]; omega)]
 ·rw [if_neg h, decide_eq_false (by omega)]
  rfl
theorem cutPreG (s a : ByteArray) : strings_CutPrefix.f s a = some (if (decide (a.size ≤ s.size) && ((bl s).take a.size == bl a)) = true then (s.extract a.size s.size, true) else (s, false)) := by
 simp only [strings_CutPrefix.f, stringslite_CutPrefix.f, hasPre, bS]
 by_cases h : (decide (a.size ≤ s.size) && ((bl s).take a.size == bl a)) = true
 ·have hle : a.size ≤ s.size := by simp only [Bool.and_eq_true, decide_eq_true_eq] at h; exact h.1
  rw [if_pos h, if_pos (by omega), if_pos (by omega), bS, if_pos h, Int.toNat_natCast]
 ·rw [if_neg h, bS, if_neg h]
theorem cutSufG (s a : ByteArray) (hs : s.size ≤ 4611686018427387904) : strings_CutSuffix.f s a = some (if (decide (a.size ≤ s.size) && ((bl s).drop (s.size - a.size) == bl a)) = true then (s.extract 0 (s.size - a.size), true) else (s, false)) := by
 simp only [strings_CutSuffix.f, stringslite_CutSuffix.f, hasSuf s a hs, bS]
 by_cases h : (decide (a.size ≤ s.size) && ((bl s).drop (s.size - a.size) == bl a)) = true
 ·have hle : a.size ≤ s.size := by simp only [Bool.and_eq_true, decide_eq_true_eq] at h; exact h.1
  have w : wrap64 ((s.size : Int) - (a.size : Int)) = ((s.size - a.size : Nat) : Int) := w64sub s.size a.size hle (by omega)
  rw [w, if_pos h, if_pos (by omega), if_pos (by omega), bS, if_pos h, Int.toNat_natCast]
 ·rw [if_neg h, bS, if_neg h]
theorem idxByte_none (c : UInt8) : ∀ l : List UInt8, c ∉ l → Lib.indexByte l c = -1
 | [], _ => rfl
 | b :: l, h => by
  have hb : (b == c) = false := by simp; rintro rfl; simp at h
  have ih := idxByte_none c l (fun hm => h (by simp [hm]))
  simp only [Lib.indexByte, hb, ih]
  rfl
theorem idxByte_at (c : UInt8) : ∀ (p r : List UInt8), c ∉ p → Lib.indexByte (p ++ c :: r) c = (p.length : Int)
 | [], r, _ => by simp [Lib.indexByte]
 | b :: p, r, h => by
  have hb : (b == c) = false := by simp; rintro rfl; simp at h
  have ih := idxByte_at c p r (fun hm => h (by simp [hm]))
  simp only [List.cons_append, Lib.indexByte, hb, ih]
  rw [if_neg (by decide), if_neg (by simp)]
  simp
theorem cut_none (s : ByteArray) (c : UInt8) (h : c ∉ bl s) : strings_Cut.f s (⟨#[c]⟩ : ByteArray) = some (s, ⟨#[]⟩, false) := by
 have hi : stringslite_Index.f s (⟨#[c]⟩ : ByteArray) = some (-1) := by
  unfold stringslite_Index.f
  rw [if_pos (show (⟨#[c]⟩ : ByteArray).data.toList.length = 1 from rfl)]
  exact congrArg some (idxByte_none c (bl s) h)
 simp only [strings_Cut.f, stringslite_Cut.f, hi, bS]
 rfl
theorem cut_at (s : ByteArray) (c : UInt8) (p r : List UInt8) (e : bl s = p ++ c :: r) (h : c ∉ p) (hs : s.size ≤ 4611686018427387904) : strings_Cut.f s (⟨#[c]⟩ : ByteArray) = some (s.extract 0 p.length, s.extract (p.length + 1) s.size, true) := by
 have hi : stringslite_Index.f s (⟨#[c]⟩ : ByteArray) = some (p.length : Int) := by
  unfold stringslite_Index.f
  rw [if_pos (show (⟨#[c]⟩ : ByteArray).data.toList.length = 1 from rfl)]
  refine congrArg some ?_
  show Lib.indexByte (bl s) c = _
  rw [e, idxByte_at c p r h]
 have hsz : s.size = p.length + 1 + r.length := by rw [bl_size, e]; simp; omega
 have w : wrap64 ((p.length : Int) + ((⟨#[c]⟩ : ByteArray).size : Int)) = ((p.length + 1 : Nat) : Int) := w64add p.length 1 (by omega)
 simp only [strings_Cut.f, stringslite_Cut.f, hi, bS, w]
 rw [if_pos (by omega), if_pos (by omega), if_pos (by omega), if_pos (by omega), if_pos (by omega), bS]
 rfl
/-! ### what stands behind the colon -/
def unf : List UInt8 → Option (List UInt8)
 | [] => some []
 | c :: r => if c = 13 then (if r.take 2 = [10, 32] then unf (r.drop 1) else none) else (unf r).map (c :: ·)
termination_by l => l.length
decreasing_by
 all_goals simp
 all_goals omega
def unfV (r : List UInt8) : Option (List UInt8) :=
 if r.take 1 = [32] ∧ 3 ≤ r.length ∧ r.drop (r.length - 2) = [13, 10] then
  (unf ((r.drop 1).take (r.length - 3))).bind fun v => if safeR v = true then some v else none
 else none
def unfR : List UInt8 → List UInt8 → Option (List UInt8 × List UInt8)
 | _, [] => none
 | p, c :: r => if c = 58 then (if nameF p = true then (unfV r).map fun v => (p, v) else none) else unfR (p ++ [c]) r
theorem unfR_none : ∀ (l p : List UInt8), (58 : UInt8) ∉ l → unfR p l = none
 | [], _, _ => rfl
 | c :: r, p, h => by
  have hc : c ≠ 58 := fun e => h (by simp [e])
  rw [unfR, if_neg hc, unfR_none r _ (fun hm => h (by simp [hm]))]
theorem unfR_at : ∀ (q r p : List UInt8), (58 : UInt8) ∉ q → unfR p (q ++ 58 :: r) = if nameF (p ++ q) = true then (unfV r).map fun v => (p ++ q, v) else none
 | [], r, p, _ => by simp [unfR]
 | c :: q, r, p, h => by
  have hc : c ≠ 58 := fun e => h (by simp [e])
  rw [List.cons_append, unfR, if_neg hc, unfR_at q r _ (fun hm => h (by simp [hm]))]
  simp
/-- What an unfolding function tells. -/
def outU (o : Option (List UInt8 × List UInt8)) (r : ByteArray × ByteArray × Bool) : Prop := match o with
 | none => r.2.2 = false
 | some (p, v) => r.2.2 = true ∧ bl r.1 = p ∧ bl r.2.1 = v
/-! ### a text replaced -/
theorem safeW_all : ∀ (l : List UInt8) (w : Nat), safeW w l = true → l.all (inB 32 126) = true
 | [], _, _ => rfl
 | c :: l, w, h => by
  simp only [safeW, Bool.and_eq_true] at h
  rw [List.all_cons, h.1, Bool.true_and]
  split at h
  ·simp only [Bool.and_eq_true] at h
   exact safeW_all l 0 h.2.2
  ·simp only [Bool.and_eq_true] at h
   exact safeW_all l (w + 1) h.2.2
theorem safeR_no13 (l : List UInt8) (h : (13 : UInt8) ∈ l) : safeR l = false := by
 unfold safeR
 cases hs : safeW 0 l with
 | false => simp
 | true =>
  have := List.all_eq_true.1 (safeW_all l 0 hs) 13 h
  exact absurd this (by decide)
def repl (l : List UInt8) : List UInt8 := Lib.replaceAll l [13, 10, 32] [32]
theorem repl_none (l : List UInt8) (h : Lib.index l [13, 10, 32] = -1) : repl l = l := by
 unfold repl Lib.replaceAll Lib.replace
 rw [if_neg (by decide)]
 have : Lib.replaceNum l [13, 10, 32] (-1) = 0 := by
  unfold Lib.replaceNum
  rw [if_pos (.inl (by decide)), Lib.count_miss h]
 rw [this]
 rfl
theorem repl_at (l : List UInt8) (i : Nat) (h : Lib.index l [13, 10, 32] = i) : repl l = l.take i ++ 32 :: repl (l.drop (i + 3)) := by
 unfold repl Lib.replaceAll Lib.replace
 rw [if_neg (by decide), if_neg (by decide)]
 have e : ∀ x, Lib.replaceNum x [13, 10, 32] (-1) = Lib.count x [13, 10, 32] := fun x => by
  unfold Lib.replaceNum
  rw [if_pos (.inl (by decide))]
 rw [e, e, Lib.count_hit (by simp) h, Nat.add_comm 1, Lib.replaceK_hit _ _ _ _ i h]
 simp
theorem repl_len : ∀ (n : Nat) (l : List UInt8), l.length ≤ n → (repl l).length ≤ l.length := by
 intro n
 induction n with
 | zero =>
  intro l hl
  cases l with
  | nil => decide
  | cons a b => simp at hl
 | succ n ih =>
  intro l hl
  by_cases hi : Lib.index l [13, 10, 32] = -1
  ·rw [repl_none l hi]
   exact Nat.le_refl _
  ·have hge := Lib.index_ge l [13, 10, 32]
   obtain ⟨i, hi⟩ : ∃ i : Nat, Lib.index l [13, 10, 32] = i := ⟨(Lib.index l [13, 10, 32]).toNat, by omega⟩
   have hr := Lib.index_room l [13, 10, 32] (by omega)
   rw [hi] at hr
   simp only [List.length_cons, List.length_nil] at hr
   rw [repl_at l i hi, List.length_append, List.length_cons, List.length_take]
   have := ih (l.drop (i + 3)) (by rw [List.length_drop]; omega)
   rw [List.length_drop] at this
   omega
theorem occ_iff (l : List UInt8) (i : Nat) : Lib.occAt l [13, 10, 32] i = decide ((l.drop i).take 3 = [13, 10, 32]) := by
 unfold Lib.occAt
 generalize l.drop i = m
 match m with
 | [] => rfl
 | [a] => simp [List.isPrefixOf]
 | [a, b] => simp [List.isPrefixOf]
 | a :: b :: c :: m =>
  simp only [List.isPrefixOf, List.take_succ_cons, List.take_zero, Bool.and_true]
  rw [Bool.eq_iff_iff]
  simp only [Bool.and_eq_true, beq_iff_eq, decide_eq_true_eq, List.cons.injEq, and_true]
  constructor <;> rintro ⟨h1, h2, h3⟩ <;> exact ⟨h1.symm, h2.symm, h3.symm⟩
/-- Ahead of the first place, what holds no 13 goes through; one 13 ends it. -/
theorem unf_pre : ∀ (p r : List UInt8), (∀ j, j < p.length → ((p ++ r).drop j).take 3 ≠ [13, 10, 32]) → unf (p ++ r) = if (13 : UInt8) ∈ p then none else (unf r).map (p ++ ·)
 | [], r, _ => by simp
 | c :: p, r, h => by
  have ih := unf_pre p r (fun j hj => by have := h (j + 1) (by simpa using hj); simpa using this)
  rw [List.cons_append, unf]
  by_cases hc : c = 13
  ·subst hc
   rw [if_pos rfl, if_pos (show (13 : UInt8) ∈ 13 :: p by simp)]
   refine if_neg ?_
   intro ht
   have h0 := h 0 (by simp)
   simp only [List.cons_append, List.drop_zero] at h0
   exact h0 (by rw [show (3 : Nat) = 2 + 1 from rfl, List.take_succ_cons, ht])
  ·rw [if_neg hc, ih]
   by_cases hm : (13 : UInt8) ∈ p
   ·rw [if_pos hm, if_pos (by simp [hm])]
    rfl
   ·rw [if_neg hm, if_neg (by simp only [List.mem_cons, not_or]; exact ⟨fun e => hc e.symm, hm⟩), Option.map_map]
    congr 1
theorem unf_repl : ∀ (n : Nat) (l : List UInt8), l.length ≤ n → (match unf l with | none => (13 : UInt8) ∈ repl l | some v => repl l = v) := by
 intro n
 induction n with
 | zero =>
  intro l hl
  cases l with
  | nil => rw [unf]; rfl
  | cons a b => simp at hl
 | succ n ih =>
  intro l hl
  rcases Lib.index_spec l [13, 10, 32] with ⟨hi, hno⟩ | ⟨i, hi, hle, hocc, hno⟩
  ·rw [repl_none l hi]
   have := unf_pre l [] (fun j hj => by
    have := hno j (by omega)
    rw [occ_iff] at this
    rw [List.append_nil]
    exact of_decide_eq_false this)
   rw [List.append_nil] at this
   rw [this]
   by_cases hm : (13 : UInt8) ∈ l
   ·rw [if_pos hm]; exact hm
   ·rw [if_neg hm, unf]; simp
  ·rw [repl_at l i hi]
   rw [occ_iff, decide_eq_true_eq] at hocc
   obtain ⟨q, hq⟩ : ∃ q, l.drop i = 13 :: 10 :: 32 :: q := ⟨(l.drop i).drop 3, by have h := List.take_append_drop 3 (l.drop i); rw [hocc] at h; exact h.symm⟩
   have hd : l.drop (i + 3) = q := by rw [← List.drop_drop, hq]; rfl
   have hlen : l.length = i + 3 + q.length := by
    have h1 := congrArg List.length hq
    rw [List.length_drop] at h1
    simp at h1
    omega
   have hpre := unf_pre (l.take i) (l.drop i) (fun j hj => by
    rw [List.length_take] at hj
    have := hno j (by omega)
    rw [occ_iff] at this
    rw [List.take_append_drop]
    exact of_decide_eq_false this)
   rw [List.take_append_drop] at hpre
   rw [hpre, hd]
   by_cases hm : (13 : UInt8) ∈ l.take i
   ·rw [if_pos hm]
    exact List.mem_append_left _ hm
   ·rw [if_neg hm, hq, unf, if_pos rfl, if_pos (show List.take 2 (10 :: 32 :: q) = [10, 32] from rfl)]
    show match ((unf (32 :: q)).map (l.take i ++ ·)) with | none => _ | some v => _
    rw [unf, if_neg (by decide)]
    have := ih q (by omega)
    cases hu : unf q with
    | none =>
     rw [hu] at this
     exact List.mem_append_right _ (List.mem_cons_of_mem _ this)
    | some v =>
     rw [hu] at this
     simp only [Option.map_some]
     rw [this]
theorem safe_repl (l : List UInt8) : safeR (repl l) = match unf l with | none => false | some v => safeR v := by
 have := unf_repl l.length l (Nat.le_refl _)
 cases hu : unf l with
 | none => rw [hu] at this; exact safeR_no13 _ this
 | some v => rw [hu] at this; simp only; rw [this]
/-! ### the program's -/
theorem repl_ev (s : ByteArray) (hs : s.size ≤ 1000000) : ∃ x, strings_ReplaceAll.f s (⟨#[13, 10, 32]⟩ : ByteArray) (⟨#[32]⟩ : ByteArray) = some x ∧ bl x = repl (bl s) := by
 refine ⟨⟨(repl (bl s)).toArray⟩, ?_, bl_mk _⟩
 unfold strings_ReplaceAll.f
 have h2 := Lib.count_le s.data.toList (⟨#[13, 10, 32]⟩ : ByteArray).data.toList
 have h3 : s.data.toList.length = s.size := (Lib.size_eq s).symm
 have h4 : Lib.countB s ⟨#[13, 10, 32]⟩ = Lib.count s.data.toList (⟨#[13, 10, 32]⟩ : ByteArray).data.toList := rfl
 have h5 : (⟨#[32]⟩ : ByteArray).size = 1 := rfl
 rw [if_pos ⟨⟨by omega, by decide⟩, by rw [h5]; omega⟩]
 rfl
theorem take_one (l : List UInt8) (c : UInt8) : l.take 1 = [c] ↔ l[0]? = some c := by
 cases l with
 | nil => simp
 | cons b l => simp
theorem pre_one (s : ByteArray) (c : UInt8) : (decide ((⟨#[c]⟩ : ByteArray).size ≤ s.size) && ((bl s).take (⟨#[c]⟩ : ByteArray).size == bl (⟨#[c]⟩ : ByteArray))) = decide ((bl s).take 1 = [c]) := by
 show (decide (1 ≤ s.size) && ((bl s).take 1 == [c])) = _
 rw [bl_size]
 generalize bl s = l
 cases l with
 | nil => rfl
 | cons a l =>
  rw [Bool.eq_iff_iff]
  simp
theorem suf_two (s : ByteArray) : (decide ((⟨#[13, 10]⟩ : ByteArray).size ≤ s.size) && ((bl s).drop (s.size - (⟨#[13, 10]⟩ : ByteArray).size) == bl (⟨#[13, 10]⟩ : ByteArray))) = decide (2 ≤ (bl s).length ∧ (bl s).drop ((bl s).length - 2) = [13, 10]) := by
 show (decide (2 ≤ s.size) && ((bl s).drop (s.size - 2) == [13, 10])) = _
 rw [bl_size, Bool.eq_iff_iff]
 simp
theorem implUnf_ev (s : ByteArray) (hs : s.size ≤ 1000000) : ∃ r, Ev (fun k => impl_unfold.f k s) r ∧ outU (unfR [] (bl s)) r := by
 have hsz := bl_size s
 by_cases hm : (58 : UInt8) ∈ bl s
 ·obtain ⟨p, r, e, hp⟩ := List.eq_append_cons_of_mem hm
  have hlen : s.size = p.length + 1 + r.length := by rw [hsz, e]; simp; omega
  have h1 := cut_at s 58 p r e hp (by omega)
  have b0 : bl (s.extract 0 p.length) = p := by rw [bl_extract, e]; simp
  have b1 : bl (s.extract (p.length + 1) s.size) = r := by
   rw [bl_extract, e, ← List.drop_drop, List.drop_left]
   exact List.take_of_length_le (by simp; omega)
  have z1 := bl_size (s.extract (p.length + 1) s.size)
  rw [b1] at z1
  generalize s.extract (p.length + 1) s.size = R at h1 b1 z1
  generalize s.extract 0 p.length = P at h1 b0
  obtain ⟨K1, n1⟩ := implName_ev P (by rw [bl_size, b0]; omega)
  rw [b0] at n1
  have h2 := cutPreG R (⟨#[32]⟩ : ByteArray)
  rw [pre_one, b1] at h2
  rw [e, unfR_at p r [] hp, List.nil_append]
  by_cases c1 : r.take 1 = [32]
  ·rw [if_pos (decide_eq_true c1)] at h2
   have b2 : bl (R.extract (⟨#[32]⟩ : ByteArray).size R.size) = r.drop 1 := by
    rw [bl_extract, b1, z1]
    exact List.take_of_length_le (by rw [List.length_drop]; exact Nat.le_refl _)
   have z2 := bl_size (R.extract (⟨#[32]⟩ : ByteArray).size R.size)
   rw [b2, List.length_drop] at z2
   generalize R.extract (⟨#[32]⟩ : ByteArray).size R.size = Q at h2 b2 z2
   have h3 := cutSufG Q (⟨#[13, 10]⟩ : ByteArray) (by omega)
   rw [suf_two, b2, List.length_drop] at h3
   have hrl : 1 ≤ r.length := by cases r with | nil => simp at c1 | cons a b => simp
   by_cases c2 : 3 ≤ r.length ∧ r.drop (r.length - 2) = [13, 10]
   ·have c2' : 2 ≤ r.length - 1 ∧ List.drop (r.length - 1 - 2) (r.drop 1) = [13, 10] := ⟨by omega, by rw [List.drop_drop, show 1 + (r.length - 1 - 2) = r.length - 2 by omega]; exact c2.2⟩
    rw [if_pos (decide_eq_true c2')] at h3
    have b3 : bl (Q.extract 0 (Q.size - (⟨#[13, 10]⟩ : ByteArray).size)) = (r.drop 1).take (r.length - 3) := by
     rw [bl_extract, b2, List.drop_zero, z2]
     rw [show r.length - 1 - (⟨#[13, 10]⟩ : ByteArray).size - 0 = r.length - 3 from by show r.length - 1 - 2 - 0 = _; omega]
    have z3 := bl_size (Q.extract 0 (Q.size - (⟨#[13, 10]⟩ : ByteArray).size))
    rw [b3, List.length_take, List.length_drop] at z3
    generalize Q.extract 0 (Q.size - (⟨#[13, 10]⟩ : ByteArray).size) = V at h3 b3 z3
    obtain ⟨x, h4, b4⟩ := repl_ev V (by omega)
    have zx : x.size ≤ 4000000000 := by
     have := repl_len _ _ (Nat.le_refl (bl V).length)
     rw [← b4, ← bl_size, b3, List.length_take, List.length_drop] at this
     omega
    obtain ⟨K2, n2⟩ := implSafe_ev x zx
    rw [b4, b3, safe_repl] at n2
    have hV : unfV r = (unf ((r.drop 1).take (r.length - 3))).bind fun v => if safeR v = true then some v else none := by
     unfold unfV
     rw [if_pos ⟨c1, c2.1, c2.2⟩]
    by_cases c3 : nameF p = true
    ·rw [if_pos c3]
     cases hu : unf ((r.drop 1).take (r.length - 3)) with
     | none =>
      rw [hu] at n2
      rw [hV, hu]
      refine ⟨((⟨#[]⟩ : ByteArray), (⟨#[]⟩ : ByteArray), false), ⟨K1 + K2, fun k hk => ?_⟩, rfl⟩
      have m1 := n1 k (by omega)
      have m2 := n2 k (by omega)
      simp only at m1 m2
      simp only [impl_unfold.f, h1, h2, h3, h4, bS, if_true, m1, m2, c3]
      rfl
     | some v =>
      have hr := unf_repl _ _ (Nat.le_refl ((r.drop 1).take (r.length - 3)).length)
      rw [hu] at hr n2
      rw [hV, hu]
      by_cases c4 : safeR v = true
      ·refine ⟨(P, x, true), ⟨K1 + K2, fun k hk => ?_⟩, ?_⟩
       ·have m1 := n1 k (by omega)
        have m2 := n2 k (by omega)
        simp only at m1 m2
        simp only [impl_unfold.f, h1, h2, h3, h4, bS, if_true, m1, m2, c3, c4]
       ·simp only [Option.bind_some, if_pos c4, Option.map_some]
        exact ⟨rfl, b0, by rw [b4, b3]; exact hr⟩
      ·refine ⟨((⟨#[]⟩ : ByteArray), (⟨#[]⟩ : ByteArray), false), ⟨K1 + K2, fun k hk => ?_⟩, ?_⟩
       ·have m1 := n1 k (by omega)
        have m2 := n2 k (by omega)
        simp only at m1 m2
        simp only [impl_unfold.f, h1, h2, h3, h4, bS, if_true, m1, m2, c3]
        rw [if_neg c4]
       ·simp only [Option.bind_some, if_neg c4, Option.map_none]
        rfl
    ·rw [if_neg c3]
     refine ⟨((⟨#[]⟩ : ByteArray), (⟨#[]⟩ : ByteArray), false), ⟨K1 + K2, fun k hk => ?_⟩, rfl⟩
     have m1 := n1 k (by omega)
     simp only at m1
     simp only [impl_unfold.f, h1, h2, h3, h4, bS, if_true, m1]
     rw [if_neg c3]
   ·have c2' : ¬ (2 ≤ r.length - 1 ∧ List.drop (r.length - 1 - 2) (r.drop 1) = [13, 10]) := fun h => c2 ⟨by omega, by have := h.2; rw [List.drop_drop, show 1 + (r.length - 1 - 2) = r.length - 2 by omega] at this; exact this⟩
    rw [if_neg (by rw [decide_eq_true_eq]; exact c2')] at h3
    obtain ⟨x, h4, _⟩ := repl_ev Q (by omega)
    have hV : unfV r = none := if_neg fun h => c2 ⟨h.2.1, h.2.2⟩
    refine ⟨((⟨#[]⟩ : ByteArray), (⟨#[]⟩ : ByteArray), false), ⟨0, fun k _ => ?_⟩, ?_⟩
    ·simp only [impl_unfold.f, h1, h2, h3, h4, bS, if_true]
     rfl
    ·rw [hV]
     split <;> rfl
  ·rw [if_neg (by rw [decide_eq_true_eq]; exact c1)] at h2
   have hV : unfV r = none := if_neg fun h => c1 h.1
   have h3 := cutSufG R (⟨#[13, 10]⟩ : ByteArray) (by omega)
   obtain ⟨y, hy, zy⟩ : ∃ y : ByteArray × Bool, strings_CutSuffix.f R (⟨#[13, 10]⟩ : ByteArray) = some y ∧ y.1.size ≤ 1000000 := by
    rw [h3]
    split
    ·exact ⟨_, rfl, by rw [ByteArray.size_extract]; omega⟩
    ·exact ⟨_, rfl, by simp only; omega⟩
   obtain ⟨x, h4, _⟩ := repl_ev y.1 zy
   refine ⟨((⟨#[]⟩ : ByteArray), (⟨#[]⟩ : ByteArray), false), ⟨0, fun k _ => ?_⟩, ?_⟩
   ·simp only [impl_unfold.f, h1, h2, hy, h4, bS, if_true]
    rfl
   ·rw [hV]
    split <;> rfl
 ·rw [unfR_none _ _ hm]
  have h1 := cut_none s 58 hm
  have h2 := cutPreG (⟨#[]⟩ : ByteArray) (⟨#[32]⟩ : ByteArray)
  rw [pre_one] at h2
  have h3 := cutSufG (⟨#[]⟩ : ByteArray) (⟨#[13, 10]⟩ : ByteArray) (by decide)
  rw [suf_two] at h3
  obtain ⟨x, h4, _⟩ := repl_ev (⟨#[]⟩ : ByteArray) (by decide)
  rw [if_neg (by decide)] at h2 h3
  refine ⟨_, ⟨0, fun k _ => ?_⟩, (rfl : outU none ((⟨#[]⟩ : ByteArray), (⟨#[]⟩ : ByteArray), false))⟩
  simp only [impl_unfold.f, h1, h2, h3, h4, bS]
  rfl
/-! ### the reference's -/
def no3 : ByteArray × ByteArray × Bool := ((⟨#[]⟩ : ByteArray), (⟨#[]⟩ : ByteArray), false)
theorem specU_scan (s : ByteArray) (hs : s.size ≤ 1000000) (R : ByteArray × ByteArray × Bool) (n : Nat) (hn : n ≤ s.size) (hne : ∀ j (h : j < (bl s).length), j < n → (bl s)[j] ≠ 58) (hR : Ev (fun k => spec_l03Unfold.l0 k s (n : Int)) R) : ∀ (d i : Nat), i + d = n → Ev (fun k => spec_l03Unfold.l0 k s (i : Int)) R := by
 intro d
 induction d with
 | zero =>
  intro i hi
  obtain rfl : i = n := by omega
  exact hR
 | succ d ih =>
  intro i hi
  have hsz := bl_size s
  have hlt : i < (bl s).length := by omega
  have hb := bt_eq s i hlt
  have h58 := hne i hlt (by omega)
  have h58' : ¬ ((bl s)[i].toNat : Int) = 58 := fun hh => h58 (UInt8.toNat_inj.1 (by rw [show ((58 : UInt8)).toNat = 58 from rfl]; omega))
  refine Ev.step (fun k => ?_) (ih (i + 1) (by omega))
  simp only [spec_l03Unfold.l0, hb]
  rw [if_pos (by omega), if_pos (by omega), if_neg h58', w64s i (by omega)]
theorem specU_bad (s : ByteArray) (x : Int) (k : Nat) : spec_l03Unfold.j2 (k + 1) s x true = some no3 := by
 simp only [spec_l03Unfold.j2]
 rfl
def finU (s : ByteArray) (m : Nat) (B : List UInt8) : ByteArray × ByteArray × Bool := (s.extract 0 m, ⟨(B.drop 1).toArray⟩, safeR (B.drop 1))
theorem specU_l1 (s : ByteArray) (m : Nat) (hm : m ≤ s.size) (t : ByteArray) (ht : t.size ≤ 1000000) : ∀ (d i : Nat) (A : List UInt8), (bl t).length - i ≤ d → 1 ≤ A.length → A.length ≤ i →
  Ev (fun k => spec_l03Unfold.l1 k s (m : Int) t (nb A) (i : Int)) (match unf ((bl t).drop i) with | none => no3 | some w => finU s m (A ++ w)) := by
 have hend : ∀ (i : Nat) (A : List UInt8), (bl t).length ≤ i → 1 ≤ A.length → Ev (fun k => spec_l03Unfold.l1 k s (m : Int) t (nb A) (i : Int)) (match unf ((bl t).drop i) with | none => no3 | some w => finU s m (A ++ w)) := by
  intro i A hi hA
  have hsz := bl_size t
  rw [List.drop_eq_nil_of_le hi, unf]
  simp only [List.append_nil]
  obtain ⟨K, h⟩ := specSafe_ev ⟨(A.drop 1).toArray⟩
  rw [bl_mk] at h
  have e : (nb A).drop 1 = nb (A.drop 1) := by unfold nb; rw [List.map_drop]
  have hl := nb_length A
  refine ⟨K + 1, fun k hk => ?_⟩
  obtain ⟨j, rfl⟩ : ∃ j, k = j + 1 := ⟨k - 1, by omega⟩
  have f := h j (by omega)
  simp only at f
  simp only [spec_l03Unfold.l1]
  rw [if_neg (by omega), if_pos (by omega), bS, if_pos (by omega), if_pos (by omega), e, strOf_nb, f, bS, Int.toNat_natCast]
  rfl
 intro d
 induction d with
 | zero => intro i A hd hA hAi; exact hend i A (by omega) hA
 | succ d ih =>
  intro i A hd hA hAi
  by_cases hge : (bl t).length ≤ i
  ·exact hend i A hge hA
  have hsz := bl_size t
  have hlt : i < (bl t).length := by omega
  have hb := bt_eq t i hlt
  have hdr := List.drop_eq_getElem_cons hlt
  rw [hdr, unf]
  generalize hc : (bl t)[i] = c at hb ⊢
  have w1 : Aside0 (wrap64 ((i : Int) + 1) = ((i + 1 : Nat) : Int)) := ⟨w64s i (by omega)⟩
  have w2 : Aside0 (wrap64 ((i : Int) + 2) = ((i + 2 : Nat) : Int)) := ⟨w64add i 2 (by omega)⟩
  have w3 : Aside0 (wrap64 (((i + 1 : Nat) : Int) + 1) = ((i + 2 : Nat) : Int)) := ⟨w64s (i + 1) (by omega)⟩
  by_cases h13 : c = 13
  ·have h13' : (c.toNat : Int) = 13 := by rw [h13]; rfl
   rw [if_pos h13]
   by_cases h2 : i + 2 < (bl t).length
   ·have hb1 := bt_eq t (i + 1) (by omega)
    have hb2 := bt_eq t (i + 2) h2
    have htk : ((bl t).drop (i + 1)).take 2 = [(bl t)[i + 1], (bl t)[i + 2]] := by
     rw [List.drop_eq_getElem_cons (show i + 1 < (bl t).length by omega), List.drop_eq_getElem_cons (show i + 1 + 1 < (bl t).length by omega)]
     rfl
    have hdd : ((bl t).drop (i + 1)).drop 1 = (bl t).drop (i + 2) := by rw [List.drop_drop]
    rw [htk, hdd]
    generalize hc1 : (bl t)[i + 1] = c1 at hb1 ⊢
    generalize hc2 : (bl t)[i + 2] = c2 at hb2 ⊢
    have e : ∀ k, spec_l03Unfold.l1 (k + 1) s (m : Int) t (nb A) (i : Int) = if (c1.toNat : Int) = 10 then (if (c2.toNat : Int) = 32 then spec_l03Unfold.l1 k s m t (nb A) ((i + 2 : Nat) : Int) else some no3) else some no3 := fun k => by
     simp only [spec_l03Unfold.l1, hb, w1.out, w2.out, w3.out, hb1, hb2]
     rw [if_pos (by omega), if_pos (by omega), if_pos h13', if_neg (by omega), if_pos (by omega), if_pos (by omega)]
     by_cases h10 : (c1.toNat : Int) = 10
     ·rw [if_pos h10, if_pos h10, if_pos (by omega), if_pos (by omega)]
      rfl
     ·rw [if_neg h10, if_neg h10]
      rfl
    by_cases h10 : c1 = 10
    ·have h10' : (c1.toNat : Int) = 10 := by rw [h10]; rfl
     by_cases h32 : c2 = 32
     ·have h32' : (c2.toNat : Int) = 32 := by rw [h32]; rfl
      rw [if_pos (by rw [h10, h32])]
      exact Ev.step (fun k => by rw [e, if_pos h10', if_pos h32']) (ih (i + 2) A (by omega) hA (by omega))
     ·have h32' : ¬ (c2.toNat : Int) = 32 := fun hh => h32 (UInt8.toNat_inj.1 (by rw [show ((32 : UInt8)).toNat = 32 from rfl]; omega))
      rw [if_neg (by simp [h32])]
      exact Ev.step (f := fun _ => some no3) (fun k => by rw [e, if_pos h10', if_neg h32']) (Ev.now _)
    ·have h10' : ¬ (c1.toNat : Int) = 10 := fun hh => h10 (UInt8.toNat_inj.1 (by rw [show ((10 : UInt8)).toNat = 10 from rfl]; omega))
     rw [if_neg (by simp [h10])]
     exact Ev.step (f := fun _ => some no3) (fun k => by rw [e, if_neg h10']) (Ev.now _)
   ·rw [if_neg (by
     intro hh
     have := congrArg List.length hh
     rw [List.length_take, List.length_drop] at this
     simp only [List.length_cons, List.length_nil] at this
     omega)]
    refine Ev.step (f := fun _ => some no3) (fun k => ?_) (Ev.now _)
    simp only [spec_l03Unfold.l1, hb, w2.out]
    rw [if_pos (by omega), if_pos (by omega), if_pos h13', if_pos (by omega)]
    rfl
  ·have h13' : ¬ (c.toNat : Int) = 13 := fun hh => h13 (UInt8.toNat_inj.1 (by rw [show ((13 : UInt8)).toNat = 13 from rfl]; omega))
   rw [if_neg h13]
   have hl := nb_length A
   have en : nb A ++ [(c.toNat : Int)] = nb (A ++ [c]) := by rw [nb_append]; rfl
   have h := ih (i + 1) (A ++ [c]) (by omega) (by simp) (by simp; omega)
   have er : (match (unf ((bl t).drop (i + 1))).map (c :: ·) with | none => no3 | some w => finU s m (A ++ w)) = (match unf ((bl t).drop (i + 1)) with | none => no3 | some w => finU s m ((A ++ [c]) ++ w)) := by
    cases unf ((bl t).drop (i + 1)) with
    | none => rfl
    | some w => simp
   rw [er]
   refine Ev.step (fun k => ?_) h
   simp only [spec_l03Unfold.l1, hb, w1.out]
   rw [if_pos (by omega), if_pos (by omega), if_neg h13', if_pos (by omega), en]
theorem specUnf_ev (s : ByteArray) (hs : s.size ≤ 1000000) : ∃ r, Ev (fun k => spec_l03Unfold.f k s) r ∧ outU (unfR [] (bl s)) r := by
 have hsz := bl_size s
 by_cases hm : (58 : UInt8) ∈ bl s
 ·obtain ⟨p, r, e, hp⟩ := List.eq_append_cons_of_mem hm
  have hlen : s.size = p.length + 1 + r.length := by rw [hsz, e]; simp; omega
  have scan : ∀ R, Ev (fun k => spec_l03Unfold.j1 k s (p.length : Int)) R → Ev (fun k => spec_l03Unfold.f k s) R := fun R hR => by
   have hlt : p.length < (bl s).length := by omega
   have hb := bt_eq s p.length hlt
   have h58 : (bl s)[p.length] = 58 := by simp [e]
   refine Ev.congr (fun k => rfl) (specU_scan s hs R p.length (by omega) ?_ (Ev.step (fun k => ?_) hR) p.length 0 (by omega))
   ·intro j hj hjp hh
    have h1 : (bl s)[j]? = some 58 := by rw [List.getElem?_eq_getElem hj, hh]
    rw [e, List.getElem?_append_left hjp] at h1
    exact hp (List.mem_of_getElem? h1)
   ·simp only [spec_l03Unfold.l0, hb, h58]
    rw [if_pos (by omega), if_pos (by omega), if_pos (by rfl)]
  have w3 : Aside0 (wrap64 ((p.length : Int) + 3) = ((p.length + 3 : Nat) : Int)) := ⟨w64add p.length 3 (by omega)⟩
  have w1 : Aside0 (wrap64 ((p.length : Int) + 1) = ((p.length + 1 : Nat) : Int)) := ⟨w64s p.length (by omega)⟩
  have bad : ∀ K, (∀ k, K ≤ k → spec_l03Unfold.j1 (k + 1) s (p.length : Int) = spec_l03Unfold.j2 k s (p.length : Int) true) → Ev (fun k => spec_l03Unfold.f k s) no3 := fun K h => scan _ ⟨K + 2, fun k hk => by
   obtain ⟨j, rfl⟩ : ∃ j, k = j + 1 + 1 := ⟨k - 2, by omega⟩
   show spec_l03Unfold.j1 (j + 1 + 1) s _ = _
   rw [h (j + 1) (by omega), specU_bad]⟩
  rw [e, unfR_at p r [] hp, List.nil_append]
  have hout : ∀ o, o = none → outU o no3 := fun o h => by rw [h]; rfl
  by_cases h2 : r.length < 2
  ·refine ⟨no3, bad 0 fun k _ => ?_, hout _ ?_⟩
   ·simp only [spec_l03Unfold.j1, w3.out]
    rw [if_pos (by omega)]
   ·have : unfV r = none := if_neg fun h => by omega
    rw [this]
    split <;> rfl
  have w2 : Aside0 (wrap64 ((s.size : Int) - 2) = ((s.size - 2 : Nat) : Int)) := ⟨w64sub s.size 2 (by omega) (by omega)⟩
  have dl : (s.extract (s.size - 2) s.size).toList = r.drop (r.length - 2) := by
   rw [toList_bl, bl_extract, e, List.take_of_length_le (by rw [List.length_drop, ← e]; omega)]
   rw [show s.size - 2 = p.length + (1 + (r.length - 2)) by omega, ← List.drop_drop, List.drop_left, Nat.add_comm 1, List.drop_succ_cons]
  by_cases hcr : r.drop (r.length - 2) = [13, 10]
  case neg =>
   refine ⟨no3, bad 0 fun k _ => ?_, hout _ ?_⟩
   ·simp only [spec_l03Unfold.j1, w3.out, w2.out, Int.toNat_natCast, dl]
    rw [if_neg (by omega), if_pos (by omega), if_pos (by omega), if_neg hcr]
   ·have : unfV r = none := if_neg fun h => hcr h.2.2
    rw [this]
    split <;> rfl
  have b0 : bl (s.extract 0 p.length) = p := by rw [bl_extract, e]; simp
  obtain ⟨K1, n1⟩ := specName_ev (s.extract 0 p.length)
  rw [b0] at n1
  by_cases hn : nameF p = true
  case neg =>
   rw [if_neg hn]
   rw [Bool.not_eq_true] at hn
   refine ⟨no3, bad K1 fun k hk => ?_, hout _ rfl⟩
   have f := n1 k hk
   simp only at f
   simp only [spec_l03Unfold.j1, w3.out, w2.out, Int.toNat_natCast, dl]
   rw [if_neg (by omega), if_pos (by omega), if_pos (by omega), if_pos hcr, if_pos (by omega), if_pos (by omega), f, bS, hn]
   rfl
  rw [if_pos hn]
  have hlt1 : p.length + 1 < (bl s).length := by omega
  have hb1 := bt_eq s (p.length + 1) hlt1
  have hr0 : r[0]? = some ((bl s)[p.length + 1]) := by
   rw [← List.getElem?_eq_getElem hlt1, e, List.getElem?_append_right (by omega)]
   rw [show p.length + 1 - p.length = 0 + 1 by omega, List.getElem?_cons_succ]
  generalize (bl s)[p.length + 1] = c at hb1 hr0
  have j1e : ∀ k, K1 ≤ k → spec_l03Unfold.j1 (k + 1) s (p.length : Int) = spec_l03Unfold.j2 k s (p.length : Int) ((c.toNat : Int) != 32) := fun k hk => by
   have f := n1 k hk
   simp only at f
   simp only [spec_l03Unfold.j1, w3.out, w2.out, w1.out, Int.toNat_natCast, dl]
   rw [if_neg (by omega), if_pos (by omega), if_pos (by omega), if_pos hcr, if_pos (by omega), if_pos (by omega), f, bS, if_pos hn, if_pos (by omega), if_pos (by omega), hb1]
  by_cases h32 : c = 32
  case neg =>
   have h32' : ((c.toNat : Int) != 32) = true := by
    rw [bne_iff_ne]
    exact fun hh => h32 (UInt8.toNat_inj.1 (by rw [show ((32 : UInt8)).toNat = 32 from rfl]; omega))
   refine ⟨no3, bad K1 fun k hk => by rw [j1e k hk, h32'], hout _ ?_⟩
   have : unfV r = none := if_neg fun h => by
    have := (take_one r 32).1 h.1
    rw [hr0] at this
    exact h32 (Option.some.inj this)
   rw [this]
   rfl
  subst h32
  have h3 : 3 ≤ r.length := by
   rcases Nat.lt_or_ge r.length 3 with h | h
   ·have : r.length - 2 = 0 := by omega
    rw [this, List.drop_zero] at hcr
    rw [hcr] at hr0
    exact absurd hr0 (by decide)
   ·exact h
  have hV : unfV r = (unf ((r.drop 1).take (r.length - 3))).bind fun v => if safeR v = true then some v else none := by
   unfold unfV
   rw [if_pos ⟨(take_one r 32).2 hr0, h3, hcr⟩]
  obtain ⟨t, ht⟩ : ∃ t, t = s.extract (p.length + 1) (s.size - 2) := ⟨_, rfl⟩
  have bt_ : bl t = 32 :: (r.drop 1).take (r.length - 3) := by
   rw [ht, bl_extract, e, ← List.drop_drop, List.drop_left, List.drop_succ_cons, List.drop_zero, show s.size - 2 - (p.length + 1) = (r.length - 3) + 1 by omega]
   cases r with
   | nil => simp at h3
   | cons a r =>
    have : a = 32 := by simpa using hr0
    rw [this, List.take_succ_cons]
    rfl
  have zt : t.size ≤ 1000000 := by rw [bl_size, bt_]; simp; omega
  have h := specU_l1 s p.length (by omega) t zt (bl t).length 1 [32] (by omega) (by simp) (by simp)
  rw [bt_, List.drop_succ_cons, List.drop_zero] at h
  have first : Ev (fun k => spec_l03Unfold.l1 k s (p.length : Int) t ([] : List Int) (0 : Int)) (match unf ((r.drop 1).take (r.length - 3)) with | none => no3 | some w => finU s p.length ([32] ++ w)) := by
   refine Ev.step (fun k => ?_) h
   have hz := bl_size t
   have hlt : 0 < (bl t).length := by rw [bt_]; simp
   have hb := bt_eq t 0 hlt
   have h0 : (bl t)[0] = 32 := by simp [bt_]
   rw [h0] at hb
   have hb' : bt t (0 : Int) = 32 := hb
   simp only [spec_l03Unfold.l1, hb']
   have w01 : wrap64 ((0 : Int) + 1) = ((1 : Nat) : Int) := w64s 0 (by omega)
   rw [if_pos (by omega), if_pos (by omega), if_neg (by decide), if_pos (by decide), w01]
   rfl
  obtain ⟨R, hR⟩ : ∃ R, R = (match unf ((r.drop 1).take (r.length - 3)) with | none => no3 | some w => finU s p.length ([32] ++ w)) := ⟨_, rfl⟩
  rw [← hR] at first
  refine ⟨R, scan R ?_, ?_⟩
  ·obtain ⟨K2, f2⟩ := first
   refine ⟨K1 + K2 + 2, fun k hk => ?_⟩
   obtain ⟨j, rfl⟩ : ∃ j, k = j + 1 + 1 := ⟨k - 2, by omega⟩
   show spec_l03Unfold.j1 (j + 1 + 1) s _ = _
   have f := f2 j (by omega)
   simp only at f
   rw [j1e (j + 1) (by omega)]
   simp only [spec_l03Unfold.j2, w1.out, w2.out, Int.toNat_natCast]
   rw [if_neg (by decide), if_pos (by omega), if_pos (by omega), if_pos (by omega), ← ht]
   exact f
  ·rw [hV, hR]
   cases hu : unf ((r.drop 1).take (r.length - 3)) with
   | none => rfl
   | some w =>
    simp only [Option.bind_some]
    by_cases hs2 : safeR w = true
    ·rw [if_pos hs2]
     exact ⟨hs2, b0, bl_mk _⟩
    ·rw [if_neg hs2]
     exact Bool.eq_false_iff.2 hs2
 ·rw [unfR_none _ _ hm]
  refine ⟨no3, Ev.congr (fun k => rfl) (specU_scan s hs no3 s.size (Nat.le_refl _) (fun j hj _ hh => hm (by rw [← hh]; exact List.getElem_mem hj)) ⟨3, fun k hk => ?_⟩ s.size 0 (by omega)), rfl⟩
  obtain ⟨j, rfl⟩ : ∃ j, k = j + 1 + 1 + 1 := ⟨k - 3, by omega⟩
  have w3 : Aside0 (wrap64 ((s.size : Int) + 3) = ((s.size + 3 : Nat) : Int)) := ⟨w64add s.size 3 (by omega)⟩
  show spec_l03Unfold.l0 (j + 1 + 1 + 1) s _ = _
  rw [spec_l03Unfold.l0, if_neg (by omega), spec_l03Unfold.j1, w3.out, if_pos (by omega), specU_bad]
end Go.Proofs.YtcpdbobkpbmjiaaDoor.P
