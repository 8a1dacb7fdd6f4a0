/- Part 7 of what the law FnExactMutationBytes stands on; the last part ends with the law's row. No condition of mine. -/
import Derived.Test.YtbjefkeogbophaaMFnExactMutationBytes1
import Derived.Test.YtbjefkeogbophaaMFnExactMutationBytes6
import Derived.Shelf.Strings.Builder1
import Derived.Deep.RegionHeld3
import Derived.Deep.DrawnRows
namespace Go.Proofs.Ytbjefkeogbophaa.P
open Go.RowKit Go.Proofs.YtbjefkeogbophaaW.PrintWords Go.Proofs.YtbjefkeogbophaaW.PrintLast Go.Proofs.YtbjefkeogbophaaW.PrintMore
attribute [local go_sem] max2_int min2_int max_two min_two max_three min_three max_four min_four   -- for this text's walks alone
set_option linter.unusedVariables false
set_option linter.unusedSimpArgs false

/-! ### impl_MutationOK: function 17 -/
mutual
def impl_MutationOK.j0 : Nat → Bool → Int → Int → Int → Int → ByteArray → List (S54) → Option (Bool)
 | 0, _, _, _, _, _, _, _ => none
 | k + 1, x18, x102000, x102001, x102002, x102003, x102004, x102005 => if x18 = true then (some false) else (if x102001 = 0 then (if x102002 = 0 then (impl_MutationOK.j1 k (x102003 == 0) x102000 x102001 x102002 x102003 x102004 x102005) else (impl_MutationOK.j1 k false x102000 x102001 x102002 x102003 x102004 x102005)) else (impl_MutationOK.j1 k false x102000 x102001 x102002 x102003 x102004 x102005))
def impl_MutationOK.j1 : Nat → Bool → Int → Int → Int → Int → ByteArray → List (S54) → Option (Bool)
 | 0, _, _, _, _, _, _, _ => none
 | k + 1, x3, x102000, x102001, x102002, x102003, x102004, x102005 => if x102000 = 1 then (impl_MutationOK.j2 k x3 x102000 (x102000 == 1) x102000 x102001 x102002 x102003 x102004 x102005) else (impl_MutationOK.j2 k x3 x102000 (x102000 == 4) x102000 x102001 x102002 x102003 x102004 x102005)
def impl_MutationOK.j2 : Nat → Bool → Int → Bool → Int → Int → Int → Int → ByteArray → List (S54) → Option (Bool)
 | 0, _, _, _, _, _, _, _, _, _ => none
 | k + 1, x3, x33, x34, x102000, x102001, x102002, x102003, x102004, x102005 => if x34 = true then (if x3 = true then (some ((x102005.length : Int) == 0)) else (some false)) else (if x33 = 2 then (if x3 = true then (some (decide ((x102005.length : Int) > 0))) else (some false)) else (if x33 = 3 then (if (x102005.length : Int) = 0 then ((impl_within.f x102001 1 1000).bind fun t104 => (if t104 = true then ((impl_within.f x102002 1 3).bind fun t105 => (if t105 = true then ((impl_within.f x102003 0 31).bind fun t106 => (some t106)) else (some false))) else (some false))) else (some false)) else (some false)))
end
def impl_MutationOK.f (k : Nat) (a0_0 : Int) (a0_1 : Int) (a0_2 : Int) (a0_3 : Int) (a0_4 : ByteArray) (l0_5 : List (S54)) : Option (Bool) := (impl_NameOK.f k a0_4).bind fun t102 => (if t102 = true then (if (l0_5.length : Int) > 20 then (impl_MutationOK.j0 k true a0_0 a0_1 a0_2 a0_3 a0_4 l0_5) else ((slices_ContainsFunc_Item_at_impl_MutationOK_L1.f l0_5).bind fun t103 => (impl_MutationOK.j0 k t103 a0_0 a0_1 a0_2 a0_3 a0_4 l0_5))) else (impl_MutationOK.j0 k true a0_0 a0_1 a0_2 a0_3 a0_4 l0_5))
theorem impl_MutationOK.mono_l : ∀ k, (∀ y0 y1 y2 y3 y4 y5 y6, LeO (impl_MutationOK.j0 k y0 y1 y2 y3 y4 y5 y6) (impl_MutationOK.j0 (k + 1) y0 y1 y2 y3 y4 y5 y6)) ∧ (∀ y0 y1 y2 y3 y4 y5 y6, LeO (impl_MutationOK.j1 k y0 y1 y2 y3 y4 y5 y6) (impl_MutationOK.j1 (k + 1) y0 y1 y2 y3 y4 y5 y6)) ∧ (∀ y0 y1 y2 y3 y4 y5 y6 y7 y8, LeO (impl_MutationOK.j2 k y0 y1 y2 y3 y4 y5 y6 y7 y8) (impl_MutationOK.j2 (k + 1) y0 y1 y2 y3 y4 y5 y6 y7 y8))
 | 0 => ⟨fun _ _ _ _ _ _ _ r h => by simp [impl_MutationOK.j0] at h, fun _ _ _ _ _ _ _ r h => by simp [impl_MutationOK.j1] at h, fun _ _ _ _ _ _ _ _ _ r h => by simp [impl_MutationOK.j2] at h⟩
 | k + 1 => by
  obtain ⟨ih0, ih1, ih2⟩ := impl_MutationOK.mono_l k
  refine ⟨?_, ?_, ?_⟩
  ·intro y0 y1 y2 y3 y4 y5 y6
   unfold impl_MutationOK.j0
   repeat' first
   | (with_reducible exact ih0 _ _ _ _ _ _ _)
   | (with_reducible exact ih1 _ _ _ _ _ _ _)
   | (with_reducible exact ih2 _ _ _ _ _ _ _ _ _)
   | (with_reducible exact impl_NameOK.mono _ _)
   | (with_reducible exact LeO.refl _)
   | (with_reducible exact LeO.none _)
   | (with_reducible refine LeO.ite ?_ ?_)
   | (with_reducible refine LeO.bind ?_ (fun _ => ?_))
   | exact ih0 _ _ _ _ _ _ _
   | exact ih1 _ _ _ _ _ _ _
   | exact ih2 _ _ _ _ _ _ _ _ _
   | exact impl_NameOK.mono _ _
   | exact LeO.none _
   | refine LeO.ite ?_ ?_
   | refine LeO.bind ?_ (fun _ => ?_)
  ·intro y0 y1 y2 y3 y4 y5 y6
   unfold impl_MutationOK.j1
   repeat' first
   | (with_reducible exact ih0 _ _ _ _ _ _ _)
   | (with_reducible exact ih1 _ _ _ _ _ _ _)
   | (with_reducible exact ih2 _ _ _ _ _ _ _ _ _)
   | (with_reducible exact impl_NameOK.mono _ _)
   | (with_reducible exact LeO.refl _)
   | (with_reducible exact LeO.none _)
   | (with_reducible refine LeO.ite ?_ ?_)
   | (with_reducible refine LeO.bind ?_ (fun _ => ?_))
   | exact ih0 _ _ _ _ _ _ _
   | exact ih1 _ _ _ _ _ _ _
   | exact ih2 _ _ _ _ _ _ _ _ _
   | exact impl_NameOK.mono _ _
   | exact LeO.none _
   | refine LeO.ite ?_ ?_
   | refine LeO.bind ?_ (fun _ => ?_)
  ·intro y0 y1 y2 y3 y4 y5 y6 y7 y8
   unfold impl_MutationOK.j2
   repeat' first
   | (with_reducible exact ih0 _ _ _ _ _ _ _)
   | (with_reducible exact ih1 _ _ _ _ _ _ _)
   | (with_reducible exact ih2 _ _ _ _ _ _ _ _ _)
   | (with_reducible exact impl_NameOK.mono _ _)
   | (with_reducible exact LeO.refl _)
   | (with_reducible exact LeO.none _)
   | (with_reducible refine LeO.ite ?_ ?_)
   | (with_reducible refine LeO.bind ?_ (fun _ => ?_))
   | exact ih0 _ _ _ _ _ _ _
   | exact ih1 _ _ _ _ _ _ _
   | exact ih2 _ _ _ _ _ _ _ _ _
   | exact impl_NameOK.mono _ _
   | exact LeO.none _
   | refine LeO.ite ?_ ?_
   | refine LeO.bind ?_ (fun _ => ?_)
theorem impl_MutationOK.mono : ∀ a0 a1 a2 a3 a4 a5 k, LeO (impl_MutationOK.f k a0 a1 a2 a3 a4 a5) (impl_MutationOK.f (k + 1) a0 a1 a2 a3 a4 a5) := by
 intro a0 a1 a2 a3 a4 a5 k
 obtain ⟨ih0, ih1, ih2⟩ := impl_MutationOK.mono_l k
 unfold impl_MutationOK.f
 repeat' first
   | (with_reducible exact ih0 _ _ _ _ _ _ _)
   | (with_reducible exact ih1 _ _ _ _ _ _ _)
   | (with_reducible exact ih2 _ _ _ _ _ _ _ _ _)
   | (with_reducible exact impl_NameOK.mono _ _)
   | (with_reducible exact LeO.refl _)
   | (with_reducible exact LeO.none _)
   | (with_reducible refine LeO.ite ?_ ?_)
   | (with_reducible refine LeO.bind ?_ (fun _ => ?_))
   | exact ih0 _ _ _ _ _ _ _
   | exact ih1 _ _ _ _ _ _ _
   | exact ih2 _ _ _ _ _ _ _ _ _
   | exact impl_NameOK.mono _ _
   | exact LeO.none _
   | refine LeO.ite ?_ ?_
   | refine LeO.bind ?_ (fun _ => ?_)
set_option maxHeartbeats 8000000 in
set_option maxRecDepth 100000 in
theorem impl_MutationOK.calls (k : Nat) (a0_0 : Int) (a0_1 : Int) (a0_2 : Int) (a0_3 : Int) (a0_4 : ByteArray) (A0_5 : Option Addr) (c0_5 : Nat) (l0_5 : List (S54)) (r : Bool) (w : World) (hr0_5 : Kd.C k54 w A0_5 l0_5.length l0_5) (hc0_5 : l0_5.length ≤ c0_5) (h : impl_MutationOK.f k a0_0 a0_1 a0_2 a0_3 a0_4 l0_5 = some r) :
  Calls Try.prog 17 #[.agg #[.int .i64 a0_0, .int .i64 a0_1, .int .i64 a0_2, .int .i64 a0_3, .string a0_4, .slice A0_5 l0_5.length c0_5]] w fun e w' => e = .returned (.bool r) ∧ Below w.heap.size w w' := by
 have hu31 := Try.underlying31
 have HR0_5 := Aside0.mk hr0_5
 have HC0_5 := Aside0.mk hc0_5
 clear hr0_5 hc0_5
 have HB := Aside0.mk (Below.refl w.heap.size w)
 have H : ((impl_NameOK.f k a0_4).bind fun t102 => (if t102 = true then (if (l0_5.length : Int) > 20 then (impl_MutationOK.j0 k true a0_0 a0_1 a0_2 a0_3 a0_4 l0_5) else ((slices_ContainsFunc_Item_at_impl_MutationOK_L1.f l0_5).bind fun t103 => (impl_MutationOK.j0 k t103 a0_0 a0_1 a0_2 a0_3 a0_4 l0_5))) else (impl_MutationOK.j0 k true a0_0 a0_1 a0_2 a0_3 a0_4 l0_5))) = some r := h
 clear h
 have HC2 := Aside0.mk H
 clear H
 go_enter Try.func17, Try.ntmps17
 go_upto_region 1 with (first | ((with_reducible refine gate_dst (N := 1) rfl ?_); (try (refine gate_guard (by rfl) ?_; dsimp only)); refine box_event ?hg (N := 1) ?hd (cs := #[.int .i64 a0_0, .int .i64 a0_1, .int .i64 a0_2, .int .i64 a0_3, .string a0_4, .slice A0_5 l0_5.length c0_5]) (t := 31) ?hr ?_; (case hd => rfl); (case hg => rfl); (case hr => first | (go_simp; done) | (go_simp; rfl)); intro gb101 hg w3 hbox hb; have n0_ := Aside0.mk (below_step (by repeat (first | (with_reducible first | exact HB.out | apply below_alloc | apply pw_below_drewN | apply below_drew1) | exact HB.out)) hb); have n1_ := Aside0.mk (hbox); have n2_ := Aside0.mk ((by rw [hg]; exact (below_size (by repeat (first | (with_reducible first | exact HB.out | apply below_alloc | apply pw_below_drewN | apply below_drew1) | exact HB.out))) : w.heap.size ≤ gb101)); have n3_ := Aside0.mk ((by rw [hg]; exact (below_size (by repeat (first | (with_reducible first | exact HB.out | apply below_alloc | apply pw_below_drewN | apply below_drew1) | exact HB.out))) : w.heap.size ≤ gb101)); clear HB; have HB := n0_; have BK101 := n1_; have GW101 := n2_; have GE101 := n3_; clear n0_ n1_ n2_ n3_; clear hb hbox hg))
 (try simp only [Act.put, List.setIfInBounds_toArray, List.set_cons_zero, List.set_cons_succ])
 go_cut [18] (fun v18 wc => ∃ (kq : Nat) (x18_1 : Bool), v18 = .bool x18_1 ∧ Aside0 (impl_MutationOK.j0 kq x18_1 a0_0 a0_1 a0_2 a0_3 a0_4 l0_5 = some r) ∧ Aside0 (kq ≤ k) ∧ Aside0 (wc.heap[gb101]? = some (.cells #[.int .i64 a0_0, .int .i64 a0_1, .int .i64 a0_2, .int .i64 a0_3, .string a0_4, (.slice A0_5 l0_5.length c0_5)] 31 (0, 0))) ∧ Aside0 (Below w.heap.size w wc))
 case first =>
  have H := HC2.out
  clear HC2
  replace H := Option.bind_eq_some_iff.mp H
  obtain ⟨t102, A40, H⟩ := H
  replace H : (if t102 = true then (if (l0_5.length : Int) > 20 then (impl_MutationOK.j0 k true a0_0 a0_1 a0_2 a0_3 a0_4 l0_5) else ((slices_ContainsFunc_Item_at_impl_MutationOK_L1.f l0_5).bind fun t103 => (impl_MutationOK.j0 k t103 a0_0 a0_1 a0_2 a0_3 a0_4 l0_5))) else (impl_MutationOK.j0 k true a0_0 a0_1 a0_2 a0_3 a0_4 l0_5)) = some r := H
  have A4 := Aside0.mk A40
  clear A40
  by_cases c5 : t102 = true
  ·subst c5
   have H1 : (if (l0_5.length : Int) > 20 then (impl_MutationOK.j0 k true a0_0 a0_1 a0_2 a0_3 a0_4 l0_5) else ((slices_ContainsFunc_Item_at_impl_MutationOK_L1.f l0_5).bind fun t103 => (impl_MutationOK.j0 k t103 a0_0 a0_1 a0_2 a0_3 a0_4 l0_5))) = some r := by rw [if_pos rfl] at H; exact H
   clear H
   have H := H1
   clear H1
   by_cases c6 : (l0_5.length : Int) > 20
   ·rw [if_pos c6] at H
    have c6b0 : decide (20 < (l0_5.length : Int)) = true := decide_eq_true c6
    have c6b1 : decide (20 < l0_5.length) = true := decide_eq_true (by omega)
    clear c6
    (first | rw [c6b0] | (simp only [i64_w, i32_w]; rw [c6b0]) | skip)
    have H' := Aside0.mk H
    clear H
    have hcz7_0 : w3.cell? ⟨gb101, 0, none⟩ = some (.int .i64 a0_0) := (blk_cell BK101.out 0).trans rfl
    have hcz7_1 : w3.cell? ⟨gb101, 1, none⟩ = some (.int .i64 a0_1) := (blk_cell BK101.out 1).trans rfl
    have hcz7_2 : w3.cell? ⟨gb101, 2, none⟩ = some (.int .i64 a0_2) := (blk_cell BK101.out 2).trans rfl
    have hcz7_3 : w3.cell? ⟨gb101, 3, none⟩ = some (.int .i64 a0_3) := (blk_cell BK101.out 3).trans rfl
    have hcz7_4 : w3.cell? ⟨gb101, 4, none⟩ = some (.string a0_4) := (blk_cell BK101.out 4).trans rfl
    have hcz7_5 : w3.cell? ⟨gb101, 5, none⟩ = some (.slice A0_5 l0_5.length c0_5) := (blk_cell BK101.out 5).trans rfl
    have hfz7_0 := blk_frozen BK101.out 0
    have hfz7_1 := blk_frozen BK101.out 1
    have hfz7_2 := blk_frozen BK101.out 2
    have hfz7_3 := blk_frozen BK101.out 3
    have hfz7_4 := blk_frozen BK101.out 4
    have hfz7_5 := blk_frozen BK101.out 5
    go_wp2_with (first | ((with_reducible refine gate_callee (f := 29) rfl ?_); refine goesL_ (some 6) rfl rfl Try.func29 (by kernel_rfl) rfl #[.string a0_4] rfl (by (try simp only [List.map_toArray, List.map_cons, List.map_nil]); first | done | rfl | (simp only [List.length_drop, List.length_take]; rfl)) ?_; (with_reducible refine (impl_NameOK.calls k a0_4 true _ A4.out).mono ?_); rintro e w' ⟨rfl, ⟨nd, rfl⟩⟩; refine ⟨_, rfl, ?_⟩))
    go_meet
    case rel => exact ⟨_, (true), (by first | rfl | (simp; done) | (simp [*]; done)), H', ⟨by first | omega | exact Nat.le_refl _⟩, ⟨by (with_reducible repeat (first | refine blk_drewN ?_ _ | refine blk_drew ?_ | refine blk_alloc ?_ _)); exact BK101.out⟩, ⟨by repeat (first | (with_reducible first | exact HB.out | apply below_alloc | apply pw_below_drewN | apply below_drew1 | refine below_set ?_ GE101.out) | exact HB.out)⟩⟩
   ·rw [if_neg c6] at H
    have c6b0 : decide (20 < (l0_5.length : Int)) = false := decide_eq_false c6
    have c6b1 : decide (20 < l0_5.length) = false := decide_eq_false (by omega)
    clear c6
    (first | rw [c6b0] | (simp only [i64_w, i32_w]; rw [c6b0]) | skip)
    replace H := Option.bind_eq_some_iff.mp H
    obtain ⟨t103, A80, H⟩ := H
    replace H : (impl_MutationOK.j0 k t103 a0_0 a0_1 a0_2 a0_3 a0_4 l0_5) = some r := H
    have A8 := Aside0.mk A80
    clear A80
    have H' := Aside0.mk H
    clear H
    have hcz9_0 : w3.cell? ⟨gb101, 0, none⟩ = some (.int .i64 a0_0) := (blk_cell BK101.out 0).trans rfl
    have hcz9_1 : w3.cell? ⟨gb101, 1, none⟩ = some (.int .i64 a0_1) := (blk_cell BK101.out 1).trans rfl
    have hcz9_2 : w3.cell? ⟨gb101, 2, none⟩ = some (.int .i64 a0_2) := (blk_cell BK101.out 2).trans rfl
    have hcz9_3 : w3.cell? ⟨gb101, 3, none⟩ = some (.int .i64 a0_3) := (blk_cell BK101.out 3).trans rfl
    have hcz9_4 : w3.cell? ⟨gb101, 4, none⟩ = some (.string a0_4) := (blk_cell BK101.out 4).trans rfl
    have hcz9_5 : w3.cell? ⟨gb101, 5, none⟩ = some (.slice A0_5 l0_5.length c0_5) := (blk_cell BK101.out 5).trans rfl
    have hfz9_0 := blk_frozen BK101.out 0
    have hfz9_1 := blk_frozen BK101.out 1
    have hfz9_2 := blk_frozen BK101.out 2
    have hfz9_3 := blk_frozen BK101.out 3
    have hfz9_4 := blk_frozen BK101.out 4
    have hfz9_5 := blk_frozen BK101.out 5
    go_wp2_with (first | ((with_reducible refine gate_callee (f := 29) rfl ?_); refine goesL_ (some 6) rfl rfl Try.func29 (by kernel_rfl) rfl #[.string a0_4] rfl (by (try simp only [List.map_toArray, List.map_cons, List.map_nil]); first | done | rfl | (simp only [List.length_drop, List.length_take]; rfl)) ?_; (with_reducible refine (impl_NameOK.calls k a0_4 true _ A4.out).mono ?_); rintro e w' ⟨rfl, ⟨nd, rfl⟩⟩; refine ⟨_, rfl, ?_⟩) | (go_at_call 30; (with_reducible refine (slices_ContainsFunc_Item_at_impl_MutationOK_L1.calls _ _ l0_5 t103 _ ?side1 ?side2 A8.out).mono ?_); (case side1 => repeat (first | exact (Kd.C_below HR0_5.out (by repeat (first | (with_reducible first | exact HB.out | apply below_alloc | apply pw_below_drewN | apply below_drew1 | refine below_set ?_ GE101.out) | exact HB.out))) | (with_reducible refine Kd.C_alloc ?_ _) | (with_reducible refine Kd.C_drewN ?_ _) | (with_reducible refine Kd.C_drew ?_))); (case side2 => exact HC0_5.out); rintro e w10 ⟨rfl, hb⟩; have n0_ := Aside0.mk (blk_below (g := gb101) (o := .cells #[.int .i64 a0_0, .int .i64 a0_1, .int .i64 a0_2, .int .i64 a0_3, .string a0_4, .slice A0_5 l0_5.length c0_5] 31 (0, 0)) (by (with_reducible repeat (first | refine blk_drewN ?_ _ | refine blk_drew ?_ | refine blk_alloc ?_ _)); exact BK101.out) hb); have n1_ := Aside0.mk (below_step (by repeat (first | (with_reducible first | exact HB.out | apply below_alloc | apply pw_below_drewN | apply below_drew1 | refine below_set ?_ GE101.out) | exact HB.out)) hb); clear BK101; clear HB; have BK101 := n0_; have HB := n1_; clear n0_ n1_; (try clear hb); (try clear hb2); (try clear hk); (try clear hi)))
    go_meet
    case rel => exact ⟨_, (t103), (by first | rfl | (simp; done) | (simp [*]; done)), H', ⟨by first | omega | exact Nat.le_refl _⟩, ⟨by (with_reducible repeat (first | refine blk_drewN ?_ _ | refine blk_drew ?_ | refine blk_alloc ?_ _)); exact BK101.out⟩, ⟨by repeat (first | (with_reducible first | exact HB.out | apply below_alloc | apply pw_below_drewN | apply below_drew1 | refine below_set ?_ GE101.out) | exact HB.out)⟩⟩
  ·replace c5 := Bool.eq_false_iff.mpr c5
   subst c5
   have H1 : (impl_MutationOK.j0 k true a0_0 a0_1 a0_2 a0_3 a0_4 l0_5) = some r := by rw [if_neg (show ¬ (false = true) by decide)] at H; exact H
   clear H
   have H := H1
   clear H1
   have H' := Aside0.mk H
   clear H
   have hcz11_0 : w3.cell? ⟨gb101, 0, none⟩ = some (.int .i64 a0_0) := (blk_cell BK101.out 0).trans rfl
   have hcz11_1 : w3.cell? ⟨gb101, 1, none⟩ = some (.int .i64 a0_1) := (blk_cell BK101.out 1).trans rfl
   have hcz11_2 : w3.cell? ⟨gb101, 2, none⟩ = some (.int .i64 a0_2) := (blk_cell BK101.out 2).trans rfl
   have hcz11_3 : w3.cell? ⟨gb101, 3, none⟩ = some (.int .i64 a0_3) := (blk_cell BK101.out 3).trans rfl
   have hcz11_4 : w3.cell? ⟨gb101, 4, none⟩ = some (.string a0_4) := (blk_cell BK101.out 4).trans rfl
   have hcz11_5 : w3.cell? ⟨gb101, 5, none⟩ = some (.slice A0_5 l0_5.length c0_5) := (blk_cell BK101.out 5).trans rfl
   have hfz11_0 := blk_frozen BK101.out 0
   have hfz11_1 := blk_frozen BK101.out 1
   have hfz11_2 := blk_frozen BK101.out 2
   have hfz11_3 := blk_frozen BK101.out 3
   have hfz11_4 := blk_frozen BK101.out 4
   have hfz11_5 := blk_frozen BK101.out 5
   go_wp2_with (first | ((with_reducible refine gate_callee (f := 29) rfl ?_); refine goesL_ (some 6) rfl rfl Try.func29 (by kernel_rfl) rfl #[.string a0_4] rfl (by (try simp only [List.map_toArray, List.map_cons, List.map_nil]); first | done | rfl | (simp only [List.length_drop, List.length_take]; rfl)) ?_; (with_reducible refine (impl_NameOK.calls k a0_4 false _ A4.out).mono ?_); rintro e w' ⟨rfl, ⟨nd, rfl⟩⟩; refine ⟨_, rfl, ?_⟩))
   go_meet
   case rel => exact ⟨_, (true), (by first | rfl | (simp; done) | (simp [*]; done)), H', ⟨by first | omega | exact Nat.le_refl _⟩, ⟨by (with_reducible repeat (first | refine blk_drewN ?_ _ | refine blk_drew ?_ | refine blk_alloc ?_ _)); exact BK101.out⟩, ⟨by repeat (first | (with_reducible first | exact HB.out | apply below_alloc | apply pw_below_drewN | apply below_drew1 | refine below_set ?_ GE101.out) | exact HB.out)⟩⟩
 case rest =>
  clear HC2
  try clear c1
  try clear c2
  try clear p2
  try clear c5
  try clear c6
  try clear c6b0
  try clear c6b1
  try clear hcz11_0
  try clear hcz11_1
  try clear hcz11_2
  try clear hcz11_3
  try clear hcz11_4
  try clear hcz11_5
  try clear hcz7_0
  try clear hcz7_1
  try clear hcz7_2
  try clear hcz7_3
  try clear hcz7_4
  try clear hcz7_5
  try clear hcz9_0
  try clear hcz9_1
  try clear hcz9_2
  try clear hcz9_3
  try clear hcz9_4
  try clear hcz9_5
  try clear hfz11_0
  try clear hfz11_1
  try clear hfz11_2
  try clear hfz11_3
  try clear hfz11_4
  try clear hfz11_5
  try clear hfz7_0
  try clear hfz7_1
  try clear hfz7_2
  try clear hfz7_3
  try clear hfz7_4
  try clear hfz7_5
  try clear hfz9_0
  try clear hfz9_1
  try clear hfz9_2
  try clear hfz9_3
  try clear hfz9_4
  try clear hfz9_5
  obtain ⟨kq, x18_1, rfl, HA, HJ1, BK101, HB⟩ := hcut
  cases kq with
  | zero => exact absurd HA.out (by simp [impl_MutationOK.j0])
  | succ kj1 =>
   have H := HA.out
   clear HA
   simp only [impl_MutationOK.j0] at H
   by_cases c12 : x18_1 = true
   ·subst c12
    have H1 : (some false) = some r := by rw [if_pos rfl] at H; exact H
    clear H
    have H := H1
    clear H1
    obtain rfl := Option.some.inj H
    go_wp2
    go_ret
    exact ⟨by first | rfl | (simp [errW_none, errW_some] <;> rfl) | (simp [*, errW_none, errW_some] <;> rfl), by repeat (first | (with_reducible first | exact HB.out | apply below_alloc | apply pw_below_drewN | apply below_drew1 | refine below_set ?_ GE101.out) | exact HB.out)⟩
   ·replace c12 := Bool.eq_false_iff.mpr c12
    subst c12
    have H1 : (if a0_1 = 0 then (if a0_2 = 0 then (impl_MutationOK.j1 kj1 (a0_3 == 0) a0_0 a0_1 a0_2 a0_3 a0_4 l0_5) else (impl_MutationOK.j1 kj1 false a0_0 a0_1 a0_2 a0_3 a0_4 l0_5)) else (impl_MutationOK.j1 kj1 false a0_0 a0_1 a0_2 a0_3 a0_4 l0_5)) = some r := by rw [if_neg (show ¬ (false = true) by decide)] at H; exact H
    clear H
    have H := H1
    clear H1
    have HC13 := Aside0.mk H
    clear H
    go_upto_region 3 with (fail)
    go_cut [3] (fun v3 wc => ∃ (kq : Nat) (x3_12 : Bool), v3 = .bool x3_12 ∧ Aside0 (impl_MutationOK.j1 kq x3_12 a0_0 a0_1 a0_2 a0_3 a0_4 l0_5 = some r) ∧ Aside0 (kq ≤ kj1) ∧ Aside0 (wc.heap[gb101]? = some (.cells #[.int .i64 a0_0, .int .i64 a0_1, .int .i64 a0_2, .int .i64 a0_3, .string a0_4, (.slice A0_5 l0_5.length c0_5)] 31 (0, 0))) ∧ Aside0 (Below w.heap.size w wc))
    case first =>
     have H := HC13.out
     clear HC13
     by_cases c14 : a0_1 = 0
     ·rw [if_pos c14] at H
      have c14b0 : (a0_1 == 0) = true := beq_iff_eq.mpr c14
      have c14b1 : (a0_1 != 0) = false := bne_eq_false_iff_eq.mpr c14
      clear c14
      (first | rw [c14b0] | (simp only [i64_w, i32_w]; rw [c14b0]) | skip)
      by_cases c15 : a0_2 = 0
      ·rw [if_pos c15] at H
       have c15b0 : (a0_2 == 0) = true := beq_iff_eq.mpr c15
       have c15b1 : (a0_2 != 0) = false := bne_eq_false_iff_eq.mpr c15
       clear c15
       have H' := Aside0.mk H
       clear H
       have hcz16_0 : wc.cell? ⟨gb101, 0, none⟩ = some (.int .i64 a0_0) := (blk_cell BK101.out 0).trans rfl
       have hcz16_1 : wc.cell? ⟨gb101, 1, none⟩ = some (.int .i64 a0_1) := (blk_cell BK101.out 1).trans rfl
       have hcz16_2 : wc.cell? ⟨gb101, 2, none⟩ = some (.int .i64 a0_2) := (blk_cell BK101.out 2).trans rfl
       have hcz16_3 : wc.cell? ⟨gb101, 3, none⟩ = some (.int .i64 a0_3) := (blk_cell BK101.out 3).trans rfl
       have hcz16_4 : wc.cell? ⟨gb101, 4, none⟩ = some (.string a0_4) := (blk_cell BK101.out 4).trans rfl
       have hcz16_5 : wc.cell? ⟨gb101, 5, none⟩ = some (.slice A0_5 l0_5.length c0_5) := (blk_cell BK101.out 5).trans rfl
       have hfz16_0 := blk_frozen BK101.out 0
       have hfz16_1 := blk_frozen BK101.out 1
       have hfz16_2 := blk_frozen BK101.out 2
       have hfz16_3 := blk_frozen BK101.out 3
       have hfz16_4 := blk_frozen BK101.out 4
       have hfz16_5 := blk_frozen BK101.out 5
       go_wp2
       go_meet
       case rel => exact ⟨_, ((a0_3 == 0)), (by first | rfl | (simp; done) | (simp [*]; done)), H', ⟨by have := HJ1.out; first | omega | exact Nat.le_refl _⟩, ⟨by (with_reducible repeat (first | refine blk_drewN ?_ _ | refine blk_drew ?_ | refine blk_alloc ?_ _)); exact BK101.out⟩, ⟨by repeat (first | (with_reducible first | exact HB.out | apply below_alloc | apply pw_below_drewN | apply below_drew1 | refine below_set ?_ GE101.out) | exact HB.out)⟩⟩
      ·rw [if_neg c15] at H
       have c15b0 : (a0_2 == 0) = false := beq_eq_false_iff_ne.mpr c15
       have c15b1 : (a0_2 != 0) = true := bne_iff_ne.mpr c15
       have H' := Aside0.mk H
       clear H
       have hcz17_0 : wc.cell? ⟨gb101, 0, none⟩ = some (.int .i64 a0_0) := (blk_cell BK101.out 0).trans rfl
       have hcz17_1 : wc.cell? ⟨gb101, 1, none⟩ = some (.int .i64 a0_1) := (blk_cell BK101.out 1).trans rfl
       have hcz17_2 : wc.cell? ⟨gb101, 2, none⟩ = some (.int .i64 a0_2) := (blk_cell BK101.out 2).trans rfl
       have hcz17_3 : wc.cell? ⟨gb101, 3, none⟩ = some (.int .i64 a0_3) := (blk_cell BK101.out 3).trans rfl
       have hcz17_4 : wc.cell? ⟨gb101, 4, none⟩ = some (.string a0_4) := (blk_cell BK101.out 4).trans rfl
       have hcz17_5 : wc.cell? ⟨gb101, 5, none⟩ = some (.slice A0_5 l0_5.length c0_5) := (blk_cell BK101.out 5).trans rfl
       have hfz17_0 := blk_frozen BK101.out 0
       have hfz17_1 := blk_frozen BK101.out 1
       have hfz17_2 := blk_frozen BK101.out 2
       have hfz17_3 := blk_frozen BK101.out 3
       have hfz17_4 := blk_frozen BK101.out 4
       have hfz17_5 := blk_frozen BK101.out 5
       go_wp2
       go_meet
       case rel => exact ⟨_, (false), (by first | rfl | (simp; done) | (simp [*]; done)), H', ⟨by have := HJ1.out; first | omega | exact Nat.le_refl _⟩, ⟨by (with_reducible repeat (first | refine blk_drewN ?_ _ | refine blk_drew ?_ | refine blk_alloc ?_ _)); exact BK101.out⟩, ⟨by repeat (first | (with_reducible first | exact HB.out | apply below_alloc | apply pw_below_drewN | apply below_drew1 | refine below_set ?_ GE101.out) | exact HB.out)⟩⟩
     ·rw [if_neg c14] at H
      have c14b0 : (a0_1 == 0) = false := beq_eq_false_iff_ne.mpr c14
      have c14b1 : (a0_1 != 0) = true := bne_iff_ne.mpr c14
      (first | rw [c14b0] | (simp only [i64_w, i32_w]; rw [c14b0]) | skip)
      have H' := Aside0.mk H
      clear H
      have hcz18_0 : wc.cell? ⟨gb101, 0, none⟩ = some (.int .i64 a0_0) := (blk_cell BK101.out 0).trans rfl
      have hcz18_1 : wc.cell? ⟨gb101, 1, none⟩ = some (.int .i64 a0_1) := (blk_cell BK101.out 1).trans rfl
      have hcz18_2 : wc.cell? ⟨gb101, 2, none⟩ = some (.int .i64 a0_2) := (blk_cell BK101.out 2).trans rfl
      have hcz18_3 : wc.cell? ⟨gb101, 3, none⟩ = some (.int .i64 a0_3) := (blk_cell BK101.out 3).trans rfl
      have hcz18_4 : wc.cell? ⟨gb101, 4, none⟩ = some (.string a0_4) := (blk_cell BK101.out 4).trans rfl
      have hcz18_5 : wc.cell? ⟨gb101, 5, none⟩ = some (.slice A0_5 l0_5.length c0_5) := (blk_cell BK101.out 5).trans rfl
      have hfz18_0 := blk_frozen BK101.out 0
      have hfz18_1 := blk_frozen BK101.out 1
      have hfz18_2 := blk_frozen BK101.out 2
      have hfz18_3 := blk_frozen BK101.out 3
      have hfz18_4 := blk_frozen BK101.out 4
      have hfz18_5 := blk_frozen BK101.out 5
      go_wp2
      go_meet
      case rel => exact ⟨_, (false), (by first | rfl | (simp; done) | (simp [*]; done)), H', ⟨by have := HJ1.out; first | omega | exact Nat.le_refl _⟩, ⟨by (with_reducible repeat (first | refine blk_drewN ?_ _ | refine blk_drew ?_ | refine blk_alloc ?_ _)); exact BK101.out⟩, ⟨by repeat (first | (with_reducible first | exact HB.out | apply below_alloc | apply pw_below_drewN | apply below_drew1 | refine below_set ?_ GE101.out) | exact HB.out)⟩⟩
    case rest =>
     clear HC13
     try clear c1
     try clear c2
     try clear p2
     try clear c5
     try clear c6
     try clear c6b0
     try clear c6b1
     try clear c12
     try clear c14
     try clear c14b0
     try clear c14b1
     try clear c15
     try clear c15b0
     try clear c15b1
     try clear c17
     try clear hcz11_0
     try clear hcz11_1
     try clear hcz11_2
     try clear hcz11_3
     try clear hcz11_4
     try clear hcz11_5
     try clear hcz16_0
     try clear hcz16_1
     try clear hcz16_2
     try clear hcz16_3
     try clear hcz16_4
     try clear hcz16_5
     try clear hcz17_0
     try clear hcz17_1
     try clear hcz17_2
     try clear hcz17_3
     try clear hcz17_4
     try clear hcz17_5
     try clear hcz18_0
     try clear hcz18_1
     try clear hcz18_2
     try clear hcz18_3
     try clear hcz18_4
     try clear hcz18_5
     try clear hcz7_0
     try clear hcz7_1
     try clear hcz7_2
     try clear hcz7_3
     try clear hcz7_4
     try clear hcz7_5
     try clear hcz9_0
     try clear hcz9_1
     try clear hcz9_2
     try clear hcz9_3
     try clear hcz9_4
     try clear hcz9_5
     try clear hfz11_0
     try clear hfz11_1
     try clear hfz11_2
     try clear hfz11_3
     try clear hfz11_4
     try clear hfz11_5
     try clear hfz16_0
     try clear hfz16_1
     try clear hfz16_2
     try clear hfz16_3
     try clear hfz16_4
     try clear hfz16_5
     try clear hfz17_0
     try clear hfz17_1
     try clear hfz17_2
     try clear hfz17_3
     try clear hfz17_4
     try clear hfz17_5
     try clear hfz18_0
     try clear hfz18_1
     try clear hfz18_2
     try clear hfz18_3
     try clear hfz18_4
     try clear hfz18_5
     try clear hfz7_0
     try clear hfz7_1
     try clear hfz7_2
     try clear hfz7_3
     try clear hfz7_4
     try clear hfz7_5
     try clear hfz9_0
     try clear hfz9_1
     try clear hfz9_2
     try clear hfz9_3
     try clear hfz9_4
     try clear hfz9_5
     try clear p2
     obtain ⟨kq, x3_12, rfl, HA, HJ12, BK101, HB⟩ := hcut
     cases kq with
     | zero => exact absurd HA.out (by simp [impl_MutationOK.j1])
     | succ kj12 =>
      have H := HA.out
      clear HA
      simp only [impl_MutationOK.j1] at H
      have HC19 := Aside0.mk H
      clear H
      have hcz20_0 : wc.cell? ⟨gb101, 0, none⟩ = some (.int .i64 a0_0) := (blk_cell BK101.out 0).trans rfl
      have hcz20_1 : wc.cell? ⟨gb101, 1, none⟩ = some (.int .i64 a0_1) := (blk_cell BK101.out 1).trans rfl
      have hcz20_2 : wc.cell? ⟨gb101, 2, none⟩ = some (.int .i64 a0_2) := (blk_cell BK101.out 2).trans rfl
      have hcz20_3 : wc.cell? ⟨gb101, 3, none⟩ = some (.int .i64 a0_3) := (blk_cell BK101.out 3).trans rfl
      have hcz20_4 : wc.cell? ⟨gb101, 4, none⟩ = some (.string a0_4) := (blk_cell BK101.out 4).trans rfl
      have hcz20_5 : wc.cell? ⟨gb101, 5, none⟩ = some (.slice A0_5 l0_5.length c0_5) := (blk_cell BK101.out 5).trans rfl
      have hfz20_0 := blk_frozen BK101.out 0
      have hfz20_1 := blk_frozen BK101.out 1
      have hfz20_2 := blk_frozen BK101.out 2
      have hfz20_3 := blk_frozen BK101.out 3
      have hfz20_4 := blk_frozen BK101.out 4
      have hfz20_5 := blk_frozen BK101.out 5
      go_upto_if 34 with (fail)
      go_cut [34] (fun v34 wc => ∃ (kq : Nat) (x34_18 : Bool), v34 = .bool x34_18 ∧ Aside0 (impl_MutationOK.j2 kq x3_12 a0_0 x34_18 a0_0 a0_1 a0_2 a0_3 a0_4 l0_5 = some r) ∧ Aside0 (kq ≤ kj12) ∧ Aside0 (wc.heap[gb101]? = some (.cells #[.int .i64 a0_0, .int .i64 a0_1, .int .i64 a0_2, .int .i64 a0_3, .string a0_4, (.slice A0_5 l0_5.length c0_5)] 31 (0, 0))) ∧ Aside0 (Below w.heap.size w wc))
      case first =>
       have H := HC19.out
       clear HC19
       by_cases c21 : a0_0 = 1
       ·rw [if_pos c21] at H
        have c21b0 : (a0_0 == 1) = true := beq_iff_eq.mpr c21
        have c21b1 : (a0_0 != 1) = false := bne_eq_false_iff_eq.mpr c21
        clear c21
        (first | rw [c21b0] | (simp only [i64_w, i32_w]; rw [c21b0]) | skip)
        have H' := Aside0.mk H
        clear H
        go_wp2
        go_meet
        case rel => exact ⟨_, ((a0_0 == 1)), (by first | rfl | (simp; done) | (simp [*]; done)), H', ⟨by have := HJ1.out; have := HJ12.out; first | omega | exact Nat.le_refl _⟩, ⟨by (with_reducible repeat (first | refine blk_drewN ?_ _ | refine blk_drew ?_ | refine blk_alloc ?_ _)); exact BK101.out⟩, ⟨by repeat (first | (with_reducible first | exact HB.out | apply below_alloc | apply pw_below_drewN | apply below_drew1 | refine below_set ?_ GE101.out) | exact HB.out)⟩⟩
       ·rw [if_neg c21] at H
        have c21b0 : (a0_0 == 1) = false := beq_eq_false_iff_ne.mpr c21
        have c21b1 : (a0_0 != 1) = true := bne_iff_ne.mpr c21
        (first | rw [c21b0] | (simp only [i64_w, i32_w]; rw [c21b0]) | skip)
        have H' := Aside0.mk H
        clear H
        go_wp2
        go_meet
        case rel => exact ⟨_, ((a0_0 == 4)), (by first | rfl | (simp; done) | (simp [*]; done)), H', ⟨by have := HJ1.out; have := HJ12.out; first | omega | exact Nat.le_refl _⟩, ⟨by (with_reducible repeat (first | refine blk_drewN ?_ _ | refine blk_drew ?_ | refine blk_alloc ?_ _)); exact BK101.out⟩, ⟨by repeat (first | (with_reducible first | exact HB.out | apply below_alloc | apply pw_below_drewN | apply below_drew1 | refine below_set ?_ GE101.out) | exact HB.out)⟩⟩
      case rest =>
       clear HC19
       try clear c1
       try clear c2
       try clear p2
       try clear c5
       try clear c6
       try clear c6b0
       try clear c6b1
       try clear c12
       try clear c14
       try clear c14b0
       try clear c14b1
       try clear c15
       try clear c15b0
       try clear c15b1
       try clear c17
       try clear c21
       try clear c21b0
       try clear c21b1
       try clear hcz11_0
       try clear hcz11_1
       try clear hcz11_2
       try clear hcz11_3
       try clear hcz11_4
       try clear hcz11_5
       try clear hcz16_0
       try clear hcz16_1
       try clear hcz16_2
       try clear hcz16_3
       try clear hcz16_4
       try clear hcz16_5
       try clear hcz17_0
       try clear hcz17_1
       try clear hcz17_2
       try clear hcz17_3
       try clear hcz17_4
       try clear hcz17_5
       try clear hcz18_0
       try clear hcz18_1
       try clear hcz18_2
       try clear hcz18_3
       try clear hcz18_4
       try clear hcz18_5
       try clear hcz20_0
       try clear hcz20_1
       try clear hcz20_2
       try clear hcz20_3
       try clear hcz20_4
       try clear hcz20_5
       try clear hcz7_0
       try clear hcz7_1
       try clear hcz7_2
       try clear hcz7_3
       try clear hcz7_4
       try clear hcz7_5
       try clear hcz9_0
       try clear hcz9_1
       try clear hcz9_2
       try clear hcz9_3
       try clear hcz9_4
       try clear hcz9_5
       try clear hfz11_0
       try clear hfz11_1
       try clear hfz11_2
       try clear hfz11_3
       try clear hfz11_4
       try clear hfz11_5
       try clear hfz16_0
       try clear hfz16_1
       try clear hfz16_2
       try clear hfz16_3
       try clear hfz16_4
       try clear hfz16_5
       try clear hfz17_0
       try clear hfz17_1
       try clear hfz17_2
       try clear hfz17_3
       try clear hfz17_4
       try clear hfz17_5
       try clear hfz18_0
       try clear hfz18_1
       try clear hfz18_2
       try clear hfz18_3
       try clear hfz18_4
       try clear hfz18_5
       try clear hfz20_0
       try clear hfz20_1
       try clear hfz20_2
       try clear hfz20_3
       try clear hfz20_4
       try clear hfz20_5
       try clear hfz7_0
       try clear hfz7_1
       try clear hfz7_2
       try clear hfz7_3
       try clear hfz7_4
       try clear hfz7_5
       try clear hfz9_0
       try clear hfz9_1
       try clear hfz9_2
       try clear hfz9_3
       try clear hfz9_4
       try clear hfz9_5
       try clear p2
       obtain ⟨kq, x34_18, rfl, HA, HJ18, BK101, HB⟩ := hcut
       cases kq with
       | zero => exact absurd HA.out (by simp [impl_MutationOK.j2])
       | succ kj18 =>
        have H := HA.out
        clear HA
        simp only [impl_MutationOK.j2] at H
        by_cases c22 : x34_18 = true
        ·subst c22
         have H1 : (if x3_12 = true then (some ((l0_5.length : Int) == 0)) else (some false)) = some r := by rw [if_pos rfl] at H; exact H
         clear H
         have H := H1
         clear H1
         by_cases c23 : x3_12 = true
         ·subst c23
          have H1 : (some ((l0_5.length : Int) == 0)) = some r := by rw [if_pos rfl] at H; exact H
          clear H
          have H := H1
          clear H1
          obtain rfl := Option.some.inj H
          have hcz24_0 : wc.cell? ⟨gb101, 0, none⟩ = some (.int .i64 a0_0) := (blk_cell BK101.out 0).trans rfl
          have hcz24_1 : wc.cell? ⟨gb101, 1, none⟩ = some (.int .i64 a0_1) := (blk_cell BK101.out 1).trans rfl
          have hcz24_2 : wc.cell? ⟨gb101, 2, none⟩ = some (.int .i64 a0_2) := (blk_cell BK101.out 2).trans rfl
          have hcz24_3 : wc.cell? ⟨gb101, 3, none⟩ = some (.int .i64 a0_3) := (blk_cell BK101.out 3).trans rfl
          have hcz24_4 : wc.cell? ⟨gb101, 4, none⟩ = some (.string a0_4) := (blk_cell BK101.out 4).trans rfl
          have hcz24_5 : wc.cell? ⟨gb101, 5, none⟩ = some (.slice A0_5 l0_5.length c0_5) := (blk_cell BK101.out 5).trans rfl
          have hfz24_0 := blk_frozen BK101.out 0
          have hfz24_1 := blk_frozen BK101.out 1
          have hfz24_2 := blk_frozen BK101.out 2
          have hfz24_3 := blk_frozen BK101.out 3
          have hfz24_4 := blk_frozen BK101.out 4
          have hfz24_5 := blk_frozen BK101.out 5
          go_wp2
          go_ret
          exact ⟨by first | rfl | (simp [errW_none, errW_some] <;> rfl) | (simp [*, errW_none, errW_some] <;> rfl), by repeat (first | (with_reducible first | exact HB.out | apply below_alloc | apply pw_below_drewN | apply below_drew1 | refine below_set ?_ GE101.out) | exact HB.out)⟩
         ·replace c23 := Bool.eq_false_iff.mpr c23
          subst c23
          have H1 : (some false) = some r := by rw [if_neg (show ¬ (false = true) by decide)] at H; exact H
          clear H
          have H := H1
          clear H1
          obtain rfl := Option.some.inj H
          go_wp2
          go_ret
          exact ⟨by first | rfl | (simp [errW_none, errW_some] <;> rfl) | (simp [*, errW_none, errW_some] <;> rfl), by repeat (first | (with_reducible first | exact HB.out | apply below_alloc | apply pw_below_drewN | apply below_drew1 | refine below_set ?_ GE101.out) | exact HB.out)⟩
        ·replace c22 := Bool.eq_false_iff.mpr c22
         subst c22
         have H1 : (if a0_0 = 2 then (if x3_12 = true then (some (decide ((l0_5.length : Int) > 0))) else (some false)) else (if a0_0 = 3 then (if (l0_5.length : Int) = 0 then ((impl_within.f a0_1 1 1000).bind fun t104 => (if t104 = true then ((impl_within.f a0_2 1 3).bind fun t105 => (if t105 = true then ((impl_within.f a0_3 0 31).bind fun t106 => (some t106)) else (some false))) else (some false))) else (some false)) else (some false))) = some r := by rw [if_neg (show ¬ (false = true) by decide)] at H; exact H
         clear H
         have H := H1
         clear H1
         by_cases c25 : a0_0 = 2
         ·rw [if_pos c25] at H
          have c25b0 : (a0_0 == 2) = true := beq_iff_eq.mpr c25
          have c25b1 : (a0_0 != 2) = false := bne_eq_false_iff_eq.mpr c25
          clear c25
          by_cases c26 : x3_12 = true
          ·subst c26
           have H1 : (some (decide ((l0_5.length : Int) > 0))) = some r := by rw [if_pos rfl] at H; exact H
           clear H
           have H := H1
           clear H1
           obtain rfl := Option.some.inj H
           have hcz27_0 : wc.cell? ⟨gb101, 0, none⟩ = some (.int .i64 a0_0) := (blk_cell BK101.out 0).trans rfl
           have hcz27_1 : wc.cell? ⟨gb101, 1, none⟩ = some (.int .i64 a0_1) := (blk_cell BK101.out 1).trans rfl
           have hcz27_2 : wc.cell? ⟨gb101, 2, none⟩ = some (.int .i64 a0_2) := (blk_cell BK101.out 2).trans rfl
           have hcz27_3 : wc.cell? ⟨gb101, 3, none⟩ = some (.int .i64 a0_3) := (blk_cell BK101.out 3).trans rfl
           have hcz27_4 : wc.cell? ⟨gb101, 4, none⟩ = some (.string a0_4) := (blk_cell BK101.out 4).trans rfl
           have hcz27_5 : wc.cell? ⟨gb101, 5, none⟩ = some (.slice A0_5 l0_5.length c0_5) := (blk_cell BK101.out 5).trans rfl
           have hfz27_0 := blk_frozen BK101.out 0
           have hfz27_1 := blk_frozen BK101.out 1
           have hfz27_2 := blk_frozen BK101.out 2
           have hfz27_3 := blk_frozen BK101.out 3
           have hfz27_4 := blk_frozen BK101.out 4
           have hfz27_5 := blk_frozen BK101.out 5
           go_wp2
           go_ret
           exact ⟨by first | rfl | (simp [errW_none, errW_some] <;> rfl) | (simp [*, errW_none, errW_some] <;> rfl), by repeat (first | (with_reducible first | exact HB.out | apply below_alloc | apply pw_below_drewN | apply below_drew1 | refine below_set ?_ GE101.out) | exact HB.out)⟩
          ·replace c26 := Bool.eq_false_iff.mpr c26
           subst c26
           have H1 : (some false) = some r := by rw [if_neg (show ¬ (false = true) by decide)] at H; exact H
           clear H
           have H := H1
           clear H1
           obtain rfl := Option.some.inj H
           go_wp2
           go_ret
           exact ⟨by first | rfl | (simp [errW_none, errW_some] <;> rfl) | (simp [*, errW_none, errW_some] <;> rfl), by repeat (first | (with_reducible first | exact HB.out | apply below_alloc | apply pw_below_drewN | apply below_drew1 | refine below_set ?_ GE101.out) | exact HB.out)⟩
         ·rw [if_neg c25] at H
          have c25b0 : (a0_0 == 2) = false := beq_eq_false_iff_ne.mpr c25
          have c25b1 : (a0_0 != 2) = true := bne_iff_ne.mpr c25
          by_cases c28 : a0_0 = 3
          ·rw [if_pos c28] at H
           have c28b0 : (a0_0 == 3) = true := beq_iff_eq.mpr c28
           have c28b1 : (a0_0 != 3) = false := bne_eq_false_iff_eq.mpr c28
           clear c28
           by_cases c29 : (l0_5.length : Int) = 0
           ·rw [if_pos c29] at H
            have c29b0 : ((l0_5.length : Int) == 0) = true := beq_iff_eq.mpr c29
            have c29b1 : ((l0_5.length : Int) != 0) = false := bne_eq_false_iff_eq.mpr c29
            clear c29
            replace H := Option.bind_eq_some_iff.mp H
            obtain ⟨t104, A300, H⟩ := H
            replace H : (if t104 = true then ((impl_within.f a0_2 1 3).bind fun t105 => (if t105 = true then ((impl_within.f a0_3 0 31).bind fun t106 => (some t106)) else (some false))) else (some false)) = some r := H
            have A30 := Aside0.mk A300
            clear A300
            by_cases c31 : t104 = true
            ·subst c31
             have H1 : ((impl_within.f a0_2 1 3).bind fun t105 => (if t105 = true then ((impl_within.f a0_3 0 31).bind fun t106 => (some t106)) else (some false))) = some r := by rw [if_pos rfl] at H; exact H
             clear H
             have H := H1
             clear H1
             replace H := Option.bind_eq_some_iff.mp H
             obtain ⟨t105, A320, H⟩ := H
             replace H : (if t105 = true then ((impl_within.f a0_3 0 31).bind fun t106 => (some t106)) else (some false)) = some r := H
             have A32 := Aside0.mk A320
             clear A320
             by_cases c33 : t105 = true
             ·subst c33
              have H1 : ((impl_within.f a0_3 0 31).bind fun t106 => (some t106)) = some r := by rw [if_pos rfl] at H; exact H
              clear H
              have H := H1
              clear H1
              replace H := Option.bind_eq_some_iff.mp H
              obtain ⟨t106, A340, H⟩ := H
              replace H : (some t106) = some r := H
              have A34 := Aside0.mk A340
              clear A340
              obtain rfl := Option.some.inj H
              have hcz35_0 : wc.cell? ⟨gb101, 0, none⟩ = some (.int .i64 a0_0) := (blk_cell BK101.out 0).trans rfl
              have hcz35_1 : wc.cell? ⟨gb101, 1, none⟩ = some (.int .i64 a0_1) := (blk_cell BK101.out 1).trans rfl
              have hcz35_2 : wc.cell? ⟨gb101, 2, none⟩ = some (.int .i64 a0_2) := (blk_cell BK101.out 2).trans rfl
              have hcz35_3 : wc.cell? ⟨gb101, 3, none⟩ = some (.int .i64 a0_3) := (blk_cell BK101.out 3).trans rfl
              have hcz35_4 : wc.cell? ⟨gb101, 4, none⟩ = some (.string a0_4) := (blk_cell BK101.out 4).trans rfl
              have hcz35_5 : wc.cell? ⟨gb101, 5, none⟩ = some (.slice A0_5 l0_5.length c0_5) := (blk_cell BK101.out 5).trans rfl
              have hfz35_0 := blk_frozen BK101.out 0
              have hfz35_1 := blk_frozen BK101.out 1
              have hfz35_2 := blk_frozen BK101.out 2
              have hfz35_3 := blk_frozen BK101.out 3
              have hfz35_4 := blk_frozen BK101.out 4
              have hfz35_5 := blk_frozen BK101.out 5
              go_wp2_with (first | (go_at_call 33; (with_reducible refine (impl_within.calls a0_1 1 1000 true _ A30.out).mono ?_); rintro e w' ⟨rfl, ⟨nd, rfl⟩⟩) | (go_at_call 33; (with_reducible refine (impl_within.calls a0_2 1 3 true _ A32.out).mono ?_); rintro e w' ⟨rfl, ⟨nd, rfl⟩⟩) | (go_at_call 33; (with_reducible refine (impl_within.calls a0_3 0 31 t106 _ A34.out).mono ?_); rintro e w' ⟨rfl, ⟨nd, rfl⟩⟩))
              go_ret
              exact ⟨by first | rfl | (simp [errW_none, errW_some] <;> rfl) | (simp [*, errW_none, errW_some] <;> rfl), by repeat (first | (with_reducible first | exact HB.out | apply below_alloc | apply pw_below_drewN | apply below_drew1 | refine below_set ?_ GE101.out) | exact HB.out)⟩
             ·replace c33 := Bool.eq_false_iff.mpr c33
              subst c33
              have H1 : (some false) = some r := by rw [if_neg (show ¬ (false = true) by decide)] at H; exact H
              clear H
              have H := H1
              clear H1
              obtain rfl := Option.some.inj H
              have hcz36_0 : wc.cell? ⟨gb101, 0, none⟩ = some (.int .i64 a0_0) := (blk_cell BK101.out 0).trans rfl
              have hcz36_1 : wc.cell? ⟨gb101, 1, none⟩ = some (.int .i64 a0_1) := (blk_cell BK101.out 1).trans rfl
              have hcz36_2 : wc.cell? ⟨gb101, 2, none⟩ = some (.int .i64 a0_2) := (blk_cell BK101.out 2).trans rfl
              have hcz36_3 : wc.cell? ⟨gb101, 3, none⟩ = some (.int .i64 a0_3) := (blk_cell BK101.out 3).trans rfl
              have hcz36_4 : wc.cell? ⟨gb101, 4, none⟩ = some (.string a0_4) := (blk_cell BK101.out 4).trans rfl
              have hcz36_5 : wc.cell? ⟨gb101, 5, none⟩ = some (.slice A0_5 l0_5.length c0_5) := (blk_cell BK101.out 5).trans rfl
              have hfz36_0 := blk_frozen BK101.out 0
              have hfz36_1 := blk_frozen BK101.out 1
              have hfz36_2 := blk_frozen BK101.out 2
              have hfz36_3 := blk_frozen BK101.out 3
              have hfz36_4 := blk_frozen BK101.out 4
              have hfz36_5 := blk_frozen BK101.out 5
              go_wp2_with (first | (go_at_call 33; (with_reducible refine (impl_within.calls a0_1 1 1000 true _ A30.out).mono ?_); rintro e w' ⟨rfl, ⟨nd, rfl⟩⟩) | (go_at_call 33; (with_reducible refine (impl_within.calls a0_2 1 3 false _ A32.out).mono ?_); rintro e w' ⟨rfl, ⟨nd, rfl⟩⟩))
              go_ret
              exact ⟨by first | rfl | (simp [errW_none, errW_some] <;> rfl) | (simp [*, errW_none, errW_some] <;> rfl), by repeat (first | (with_reducible first | exact HB.out | apply below_alloc | apply pw_below_drewN | apply below_drew1 | refine below_set ?_ GE101.out) | exact HB.out)⟩
            ·replace c31 := Bool.eq_false_iff.mpr c31
             subst c31
             have H1 : (some false) = some r := by rw [if_neg (show ¬ (false = true) by decide)] at H; exact H
             clear H
             have H := H1
             clear H1
             obtain rfl := Option.some.inj H
             have hcz37_0 : wc.cell? ⟨gb101, 0, none⟩ = some (.int .i64 a0_0) := (blk_cell BK101.out 0).trans rfl
             have hcz37_1 : wc.cell? ⟨gb101, 1, none⟩ = some (.int .i64 a0_1) := (blk_cell BK101.out 1).trans rfl
             have hcz37_2 : wc.cell? ⟨gb101, 2, none⟩ = some (.int .i64 a0_2) := (blk_cell BK101.out 2).trans rfl
             have hcz37_3 : wc.cell? ⟨gb101, 3, none⟩ = some (.int .i64 a0_3) := (blk_cell BK101.out 3).trans rfl
             have hcz37_4 : wc.cell? ⟨gb101, 4, none⟩ = some (.string a0_4) := (blk_cell BK101.out 4).trans rfl
             have hcz37_5 : wc.cell? ⟨gb101, 5, none⟩ = some (.slice A0_5 l0_5.length c0_5) := (blk_cell BK101.out 5).trans rfl
             have hfz37_0 := blk_frozen BK101.out 0
             have hfz37_1 := blk_frozen BK101.out 1
             have hfz37_2 := blk_frozen BK101.out 2
             have hfz37_3 := blk_frozen BK101.out 3
             have hfz37_4 := blk_frozen BK101.out 4
             have hfz37_5 := blk_frozen BK101.out 5
             go_wp2_with (first | (go_at_call 33; (with_reducible refine (impl_within.calls a0_1 1 1000 false _ A30.out).mono ?_); rintro e w' ⟨rfl, ⟨nd, rfl⟩⟩))
             go_ret
             exact ⟨by first | rfl | (simp [errW_none, errW_some] <;> rfl) | (simp [*, errW_none, errW_some] <;> rfl), by repeat (first | (with_reducible first | exact HB.out | apply below_alloc | apply pw_below_drewN | apply below_drew1 | refine below_set ?_ GE101.out) | exact HB.out)⟩
           ·rw [if_neg c29] at H
            have c29b0 : ((l0_5.length : Int) == 0) = false := beq_eq_false_iff_ne.mpr c29
            have c29b1 : ((l0_5.length : Int) != 0) = true := bne_iff_ne.mpr c29
            have c29b2 : ¬ (l0_5 = []) := fun h_ => c29 (by rw [h_]; rfl)
            obtain rfl := Option.some.inj H
            have hcz38_0 : wc.cell? ⟨gb101, 0, none⟩ = some (.int .i64 a0_0) := (blk_cell BK101.out 0).trans rfl
            have hcz38_1 : wc.cell? ⟨gb101, 1, none⟩ = some (.int .i64 a0_1) := (blk_cell BK101.out 1).trans rfl
            have hcz38_2 : wc.cell? ⟨gb101, 2, none⟩ = some (.int .i64 a0_2) := (blk_cell BK101.out 2).trans rfl
            have hcz38_3 : wc.cell? ⟨gb101, 3, none⟩ = some (.int .i64 a0_3) := (blk_cell BK101.out 3).trans rfl
            have hcz38_4 : wc.cell? ⟨gb101, 4, none⟩ = some (.string a0_4) := (blk_cell BK101.out 4).trans rfl
            have hcz38_5 : wc.cell? ⟨gb101, 5, none⟩ = some (.slice A0_5 l0_5.length c0_5) := (blk_cell BK101.out 5).trans rfl
            have hfz38_0 := blk_frozen BK101.out 0
            have hfz38_1 := blk_frozen BK101.out 1
            have hfz38_2 := blk_frozen BK101.out 2
            have hfz38_3 := blk_frozen BK101.out 3
            have hfz38_4 := blk_frozen BK101.out 4
            have hfz38_5 := blk_frozen BK101.out 5
            go_wp2
            go_ret
            exact ⟨by first | rfl | (simp [errW_none, errW_some] <;> rfl) | (simp [*, errW_none, errW_some] <;> rfl), by repeat (first | (with_reducible first | exact HB.out | apply below_alloc | apply pw_below_drewN | apply below_drew1 | refine below_set ?_ GE101.out) | exact HB.out)⟩
          ·rw [if_neg c28] at H
           have c28b0 : (a0_0 == 3) = false := beq_eq_false_iff_ne.mpr c28
           have c28b1 : (a0_0 != 3) = true := bne_iff_ne.mpr c28
           obtain rfl := Option.some.inj H
           go_wp2
           go_ret
           exact ⟨by first | rfl | (simp [errW_none, errW_some] <;> rfl) | (simp [*, errW_none, errW_some] <;> rfl), by repeat (first | (with_reducible first | exact HB.out | apply below_alloc | apply pw_below_drewN | apply below_drew1 | refine below_set ?_ GE101.out) | exact HB.out)⟩


/-! ### strings_Builder_copyCheck: function 59 (a text of mine) -/
/-- All blocks but a builder's own and rows of bytes are as they were. -/
def K5 (b : Nat) (w w' : World) : Prop := ∀ k c t, w.heap[k]? = some (.cells c t (0, 0)) → t ≠ 5 → k ≠ b → w'.heap[k]? = some (.cells c t (0, 0))
theorem lt_of_blk {w : World} {k : Nat} {o : Obj} (h : w.heap[k]? = some o) : k < w.heap.size := by
 rcases Nat.lt_or_ge k w.heap.size with h' | h'
 ·exact h'
 ·rw [Array.getElem?_eq_none h'] at h; cases h
theorem other_own {w : World} {B n : Nat} {v : Value} {xs : List Value} (hown : w.ownsRow B 5 1 v n xs) {k t : Nat} {c : Array Value} (h : w.heap[k]? = some (.cells c t (0, 0))) (ht : t ≠ 5) : some k ≠ v.ownBlock := by
 intro e
 obtain ⟨cells, hc⟩ := own_typed hown k e.symm
 rw [h] at hc
 injection hc with hc
 injection hc with _ hc
 exact ht hc
set_option maxHeartbeats 1000000 in
set_option maxRecDepth 100000 in
theorem bCheck_used (b : Nat) (w : World) (h0 : w.cell? ⟨b, 0, none⟩ = some (.pointer (some ⟨b, 0, none⟩))) :
  Calls Try.prog 59 #[.pointer (some ⟨b, 0, none⟩)] w fun e w' => e = .returned (.tuple #[]) ∧ w' = w := by
 obtain ⟨j, hj, _⟩ := Option.map_eq_some_iff.1 (show (Try.prog.info? 65).map (·.size) = some 2 by kernel_rfl)
 go_enter Try.func59, Try.ntmps59
 go_wp2
 rw [Lib.run_neq_ptr_same w _ Try.underlying63 hj]
 go_wp2
 go_end0
 exact ⟨rfl, rfl⟩
set_option maxHeartbeats 1000000 in
set_option maxRecDepth 100000 in
theorem bCheck_fresh (b : Nat) (w : World) (h0 : w.cell? ⟨b, 0, none⟩ = some (.pointer none)) (hsh : w.shape? b = some (65, 2)) (hfz : w.frozen? ⟨b, 0, none⟩ = false) :
  Calls Try.prog 59 #[.pointer (some ⟨b, 0, none⟩)] w fun e w' => e = .returned (.tuple #[]) ∧ w' = w.setCell ⟨b, 0, none⟩ (.pointer (some ⟨b, 0, none⟩)) := by
 obtain ⟨j, hj, hjs⟩ := Option.map_eq_some_iff.1 (show (Try.prog.info? 65).map (·.size) = some 2 by kernel_rfl)
 go_enter Try.func59, Try.ntmps59
 go_wp2
 rw [Lib.run_to_unsafe w ⟨b, 0, none⟩ Try.underlying63 Try.underlying99 hj (by rw [hjs]; decide) hsh (Nat.zero_lt_succ 1)]
 simp only [Result.andThen]
 rw [Oper.upon_value]
 go_wp2
 rw [run_callFunc_extern Try.func73 (by kernel_rfl) (by kernel_rfl) (by kernel_rfl) (e := Extern.AbiNoEscape.same) (by kernel_rfl)]
 rw [Lib.run_noEscape]
 simp only [Result.andThen]
 rw [Oper.upon_value]
 go_wp2
 rw [Lib.run_from_unsafe w ⟨b, 0, none⟩ Try.underlying99 Try.underlying63 hj hsh (by kernel_rfl)]
 simp only [Result.andThen]
 rw [Oper.upon_value]
 go_wp2
 go_end0
 exact ⟨rfl, rfl⟩
theorem bCheck (B b : Nat) (bs : List Value) (w : World) (h : Lib.IsBuilder 65 5 B b bs w) :
  Calls Try.prog 59 #[.pointer (some ⟨b, 0, none⟩)] w fun e w' => e = .returned (.tuple #[]) ∧ (Lib.BuilderAt 65 5 B b (.pointer (some ⟨b, 0, none⟩)) bs w' ∧ Below B w w' ∧ K5 b w w') := by
 rcases h with h | h
 ·refine (bCheck_fresh b w h.cell0 h.shape h.frozen0).mono ?_
  rintro e w' ⟨rfl, rfl⟩
  exact ⟨rfl, h.used _, (Below.refl B w).setCell (p := ⟨b, 0, none⟩) h.1 _, fun k c t hk _ hne => (heap_setCell_other w ⟨b, 0, none⟩ k _ hne).trans hk⟩
 ·refine (bCheck_used b w h.cell0).mono ?_
  rintro e w' ⟨rfl, rfl⟩
  exact ⟨rfl, h, Below.refl B _, fun k c t hk _ _ => hk⟩
theorem bBelow {B b : Nat} {bs : List Value} {w w' : World} (h : Lib.IsBuilder 65 5 B b bs w) (hb : Below w.heap.size w w') : Lib.IsBuilder 65 5 B b bs w' := by
 have go : ∀ p, Lib.BuilderAt 65 5 B b p bs w → Lib.BuilderAt 65 5 B b p bs w' := by
  rintro p ⟨hB, v, hk, hown, hne⟩
  exact ⟨hB, v, (hb.block b (lt_of_blk hk)).trans hk, hown.kept (row := none) ⟨hb.os, hb.tape, hb.output, hb.size, fun k hk _ => hb.block k hk⟩ (Classical.em _), hne⟩
 exact h.imp (go _) (go _)
theorem bNew {B b : Nat} {w : World} (hB : B ≤ b) (hk : w.heap[b]? = some (.cells #[.pointer none, .slice none 0 0] 65 (0, 0))) : Lib.IsBuilder 65 5 B b [] w :=
 .inl ⟨hB, .slice none 0 0, hk, ⟨rfl, .inl ⟨rfl, rfl⟩⟩, by simp [Value.ownBlock]⟩


/-! ### strings_Builder_WriteByte: function 40 (a text of mine) -/
set_option maxHeartbeats 1000000 in
set_option maxRecDepth 100000 in
theorem bWriteByte (B b : Nat) (bs : List Value) (c : Int) (w : World) (h : Lib.IsBuilder 65 5 B b bs w) (hlen : bs.length + 1 ≤ 140737488355328) (hBw : B ≤ w.heap.size) :
  Calls Try.prog 40 #[.pointer (some ⟨b, 0, none⟩), .int .u8 c] w fun e w' => e = .returned .nilIface ∧ (Lib.BuilderAt 65 5 B b (.pointer (some ⟨b, 0, none⟩)) (bs ++ [.int .u8 c]) w' ∧ Below B w w' ∧ K5 b w w') := by
 obtain ⟨i0, hi, hz0, hz1, hz2⟩ := info_parts (show (Try.prog.info? 5).map (fun i => (i.zero, i.size, i.bytes)) = some (some (.int .u8 0), 1, 1) by kernel_rfl)
 go_enter Try.func40, Try.ntmps40
 go_wp2_with (go_at_call 59; refine (bCheck B b bs _ h).mono ?_)
 rintro e w1 ⟨rfl, h1, hb1, hK1⟩
 obtain ⟨hB, v, hbk, hown, hne⟩ := h1
 have c0 : w1.cell? ⟨b, 0, none⟩ = some (.pointer (some ⟨b, 0, none⟩)) := by rw [Lib.cell_of_heap hbk]; rfl
 have c1 : w1.cell? ⟨b, 1, none⟩ = some v := by rw [Lib.cell_of_heap hbk]; rfl
 go_wp2_with (at_builtin; refine wpList_append_own _ rfl _ _ 26 rfl B 5 i0 (.int .u8 0) 1 1 Try.underlying26 hi hz0 hz1 hz2 rfl (by decide) _ _ _ rfl (hown.alloc _) ⟨w1.heap.size, 0, none⟩ 1 1 [.int .u8 c] rfl rfl ?c1 ?c2 ?c3 ?c4 ?c5 ?_)
 case c1 =>
  intro j u hj
  match j, hj with
  | 0, hj => simp at hj; subst hj; simp [Addr.add]
 case c2 => intro u hu; simp at hu; subst hu; rfl
 case c3 => unfold maxLen; omega
 case c4 => omega
 case c5 => have := hb1.size; simp; omega
 intro v' w2 hown' hgrow _
 have hlt : b < w1.heap.size := by
  rcases Nat.lt_or_ge b w1.heap.size with h' | h'
  ·exact h'
  ·simp [Array.getElem?_eq_none h'] at hbk
 have hb2 : w2.heap[b]? = some (.cells #[.pointer (some ⟨b, 0, none⟩), v] 65 (0, 0)) := by
  rw [hgrow.block b (by simp; omega) (fun e => hne e.symm), Lib.alloc_old w1 _ b hlt]
  exact hbk
 have d0 : w2.cell? ⟨b, 0, none⟩ = some (.pointer (some ⟨b, 0, none⟩)) := by rw [Lib.cell_of_heap hb2]; rfl
 have d1 : w2.cell? ⟨b, 1, none⟩ = some v := by rw [Lib.cell_of_heap hb2]; rfl
 have f1 : w2.frozen? ⟨b, 1, none⟩ = false := Lib.frozen_of_heap hb2 1
 obtain ⟨g, cap, rfl⟩ : ∃ g cap, v' = .slice (some ⟨g, 0, none⟩) (bs.length + 1) cap := by
  rcases hown'.2 with ⟨_, h0⟩ | ⟨g, cap, cur, hv, _⟩
  ·omega
  ·exact ⟨g, cap, hv⟩
 go_wp2
 go_ret
 refine ⟨rfl, ?_, ?_, ?_⟩
 ·exact Lib.BuilderAt.put (T := 65) (e := 5) hB hb2 (bs' := bs ++ [.int .u8 c]) (by simpa using hown') (by decide)
 ·exact ((hb1.alloc (by have := hb1.size; omega) _).grown hgrow (by have := hb1.size; simp; omega) (fun k hk => (hown.lt k hk).1)).setCell (p := ⟨b, 1, none⟩) hB _
 ·intro k c' t hk ht hkb
  have g1 := hK1 k c' t hk ht hkb
  have g2 := (Lib.alloc_old w1 (Obj.cells #[Value.int IntKind.u8 c] 5 (0, 0)) k (lt_of_blk g1)).trans g1
  have g3 := (hgrow.block k (lt_of_blk g2) (other_own hown g1 ht)).trans g2
  exact (heap_setCell_other w2 ⟨b, 1, none⟩ k _ hkb).trans g3


/-! ### strings_Builder_WriteString: function 41 (a text of mine) -/
set_option maxHeartbeats 2000000 in
set_option maxRecDepth 100000 in
theorem bWriteString (B b : Nat) (bs : List Value) (s : ByteArray) (w : World) (h : Lib.IsBuilder 65 5 B b bs w) (hlen : bs.length + s.size ≤ 140737488355328) (hBw : B ≤ w.heap.size) :
  Calls Try.prog 41 #[.pointer (some ⟨b, 0, none⟩), .string s] w fun e w' => e = .returned (.tuple #[.int .i64 s.size, .nilIface]) ∧ (Lib.BuilderAt 65 5 B b (.pointer (some ⟨b, 0, none⟩)) (bs ++ Lib.strCells s) w' ∧ Below B w w' ∧ K5 b w w') := by
 obtain ⟨i0, hi, hz0, hz1, hz2⟩ := info_parts (show (Try.prog.info? 5).map (fun i => (i.zero, i.size, i.bytes)) = some (some (.int .u8 0), 1, 1) by kernel_rfl)
 go_enter Try.func41, Try.ntmps41
 go_wp2_with (go_at_call 59; refine (bCheck B b bs _ h).mono ?_)
 rintro e w1 ⟨rfl, h1, hb1, hK1⟩
 obtain ⟨hB, v, hbk, hown, hne⟩ := h1
 have c0 : w1.cell? ⟨b, 0, none⟩ = some (.pointer (some ⟨b, 0, none⟩)) := by rw [Lib.cell_of_heap hbk]; rfl
 have c1 : w1.cell? ⟨b, 1, none⟩ = some v := by rw [Lib.cell_of_heap hbk]; rfl
 go_wp2_with (at_builtin; refine Lib.wpList_append_own_string _ rfl _ _ 26 9 rfl B 5 i0 Try.underlying26 Try.underlying9 hi hz0 hz1 hz2 _ _ _ rfl hown s rfl ?c3 ?c4 ?c5 ?_)
 case c3 => unfold maxLen; omega
 case c4 => omega
 case c5 => have := hb1.size; omega
 intro v' w2 hown' hgrow _
 have hlt : b < w1.heap.size := by
  rcases Nat.lt_or_ge b w1.heap.size with h' | h'
  ·exact h'
  ·simp [Array.getElem?_eq_none h'] at hbk
 have hb2 : w2.heap[b]? = some (.cells #[.pointer (some ⟨b, 0, none⟩), v] 65 (0, 0)) := by
  rw [hgrow.block b hlt (fun e => hne e.symm)]
  exact hbk
 have d0 : w2.cell? ⟨b, 0, none⟩ = some (.pointer (some ⟨b, 0, none⟩)) := by rw [Lib.cell_of_heap hb2]; rfl
 have d1 : w2.cell? ⟨b, 1, none⟩ = some v := by rw [Lib.cell_of_heap hb2]; rfl
 have f1 : w2.frozen? ⟨b, 1, none⟩ = false := Lib.frozen_of_heap hb2 1
 obtain ⟨ao, n', cap, rfl⟩ : ∃ ao n' cap, v' = .slice ao n' cap := by
  rcases hown'.2 with ⟨hv, _⟩ | ⟨g, cap, cur, hv, _⟩
  ·exact ⟨_, _, _, hv⟩
  ·exact ⟨_, _, _, hv⟩
 go_wp2
 go_ret2
 refine ⟨rfl, ?_, ?_, ?_⟩
 ·exact Lib.BuilderAt.put (T := 65) (e := 5) hB hb2 (bs' := bs ++ Lib.strCells s) (by simpa [Lib.strCells_length] using hown') (by decide)
 ·exact (hb1.grown hgrow (by have := hb1.size; omega) (fun k hk => (hown.lt k hk).1)).setCell (p := ⟨b, 1, none⟩) hB _
 ·intro k c' t hk ht hkb
  have g1 := hK1 k c' t hk ht hkb
  have g3 := (hgrow.block k (lt_of_blk g1) (other_own hown g1 ht)).trans g1
  exact (heap_setCell_other w2 ⟨b, 1, none⟩ k _ hkb).trans g3


/-! ### impl_inBytes: function 42 -/
def impl_inBytes.l0 : Nat → Int → List Int → Int → Option (ByteArray)
 | 0, _, _, _ => none
 | k + 1, x0, x5, x6 => if x6 ≥ 0 then (if 0 ≤ x6 then (if x6 < (x5.length : Int) then (impl_inBytes.l0 k (x0 / 256) (x5.set (x6 : Int).toNat ((x0) % 256)) (wrap64 (x6 - 1))) else (none)) else (none)) else (some (strOfNums x5))
def impl_inBytes.f (k : Nat) (a0 : Int) (a1 : Int) : Option (ByteArray) := if 0 ≤ a1 then (if (a1 : Int).toNat ≤ 281474976710656 then (impl_inBytes.l0 k a0 (List.replicate (a1 : Int).toNat 0) (wrap64 (a1 - 1))) else (none)) else (none)
theorem impl_inBytes.mono_l : ∀ k, (∀ y0 y1 y2, LeO (impl_inBytes.l0 k y0 y1 y2) (impl_inBytes.l0 (k + 1) y0 y1 y2))
 | 0 => fun _ _ _ r h => by simp [impl_inBytes.l0] at h
 | k + 1 => by
  have ih0 := impl_inBytes.mono_l k
  ·intro y0 y1 y2
   unfold impl_inBytes.l0
   repeat' first
   | (with_reducible exact ih0 _ _ _)
   | (with_reducible exact LeO.refl _)
   | (with_reducible exact LeO.none _)
   | (with_reducible refine LeO.ite ?_ ?_)
   | (with_reducible refine LeO.bind ?_ (fun _ => ?_))
   | exact ih0 _ _ _
   | exact LeO.none _
   | refine LeO.ite ?_ ?_
   | refine LeO.bind ?_ (fun _ => ?_)
theorem impl_inBytes.mono : ∀ a0 a1 k, LeO (impl_inBytes.f k a0 a1) (impl_inBytes.f (k + 1) a0 a1) := by
 intro a0 a1 k
 have ih0 := impl_inBytes.mono_l k
 unfold impl_inBytes.f
 repeat' first
   | (with_reducible exact ih0 _ _ _)
   | (with_reducible exact LeO.refl _)
   | (with_reducible exact LeO.none _)
   | (with_reducible refine LeO.ite ?_ ?_)
   | (with_reducible refine LeO.bind ?_ (fun _ => ?_))
   | exact ih0 _ _ _
   | exact LeO.none _
   | refine LeO.ite ?_ ?_
   | refine LeO.bind ?_ (fun _ => ?_)
set_option maxHeartbeats 8000000 in
set_option maxRecDepth 100000 in
theorem impl_inBytes.calls (k : Nat) (a0 : Int) (a1 : Int) (r : ByteArray) (w : World) (h : impl_inBytes.f k a0 a1 = some r) :
  Calls Try.prog 42 #[.int .i64 a0, .int .i64 a1] w fun e w' => e = .returned (.string r) ∧ Below w.heap.size w w' := by
 have HB := Aside0.mk (Below.refl w.heap.size w)
 have H : (if 0 ≤ a1 then (if (a1 : Int).toNat ≤ 281474976710656 then (impl_inBytes.l0 k a0 (List.replicate (a1 : Int).toNat 0) (wrap64 (a1 - 1))) else (none)) else (none)) = some r := h
 clear h
 by_cases c3 : 0 ≤ a1
 ·rw [if_pos c3] at H
  have c3b0 := eq_true c3
  have c3b1 : decide (0 ≤ a1) = true := decide_eq_true c3
  clear c3
  by_cases c4 : (a1 : Int).toNat ≤ 281474976710656
  ·rw [if_pos c4] at H
   have c4b0 := eq_true c4
   have c4b1 : decide ((a1 : Int).toNat ≤ 281474976710656) = true := decide_eq_true c4
   clear c4
   obtain ⟨y101, hy101⟩ : ∃ y_ : List Int, y_ = (List.replicate (a1 : Int).toNat 0) := ⟨_, rfl⟩
   replace H : (impl_inBytes.l0 k a0 y101 (wrap64 (a1 - 1))) = some r := by first | (rw [hy101]; with_reducible exact H) | (have H2_ := (Option.bind_some _ _).symm.trans H; rw [hy101]; with_reducible exact H2_) | (have H2_ := (Option.bind_some _ _).symm.trans H; with_reducible exact H2_) | with_reducible exact H | (rw [hy101]; exact H) | exact H
   have Ny101 := Aside0.mk hy101
   clear hy101
   have H' := Aside0.mk H
   clear H
   go_enter Try.func42, Try.ntmps42
   go_wp2_with (first | ((with_reducible refine gate_dst (N := 8) rfl ?_); refine Kd.R_make (Kd.int .u8) _ 5 rfl (N := 8) rfl 26 _ _ rfl a1 rfl rfl Try.underlying26 (.int .u8 0) 1 info5 rfl (by decide) (by omega) 0 (ok := fun _ => True) (okp := fun _ => True) rfl (fun _ hk => hk) trivial (of_decide_eq_true (by first | (with_reducible assumption) | assumption)) (Nat.le_trans (Nat.mul_le_mul_right _ (of_decide_eq_true (by first | (with_reducible assumption) | assumption) : a1.toNat ≤ 281474976710656)) (by omega)) (Below.refl _ _) (Nat.le_refl _) ?_; intro v102 w5 ho6 hb hg_ hnew_; clear hg_ hnew_; (first | rw [← Ny101.out] at ho6 | (simp only [Int.reduceToNat] at ho6; rw [← Ny101.out] at ho6)); have n0_ := Aside0.mk (Kd.R_lower ho6 (below_size (by repeat (first | (with_reducible first | exact HB.out | apply below_alloc | apply pw_below_drewN | apply below_drew1) | exact HB.out)))); have n1_ := Aside0.mk (below_step (by repeat (first | (with_reducible first | exact HB.out | apply below_alloc | apply pw_below_drewN | apply below_drew1) | exact HB.out)) hb); clear HB; have HO103 := n0_; have HB := n1_; clear n0_ n1_; clear hb ho6))
   go_loopg [0, 6] k (fun kq v0 v6 w' => ∃ (x0_1 : Int) (x5_1 : List Int) (x6_1 : Int), v0 = .int .i64 x0_1 ∧ v6 = .int .i64 x6_1 ∧ Aside0 (impl_inBytes.l0 kq x0_1 x5_1 x6_1 = some r) ∧ Aside0 (kq ≤ k) ∧ Aside0 (Kd.R (Kd.int .u8) 5 w' w.heap.size (fun _ => True) v102 x5_1) ∧ Aside0 (Below w.heap.size w w'))
   case atStart => exact ⟨(a0), (y101), (wrap64 (a1 - 1)), (by first | rfl | (simp; done) | (simp [*]; done)), (by first | rfl | (simp; done) | (simp [*]; done)), H', ⟨Nat.le_refl _⟩, ⟨by (with_reducible repeat (first | apply Kd.R_alloc | apply Kd.R_drewN | apply Kd.R_drew)); exact HO103.out⟩, ⟨by repeat (first | (with_reducible first | exact HB.out | apply below_alloc | apply pw_below_drewN | apply below_drew1) | exact HB.out)⟩⟩
   case round =>
    clear H'
    try clear p2
    try clear c3
    try clear c3b0
    try clear c3b1
    try clear c4
    try clear c4b0
    try clear c4b1
    try clear p6
    obtain ⟨x0_1, x5_1, x6_1, rfl, rfl, HA, HK1, HO_5, HB⟩ := hrel
    cases gk with
    | zero => exact absurd HA.out (by simp [impl_inBytes.l0])
    | succ k1 =>
     have H := HA.out
     clear HA
     simp only [impl_inBytes.l0] at H
     by_cases c7 : x6_1 ≥ 0
     ·rw [if_pos c7] at H
      have c7b0 : decide (0 ≤ x6_1) = true := decide_eq_true c7
      clear c7
      by_cases c8 : 0 ≤ x6_1
      ·rw [if_pos c8] at H
       have c8b0 : decide (0 ≤ x6_1) = true := decide_eq_true c8
       clear c8
       by_cases c9 : x6_1 < (x5_1.length : Int)
       ·rw [if_pos c9] at H
        have c9b0 : decide (x6_1 < (x5_1.length : Int)) = true := decide_eq_true c9
        clear c9
        obtain ⟨y104, hy104⟩ : ∃ y_ : List Int, y_ = (x5_1.set (x6_1 : Int).toNat ((x0_1) % 256)) := ⟨_, rfl⟩
        replace H : (impl_inBytes.l0 k1 (x0_1 / 256) y104 (wrap64 (x6_1 - 1))) = some r := by first | (rw [hy104]; with_reducible exact H) | (have H2_ := (Option.bind_some _ _).symm.trans H; rw [hy104]; with_reducible exact H2_) | (have H2_ := (Option.bind_some _ _).symm.trans H; with_reducible exact H2_) | with_reducible exact H | (rw [hy104]; exact H) | exact H
        have Ny104 := Aside0.mk hy104
        clear hy104
        have H' := Aside0.mk H
        clear H
        have p10 : 0 ≤ (x6_1 : Int) := of_decide_eq_true (by first | (with_reducible assumption) | assumption)
        have q10 : (x6_1 : Int) < ((x5_1.length : Int) : Int) := of_decide_eq_true (by first | (with_reducible assumption) | assumption)
        obtain ⟨go10, co10, eo10, gb10, gl10, cl10, HG10⟩ := Kd.R_form HO_5.out (by omega)
        (first | cases eo10 | (injection eo10 with ea_ en_ ec_; (first | subst ea_ | (injection ea_ with ea_; subst ea_)); subst ec_; clear en_))
        have GB10 := Aside0.mk gb10
        have GG10 := Aside0.mk HG10
        clear gb10 gl10 HG10
        obtain ⟨hx10_0, hf10_0⟩ := Kd.R_celln 0 HO_5.out (x6_1 : Int) p10 q10
        replace p10 := eq_true p10
        replace q10 := eq_true q10
        have HP11 := Kd.R_putg HO_5.out (x6_1 : Int) ((x0_1) % 256)
        go_wp2_with (first | ((with_reducible refine gate_store (t := 5) (p := 19) rfl ?_); refine store_event (t := 5) (p := 19) (v := ?vo_w12) (w1 := (wr.setCell ⟨go10, (x6_1 : Int).toNat, none⟩ (.int .u8 ((x0_1) % 256)))) ?hg ?ho ?hn ?hr ?_; (case ho => rfl); (case hg => rfl); (case hn => rfl); (case hr => first | (go_simp; done) | (go_simp; rfl)); intro w12 hw; have hg : wr.grownBy w12 (some go10) := (by rw [hw]; exact HP11.2); have hp_ : Kd.R (Kd.int .u8) 5 w12 w.heap.size (fun _ => True) (.slice (some ⟨go10, 0, none⟩) x5_1.length co10) y104 := (by rw [hw, Ny104.out]; exact HP11.1); clear HP11; have n0_ := Aside0.mk (hp_); have n1_ := Aside0.mk ((by rw [hw]; exact below_set (HB.out) GB10.out : Below w.heap.size w w12)); clear HO_5; clear HB; have HO_5 := n0_; have HB := n1_; clear n0_ n1_; clear hg hw hp_))
        go_roundg k1
        case measure => have := HK1.out; omega
        case rel => exact ⟨(x0_1 / 256), (y104), (wrap64 (x6_1 - 1)), (by first | rfl | (simp; done) | (simp [*]; done)), (by first | rfl | (simp; done) | (simp [*]; done)), H', ⟨by have := HK1.out; omega⟩, ⟨by (with_reducible repeat (first | apply Kd.R_alloc | apply Kd.R_drewN | apply Kd.R_drew)); exact HO_5.out⟩, ⟨by repeat (first | (with_reducible first | exact HB.out | apply below_alloc | apply pw_below_drewN | apply below_drew1) | exact HB.out)⟩⟩
       ·rw [if_neg c9] at H
        exact absurd H (by simp)
      ·rw [if_neg c8] at H
       exact absurd H (by simp)
     ·rw [if_neg c7] at H
      have c7b0 : decide (0 ≤ x6_1) = false := decide_eq_false c7
      clear c7
      obtain rfl := Option.some.inj H
      have hcv13 := own_string (P := Try.prog) Try.underlying26 Try.underlying5 Try.underlying9 (Kd.own_of_R HO_5.out)
      go_wp2
      go_ret
      exact ⟨by first | rfl | (simp [errW_none, errW_some] <;> rfl) | (simp [*, errW_none, errW_some] <;> rfl), by repeat (first | (with_reducible first | exact HB.out | apply below_alloc | apply pw_below_drewN | apply below_drew1) | exact HB.out)⟩
  ·rw [if_neg c4] at H
   exact absurd H (by simp)
 ·rw [if_neg c3] at H
  exact absurd H (by simp)


/-! ### strings_Builder_String: function 43 (a text of mine) -/
section
open Go.Shelf
def sh43_lays169_ren : Go.Shelf.Ren := ⟨fun | 169 => 43 | n => n, fun | 70 => 63 | 9 => 9 | 0 => 0 | 72 => 65 | 37 => 26 | 127 => 89 | 3 => 3 | 5 => 5 | n => n, fun | n => n⟩
theorem sh43_lays169 : Go.Proofs.Lays.n169 Try.prog sh43_lays169_ren := {
 mixed := by kernel_rfl
 f169 := Try.func43.trans (congrArg some (by kernel_rfl))
 t0 := Try.underlying0
 a0 := Try.isAgg0
 z0 := Try.sizeOf0
 v0 := Try.zeroValue0
 t3 := Try.underlying3
 a3 := Try.isAgg3
 z3 := Try.sizeOf3
 v3 := Try.zeroValue3
 t9 := Try.underlying9
 a9 := Try.isAgg9
 z9 := Try.sizeOf9
 v9 := Try.zeroValue9
 t37 := Try.underlying26
 a37 := Try.isAgg26
 z37 := Try.sizeOf26
 v37 := Try.zeroValue26
 t70 := Try.underlying63
 a70 := Try.isAgg63
 z70 := Try.sizeOf63
 v70 := Try.zeroValue63
 t72 := Try.underlying65
 a72 := Try.isAgg65
 z72 := Try.sizeOf65
 v72 := Try.zeroValue65
 t127 := Try.underlying89
 a127 := Try.isAgg89
 z127 := Try.sizeOf89
 v127 := Try.zeroValue89 }
theorem sh43_Builder_Extra_169 : Builder.Extra Try.prog sh43_lays169_ren := {
 sizeBuilder := by kernel_rfl
 liesBuilder := by kernel_rfl
 t5 := Try.underlying5
 a5 := Try.isAgg5
 z5 := Try.sizeOf5
 v5 := Try.zeroValue5
 infoByte := by kernel_rfl
 cellsByte := by kernel_rfl
 sizeByte := by kernel_rfl
 neB5 := by decide }
open Go.RowKit in
theorem sh43_Builder_String_any (B b : Nat) (l : List UInt8) (w : World) (h : Lib.IsBuilder 65 5 B b (Lib.byteCells l) w) (hBw : B ≤ w.heap.size) :
  Calls Try.prog 43 #[.pointer (some ⟨b, 0, none⟩)] w fun e w' => e = .returned (.string ⟨l.toArray⟩) ∧ Below B w w' := Any.Builder_String_any sh43_lays169 sh43_Builder_Extra_169 B b l w h hBw
end
theorem bString (B b : Nat) (l : List UInt8) (w : World) (h : Lib.IsBuilder 65 5 B b (Lib.byteCells l) w) (hBw : B ≤ w.heap.size) :
  Calls Try.prog 43 #[.pointer (some ⟨b, 0, none⟩)] w fun e w' => e = .returned (.string ⟨l.toArray⟩) ∧ Below B w w' := sh43_Builder_String_any B b l w h hBw


/-! ### impl_mutationBytes: function 23 (a text of mine) -/
def hbM (n : Int) : UInt8 := UInt8.ofNat (n % 256).toNat
def b2M (n : Int) : ByteArray := strOfNums [n / 256 % 256, n % 256]
def itemM (x : S54) : ByteArray := ((b2M x.f0.size ++ b2M x.f1.size) ++ x.f0) ++ x.f1
def totM (kind uid mode flags : Int) (box : ByteArray) (l : List S54) : List UInt8 := ([hbM kind, hbM mode, hbM flags, hbM l.length, hbM box.size] ++ (b2M uid ++ box).data.toList) ++ l.flatMap fun x => (itemM x).data.toList
def condM (uid : Int) (box : ByteArray) (l : List S54) : Prop := (0 ≤ uid ∧ uid ≤ 1000000) ∧ l.length ≤ 1000 ∧ box.size ≤ 1000000 ∧ (l.all fun x => decide (x.f0.size ≤ 1000000) && decide (x.f1.size ≤ 1000000)) = true
theorem condM_at {uid : Int} {box : ByteArray} {l : List S54} (h : condM uid box l) : ∀ x ∈ l, x.f0.size ≤ 1000000 ∧ x.f1.size ≤ 1000000 := fun x hx => by
 have := List.all_eq_true.1 h.2.2.2 x hx
 simpa using this
instance condM_dec (uid : Int) (box : ByteArray) (l : List S54) : Decidable (condM uid box l) := by unfold condM; infer_instance
def impl_mutationBytes.f (a0_0 a0_1 a0_2 a0_3 : Int) (a0_4 : ByteArray) (l0_5 : List S54) : Option ByteArray := if condM a0_1 a0_4 l0_5 then some ⟨(totM a0_0 a0_1 a0_2 a0_3 a0_4 l0_5).toArray⟩ else none
theorem hbM_val (n : Int) : ((hbM n).toNat : Int) = n % 256 := by
 unfold hbM
 rw [UInt8.toNat_ofNat']
 omega
theorem cells_snoc (hd : List UInt8) (j : Nat) (v : Int) (h : hd[j]? = some (hbM v)) : Lib.byteCells (hd.take j) ++ [.int .u8 (v % 256)] = Lib.byteCells (hd.take (j + 1)) := by
 rw [List.take_add_one, h]
 simp [Lib.byteCells, hbM_val]
theorem cells_len (hd : List UInt8) (j : Nat) (h : hd.length = 5) : (Lib.byteCells (hd.take j)).length + 1 ≤ 140737488355328 := by
 simp [Lib.byteCells]
 omega
theorem inB2 (n : Int) (h : 0 ≤ n) : impl_inBytes.f 4 n 2 = some (b2M n) := by
 obtain ⟨m, rfl⟩ : ∃ m : Nat, n = (m : Int) := ⟨n.toNat, (Int.toNat_of_nonneg h).symm⟩
 simp [impl_inBytes.f, impl_inBytes.l0, wrap64, List.replicate, b2M]
theorem bSet {B b : Nat} {bs : List Value} {w : World} (h : Lib.IsBuilder 65 5 B b bs w) {g t : Nat} {c : Array Value} (hg : w.heap[g]? = some (.cells c t (0, 0))) (ht : t ≠ 5) (hne : b ≠ g) (j : Nat) (v : Value) : Lib.IsBuilder 65 5 B b bs (w.setCell ⟨g, j, none⟩ v) := by
 have go : ∀ p, Lib.BuilderAt 65 5 B b p bs w → Lib.BuilderAt 65 5 B b p bs (w.setCell ⟨g, j, none⟩ v) := by
  rintro p ⟨hB, u, hk, hown, hn⟩
  refine ⟨hB, u, (heap_setCell_other w ⟨g, j, none⟩ b v hne).trans hk, ⟨hown.1, ?_⟩, hn⟩
  rcases hown.2 with h0 | ⟨g', cap, cur, e, h1, h2, h3⟩
  ·exact .inl h0
  ·refine .inr ⟨g', cap, cur, e, h1, (heap_setCell_other w ⟨g, j, none⟩ g' v ?_).trans h2, h3⟩
   intro e2
   have e3 : g' = g := e2
   rw [e3, hg] at h2
   injection h2 with h2
   injection h2 with _ h2
   exact ht h2
 exact h.imp (go _) (go _)
theorem cells_str (l : List UInt8) (s : ByteArray) : Lib.byteCells l ++ Lib.strCells s = Lib.byteCells (l ++ s.data.toList) := by
 simp [Lib.byteCells, Lib.strCells]
def totX (hd : List UInt8) (uid : Int) (box : ByteArray) (l : List S54) (x : Nat) : List UInt8 := (hd ++ (b2M uid ++ box).data.toList) ++ (l.take x).flatMap fun y => (itemM y).data.toList
theorem totX_zero (hd : List UInt8) (uid : Int) (box : ByteArray) (l : List S54) : totX hd uid box l 0 = hd ++ (b2M uid ++ box).data.toList := by simp [totX]
theorem totX_succ (hd : List UInt8) (uid : Int) (box : ByteArray) (l : List S54) (x : Nat) (y : S54) (h : l[x]? = some y) : totX hd uid box l (x + 1) = totX hd uid box l x ++ (itemM y).data.toList := by
 unfold totX
 rw [List.take_add_one, h]
 simp
theorem totX_end (kind uid mode flags : Int) (box : ByteArray) (l : List S54) : totX [hbM kind, hbM mode, hbM flags, hbM l.length, hbM box.size] uid box l l.length = totM kind uid mode flags box l := by
 unfold totX totM
 rw [List.take_length]
theorem item_len (x : S54) (h : x.f0.size ≤ 1000000 ∧ x.f1.size ≤ 1000000) : (itemM x).data.toList.length ≤ 2000004 := by
 unfold itemM
 have e : ∀ n, (b2M n).size = 2 := fun _ => rfl
 have ht : ∀ y : ByteArray, y.data.toList.length = y.size := fun _ => rfl
 rw [ht]
 simp only [ByteArray.size_append, e]
 omega
theorem flat_len (l : List S54) (h : ∀ x ∈ l, x.f0.size ≤ 1000000 ∧ x.f1.size ≤ 1000000) : (l.flatMap fun y => (itemM y).data.toList).length ≤ 2000004 * l.length := by
 induction l with
 | nil => simp
 | cons x xs ih =>
  have h1 := item_len x (h x (by simp))
  have h2 := ih (fun y hy => h y (by simp [hy]))
  simp only [List.flatMap_cons, List.length_append, List.length_cons]
  omega
theorem totX_len (hd : List UInt8) (uid : Int) (box : ByteArray) (l : List S54) (x : Nat) (h5 : hd.length = 5) (h : condM uid box l) : (totX hd uid box l x).length ≤ 3000000000 := by
 unfold totX
 have h1 := flat_len (l.take x) (fun y hy => condM_at h y (List.mem_of_mem_take hy))
 have h2 : (l.take x).length ≤ 1000 := by rw [List.length_take]; have := h.2.1; omega
 have e : ∀ n, (b2M n).size = 2 := fun _ => rfl
 have ht : ∀ y : ByteArray, y.data.toList.length = y.size := fun _ => rfl
 have h3 := h.2.2.1
 simp only [List.length_append, ht, ByteArray.size_append, e, h5]
 omega
set_option maxHeartbeats 8000000 in
set_option maxRecDepth 100000 in
theorem mutB (a0_0 : Int) (a0_1 : Int) (a0_2 : Int) (a0_3 : Int) (a0_4 : ByteArray) (A0_5 : Option Addr) (c0_5 : Nat) (l0_5 : List (S54)) (w : World) (hr0_5 : Kd.C k54 w A0_5 l0_5.length l0_5) (hc0_5 : l0_5.length ≤ c0_5) (h : condM a0_1 a0_4 l0_5) :
  Calls Try.prog 23 #[.agg #[.int .i64 a0_0, .int .i64 a0_1, .int .i64 a0_2, .int .i64 a0_3, .string a0_4, .slice A0_5 l0_5.length c0_5]] w fun e w' => e = .returned (.string ⟨(totM a0_0 a0_1 a0_2 a0_3 a0_4 l0_5).toArray⟩) ∧ Below w.heap.size w w' := by
 have huM := Try.underlying31
 have huB := Try.underlying65
 have huI := Try.underlying54
 have HR := Aside0.mk hr0_5
 have HC := Aside0.mk hc0_5
 have HH := Aside0.mk h
 clear hr0_5 hc0_5 h
 have HB := Aside0.mk (Below.refl w.heap.size w)
 go_enter Try.func23, Try.ntmps23
 go_wp2_with (first | ((with_reducible refine gate_dst (N := 1) rfl ?_); refine box_event ?hg (N := 1) ?hd (cs := #[.int .i64 a0_0, .int .i64 a0_1, .int .i64 a0_2, .int .i64 a0_3, .string a0_4, .slice A0_5 l0_5.length c0_5]) (t := 31) ?hr ?_; (case hd => rfl); (case hg => rfl); (case hr => first | (go_simp; done) | (go_simp; rfl)); intro gb hg w1 hbox hb; have HB1 := Aside0.mk (below_step HB.out hb); have BK := Aside0.mk hbox; have GE := Aside0.mk ((by rw [hg]; exact Nat.le_refl _ : w.heap.size ≤ gb)); have h0c : w1.cell? ⟨gb, 0, none⟩ = some (.int .i64 a0_0) := (blk_cell BK.out 0).trans rfl; have h1c : w1.cell? ⟨gb, 1, none⟩ = some (.int .i64 a0_1) := (blk_cell BK.out 1).trans rfl; have h2c : w1.cell? ⟨gb, 2, none⟩ = some (.int .i64 a0_2) := (blk_cell BK.out 2).trans rfl; have h3c : w1.cell? ⟨gb, 3, none⟩ = some (.int .i64 a0_3) := (blk_cell BK.out 3).trans rfl; have h4c : w1.cell? ⟨gb, 4, none⟩ = some (.string a0_4) := (blk_cell BK.out 4).trans rfl; have h5c : w1.cell? ⟨gb, 5, none⟩ = some (.slice A0_5 l0_5.length c0_5) := (blk_cell BK.out 5).trans rfl; clear hb hbox hg) | ((with_reducible refine gate_dst (N := 3) rfl ?_); refine box_event ?hg (N := 3) ?hd (cs := #[.pointer none, .slice none 0 0]) (t := 65) ?hr ?_; (case hd => rfl); (case hg => rfl); (case hr => first | (go_simp; done) | (go_simp; rfl)); intro bb hg2 w2 hbox2 hb2; have HB2 := Aside0.mk (below_step HB1.out hb2); have BB := Aside0.mk hbox2; have BK2 := Aside0.mk (blk_below (g := gb) (o := .cells #[.int .i64 a0_0, .int .i64 a0_1, .int .i64 a0_2, .int .i64 a0_3, .string a0_4, .slice A0_5 l0_5.length c0_5] 31 (0, 0)) BK.out hb2); have GB := Aside0.mk ((by rw [hg2]; exact HB1.out.size : w.heap.size ≤ bb)); have NB := Aside0.mk ((by rw [hg2]; exact Nat.ne_of_lt (blk_lt (g := gb) (o := .cells #[.int .i64 a0_0, .int .i64 a0_1, .int .i64 a0_2, .int .i64 a0_3, .string a0_4, .slice A0_5 l0_5.length c0_5] 31 (0, 0)) BK.out) : gb ≠ bb)); have nb0 := NB.out; have nb1 := Ne.symm nb0; have k0 : w2.cell? ⟨bb, 0, none⟩ = some (.pointer none) := (blk_cell BB.out 0).trans rfl; have k1 : w2.cell? ⟨bb, 1, none⟩ = some (.slice none 0 0) := (blk_cell BB.out 1).trans rfl; have f0 := blk_frozen BB.out 0; have f1 := blk_frozen BB.out 1; clear h0c h1c h2c h3c h4c h5c; have h0c : w2.cell? ⟨gb, 0, none⟩ = some (.int .i64 a0_0) := (blk_cell BK2.out 0).trans rfl; have h2c : w2.cell? ⟨gb, 2, none⟩ = some (.int .i64 a0_2) := (blk_cell BK2.out 2).trans rfl; have h3c : w2.cell? ⟨gb, 3, none⟩ = some (.int .i64 a0_3) := (blk_cell BK2.out 3).trans rfl; have h4c : w2.cell? ⟨gb, 4, none⟩ = some (.string a0_4) := (blk_cell BK2.out 4).trans rfl; have h5c : w2.cell? ⟨gb, 5, none⟩ = some (.slice A0_5 l0_5.length c0_5) := (blk_cell BK2.out 5).trans rfl; clear hb2 hbox2 hg2))
 obtain ⟨hd, hhd⟩ : ∃ hd : List UInt8, hd = [hbM a0_0, hbM a0_2, hbM a0_3, hbM l0_5.length, hbM a0_4.size] := ⟨_, rfl⟩
 have HD := Aside0.mk hhd
 clear hhd nb0 nb1 k0 k1 f0 f1 h0c h2c h3c h4c h5c
 go_loopg [5, 23] 5 (fun gg s5 s23 wr => ∃ x : Nat, s23 = .int .i64 (x : Int) ∧ Aside0 (x ≤ 5 ∧ 5 - x ≤ gg) ∧ Aside0 (Lib.IsBuilder 65 5 w.heap.size bb (Lib.byteCells (hd.take x)) wr) ∧ Aside0 (wr.heap[gb]? = some (.cells #[.int .i64 a0_0, .int .i64 a0_1, .int .i64 a0_2, .int .i64 a0_3, .string a0_4, .slice A0_5 l0_5.length c0_5] 31 (0, 0))) ∧ Aside0 (wr.heap[w2.heap.size]? = some (.cells #[.int .i64 a0_0, .int .i64 a0_2, .int .i64 a0_3, .int .i64 (l0_5.length : Int), .int .i64 (a0_4.size : Int)] 3 (0, 0))) ∧ Aside0 (Below w.heap.size w wr) ∧ Aside0 (w2.heap.size ≠ bb))
 case atStart =>
  have hs : ((w2.setCell ⟨bb, 0, none⟩ (.pointer none)).setCell ⟨bb, 1, none⟩ (.slice none 0 0)).heap.size = w2.heap.size := by simp
  refine ⟨0, rfl, ⟨by omega, by omega⟩, ⟨bNew GB.out ?_⟩, ⟨?_⟩, ⟨?_⟩, ⟨?_⟩, ⟨?_⟩⟩
  ·refine blk_alloc ?_ _
   refine blk_put (cs := #[.pointer none, .slice none 0 0]) ?_ 1 _ rfl
   refine blk_put (cs := #[.pointer none, .slice none 0 0]) ?_ 0 _ rfl
   exact BB.out
  ·refine blk_alloc ?_ _
   refine blk_far ?_ NB.out _
   refine blk_far ?_ NB.out _
   exact BK2.out
  ·have e : ∀ (W : World) (o : Obj) (n : Nat), W.heap.size = n → (W.alloc o).heap[n]? = some o := fun W o n h => by subst h; exact Array.getElem?_push_size
   exact e _ _ _ hs
  ·apply below_alloc
   refine below_set ?_ GB.out
   refine below_set ?_ GB.out
   exact HB2.out
  ·exact Nat.ne_of_gt (blk_lt BB.out)
 case round =>
  obtain ⟨x, rfl, HX, HI, HG, HRb, HBr, HNr⟩ := hrel
  by_cases hlt : x < 5
  ·have hx : x = 0 ∨ x = 1 ∨ x = 2 ∨ x = 3 ∨ x = 4 := by omega
   rcases hx with rfl | rfl | rfl | rfl | rfl
   ·have hc : wr.cell? ⟨w2.heap.size, 0, none⟩ = some (.int .i64 a0_0) := (blk_cell HRb.out 0).trans rfl
    clear hlt
    go_wp2_with (go_at_call 40; refine (bWriteByte w.heap.size bb _ _ _ HI.out ?hl ?hz).mono ?_; (case hl => exact cells_len hd _ (by rw [HD.out]; rfl)); (case hz => exact HBr.out.size); rintro e w3 ⟨rfl, hBA, hBB, hK⟩)
    go_roundg (4 - 0)
    case measure => have := HX.out; omega
    case rel =>
     exact ⟨1, rfl, ⟨by omega, by have := HX.out; omega⟩, ⟨.inr (by rw [← cells_snoc hd 0 a0_0 (by rw [HD.out]; rfl)]; exact hBA)⟩, ⟨hK _ _ _ HG.out (by decide) NB.out⟩, ⟨hK _ _ _ HRb.out (by decide) HNr.out⟩, ⟨HBr.out.trans hBB⟩, HNr⟩
   ·have hc : wr.cell? ⟨w2.heap.size, 1, none⟩ = some (.int .i64 a0_2) := (blk_cell HRb.out 1).trans rfl
    clear hlt
    go_wp2_with (go_at_call 40; refine (bWriteByte w.heap.size bb _ _ _ HI.out ?hl ?hz).mono ?_; (case hl => exact cells_len hd _ (by rw [HD.out]; rfl)); (case hz => exact HBr.out.size); rintro e w3 ⟨rfl, hBA, hBB, hK⟩)
    go_roundg (4 - 1)
    case measure => have := HX.out; omega
    case rel =>
     exact ⟨2, rfl, ⟨by omega, by have := HX.out; omega⟩, ⟨.inr (by rw [← cells_snoc hd 1 a0_2 (by rw [HD.out]; rfl)]; exact hBA)⟩, ⟨hK _ _ _ HG.out (by decide) NB.out⟩, ⟨hK _ _ _ HRb.out (by decide) HNr.out⟩, ⟨HBr.out.trans hBB⟩, HNr⟩
   ·have hc : wr.cell? ⟨w2.heap.size, 2, none⟩ = some (.int .i64 a0_3) := (blk_cell HRb.out 2).trans rfl
    clear hlt
    go_wp2_with (go_at_call 40; refine (bWriteByte w.heap.size bb _ _ _ HI.out ?hl ?hz).mono ?_; (case hl => exact cells_len hd _ (by rw [HD.out]; rfl)); (case hz => exact HBr.out.size); rintro e w3 ⟨rfl, hBA, hBB, hK⟩)
    go_roundg (4 - 2)
    case measure => have := HX.out; omega
    case rel =>
     exact ⟨3, rfl, ⟨by omega, by have := HX.out; omega⟩, ⟨.inr (by rw [← cells_snoc hd 2 a0_3 (by rw [HD.out]; rfl)]; exact hBA)⟩, ⟨hK _ _ _ HG.out (by decide) NB.out⟩, ⟨hK _ _ _ HRb.out (by decide) HNr.out⟩, ⟨HBr.out.trans hBB⟩, HNr⟩
   ·have hc : wr.cell? ⟨w2.heap.size, 3, none⟩ = some (.int .i64 (l0_5.length : Int)) := (blk_cell HRb.out 3).trans rfl
    clear hlt
    go_wp2_with (go_at_call 40; refine (bWriteByte w.heap.size bb _ _ _ HI.out ?hl ?hz).mono ?_; (case hl => exact cells_len hd _ (by rw [HD.out]; rfl)); (case hz => exact HBr.out.size); rintro e w3 ⟨rfl, hBA, hBB, hK⟩)
    go_roundg (4 - 3)
    case measure => have := HX.out; omega
    case rel =>
     exact ⟨4, rfl, ⟨by omega, by have := HX.out; omega⟩, ⟨.inr (by rw [← cells_snoc hd 3 (l0_5.length : Int) (by rw [HD.out]; rfl)]; exact hBA)⟩, ⟨hK _ _ _ HG.out (by decide) NB.out⟩, ⟨hK _ _ _ HRb.out (by decide) HNr.out⟩, ⟨HBr.out.trans hBB⟩, HNr⟩
   ·have hc : wr.cell? ⟨w2.heap.size, 4, none⟩ = some (.int .i64 (a0_4.size : Int)) := (blk_cell HRb.out 4).trans rfl
    clear hlt
    go_wp2_with (go_at_call 40; refine (bWriteByte w.heap.size bb _ _ _ HI.out ?hl ?hz).mono ?_; (case hl => exact cells_len hd _ (by rw [HD.out]; rfl)); (case hz => exact HBr.out.size); rintro e w3 ⟨rfl, hBA, hBB, hK⟩)
    go_roundg (4 - 4)
    case measure => have := HX.out; omega
    case rel =>
     exact ⟨5, rfl, ⟨by omega, by have := HX.out; omega⟩, ⟨.inr (by rw [← cells_snoc hd 4 (a0_4.size : Int) (by rw [HD.out]; rfl)]; exact hBA)⟩, ⟨hK _ _ _ HG.out (by decide) NB.out⟩, ⟨hK _ _ _ HRb.out (by decide) HNr.out⟩, ⟨HBr.out.trans hBB⟩, HNr⟩
  ·have hx : x = 5 := by have := HX.out; omega
   subst hx
   clear hlt
   have HI5 : Aside0 (Lib.IsBuilder 65 5 w.heap.size bb (Lib.byteCells hd) wr) := ⟨by have := HI.out; rwa [List.take_of_length_le (by rw [HD.out]; exact Nat.le_refl _)] at this⟩
   clear HI
   have h1c : wr.cell? ⟨gb, 1, none⟩ = some (.int .i64 a0_1) := (blk_cell HG.out 1).trans rfl
   have h4c : wr.cell? ⟨gb, 4, none⟩ = some (.string a0_4) := (blk_cell HG.out 4).trans rfl
   have E1 : Aside0 (impl_inBytes.f 4 a0_1 2 = some (b2M a0_1)) := ⟨inB2 a0_1 HH.out.1.1⟩
   have HBw := Aside0.mk (Below.refl wr.heap.size wr)
   have H4 : Aside0 (∀ W, Below wr.heap.size wr W → W.cell? ⟨gb, 4, none⟩ = some (.string a0_4)) := ⟨fun W hB => (hB.cell (World.block_lt_of_cell? _ _ h4c)).trans h4c⟩
   have HZ := Aside0.mk (show (b2M a0_1).size = 2 from rfl)
   have HS1 : Aside0 ((b2M a0_1).size + a0_4.size ≤ 1000002) := ⟨by have := HZ.out; have := HH.out.2.2.1; omega⟩
   have HL5 : Aside0 ((Lib.byteCells hd).length + (b2M a0_1 ++ a0_4).size ≤ 140737488355328) := ⟨by
    have h1 := HS1.out
    have h2 : (b2M a0_1 ++ a0_4).size = (b2M a0_1).size + a0_4.size := by simp
    have h3 : (Lib.byteCells hd).length = 5 := by rw [HD.out]; rfl
    omega⟩
   have q0 : ((b2M a0_1).size + a0_4.size ≤ 9223372036854775807) = True := eq_true (by have := HS1.out; omega)
   have q1 : decide ((b2M a0_1).size + a0_4.size ≤ 9223372036854775807) = true := decide_eq_true (by have := HS1.out; omega)
   have q2 : (9223372036854775807 < (b2M a0_1).size + a0_4.size) = False := eq_false (by have := HS1.out; omega)
   go_wp2
   clear q0 q1 q2
   have q0 : ((b2M a0_1).size + a0_4.size ≤ 9223372036854775807) = True := eq_true (by have := HS1.out; omega)
   have q1 : decide ((b2M a0_1).size + a0_4.size ≤ 9223372036854775807) = true := decide_eq_true (by have := HS1.out; omega)
   have q2 : (9223372036854775807 < (b2M a0_1).size + a0_4.size) = False := eq_false (by have := HS1.out; omega)
   have H1 : Aside0 (∀ W, Below wr.heap.size wr W → W.cell? ⟨gb, 1, none⟩ = some (.int .i64 a0_1)) := ⟨fun W hB => (hB.cell (World.block_lt_of_cell? _ _ h1c)).trans h1c⟩
   go_region_held3 (fun w' => w'.cell? ⟨gb, 1, none⟩ = some (.int .i64 a0_1) ∧ w'.cell? ⟨gb, 4, none⟩ = some (.string a0_4)) (go_keep) (first | (go_at_call 42; refine (impl_inBytes.calls 4 a0_1 2 (b2M a0_1) _ E1.out).mono ?_; rintro e w4 ⟨rfl, hb4⟩; have hb2 : Below wr.heap.size wr w4 := (below_step (by repeat (first | (with_reducible first | exact HBw.out | apply below_alloc | apply pw_below_drewN | apply below_drew1) | exact HBw.out)) hb4); have h4d := H4.out w4 hb2; have h1d := H1.out w4 hb2; have HB4 := Aside0.mk hb2; clear hb4 hb2) | (go_at_call 41; refine (bWriteString w.heap.size bb (Lib.byteCells hd) (b2M a0_1 ++ a0_4) _ ?hi ?hl ?hz).mono ?_; (case hi => exact bBelow HI5.out (by repeat (first | exact HB4.out | apply pw_below_drewN | apply below_drew1))); (case hl => exact HL5.out); (case hz => exact Nat.le_trans HBr.out.size (by have := HB4.out.size; simpa using this)); rintro e w5 ⟨rfl, hBA, hBB, hK⟩; have hblk5 := hK _ _ _ (((show Below wr.heap.size wr _ from (by repeat (first | exact HB4.out | apply pw_below_drewN | apply below_drew1))).block gb (lt_of_blk HG.out)).trans HG.out) (by decide) NB.out; have h1e : w5.cell? ⟨gb, 1, none⟩ = some (.int .i64 a0_1) := (blk_cell hblk5 1).trans rfl; have h4e : w5.cell? ⟨gb, 4, none⟩ = some (.string a0_4) := (blk_cell hblk5 4).trans rfl))
   have HI6 : Aside0 (Lib.IsBuilder 65 5 w.heap.size bb (Lib.byteCells (totX hd a0_1 a0_4 l0_5 0)) w5) := ⟨.inr (by rw [totX_zero, ← cells_str]; exact hBA)⟩
   have HG6 := Aside0.mk hblk5
   have HB6 : Aside0 (Below w.heap.size w w5) := ⟨(below_step HBr.out HB4.out).trans hBB⟩
   have h5e : w5.cell? ⟨gb, 5, none⟩ = some (.slice A0_5 l0_5.length c0_5) := (blk_cell HG6.out 5).trans rfl
   have hlen5 : ([hbM a0_0, hbM a0_2, hbM a0_3, hbM l0_5.length, hbM a0_4.size] : List UInt8).length = 5 := rfl
   clear hblk5 hBA hBB hK HB4 HG HI5 HBr HRb HNr H4 H1 HBw h1c h4c q0 q1 q2 h1d h4d h1e h4e
   go_wp2
   go_loopg [7, 41] l0_5.length (fun gg s7 s41 wr => ∃ x : Nat, s41 = .int .i64 (x : Int) ∧ Aside0 (x ≤ l0_5.length ∧ l0_5.length - x ≤ gg) ∧ Aside0 (Lib.IsBuilder 65 5 w.heap.size bb (Lib.byteCells (totX hd a0_1 a0_4 l0_5 x)) wr) ∧ Aside0 (wr.heap[gb]? = some (.cells #[.int .i64 a0_0, .int .i64 a0_1, .int .i64 a0_2, .int .i64 a0_3, .string a0_4, .slice A0_5 l0_5.length c0_5] 31 (0, 0))) ∧ Aside0 (Below w.heap.size w wr))
   case atStart => exact ⟨0, rfl, ⟨by omega, by omega⟩, HI6, HG6, HB6⟩
   case round =>
    obtain ⟨x, rfl, HX, HI, HG, HB7⟩ := hrel
    by_cases hlt : x < l0_5.length
    ·have hx : l0_5[x]? = some (l0_5[x]'hlt) := List.getElem?_eq_getElem hlt
     have hmem := List.getElem_mem hlt
     have hrd : rd_T54 l0_5 (x : Int) = l0_5[x]'hlt := by
      simp only [rd_T54, Int.toNat_natCast, List.getD_eq_getElem?_getD]
      rw [hx]; rfl
     obtain ⟨ad, e1, hx0, hx1⟩ := at_T54 HR.out (x : Int) (by omega) (by omega)
     rw [hrd] at hx0 hx1
     have hsz := condM_at HH.out _ hmem
     have HT := Aside0.mk hx
     generalize l0_5[x]'hlt = y at hx0 hx1 hsz HT
     obtain ⟨k, t⟩ := y
     simp only [Int.toNat_natCast] at hx0 hx1
     replace hx0 := (HB7.out.cell (World.block_lt_of_cell? w _ hx0)).trans hx0
     replace hx1 := (HB7.out.cell (World.block_lt_of_cell? w _ hx1)).trans hx1
     have hp : decide ((x : Int) < (l0_5.length : Int)) = true := decide_eq_true (by omega)
     have p0 : (0 ≤ (x : Int)) = True := eq_true (by omega)
     have p1 : (x < l0_5.length) = True := eq_true hlt
     have p2 : ((x : Int) < (l0_5.length : Int)) = True := eq_true (by omega)
     have HL := Aside0.mk hlt
     have HSZ := Aside0.mk hsz
     clear hlt hx hmem hrd hsz
     subst e1
     go_wp2
     have hBlk : (wr.alloc (.cells #[.string k, .string t] 54 (0, 0))).heap[wr.heap.size]? = some (.cells #[.string k, .string t] 54 (0, 0)) := Array.getElem?_push_size
     have hblt : bb < wr.heap.size := by
      rcases HI.out with h | h
      ·exact h.lt
      ·exact h.lt
     have hnb : bb ≠ wr.heap.size := Nat.ne_of_lt hblt
     have hng : gb ≠ wr.heap.size := Nat.ne_of_lt (lt_of_blk HG.out)
     have hI9 := bBelow HI.out (below_alloc (Below.refl wr.heap.size wr) (.cells #[.string k, .string t] 54 (0, 0)))
     have hG9 : (wr.alloc (.cells #[.string k, .string t] 54 (0, 0))).heap[gb]? = some (.cells #[.int .i64 a0_0, .int .i64 a0_1, .int .i64 a0_2, .int .i64 a0_3, .string a0_4, .slice (some ad) l0_5.length c0_5] 31 (0, 0)) := (Lib.alloc_old wr _ gb (lt_of_blk HG.out)).trans HG.out
     have hB9 : Below w.heap.size w (wr.alloc (.cells #[.string k, .string t] 54 (0, 0))) := below_alloc HB7.out _
     generalize (wr.alloc (.cells #[.string k, .string t] 54 (0, 0))) = w9 at hBlk hI9 hG9 hB9 ⊢
     clear HI HG HB7 hx0 hx1 hblt
     generalize wr.heap.size = ib at hBlk hnb hng ⊢
     have HBlk := Aside0.mk hBlk
     have HI9 := Aside0.mk hI9
     have HG9 := Aside0.mk hG9
     have HB9 := Aside0.mk hB9
     clear hBlk hI9 hG9 hB9
     have c0 : w9.cell? ⟨ib, 0, none⟩ = some (.string k) := (blk_cell HBlk.out 0).trans rfl
     have c1 : w9.cell? ⟨ib, 1, none⟩ = some (.string t) := (blk_cell HBlk.out 1).trans rfl
     have HBw := Aside0.mk (Below.refl w9.heap.size w9)
     have C0 : Aside0 (∀ W, Below w9.heap.size w9 W → W.cell? ⟨ib, 0, none⟩ = some (.string k)) := ⟨fun W hB => (hB.cell (World.block_lt_of_cell? _ _ c0)).trans c0⟩
     have C1 : Aside0 (∀ W, Below w9.heap.size w9 W → W.cell? ⟨ib, 1, none⟩ = some (.string t)) := ⟨fun W hB => (hB.cell (World.block_lt_of_cell? _ _ c1)).trans c1⟩
     have F1 : Aside0 (impl_inBytes.f 4 (k.size : Int) 2 = some (b2M k.size)) := ⟨inB2 _ (by omega)⟩
     have F2 : Aside0 (impl_inBytes.f 4 (t.size : Int) 2 = some (b2M t.size)) := ⟨inB2 _ (by omega)⟩
     have z1 : (b2M (k.size : Int)).size = 2 := rfl
     have z2 : (b2M (t.size : Int)).size = 2 := rfl
     have za : ∀ a b : ByteArray, (a ++ b).size = a.size + b.size := fun a b => by simp
     have S1 : Aside0 ((b2M (k.size : Int)).size + (b2M (t.size : Int)).size ≤ 9000000) := ⟨by omega⟩
     have S2 : Aside0 ((b2M (k.size : Int) ++ b2M (t.size : Int)).size + k.size ≤ 9000000) := ⟨by rw [za]; have := HSZ.out.1; (try simp only at this); omega⟩
     have S3 : Aside0 (((b2M (k.size : Int) ++ b2M (t.size : Int)) ++ k).size + t.size ≤ 9000000) := ⟨by rw [za, za]; have := HSZ.out; (try simp only at this); omega⟩
     have q10 : ((b2M (k.size : Int)).size + (b2M (t.size : Int)).size ≤ 9223372036854775807) = True := eq_true (by have := S1.out; omega)
     have q12 : (9223372036854775807 < (b2M (k.size : Int)).size + (b2M (t.size : Int)).size) = False := eq_false (by have := S1.out; omega)
     have q20 : ((b2M (k.size : Int) ++ b2M (t.size : Int)).size + k.size ≤ 9223372036854775807) = True := eq_true (by have := S2.out; omega)
     have q22 : (9223372036854775807 < (b2M (k.size : Int) ++ b2M (t.size : Int)).size + k.size) = False := eq_false (by have := S2.out; omega)
     have S4 : Aside0 ((b2M (k.size : Int)).size + (b2M (t.size : Int)).size + k.size + t.size ≤ 9000000) := ⟨by have := HSZ.out; (try simp only at this); omega⟩
     have q21 : ((b2M (k.size : Int)).size + (b2M (t.size : Int)).size + k.size ≤ 9223372036854775807) = True := eq_true (by have := S4.out; omega)
     have q23 : (9223372036854775807 < (b2M (k.size : Int)).size + (b2M (t.size : Int)).size + k.size) = False := eq_false (by have := S4.out; omega)
     have q31 : ((b2M (k.size : Int)).size + (b2M (t.size : Int)).size + k.size + t.size ≤ 9223372036854775807) = True := eq_true (by have := S4.out; omega)
     have q33 : (9223372036854775807 < (b2M (k.size : Int)).size + (b2M (t.size : Int)).size + k.size + t.size) = False := eq_false (by have := S4.out; omega)
     have q30 : (((b2M (k.size : Int) ++ b2M (t.size : Int)) ++ k).size + t.size ≤ 9223372036854775807) = True := eq_true (by have := S3.out; omega)
     have q32 : (9223372036854775807 < ((b2M (k.size : Int) ++ b2M (t.size : Int)) ++ k).size + t.size) = False := eq_false (by have := S3.out; omega)
     clear z1 z2 za
     have HLN : Aside0 ((Lib.byteCells (totX hd a0_1 a0_4 l0_5 x)).length + (((b2M (k.size : Int) ++ b2M (t.size : Int)) ++ k) ++ t).size ≤ 140737488355328) := ⟨by
      have h1 := totX_len hd a0_1 a0_4 l0_5 x (by rw [HD.out]; rfl) HH.out
      have h2 := item_len (⟨k, t⟩ : S54) HSZ.out
      have h3 : (itemM (⟨k, t⟩ : S54)).data.toList.length = (((b2M (k.size : Int) ++ b2M (t.size : Int)) ++ k) ++ t).size := rfl
      have h4 : (Lib.byteCells (totX hd a0_1 a0_4 l0_5 x)).length = (totX hd a0_1 a0_4 l0_5 x).length := by simp [Lib.byteCells]
      omega⟩
     go_region_held3 (fun w' => w'.cell? ⟨ib, 0, none⟩ = some (.string k) ∧ w'.cell? ⟨ib, 1, none⟩ = some (.string t)) (go_keep) (first | (go_at_call_of 42 (Value.int .i64 (k.size : Int)); refine (impl_inBytes.calls 4 (k.size : Int) 2 (b2M k.size) _ F1.out).mono ?_; rintro e w4 ⟨rfl, hb4⟩; have hb2 : Below w9.heap.size w9 w4 := (below_step (by repeat (first | (with_reducible first | exact HBw.out | apply below_alloc | apply pw_below_drewN | apply below_drew1) | exact HBw.out)) hb4); have g0 := C0.out w4 hb2; have g1 := C1.out w4 hb2; clear HBw; have HBw := Aside0.mk hb2; clear hb4 hb2) | (go_at_call_of 42 (Value.int .i64 (t.size : Int)); refine (impl_inBytes.calls 4 (t.size : Int) 2 (b2M t.size) _ F2.out).mono ?_; rintro e w4 ⟨rfl, hb4⟩; have hb2 : Below w9.heap.size w9 w4 := (below_step (by repeat (first | (with_reducible first | exact HBw.out | apply below_alloc | apply pw_below_drewN | apply below_drew1) | exact HBw.out)) hb4); have g0 := C0.out w4 hb2; have g1 := C1.out w4 hb2; clear HBw; have HBw := Aside0.mk hb2; clear hb4 hb2) | (go_at_call 41; refine (bWriteString w.heap.size bb (Lib.byteCells (totX hd a0_1 a0_4 l0_5 x)) (((b2M (k.size : Int) ++ b2M (t.size : Int)) ++ k) ++ t) _ ?hi ?hl ?hz).mono ?_; (case hi => exact bBelow HI9.out (by repeat (first | exact HBw.out | apply pw_below_drewN | apply below_drew1))); (case hl => exact HLN.out); (case hz => exact Nat.le_trans HB9.out.size (by have := HBw.out.size; simpa using this)); rintro e w5 ⟨rfl, hBA, hBB, hK⟩; have hblk5 := hK _ _ _ (((show Below w9.heap.size w9 _ from (by repeat (first | exact HBw.out | apply pw_below_drewN | apply below_drew1))).block ib (lt_of_blk HBlk.out)).trans HBlk.out) (by decide) (Ne.symm hnb); have g0' : w5.cell? ⟨ib, 0, none⟩ = some (.string k) := (blk_cell hblk5 0).trans rfl; have g1' : w5.cell? ⟨ib, 1, none⟩ = some (.string t) := (blk_cell hblk5 1).trans rfl; have hblkG := hK _ _ _ (((show Below w9.heap.size w9 _ from (by repeat (first | exact HBw.out | apply pw_below_drewN | apply below_drew1))).block gb (lt_of_blk HG9.out)).trans HG9.out) (by decide) NB.out))
     go_wp2
     go_roundg (l0_5.length - (x + 1))
     case measure => have := HX.out; have := HL.out; omega
     case rel =>
      refine ⟨x + 1, by (have h1 := HL.out; have h2 := HH.out.2.1; have e : wrap64 ((x : Int) + 1) = ((x + 1 : Nat) : Int) := (by unfold wrap64; omega); rw [e]), ⟨by have := HL.out; omega, by omega⟩, ⟨.inr ?_⟩, ⟨hblkG⟩, ⟨(below_step HB9.out HBw.out).trans hBB⟩⟩
      rw [totX_succ hd a0_1 a0_4 l0_5 x ⟨k, t⟩ HT.out, ← cells_str]
      exact hBA
    ·have hx : x = l0_5.length := by have := HX.out; omega
     subst hx
     have hp : decide ((l0_5.length : Int) < (l0_5.length : Int)) = false := decide_eq_false (by omega)
     have p2 : ((l0_5.length : Int) < (l0_5.length : Int)) = False := eq_false (by omega)
     clear hlt
     go_wp2_with (go_at_call 43; refine (bString w.heap.size bb _ _ HI.out HB7.out.size).mono ?_; rintro e w6 ⟨rfl, hb6⟩)
     go_ret
     exact ⟨by have e := totX_end a0_0 a0_1 a0_2 a0_3 a0_4 l0_5; rw [← HD.out] at e; rw [← e]; rfl, HB7.out.trans hb6⟩
theorem impl_mutationBytes.calls (a0_0 : Int) (a0_1 : Int) (a0_2 : Int) (a0_3 : Int) (a0_4 : ByteArray) (A0_5 : Option Addr) (c0_5 : Nat) (l0_5 : List (S54)) (r : ByteArray) (w : World) (hr0_5 : Kd.C k54 w A0_5 l0_5.length l0_5) (hc0_5 : l0_5.length ≤ c0_5) (h : impl_mutationBytes.f a0_0 a0_1 a0_2 a0_3 a0_4 l0_5 = some r) :
  Calls Try.prog 23 #[.agg #[.int .i64 a0_0, .int .i64 a0_1, .int .i64 a0_2, .int .i64 a0_3, .string a0_4, .slice A0_5 l0_5.length c0_5]] w fun e w' => e = .returned (.string r) ∧ Below w.heap.size w w' := by
 unfold impl_mutationBytes.f at h
 split at h
 ·rename_i hh
  obtain rfl := Option.some.inj h
  exact mutB a0_0 a0_1 a0_2 a0_3 a0_4 A0_5 c0_5 l0_5 w hr0_5 hc0_5 hh
 ·cases h

end Go.Proofs.Ytbjefkeogbophaa.P
