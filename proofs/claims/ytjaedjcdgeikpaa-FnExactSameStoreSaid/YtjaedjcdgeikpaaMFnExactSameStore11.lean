/- Part 11 of what the law FnExactSameStore stands on; the last part ends with the law's row. No condition of mine. -/
import Derived.Test.YtjaedjcdgeikpaaMFnExactSameStore1
import Derived.Test.YtjaedjcdgeikpaaMFnExactSameStore10
import Derived.Shelf.Abstract
namespace Go.Proofs.Ytjaedjcdgeikpaa.P
open Go.RowKit Go.Proofs.YtjaedjcdgeikpaaW.PrintWords Go.Proofs.YtjaedjcdgeikpaaW.PrintLast Go.Proofs.YtjaedjcdgeikpaaW.PrintMore
attribute [local go_sem] max2_int min2_int max_two min_two max_three min_three max_four min_four   -- for this text's walks alone
set_option linter.unusedVariables false
set_option linter.unusedSimpArgs false

/-! ### impl_BoxOK: function 31 -/
mutual
def impl_BoxOK.j0 : Nat → Bool → ByteArray → Int → Int → List (S28) → List ByteArray → Option (Bool)
 | 0, _, _, _, _, _, _ => none
 | k + 1, x23, x102000, x102001, x102002, x102003, x102004 => if x23 = true then (some false) else (if (x102003.length : Int) > 30 then (impl_BoxOK.j1 k true x102000 x102001 x102002 x102003 x102004) else (if (x102004.length : Int) > 60 then (impl_BoxOK.j1 k true x102000 x102001 x102002 x102003 x102004) else (impl_BoxOK.j1 k ((x102004.length : Int) != (wrap64 (x102002 - 1))) x102000 x102001 x102002 x102003 x102004)))
def impl_BoxOK.j1 : Nat → Bool → ByteArray → Int → Int → List (S28) → List ByteArray → Option (Bool)
 | 0, _, _, _, _, _, _ => none
 | k + 1, x42, x102000, x102001, x102002, x102003, x102004 => if x42 = true then (some false) else (impl_BoxOK.l0 k 0 x102003 (x102003.length : Int) 0 x102000 x102001 x102002 x102003 x102004)
def impl_BoxOK.l0 : Nat → Int → List (S28) → Int → Int → ByteArray → Int → Int → List (S28) → List ByteArray → Option (Bool)
 | 0, _, _, _, _, _, _, _, _, _ => none
 | k + 1, x3, x44, x45, x46, x102000, x102001, x102002, x102003, x102004 => if x46 < x45 then (if 0 ≤ x46 then (if x46 < (x44.length : Int) then ((impl_within.f ((rd_T28 x44 x46).f0) (wrap64 (x3 + 1)) (wrap64 (x102002 - 1))).bind fun t107 => (if t107 = true then ((impl_within.f ((rd_T28 x44 x46).f1) 0 31).bind fun t108 => (if t108 = true then (if (((rd_T28 x44 x46).f2).size : Int) > 4000 then (some false) else (impl_BoxOK.l0 k ((rd_T28 x44 x46).f0) x44 x45 (wrap64 (x46 + 1)) x102000 x102001 x102002 x102003 x102004)) else (some false))) else (some false))) else (none)) else (none)) else (impl_BoxOK.l1 k x102004 (x102004.length : Int) 0 x102000 x102001 x102002 x102003 x102004)
def impl_BoxOK.l1 : Nat → List ByteArray → Int → Int → ByteArray → Int → Int → List (S28) → List ByteArray → Option (Bool)
 | 0, _, _, _, _, _, _, _, _ => none
 | k + 1, x75, x76, x77, x102000, x102001, x102002, x102003, x102004 => if x77 < x76 then (if 0 ≤ x77 then (if x77 < (x75.length : Int) then ((impl_keyOK.f (rdOf ByteArray.empty x75 x77)).bind fun t110 => (if t110 = true then (if x77 ≤ (x102004.length : Int) then ((slices_Contains_string.f k (x102004.take (x77 : Int).toNat) (rdOf ByteArray.empty x75 x77)).bind fun t112 => (if t112 = true then (some false) else (impl_BoxOK.l1 k x75 x76 (wrap64 (x77 + 1)) x102000 x102001 x102002 x102003 x102004))) else (none)) else (some false))) else (none)) else (none)) else (some true)
end
def impl_BoxOK.f (k : Nat) (a0_0 : ByteArray) (a0_1 : Int) (a0_2 : Int) (l0_3 : List (S28)) (l0_4 : List ByteArray) : Option (Bool) := (impl_NameOK.f k a0_0).bind fun t102 => (if t102 = true then ((impl_within.f a0_1 1 1000000).bind fun t103 => (if t103 = true then ((impl_within.f a0_2 1 1001).bind fun t104 => (impl_BoxOK.j0 k (!t104) a0_0 a0_1 a0_2 l0_3 l0_4)) else (impl_BoxOK.j0 k true a0_0 a0_1 a0_2 l0_3 l0_4))) else (impl_BoxOK.j0 k true a0_0 a0_1 a0_2 l0_3 l0_4))
theorem impl_BoxOK.mono_l : ∀ k, (∀ y0 y1 y2 y3 y4 y5, LeO (impl_BoxOK.j0 k y0 y1 y2 y3 y4 y5) (impl_BoxOK.j0 (k + 1) y0 y1 y2 y3 y4 y5)) ∧ (∀ y0 y1 y2 y3 y4 y5, LeO (impl_BoxOK.j1 k y0 y1 y2 y3 y4 y5) (impl_BoxOK.j1 (k + 1) y0 y1 y2 y3 y4 y5)) ∧ (∀ y0 y1 y2 y3 y4 y5 y6 y7 y8, LeO (impl_BoxOK.l0 k y0 y1 y2 y3 y4 y5 y6 y7 y8) (impl_BoxOK.l0 (k + 1) y0 y1 y2 y3 y4 y5 y6 y7 y8)) ∧ (∀ y0 y1 y2 y3 y4 y5 y6 y7, LeO (impl_BoxOK.l1 k y0 y1 y2 y3 y4 y5 y6 y7) (impl_BoxOK.l1 (k + 1) y0 y1 y2 y3 y4 y5 y6 y7))
 | 0 => ⟨fun _ _ _ _ _ _ r h => by simp [impl_BoxOK.j0] at h, fun _ _ _ _ _ _ r h => by simp [impl_BoxOK.j1] at h, fun _ _ _ _ _ _ _ _ _ r h => by simp [impl_BoxOK.l0] at h, fun _ _ _ _ _ _ _ _ r h => by simp [impl_BoxOK.l1] at h⟩
 | k + 1 => by
  obtain ⟨ih0, ih1, ih2, ih3⟩ := impl_BoxOK.mono_l k
  refine ⟨?_, ?_, ?_, ?_⟩
  ·intro y0 y1 y2 y3 y4 y5
   unfold impl_BoxOK.j0
   repeat' first
   | (with_reducible exact ih0 _ _ _ _ _ _)
   | (with_reducible exact ih1 _ _ _ _ _ _)
   | (with_reducible exact ih2 _ _ _ _ _ _ _ _ _)
   | (with_reducible exact ih3 _ _ _ _ _ _ _ _)
   | (with_reducible exact impl_NameOK.mono _ _)
   | (with_reducible exact slices_Contains_string.mono _ _ _)
   | (with_reducible exact LeO.refl _)
   | (with_reducible exact LeO.none _)
   | (with_reducible refine LeO.ite ?_ ?_)
   | (with_reducible refine LeO.bind ?_ (fun _ => ?_))
   | exact ih0 _ _ _ _ _ _
   | exact ih1 _ _ _ _ _ _
   | exact ih2 _ _ _ _ _ _ _ _ _
   | exact ih3 _ _ _ _ _ _ _ _
   | exact impl_NameOK.mono _ _
   | exact slices_Contains_string.mono _ _ _
   | exact LeO.none _
   | refine LeO.ite ?_ ?_
   | refine LeO.bind ?_ (fun _ => ?_)
  ·intro y0 y1 y2 y3 y4 y5
   unfold impl_BoxOK.j1
   repeat' first
   | (with_reducible exact ih0 _ _ _ _ _ _)
   | (with_reducible exact ih1 _ _ _ _ _ _)
   | (with_reducible exact ih2 _ _ _ _ _ _ _ _ _)
   | (with_reducible exact ih3 _ _ _ _ _ _ _ _)
   | (with_reducible exact impl_NameOK.mono _ _)
   | (with_reducible exact slices_Contains_string.mono _ _ _)
   | (with_reducible exact LeO.refl _)
   | (with_reducible exact LeO.none _)
   | (with_reducible refine LeO.ite ?_ ?_)
   | (with_reducible refine LeO.bind ?_ (fun _ => ?_))
   | exact ih0 _ _ _ _ _ _
   | exact ih1 _ _ _ _ _ _
   | exact ih2 _ _ _ _ _ _ _ _ _
   | exact ih3 _ _ _ _ _ _ _ _
   | exact impl_NameOK.mono _ _
   | exact slices_Contains_string.mono _ _ _
   | exact LeO.none _
   | refine LeO.ite ?_ ?_
   | refine LeO.bind ?_ (fun _ => ?_)
  ·intro y0 y1 y2 y3 y4 y5 y6 y7 y8
   unfold impl_BoxOK.l0
   repeat' first
   | (with_reducible exact ih0 _ _ _ _ _ _)
   | (with_reducible exact ih1 _ _ _ _ _ _)
   | (with_reducible exact ih2 _ _ _ _ _ _ _ _ _)
   | (with_reducible exact ih3 _ _ _ _ _ _ _ _)
   | (with_reducible exact impl_NameOK.mono _ _)
   | (with_reducible exact slices_Contains_string.mono _ _ _)
   | (with_reducible exact LeO.refl _)
   | (with_reducible exact LeO.none _)
   | (with_reducible refine LeO.ite ?_ ?_)
   | (with_reducible refine LeO.bind ?_ (fun _ => ?_))
   | exact ih0 _ _ _ _ _ _
   | exact ih1 _ _ _ _ _ _
   | exact ih2 _ _ _ _ _ _ _ _ _
   | exact ih3 _ _ _ _ _ _ _ _
   | exact impl_NameOK.mono _ _
   | exact slices_Contains_string.mono _ _ _
   | exact LeO.none _
   | refine LeO.ite ?_ ?_
   | refine LeO.bind ?_ (fun _ => ?_)
  ·intro y0 y1 y2 y3 y4 y5 y6 y7
   unfold impl_BoxOK.l1
   repeat' first
   | (with_reducible exact ih0 _ _ _ _ _ _)
   | (with_reducible exact ih1 _ _ _ _ _ _)
   | (with_reducible exact ih2 _ _ _ _ _ _ _ _ _)
   | (with_reducible exact ih3 _ _ _ _ _ _ _ _)
   | (with_reducible exact impl_NameOK.mono _ _)
   | (with_reducible exact slices_Contains_string.mono _ _ _)
   | (with_reducible exact LeO.refl _)
   | (with_reducible exact LeO.none _)
   | (with_reducible refine LeO.ite ?_ ?_)
   | (with_reducible refine LeO.bind ?_ (fun _ => ?_))
   | exact ih0 _ _ _ _ _ _
   | exact ih1 _ _ _ _ _ _
   | exact ih2 _ _ _ _ _ _ _ _ _
   | exact ih3 _ _ _ _ _ _ _ _
   | exact impl_NameOK.mono _ _
   | exact slices_Contains_string.mono _ _ _
   | exact LeO.none _
   | refine LeO.ite ?_ ?_
   | refine LeO.bind ?_ (fun _ => ?_)
theorem impl_BoxOK.mono : ∀ a0 a1 a2 a3 a4 k, LeO (impl_BoxOK.f k a0 a1 a2 a3 a4) (impl_BoxOK.f (k + 1) a0 a1 a2 a3 a4) := by
 intro a0 a1 a2 a3 a4 k
 obtain ⟨ih0, ih1, ih2, ih3⟩ := impl_BoxOK.mono_l k
 unfold impl_BoxOK.f
 repeat' first
   | (with_reducible exact ih0 _ _ _ _ _ _)
   | (with_reducible exact ih1 _ _ _ _ _ _)
   | (with_reducible exact ih2 _ _ _ _ _ _ _ _ _)
   | (with_reducible exact ih3 _ _ _ _ _ _ _ _)
   | (with_reducible exact impl_NameOK.mono _ _)
   | (with_reducible exact slices_Contains_string.mono _ _ _)
   | (with_reducible exact LeO.refl _)
   | (with_reducible exact LeO.none _)
   | (with_reducible refine LeO.ite ?_ ?_)
   | (with_reducible refine LeO.bind ?_ (fun _ => ?_))
   | exact ih0 _ _ _ _ _ _
   | exact ih1 _ _ _ _ _ _
   | exact ih2 _ _ _ _ _ _ _ _ _
   | exact ih3 _ _ _ _ _ _ _ _
   | exact impl_NameOK.mono _ _
   | exact slices_Contains_string.mono _ _ _
   | exact LeO.none _
   | refine LeO.ite ?_ ?_
   | refine LeO.bind ?_ (fun _ => ?_)
set_option maxHeartbeats 8000000 in
set_option maxRecDepth 100000 in
theorem impl_BoxOK.calls (k : Nat) (a0_0 : ByteArray) (a0_1 : Int) (a0_2 : Int) (A0_3 : Option Addr) (c0_3 : Nat) (l0_3 : List (S28)) (A0_4 : Option Addr) (c0_4 : Nat) (l0_4 : List ByteArray) (r : Bool) (w : World) (hr0_3 : Kd.C k28 w A0_3 l0_3.length l0_3) (hc0_3 : l0_3.length ≤ c0_3) (hr0_4 : Kd.C Kd.string w A0_4 l0_4.length l0_4) (hc0_4 : l0_4.length ≤ c0_4) (h : impl_BoxOK.f k a0_0 a0_1 a0_2 l0_3 l0_4 = some r) :
  Calls Try.prog 31 #[.agg #[.string a0_0, .int .i64 a0_1, .int .i64 a0_2, .slice A0_3 l0_3.length c0_3, .slice A0_4 l0_4.length c0_4]] w fun e w' => e = .returned (.bool r) ∧ Below w.heap.size w w' := by
 have hu33 := Try.underlying33
 have hu28 := Try.underlying28
 have HR0_3 := qM_ hr0_3
 have HC0_3 := qM_ hc0_3
 clear hr0_3 hc0_3
 have HR0_4 := qM_ hr0_4
 have HC0_4 := qM_ hc0_4
 clear hr0_4 hc0_4
 have HB := qM_ (Below.refl w.heap.size w)
 have H : ((impl_NameOK.f k a0_0).bind fun t102 => (if t102 = true then ((impl_within.f a0_1 1 1000000).bind fun t103 => (if t103 = true then ((impl_within.f a0_2 1 1001).bind fun t104 => (impl_BoxOK.j0 k (!t104) a0_0 a0_1 a0_2 l0_3 l0_4)) else (impl_BoxOK.j0 k true a0_0 a0_1 a0_2 l0_3 l0_4))) else (impl_BoxOK.j0 k true a0_0 a0_1 a0_2 l0_3 l0_4))) = some r := h
 clear h
 have HC2 := qM_ H
 clear H
 go_enter Try.func31, Try.ntmps31
 go_upto_region 1 with (first | ((with_reducible refine gate_dst (N := 1) rfl ?_); (try (refine gate_guard (by rfl) ?_; dsimp only)); refine box_event ?hg (N := 1) ?hd (cs := #[.string a0_0, .int .i64 a0_1, .int .i64 a0_2, .slice A0_3 l0_3.length c0_3, .slice A0_4 l0_4.length c0_4]) (t := 33) ?hr ?_; (case hd => rfl); (case hg => rfl); (case hr => first | (go_simp; done) | (go_simp; rfl)); intro gb101 hg w3 hbox hb; have n0_ := qM_ (below_step (by repeat (first | (with_reducible first | exact HB.out | apply qA_ | apply qD_ | apply qE_) | exact HB.out)) hb); have n1_ := qM_ (hbox); have n2_ := qM_ ((by rw [hg]; exact (below_size (by repeat (first | (with_reducible first | exact HB.out | apply qA_ | apply qD_ | apply qE_) | exact HB.out))) : w.heap.size ≤ gb101)); have n3_ := qM_ ((by rw [hg]; exact (below_size (by repeat (first | (with_reducible first | exact HB.out | apply qA_ | apply qD_ | apply qE_) | exact HB.out))) : w.heap.size ≤ gb101)); clear HB; have HB := n0_; have BK101 := n1_; have GW101 := n2_; have GE101 := n3_; clear n0_ n1_ n2_ n3_; clear hb hbox hg))
 (try simp only [Act.put, List.setIfInBounds_toArray, List.set_cons_zero, List.set_cons_succ])
 go_cut [23] (fun v23 wc => ∃ (kq : Nat) (x23_1 : Bool), v23 = .bool x23_1 ∧ Aside0 (impl_BoxOK.j0 kq x23_1 a0_0 a0_1 a0_2 l0_3 l0_4 = some r) ∧ Aside0 (kq ≤ k) ∧ Aside0 (wc.heap[gb101]? = some (.cells #[.string a0_0, .int .i64 a0_1, .int .i64 a0_2, (.slice A0_3 l0_3.length c0_3), (.slice A0_4 l0_4.length c0_4)] 33 (0, 0))) ∧ Aside0 (Below w.heap.size w wc))
 case first =>
  have H := HC2.out
  clear HC2
  replace H := Option.bind_eq_some_iff.mp H
  obtain ⟨t102, A40, H⟩ := H
  replace H : (if t102 = true then ((impl_within.f a0_1 1 1000000).bind fun t103 => (if t103 = true then ((impl_within.f a0_2 1 1001).bind fun t104 => (impl_BoxOK.j0 k (!t104) a0_0 a0_1 a0_2 l0_3 l0_4)) else (impl_BoxOK.j0 k true a0_0 a0_1 a0_2 l0_3 l0_4))) else (impl_BoxOK.j0 k true a0_0 a0_1 a0_2 l0_3 l0_4)) = some r := H
  have A4 := qM_ A40
  clear A40
  by_cases c5 : t102 = true
  ·subst c5
   have H1 : ((impl_within.f a0_1 1 1000000).bind fun t103 => (if t103 = true then ((impl_within.f a0_2 1 1001).bind fun t104 => (impl_BoxOK.j0 k (!t104) a0_0 a0_1 a0_2 l0_3 l0_4)) else (impl_BoxOK.j0 k true a0_0 a0_1 a0_2 l0_3 l0_4))) = some r := by rw [if_pos rfl] at H; exact H
   clear H
   have H := H1
   clear H1
   replace H := Option.bind_eq_some_iff.mp H
   obtain ⟨t103, A60, H⟩ := H
   replace H : (if t103 = true then ((impl_within.f a0_2 1 1001).bind fun t104 => (impl_BoxOK.j0 k (!t104) a0_0 a0_1 a0_2 l0_3 l0_4)) else (impl_BoxOK.j0 k true a0_0 a0_1 a0_2 l0_3 l0_4)) = some r := H
   have A6 := qM_ A60
   clear A60
   by_cases c7 : t103 = true
   ·subst c7
    have H1 : ((impl_within.f a0_2 1 1001).bind fun t104 => (impl_BoxOK.j0 k (!t104) a0_0 a0_1 a0_2 l0_3 l0_4)) = some r := by rw [if_pos rfl] at H; exact H
    clear H
    have H := H1
    clear H1
    replace H := Option.bind_eq_some_iff.mp H
    obtain ⟨t104, A80, H⟩ := H
    replace H : (impl_BoxOK.j0 k (!t104) a0_0 a0_1 a0_2 l0_3 l0_4) = some r := H
    have A8 := qM_ A80
    clear A80
    have H' := qM_ H
    clear H
    have hcz9_0 : w3.cell? ⟨gb101, 0, none⟩ = some (.string a0_0) := (qC_ BK101.out 0).trans rfl
    have hcz9_1 : w3.cell? ⟨gb101, 1, none⟩ = some (.int .i64 a0_1) := (qC_ BK101.out 1).trans rfl
    have hcz9_2 : w3.cell? ⟨gb101, 2, none⟩ = some (.int .i64 a0_2) := (qC_ BK101.out 2).trans rfl
    have hcz9_3 : w3.cell? ⟨gb101, 3, none⟩ = some (.slice A0_3 l0_3.length c0_3) := (qC_ BK101.out 3).trans rfl
    have hcz9_4 : w3.cell? ⟨gb101, 4, none⟩ = some (.slice A0_4 l0_4.length c0_4) := (qC_ BK101.out 4).trans rfl
    have hfz9_0 := qF_ BK101.out 0
    have hfz9_1 := qF_ BK101.out 1
    have hfz9_2 := qF_ BK101.out 2
    have hfz9_3 := qF_ BK101.out 3
    have hfz9_4 := qF_ BK101.out 4
    go_wp2_with (first | ((with_reducible refine gate_callee (f := 52) rfl ?_); refine goesL_ (some 10) rfl rfl Try.func52 (by kernel_rfl) rfl #[.string a0_0] rfl (by (try simp only [List.map_toArray, List.map_cons, List.map_nil]); first | done | rfl | (simp only [List.length_drop, List.length_take]; rfl)) ?_; (with_reducible refine (impl_NameOK.calls k a0_0 true _ A4.out).mono ?_); rintro e w' ⟨rfl, ⟨nd, rfl⟩⟩; refine ⟨_, rfl, ?_⟩) | (go_at_call 53; (with_reducible refine (impl_within.calls a0_1 1 1000000 true _ A6.out).mono ?_); rintro e w' ⟨rfl, ⟨nd, rfl⟩⟩) | (go_at_call 53; (with_reducible refine (impl_within.calls a0_2 1 1001 t104 _ A8.out).mono ?_); rintro e w' ⟨rfl, ⟨nd, rfl⟩⟩))
    go_meet
    case rel => exact ⟨_, (!t104), (by first | rfl | (simp; done) | (simp [*]; done)), H', ⟨by first | omega | exact Nat.le_refl _⟩, ⟨by (with_reducible repeat (first | refine blk_drewN ?_ _ | refine blk_drew ?_ | refine blk_alloc ?_ _)); exact BK101.out⟩, ⟨by repeat (first | (with_reducible first | exact HB.out | apply qA_ | apply qD_ | apply qE_ | refine below_set ?_ GE101.out) | exact HB.out)⟩⟩
   ·replace c7 := Bool.eq_false_iff.mpr c7
    subst c7
    have H1 : (impl_BoxOK.j0 k true a0_0 a0_1 a0_2 l0_3 l0_4) = some r := by rw [if_neg (show ¬ (false = true) by decide)] at H; exact H
    clear H
    have H := H1
    clear H1
    have H' := qM_ H
    clear H
    have hcz10_0 : w3.cell? ⟨gb101, 0, none⟩ = some (.string a0_0) := (qC_ BK101.out 0).trans rfl
    have hcz10_1 : w3.cell? ⟨gb101, 1, none⟩ = some (.int .i64 a0_1) := (qC_ BK101.out 1).trans rfl
    have hcz10_2 : w3.cell? ⟨gb101, 2, none⟩ = some (.int .i64 a0_2) := (qC_ BK101.out 2).trans rfl
    have hcz10_3 : w3.cell? ⟨gb101, 3, none⟩ = some (.slice A0_3 l0_3.length c0_3) := (qC_ BK101.out 3).trans rfl
    have hcz10_4 : w3.cell? ⟨gb101, 4, none⟩ = some (.slice A0_4 l0_4.length c0_4) := (qC_ BK101.out 4).trans rfl
    have hfz10_0 := qF_ BK101.out 0
    have hfz10_1 := qF_ BK101.out 1
    have hfz10_2 := qF_ BK101.out 2
    have hfz10_3 := qF_ BK101.out 3
    have hfz10_4 := qF_ BK101.out 4
    go_wp2_with (first | ((with_reducible refine gate_callee (f := 52) rfl ?_); refine goesL_ (some 10) rfl rfl Try.func52 (by kernel_rfl) rfl #[.string a0_0] rfl (by (try simp only [List.map_toArray, List.map_cons, List.map_nil]); first | done | rfl | (simp only [List.length_drop, List.length_take]; rfl)) ?_; (with_reducible refine (impl_NameOK.calls k a0_0 true _ A4.out).mono ?_); rintro e w' ⟨rfl, ⟨nd, rfl⟩⟩; refine ⟨_, rfl, ?_⟩) | (go_at_call 53; (with_reducible refine (impl_within.calls a0_1 1 1000000 false _ A6.out).mono ?_); rintro e w' ⟨rfl, ⟨nd, rfl⟩⟩))
    go_meet
    case rel => exact ⟨_, (true), (by first | rfl | (simp; done) | (simp [*]; done)), H', ⟨by first | omega | exact Nat.le_refl _⟩, ⟨by (with_reducible repeat (first | refine blk_drewN ?_ _ | refine blk_drew ?_ | refine blk_alloc ?_ _)); exact BK101.out⟩, ⟨by repeat (first | (with_reducible first | exact HB.out | apply qA_ | apply qD_ | apply qE_ | refine below_set ?_ GE101.out) | exact HB.out)⟩⟩
  ·replace c5 := Bool.eq_false_iff.mpr c5
   subst c5
   have H1 : (impl_BoxOK.j0 k true a0_0 a0_1 a0_2 l0_3 l0_4) = some r := by rw [if_neg (show ¬ (false = true) by decide)] at H; exact H
   clear H
   have H := H1
   clear H1
   have H' := qM_ H
   clear H
   have hcz11_0 : w3.cell? ⟨gb101, 0, none⟩ = some (.string a0_0) := (qC_ BK101.out 0).trans rfl
   have hcz11_1 : w3.cell? ⟨gb101, 1, none⟩ = some (.int .i64 a0_1) := (qC_ BK101.out 1).trans rfl
   have hcz11_2 : w3.cell? ⟨gb101, 2, none⟩ = some (.int .i64 a0_2) := (qC_ BK101.out 2).trans rfl
   have hcz11_3 : w3.cell? ⟨gb101, 3, none⟩ = some (.slice A0_3 l0_3.length c0_3) := (qC_ BK101.out 3).trans rfl
   have hcz11_4 : w3.cell? ⟨gb101, 4, none⟩ = some (.slice A0_4 l0_4.length c0_4) := (qC_ BK101.out 4).trans rfl
   have hfz11_0 := qF_ BK101.out 0
   have hfz11_1 := qF_ BK101.out 1
   have hfz11_2 := qF_ BK101.out 2
   have hfz11_3 := qF_ BK101.out 3
   have hfz11_4 := qF_ BK101.out 4
   go_wp2_with (first | ((with_reducible refine gate_callee (f := 52) rfl ?_); refine goesL_ (some 10) rfl rfl Try.func52 (by kernel_rfl) rfl #[.string a0_0] rfl (by (try simp only [List.map_toArray, List.map_cons, List.map_nil]); first | done | rfl | (simp only [List.length_drop, List.length_take]; rfl)) ?_; (with_reducible refine (impl_NameOK.calls k a0_0 false _ A4.out).mono ?_); rintro e w' ⟨rfl, ⟨nd, rfl⟩⟩; refine ⟨_, rfl, ?_⟩))
   go_meet
   case rel => exact ⟨_, (true), (by first | rfl | (simp; done) | (simp [*]; done)), H', ⟨by first | omega | exact Nat.le_refl _⟩, ⟨by (with_reducible repeat (first | refine blk_drewN ?_ _ | refine blk_drew ?_ | refine blk_alloc ?_ _)); exact BK101.out⟩, ⟨by repeat (first | (with_reducible first | exact HB.out | apply qA_ | apply qD_ | apply qE_ | refine below_set ?_ GE101.out) | exact HB.out)⟩⟩
 case rest =>
  clear HC2
  try clear p2
  try clear c3
  try clear c5
  try clear c7
  try clear hcz10_0
  try clear hcz10_1
  try clear hcz10_2
  try clear hcz10_3
  try clear hcz10_4
  try clear hcz11_0
  try clear hcz11_1
  try clear hcz11_2
  try clear hcz11_3
  try clear hcz11_4
  try clear hcz9_0
  try clear hcz9_1
  try clear hcz9_2
  try clear hcz9_3
  try clear hcz9_4
  try clear hfz10_0
  try clear hfz10_1
  try clear hfz10_2
  try clear hfz10_3
  try clear hfz10_4
  try clear hfz11_0
  try clear hfz11_1
  try clear hfz11_2
  try clear hfz11_3
  try clear hfz11_4
  try clear hfz9_0
  try clear hfz9_1
  try clear hfz9_2
  try clear hfz9_3
  try clear hfz9_4
  obtain ⟨kq, x23_1, rfl, HA, HJ1, BK101, HB⟩ := hcut
  cases kq with
  | zero => exact absurd HA.out (by simp [impl_BoxOK.j0])
  | succ kj1 =>
   have H := HA.out
   clear HA
   simp only [impl_BoxOK.j0] at H
   by_cases c12 : x23_1 = true
   ·subst c12
    have H1 : (some false) = some r := by rw [if_pos rfl] at H; exact H
    clear H
    have H := H1
    clear H1
    obtain rfl := Option.some.inj H
    go_wp2
    go_ret
    exact ⟨by first | rfl | (simp [errW_none, errW_some] <;> rfl) | (simp [*, errW_none, errW_some] <;> rfl), by repeat (first | (with_reducible first | exact HB.out | apply qA_ | apply qD_ | apply qE_ | refine below_set ?_ GE101.out) | exact HB.out)⟩
   ·replace c12 := Bool.eq_false_iff.mpr c12
    subst c12
    have H1 : (if (l0_3.length : Int) > 30 then (impl_BoxOK.j1 kj1 true a0_0 a0_1 a0_2 l0_3 l0_4) else (if (l0_4.length : Int) > 60 then (impl_BoxOK.j1 kj1 true a0_0 a0_1 a0_2 l0_3 l0_4) else (impl_BoxOK.j1 kj1 ((l0_4.length : Int) != (wrap64 (a0_2 - 1))) a0_0 a0_1 a0_2 l0_3 l0_4))) = some r := by rw [if_neg (show ¬ (false = true) by decide)] at H; exact H
    clear H
    have H := H1
    clear H1
    have HC13 := qM_ H
    clear H
    go_upto_region 3 with (fail)
    go_cut [42] (fun v42 wc => ∃ (kq : Nat) (x42_12 : Bool), v42 = .bool x42_12 ∧ Aside0 (impl_BoxOK.j1 kq x42_12 a0_0 a0_1 a0_2 l0_3 l0_4 = some r) ∧ Aside0 (kq ≤ kj1) ∧ Aside0 (wc.heap[gb101]? = some (.cells #[.string a0_0, .int .i64 a0_1, .int .i64 a0_2, (.slice A0_3 l0_3.length c0_3), (.slice A0_4 l0_4.length c0_4)] 33 (0, 0))) ∧ Aside0 (Below w.heap.size w wc))
    case first =>
     have H := HC13.out
     clear HC13
     by_cases c14 : (l0_3.length : Int) > 30
     ·rw [if_pos c14] at H
      have c14b0 : decide (30 < (l0_3.length : Int)) = true := decide_eq_true c14
      have c14b1 : decide (30 < l0_3.length) = true := decide_eq_true (by omega)
      clear c14
      (first | rw [c14b0] | (simp only [i64_w, i32_w]; rw [c14b0]) | skip)
      have H' := qM_ H
      clear H
      have hcz15_0 : wc.cell? ⟨gb101, 0, none⟩ = some (.string a0_0) := (qC_ BK101.out 0).trans rfl
      have hcz15_1 : wc.cell? ⟨gb101, 1, none⟩ = some (.int .i64 a0_1) := (qC_ BK101.out 1).trans rfl
      have hcz15_2 : wc.cell? ⟨gb101, 2, none⟩ = some (.int .i64 a0_2) := (qC_ BK101.out 2).trans rfl
      have hcz15_3 : wc.cell? ⟨gb101, 3, none⟩ = some (.slice A0_3 l0_3.length c0_3) := (qC_ BK101.out 3).trans rfl
      have hcz15_4 : wc.cell? ⟨gb101, 4, none⟩ = some (.slice A0_4 l0_4.length c0_4) := (qC_ BK101.out 4).trans rfl
      have hfz15_0 := qF_ BK101.out 0
      have hfz15_1 := qF_ BK101.out 1
      have hfz15_2 := qF_ BK101.out 2
      have hfz15_3 := qF_ BK101.out 3
      have hfz15_4 := qF_ BK101.out 4
      go_wp2
      go_meet
      case rel => exact ⟨_, (true), (by first | rfl | (simp; done) | (simp [*]; done)), H', ⟨by have := HJ1.out; first | omega | exact Nat.le_refl _⟩, ⟨by (with_reducible repeat (first | refine blk_drewN ?_ _ | refine blk_drew ?_ | refine blk_alloc ?_ _)); exact BK101.out⟩, ⟨by repeat (first | (with_reducible first | exact HB.out | apply qA_ | apply qD_ | apply qE_ | refine below_set ?_ GE101.out) | exact HB.out)⟩⟩
     ·rw [if_neg c14] at H
      have c14b0 : decide (30 < (l0_3.length : Int)) = false := decide_eq_false c14
      have c14b1 : decide (30 < l0_3.length) = false := decide_eq_false (by omega)
      clear c14
      (first | rw [c14b0] | (simp only [i64_w, i32_w]; rw [c14b0]) | skip)
      by_cases c16 : (l0_4.length : Int) > 60
      ·rw [if_pos c16] at H
       have c16b0 : decide (60 < (l0_4.length : Int)) = true := decide_eq_true c16
       have c16b1 : decide (60 < l0_4.length) = true := decide_eq_true (by omega)
       clear c16
       have H' := qM_ H
       clear H
       have hcz17_0 : wc.cell? ⟨gb101, 0, none⟩ = some (.string a0_0) := (qC_ BK101.out 0).trans rfl
       have hcz17_1 : wc.cell? ⟨gb101, 1, none⟩ = some (.int .i64 a0_1) := (qC_ BK101.out 1).trans rfl
       have hcz17_2 : wc.cell? ⟨gb101, 2, none⟩ = some (.int .i64 a0_2) := (qC_ BK101.out 2).trans rfl
       have hcz17_3 : wc.cell? ⟨gb101, 3, none⟩ = some (.slice A0_3 l0_3.length c0_3) := (qC_ BK101.out 3).trans rfl
       have hcz17_4 : wc.cell? ⟨gb101, 4, none⟩ = some (.slice A0_4 l0_4.length c0_4) := (qC_ BK101.out 4).trans rfl
       have hfz17_0 := qF_ BK101.out 0
       have hfz17_1 := qF_ BK101.out 1
       have hfz17_2 := qF_ BK101.out 2
       have hfz17_3 := qF_ BK101.out 3
       have hfz17_4 := qF_ BK101.out 4
       go_wp2
       go_meet
       case rel => exact ⟨_, (true), (by first | rfl | (simp; done) | (simp [*]; done)), H', ⟨by have := HJ1.out; first | omega | exact Nat.le_refl _⟩, ⟨by (with_reducible repeat (first | refine blk_drewN ?_ _ | refine blk_drew ?_ | refine blk_alloc ?_ _)); exact BK101.out⟩, ⟨by repeat (first | (with_reducible first | exact HB.out | apply qA_ | apply qD_ | apply qE_ | refine below_set ?_ GE101.out) | exact HB.out)⟩⟩
      ·rw [if_neg c16] at H
       have c16b0 : decide (60 < (l0_4.length : Int)) = false := decide_eq_false c16
       have c16b1 : decide (60 < l0_4.length) = false := decide_eq_false (by omega)
       clear c16
       have H' := qM_ H
       clear H
       have hcz18_0 : wc.cell? ⟨gb101, 0, none⟩ = some (.string a0_0) := (qC_ BK101.out 0).trans rfl
       have hcz18_1 : wc.cell? ⟨gb101, 1, none⟩ = some (.int .i64 a0_1) := (qC_ BK101.out 1).trans rfl
       have hcz18_2 : wc.cell? ⟨gb101, 2, none⟩ = some (.int .i64 a0_2) := (qC_ BK101.out 2).trans rfl
       have hcz18_3 : wc.cell? ⟨gb101, 3, none⟩ = some (.slice A0_3 l0_3.length c0_3) := (qC_ BK101.out 3).trans rfl
       have hcz18_4 : wc.cell? ⟨gb101, 4, none⟩ = some (.slice A0_4 l0_4.length c0_4) := (qC_ BK101.out 4).trans rfl
       have hfz18_0 := qF_ BK101.out 0
       have hfz18_1 := qF_ BK101.out 1
       have hfz18_2 := qF_ BK101.out 2
       have hfz18_3 := qF_ BK101.out 3
       have hfz18_4 := qF_ BK101.out 4
       go_wp2
       go_meet
       case rel => exact ⟨_, (((l0_4.length : Int) != (wrap64 (a0_2 - 1)))), (by first | rfl | (simp; done) | (simp [*]; done)), H', ⟨by have := HJ1.out; first | omega | exact Nat.le_refl _⟩, ⟨by (with_reducible repeat (first | refine blk_drewN ?_ _ | refine blk_drew ?_ | refine blk_alloc ?_ _)); exact BK101.out⟩, ⟨by repeat (first | (with_reducible first | exact HB.out | apply qA_ | apply qD_ | apply qE_ | refine below_set ?_ GE101.out) | exact HB.out)⟩⟩
    case rest =>
     clear HC13
     try clear c1
     try clear p2
     try clear c3
     try clear c5
     try clear p6
     try clear c7
     try clear c12
     try clear c14
     try clear c14b0
     try clear c14b1
     try clear c16
     try clear c16b0
     try clear c16b1
     try clear hcz10_0
     try clear hcz10_1
     try clear hcz10_2
     try clear hcz10_3
     try clear hcz10_4
     try clear hcz11_0
     try clear hcz11_1
     try clear hcz11_2
     try clear hcz11_3
     try clear hcz11_4
     try clear hcz15_0
     try clear hcz15_1
     try clear hcz15_2
     try clear hcz15_3
     try clear hcz15_4
     try clear hcz17_0
     try clear hcz17_1
     try clear hcz17_2
     try clear hcz17_3
     try clear hcz17_4
     try clear hcz18_0
     try clear hcz18_1
     try clear hcz18_2
     try clear hcz18_3
     try clear hcz18_4
     try clear hcz9_0
     try clear hcz9_1
     try clear hcz9_2
     try clear hcz9_3
     try clear hcz9_4
     try clear hfz10_0
     try clear hfz10_1
     try clear hfz10_2
     try clear hfz10_3
     try clear hfz10_4
     try clear hfz11_0
     try clear hfz11_1
     try clear hfz11_2
     try clear hfz11_3
     try clear hfz11_4
     try clear hfz15_0
     try clear hfz15_1
     try clear hfz15_2
     try clear hfz15_3
     try clear hfz15_4
     try clear hfz17_0
     try clear hfz17_1
     try clear hfz17_2
     try clear hfz17_3
     try clear hfz17_4
     try clear hfz18_0
     try clear hfz18_1
     try clear hfz18_2
     try clear hfz18_3
     try clear hfz18_4
     try clear hfz9_0
     try clear hfz9_1
     try clear hfz9_2
     try clear hfz9_3
     try clear hfz9_4
     try clear p2
     obtain ⟨kq, x42_12, rfl, HA, HJ12, BK101, HB⟩ := hcut
     cases kq with
     | zero => exact absurd HA.out (by simp [impl_BoxOK.j1])
     | succ kj12 =>
      have H := HA.out
      clear HA
      simp only [impl_BoxOK.j1] at H
      by_cases c19 : x42_12 = true
      ·subst c19
       have H1 : (some false) = some r := by rw [if_pos rfl] at H; exact H
       clear H
       have H := H1
       clear H1
       obtain rfl := Option.some.inj H
       go_wp2
       go_ret
       exact ⟨by first | rfl | (simp [errW_none, errW_some] <;> rfl) | (simp [*, errW_none, errW_some] <;> rfl), by repeat (first | (with_reducible first | exact HB.out | apply qA_ | apply qD_ | apply qE_ | refine below_set ?_ GE101.out) | exact HB.out)⟩
      ·replace c19 := Bool.eq_false_iff.mpr c19
       subst c19
       have H1 : (impl_BoxOK.l0 kj12 0 l0_3 (l0_3.length : Int) 0 a0_0 a0_1 a0_2 l0_3 l0_4) = some r := by rw [if_neg (show ¬ (false = true) by decide)] at H; exact H
       clear H
       have H := H1
       clear H1
       have H' := qM_ H
       clear H
       have hcz20_0 : wc.cell? ⟨gb101, 0, none⟩ = some (.string a0_0) := (qC_ BK101.out 0).trans rfl
       have hcz20_1 : wc.cell? ⟨gb101, 1, none⟩ = some (.int .i64 a0_1) := (qC_ BK101.out 1).trans rfl
       have hcz20_2 : wc.cell? ⟨gb101, 2, none⟩ = some (.int .i64 a0_2) := (qC_ BK101.out 2).trans rfl
       have hcz20_3 : wc.cell? ⟨gb101, 3, none⟩ = some (.slice A0_3 l0_3.length c0_3) := (qC_ BK101.out 3).trans rfl
       have hcz20_4 : wc.cell? ⟨gb101, 4, none⟩ = some (.slice A0_4 l0_4.length c0_4) := (qC_ BK101.out 4).trans rfl
       have hfz20_0 := qF_ BK101.out 0
       have hfz20_1 := qF_ BK101.out 1
       have hfz20_2 := qF_ BK101.out 2
       have hfz20_3 := qF_ BK101.out 3
       have hfz20_4 := qF_ BK101.out 4
       go_wp2
       go_loopg [3, 46] kj12 (fun kq v3 v46 w' => ∃ (x3_3 : Int) (x46_3 : Int), v3 = .int .i64 x3_3 ∧ v46 = .int .i64 x46_3 ∧ Aside0 (impl_BoxOK.l0 kq x3_3 l0_3 (l0_3.length : Int) x46_3 a0_0 a0_1 a0_2 l0_3 l0_4 = some r) ∧ Aside0 (kq ≤ kj12) ∧ Aside0 (w'.heap[gb101]? = some (.cells #[.string a0_0, .int .i64 a0_1, .int .i64 a0_2, (.slice A0_3 l0_3.length c0_3), (.slice A0_4 l0_4.length c0_4)] 33 (0, 0))) ∧ Aside0 (Below w.heap.size w w'))
       case atStart => exact ⟨(0), (0), (by first | rfl | (simp; done) | (simp [*]; done)), (by first | rfl | (simp; done) | (simp [*]; done)), H', ⟨Nat.le_refl _⟩, ⟨by (with_reducible repeat (first | refine blk_drewN ?_ _ | refine blk_drew ?_ | refine blk_alloc ?_ _)); exact BK101.out⟩, ⟨by repeat (first | (with_reducible first | exact HB.out | apply qA_ | apply qD_ | apply qE_ | refine below_set ?_ GE101.out) | exact HB.out)⟩⟩
       case round =>
        clear H'
        try clear c1
        try clear p2
        try clear c3
        try clear c5
        try clear p6
        try clear c7
        try clear c12
        try clear c14
        try clear c14b0
        try clear c14b1
        try clear c16
        try clear c16b0
        try clear c16b1
        try clear c19
        try clear hcz10_0
        try clear hcz10_1
        try clear hcz10_2
        try clear hcz10_3
        try clear hcz10_4
        try clear hcz11_0
        try clear hcz11_1
        try clear hcz11_2
        try clear hcz11_3
        try clear hcz11_4
        try clear hcz15_0
        try clear hcz15_1
        try clear hcz15_2
        try clear hcz15_3
        try clear hcz15_4
        try clear hcz17_0
        try clear hcz17_1
        try clear hcz17_2
        try clear hcz17_3
        try clear hcz17_4
        try clear hcz18_0
        try clear hcz18_1
        try clear hcz18_2
        try clear hcz18_3
        try clear hcz18_4
        try clear hcz20_0
        try clear hcz20_1
        try clear hcz20_2
        try clear hcz20_3
        try clear hcz20_4
        try clear hcz9_0
        try clear hcz9_1
        try clear hcz9_2
        try clear hcz9_3
        try clear hcz9_4
        try clear hfz10_0
        try clear hfz10_1
        try clear hfz10_2
        try clear hfz10_3
        try clear hfz10_4
        try clear hfz11_0
        try clear hfz11_1
        try clear hfz11_2
        try clear hfz11_3
        try clear hfz11_4
        try clear hfz15_0
        try clear hfz15_1
        try clear hfz15_2
        try clear hfz15_3
        try clear hfz15_4
        try clear hfz17_0
        try clear hfz17_1
        try clear hfz17_2
        try clear hfz17_3
        try clear hfz17_4
        try clear hfz18_0
        try clear hfz18_1
        try clear hfz18_2
        try clear hfz18_3
        try clear hfz18_4
        try clear hfz20_0
        try clear hfz20_1
        try clear hfz20_2
        try clear hfz20_3
        try clear hfz20_4
        try clear hfz9_0
        try clear hfz9_1
        try clear hfz9_2
        try clear hfz9_3
        try clear hfz9_4
        try clear p2
        try clear p6
        obtain ⟨x3_3, x46_3, rfl, rfl, HA, HK3, BK101, HB⟩ := hrel
        cases gk with
        | zero => exact absurd HA.out (by simp [impl_BoxOK.l0])
        | succ k3 =>
         have H := HA.out
         clear HA
         simp only [impl_BoxOK.l0] at H
         by_cases c21 : x46_3 < (l0_3.length : Int)
         ·rw [if_pos c21] at H
          have c21b0 : decide (x46_3 < (l0_3.length : Int)) = true := decide_eq_true c21
          clear c21
          by_cases c22 : 0 ≤ x46_3
          ·rw [if_pos c22] at H
           have c22b0 : decide (0 ≤ x46_3) = true := decide_eq_true c22
           clear c22
           by_cases c23 : x46_3 < (l0_3.length : Int)
           ·rw [if_pos c23] at H
            have c23b0 : decide (x46_3 < (l0_3.length : Int)) = true := decide_eq_true c23
            clear c23
            replace H := Option.bind_eq_some_iff.mp H
            obtain ⟨t107, A240, H⟩ := H
            replace H : (if t107 = true then ((impl_within.f ((rd_T28 l0_3 x46_3).f1) 0 31).bind fun t108 => (if t108 = true then (if (((rd_T28 l0_3 x46_3).f2).size : Int) > 4000 then (some false) else (impl_BoxOK.l0 k3 ((rd_T28 l0_3 x46_3).f0) l0_3 (l0_3.length : Int) (wrap64 (x46_3 + 1)) a0_0 a0_1 a0_2 l0_3 l0_4)) else (some false))) else (some false)) = some r := H
            have A24 := qM_ A240
            clear A240
            by_cases c25 : t107 = true
            ·subst c25
             have H1 : ((impl_within.f ((rd_T28 l0_3 x46_3).f1) 0 31).bind fun t108 => (if t108 = true then (if (((rd_T28 l0_3 x46_3).f2).size : Int) > 4000 then (some false) else (impl_BoxOK.l0 k3 ((rd_T28 l0_3 x46_3).f0) l0_3 (l0_3.length : Int) (wrap64 (x46_3 + 1)) a0_0 a0_1 a0_2 l0_3 l0_4)) else (some false))) = some r := by rw [if_pos rfl] at H; exact H
             clear H
             have H := H1
             clear H1
             replace H := Option.bind_eq_some_iff.mp H
             obtain ⟨t108, A260, H⟩ := H
             replace H : (if t108 = true then (if (((rd_T28 l0_3 x46_3).f2).size : Int) > 4000 then (some false) else (impl_BoxOK.l0 k3 ((rd_T28 l0_3 x46_3).f0) l0_3 (l0_3.length : Int) (wrap64 (x46_3 + 1)) a0_0 a0_1 a0_2 l0_3 l0_4)) else (some false)) = some r := H
             have A26 := qM_ A260
             clear A260
             by_cases c27 : t108 = true
             ·subst c27
              have H1 : (if (((rd_T28 l0_3 x46_3).f2).size : Int) > 4000 then (some false) else (impl_BoxOK.l0 k3 ((rd_T28 l0_3 x46_3).f0) l0_3 (l0_3.length : Int) (wrap64 (x46_3 + 1)) a0_0 a0_1 a0_2 l0_3 l0_4)) = some r := by rw [if_pos rfl] at H; exact H
              clear H
              have H := H1
              clear H1
              by_cases c28 : (((rd_T28 l0_3 x46_3).f2).size : Int) > 4000
              ·rw [if_pos c28] at H
               have c28b0 : decide (4000 < (((rd_T28 l0_3 x46_3).f2).size : Int)) = true := decide_eq_true c28
               have c28b1 : decide (4000 < ((rd_T28 l0_3 x46_3).f2).size) = true := decide_eq_true (by omega)
               clear c28
               obtain rfl := Option.some.inj H
               have p105 : 0 ≤ (x46_3 : Int) := qT_ (by first | (with_reducible assumption) | assumption)
               have q105 : x46_3 < (l0_3.length : Int) := qT_ (by first | (with_reducible assumption) | assumption)
               obtain ⟨ad105, e105, hx105_0, hx105_1, hx105_2⟩ := at_T28 HR0_3.out x46_3 p105 q105
               cases e105
               replace hx105_0 := (HB.out.cell (qL_ w _ hx105_0)).trans hx105_0
               replace hx105_1 := (HB.out.cell (qL_ w _ hx105_1)).trans hx105_1
               replace hx105_2 := (HB.out.cell (qL_ w _ hx105_2)).trans hx105_2
               replace p105 := eq_true p105
               replace q105 := eq_true q105
               go_wp2_with (first | ((with_reducible refine gate_dst (N := 5) rfl ?_); (try (refine gate_guard (by rfl) ?_; dsimp only)); refine box_event ?hg (N := 5) ?hd (cs := #[.int .i64 0, .int .i64 0, .string (⟨#[]⟩ : ByteArray)]) (t := 28) ?hr ?_; (case hd => rfl); (case hg => rfl); (case hr => first | (go_simp; done) | (go_simp; rfl)); intro gb106 hg w29 hbox hb; have n0_ := qM_ (blk_below (g := gb101) (o := .cells #[.string a0_0, .int .i64 a0_1, .int .i64 a0_2, .slice (some ad105) l0_3.length c0_3, .slice A0_4 l0_4.length c0_4] 33 (0, 0)) (by (with_reducible repeat (first | refine blk_drewN ?_ _ | refine blk_drew ?_ | refine blk_alloc ?_ _)); exact BK101.out) hb); have n1_ := qM_ (below_step (by repeat (first | (with_reducible first | exact HB.out | apply qA_ | apply qD_ | apply qE_ | refine below_set ?_ GE101.out) | exact HB.out)) hb); have n2_ := qM_ (hbox); have n3_ := qM_ ((by rw [hg]; exact (below_size (by repeat (first | (with_reducible first | exact HB.out | apply qA_ | apply qD_ | apply qE_ | refine below_set ?_ GE101.out) | exact HB.out))) : w.heap.size ≤ gb106)); have n4_ := qM_ ((by rw [hg]; exact (below_size (by repeat (first | (with_reducible first | exact HB.out | apply qA_ | apply qD_ | apply qE_ | refine below_set ?_ GE101.out) | exact HB.out))) : w.heap.size ≤ gb106)); have n5_ := qM_ ((by rw [hg]; exact Nat.ne_of_lt (blk_lt (g := gb101) (o := .cells #[.string a0_0, .int .i64 a0_1, .int .i64 a0_2, .slice (some ad105) l0_3.length c0_3, .slice A0_4 l0_4.length c0_4] 33 (0, 0)) (by (with_reducible repeat (first | refine blk_drewN ?_ _ | refine blk_drew ?_ | refine blk_alloc ?_ _)); exact BK101.out)) : gb101 ≠ gb106)); have n6_ := qM_ ((by rw [hg]; exact Nat.ne_of_gt (blk_lt (g := gb101) (o := .cells #[.string a0_0, .int .i64 a0_1, .int .i64 a0_2, .slice (some ad105) l0_3.length c0_3, .slice A0_4 l0_4.length c0_4] 33 (0, 0)) (by (with_reducible repeat (first | refine blk_drewN ?_ _ | refine blk_drew ?_ | refine blk_alloc ?_ _)); exact BK101.out)) : gb106 ≠ gb101)); clear BK101; clear HB; have BK101 := n0_; have HB := n1_; have BK106 := n2_; have GW106 := n3_; have GE106 := n4_; have NB101_106 := n5_; have NB106_101 := n6_; clear n0_ n1_ n2_ n3_ n4_ n5_ n6_; clear hb hbox hg; have hnb30 := NB106_101.out; have hnc30 := NB101_106.out; have hcz31_0 : w29.cell? ⟨gb106, 0, none⟩ = some (.int .i64 0) := (qC_ BK106.out 0).trans rfl; have hcz31_1 : w29.cell? ⟨gb106, 1, none⟩ = some (.int .i64 0) := (qC_ BK106.out 1).trans rfl; have hcz31_2 : w29.cell? ⟨gb106, 2, none⟩ = some (.string (⟨#[]⟩ : ByteArray)) := (qC_ BK106.out 2).trans rfl; have hfz31_0 := qF_ BK106.out 0; have hfz31_1 := qF_ BK106.out 1; have hfz31_2 := qF_ BK106.out 2; have hcz32_0 : w29.cell? ⟨gb101, 0, none⟩ = some (.string a0_0) := (qC_ BK101.out 0).trans rfl; have hcz32_1 : w29.cell? ⟨gb101, 1, none⟩ = some (.int .i64 a0_1) := (qC_ BK101.out 1).trans rfl; have hcz32_2 : w29.cell? ⟨gb101, 2, none⟩ = some (.int .i64 a0_2) := (qC_ BK101.out 2).trans rfl; have hcz32_3 : w29.cell? ⟨gb101, 3, none⟩ = some (.slice (some ad105) l0_3.length c0_3) := (qC_ BK101.out 3).trans rfl; have hcz32_4 : w29.cell? ⟨gb101, 4, none⟩ = some (.slice A0_4 l0_4.length c0_4) := (qC_ BK101.out 4).trans rfl; have hfz32_0 := qF_ BK101.out 0; have hfz32_1 := qF_ BK101.out 1; have hfz32_2 := qF_ BK101.out 2; have hfz32_3 := qF_ BK101.out 3; have hfz32_4 := qF_ BK101.out 4) | ((with_reducible refine gate_callee (f := 53) rfl ?_); refine goesL_ (some 57) rfl rfl Try.func53 (by kernel_rfl) rfl #[.int .i64 ((rd_T28 l0_3 x46_3).f0), .int .i64 (wrap64 (x3_3 + 1)), .int .i64 (wrap64 (a0_2 - 1))] rfl (by (try simp only [List.map_toArray, List.map_cons, List.map_nil]); first | done | rfl | (simp only [List.length_drop, List.length_take]; rfl)) ?_; (with_reducible refine (impl_within.calls ((rd_T28 l0_3 x46_3).f0) (wrap64 (x3_3 + 1)) (wrap64 (a0_2 - 1)) true _ A24.out).mono ?_); rintro e w' ⟨rfl, ⟨nd, rfl⟩⟩; refine ⟨_, rfl, ?_⟩) | (go_at_call 53; (with_reducible refine (impl_within.calls ((rd_T28 l0_3 x46_3).f1) 0 31 true _ A26.out).mono ?_); rintro e w' ⟨rfl, ⟨nd, rfl⟩⟩))
               go_ret
               exact ⟨by first | rfl | (simp [errW_none, errW_some] <;> rfl) | (simp [*, errW_none, errW_some] <;> rfl), by repeat (first | (with_reducible first | exact HB.out | apply qA_ | apply qD_ | apply qE_ | refine below_set ?_ GE101.out | refine below_set ?_ GE106.out) | exact HB.out)⟩
              ·rw [if_neg c28] at H
               have c28b0 : decide (4000 < (((rd_T28 l0_3 x46_3).f2).size : Int)) = false := decide_eq_false c28
               have c28b1 : decide (4000 < ((rd_T28 l0_3 x46_3).f2).size) = false := decide_eq_false (by omega)
               clear c28
               have H' := qM_ H
               clear H
               have p105 : 0 ≤ (x46_3 : Int) := qT_ (by first | (with_reducible assumption) | assumption)
               have q105 : x46_3 < (l0_3.length : Int) := qT_ (by first | (with_reducible assumption) | assumption)
               obtain ⟨ad105, e105, hx105_0, hx105_1, hx105_2⟩ := at_T28 HR0_3.out x46_3 p105 q105
               cases e105
               replace hx105_0 := (HB.out.cell (qL_ w _ hx105_0)).trans hx105_0
               replace hx105_1 := (HB.out.cell (qL_ w _ hx105_1)).trans hx105_1
               replace hx105_2 := (HB.out.cell (qL_ w _ hx105_2)).trans hx105_2
               replace p105 := eq_true p105
               replace q105 := eq_true q105
               go_wp2_with (first | ((with_reducible refine gate_dst (N := 5) rfl ?_); (try (refine gate_guard (by rfl) ?_; dsimp only)); refine box_event ?hg (N := 5) ?hd (cs := #[.int .i64 0, .int .i64 0, .string (⟨#[]⟩ : ByteArray)]) (t := 28) ?hr ?_; (case hd => rfl); (case hg => rfl); (case hr => first | (go_simp; done) | (go_simp; rfl)); intro gb106 hg w33 hbox hb; have n0_ := qM_ (blk_below (g := gb101) (o := .cells #[.string a0_0, .int .i64 a0_1, .int .i64 a0_2, .slice (some ad105) l0_3.length c0_3, .slice A0_4 l0_4.length c0_4] 33 (0, 0)) (by (with_reducible repeat (first | refine blk_drewN ?_ _ | refine blk_drew ?_ | refine blk_alloc ?_ _)); exact BK101.out) hb); have n1_ := qM_ (below_step (by repeat (first | (with_reducible first | exact HB.out | apply qA_ | apply qD_ | apply qE_ | refine below_set ?_ GE101.out) | exact HB.out)) hb); have n2_ := qM_ (hbox); have n3_ := qM_ ((by rw [hg]; exact (below_size (by repeat (first | (with_reducible first | exact HB.out | apply qA_ | apply qD_ | apply qE_ | refine below_set ?_ GE101.out) | exact HB.out))) : w.heap.size ≤ gb106)); have n4_ := qM_ ((by rw [hg]; exact (below_size (by repeat (first | (with_reducible first | exact HB.out | apply qA_ | apply qD_ | apply qE_ | refine below_set ?_ GE101.out) | exact HB.out))) : w.heap.size ≤ gb106)); have n5_ := qM_ ((by rw [hg]; exact Nat.ne_of_lt (blk_lt (g := gb101) (o := .cells #[.string a0_0, .int .i64 a0_1, .int .i64 a0_2, .slice (some ad105) l0_3.length c0_3, .slice A0_4 l0_4.length c0_4] 33 (0, 0)) (by (with_reducible repeat (first | refine blk_drewN ?_ _ | refine blk_drew ?_ | refine blk_alloc ?_ _)); exact BK101.out)) : gb101 ≠ gb106)); have n6_ := qM_ ((by rw [hg]; exact Nat.ne_of_gt (blk_lt (g := gb101) (o := .cells #[.string a0_0, .int .i64 a0_1, .int .i64 a0_2, .slice (some ad105) l0_3.length c0_3, .slice A0_4 l0_4.length c0_4] 33 (0, 0)) (by (with_reducible repeat (first | refine blk_drewN ?_ _ | refine blk_drew ?_ | refine blk_alloc ?_ _)); exact BK101.out)) : gb106 ≠ gb101)); clear BK101; clear HB; have BK101 := n0_; have HB := n1_; have BK106 := n2_; have GW106 := n3_; have GE106 := n4_; have NB101_106 := n5_; have NB106_101 := n6_; clear n0_ n1_ n2_ n3_ n4_ n5_ n6_; clear hb hbox hg; have hnb34 := NB106_101.out; have hnc34 := NB101_106.out; have hcz35_0 : w33.cell? ⟨gb106, 0, none⟩ = some (.int .i64 0) := (qC_ BK106.out 0).trans rfl; have hcz35_1 : w33.cell? ⟨gb106, 1, none⟩ = some (.int .i64 0) := (qC_ BK106.out 1).trans rfl; have hcz35_2 : w33.cell? ⟨gb106, 2, none⟩ = some (.string (⟨#[]⟩ : ByteArray)) := (qC_ BK106.out 2).trans rfl; have hfz35_0 := qF_ BK106.out 0; have hfz35_1 := qF_ BK106.out 1; have hfz35_2 := qF_ BK106.out 2; have hcz36_0 : w33.cell? ⟨gb101, 0, none⟩ = some (.string a0_0) := (qC_ BK101.out 0).trans rfl; have hcz36_1 : w33.cell? ⟨gb101, 1, none⟩ = some (.int .i64 a0_1) := (qC_ BK101.out 1).trans rfl; have hcz36_2 : w33.cell? ⟨gb101, 2, none⟩ = some (.int .i64 a0_2) := (qC_ BK101.out 2).trans rfl; have hcz36_3 : w33.cell? ⟨gb101, 3, none⟩ = some (.slice (some ad105) l0_3.length c0_3) := (qC_ BK101.out 3).trans rfl; have hcz36_4 : w33.cell? ⟨gb101, 4, none⟩ = some (.slice A0_4 l0_4.length c0_4) := (qC_ BK101.out 4).trans rfl; have hfz36_0 := qF_ BK101.out 0; have hfz36_1 := qF_ BK101.out 1; have hfz36_2 := qF_ BK101.out 2; have hfz36_3 := qF_ BK101.out 3; have hfz36_4 := qF_ BK101.out 4) | ((with_reducible refine gate_callee (f := 53) rfl ?_); refine goesL_ (some 57) rfl rfl Try.func53 (by kernel_rfl) rfl #[.int .i64 ((rd_T28 l0_3 x46_3).f0), .int .i64 (wrap64 (x3_3 + 1)), .int .i64 (wrap64 (a0_2 - 1))] rfl (by (try simp only [List.map_toArray, List.map_cons, List.map_nil]); first | done | rfl | (simp only [List.length_drop, List.length_take]; rfl)) ?_; (with_reducible refine (impl_within.calls ((rd_T28 l0_3 x46_3).f0) (wrap64 (x3_3 + 1)) (wrap64 (a0_2 - 1)) true _ A24.out).mono ?_); rintro e w' ⟨rfl, ⟨nd, rfl⟩⟩; refine ⟨_, rfl, ?_⟩) | (go_at_call 53; (with_reducible refine (impl_within.calls ((rd_T28 l0_3 x46_3).f1) 0 31 true _ A26.out).mono ?_); rintro e w' ⟨rfl, ⟨nd, rfl⟩⟩))
               go_roundg k3
               case measure => have := HJ1.out; have := HJ12.out; have := HK3.out; omega
               case rel => exact ⟨((rd_T28 l0_3 x46_3).f0), (wrap64 (x46_3 + 1)), (by first | rfl | (simp; done) | (simp [*]; done)), (by first | rfl | (simp; done) | (simp [*]; done)), H', ⟨by have := HJ1.out; have := HJ12.out; have := HK3.out; omega⟩, ⟨by (with_reducible repeat (first | refine blk_drewN ?_ _ | refine blk_drew ?_ | refine blk_alloc ?_ _)); refine blk_far ?_ NB101_106.out _; (with_reducible repeat (first | refine blk_drewN ?_ _ | refine blk_drew ?_ | refine blk_alloc ?_ _)); refine blk_far ?_ NB101_106.out _; (with_reducible repeat (first | refine blk_drewN ?_ _ | refine blk_drew ?_ | refine blk_alloc ?_ _)); refine blk_far ?_ NB101_106.out _; (with_reducible repeat (first | refine blk_drewN ?_ _ | refine blk_drew ?_ | refine blk_alloc ?_ _)); exact BK101.out⟩, ⟨by repeat (first | (with_reducible first | exact HB.out | apply qA_ | apply qD_ | apply qE_ | refine below_set ?_ GE101.out | refine below_set ?_ GE106.out) | exact HB.out)⟩⟩
             ·replace c27 := Bool.eq_false_iff.mpr c27
              subst c27
              have H1 : (some false) = some r := by rw [if_neg (show ¬ (false = true) by decide)] at H; exact H
              clear H
              have H := H1
              clear H1
              obtain rfl := Option.some.inj H
              have p105 : 0 ≤ (x46_3 : Int) := qT_ (by first | (with_reducible assumption) | assumption)
              have q105 : x46_3 < (l0_3.length : Int) := qT_ (by first | (with_reducible assumption) | assumption)
              obtain ⟨ad105, e105, hx105_0, hx105_1, hx105_2⟩ := at_T28 HR0_3.out x46_3 p105 q105
              cases e105
              replace hx105_0 := (HB.out.cell (qL_ w _ hx105_0)).trans hx105_0
              replace hx105_1 := (HB.out.cell (qL_ w _ hx105_1)).trans hx105_1
              replace hx105_2 := (HB.out.cell (qL_ w _ hx105_2)).trans hx105_2
              replace p105 := eq_true p105
              replace q105 := eq_true q105
              go_wp2_with (first | ((with_reducible refine gate_dst (N := 5) rfl ?_); (try (refine gate_guard (by rfl) ?_; dsimp only)); refine box_event ?hg (N := 5) ?hd (cs := #[.int .i64 0, .int .i64 0, .string (⟨#[]⟩ : ByteArray)]) (t := 28) ?hr ?_; (case hd => rfl); (case hg => rfl); (case hr => first | (go_simp; done) | (go_simp; rfl)); intro gb106 hg w37 hbox hb; have n0_ := qM_ (blk_below (g := gb101) (o := .cells #[.string a0_0, .int .i64 a0_1, .int .i64 a0_2, .slice (some ad105) l0_3.length c0_3, .slice A0_4 l0_4.length c0_4] 33 (0, 0)) (by (with_reducible repeat (first | refine blk_drewN ?_ _ | refine blk_drew ?_ | refine blk_alloc ?_ _)); exact BK101.out) hb); have n1_ := qM_ (below_step (by repeat (first | (with_reducible first | exact HB.out | apply qA_ | apply qD_ | apply qE_ | refine below_set ?_ GE101.out) | exact HB.out)) hb); have n2_ := qM_ (hbox); have n3_ := qM_ ((by rw [hg]; exact (below_size (by repeat (first | (with_reducible first | exact HB.out | apply qA_ | apply qD_ | apply qE_ | refine below_set ?_ GE101.out) | exact HB.out))) : w.heap.size ≤ gb106)); have n4_ := qM_ ((by rw [hg]; exact (below_size (by repeat (first | (with_reducible first | exact HB.out | apply qA_ | apply qD_ | apply qE_ | refine below_set ?_ GE101.out) | exact HB.out))) : w.heap.size ≤ gb106)); have n5_ := qM_ ((by rw [hg]; exact Nat.ne_of_lt (blk_lt (g := gb101) (o := .cells #[.string a0_0, .int .i64 a0_1, .int .i64 a0_2, .slice (some ad105) l0_3.length c0_3, .slice A0_4 l0_4.length c0_4] 33 (0, 0)) (by (with_reducible repeat (first | refine blk_drewN ?_ _ | refine blk_drew ?_ | refine blk_alloc ?_ _)); exact BK101.out)) : gb101 ≠ gb106)); have n6_ := qM_ ((by rw [hg]; exact Nat.ne_of_gt (blk_lt (g := gb101) (o := .cells #[.string a0_0, .int .i64 a0_1, .int .i64 a0_2, .slice (some ad105) l0_3.length c0_3, .slice A0_4 l0_4.length c0_4] 33 (0, 0)) (by (with_reducible repeat (first | refine blk_drewN ?_ _ | refine blk_drew ?_ | refine blk_alloc ?_ _)); exact BK101.out)) : gb106 ≠ gb101)); clear BK101; clear HB; have BK101 := n0_; have HB := n1_; have BK106 := n2_; have GW106 := n3_; have GE106 := n4_; have NB101_106 := n5_; have NB106_101 := n6_; clear n0_ n1_ n2_ n3_ n4_ n5_ n6_; clear hb hbox hg; have hnb38 := NB106_101.out; have hnc38 := NB101_106.out; have hcz39_0 : w37.cell? ⟨gb106, 0, none⟩ = some (.int .i64 0) := (qC_ BK106.out 0).trans rfl; have hcz39_1 : w37.cell? ⟨gb106, 1, none⟩ = some (.int .i64 0) := (qC_ BK106.out 1).trans rfl; have hcz39_2 : w37.cell? ⟨gb106, 2, none⟩ = some (.string (⟨#[]⟩ : ByteArray)) := (qC_ BK106.out 2).trans rfl; have hfz39_0 := qF_ BK106.out 0; have hfz39_1 := qF_ BK106.out 1; have hfz39_2 := qF_ BK106.out 2; have hcz40_0 : w37.cell? ⟨gb101, 0, none⟩ = some (.string a0_0) := (qC_ BK101.out 0).trans rfl; have hcz40_1 : w37.cell? ⟨gb101, 1, none⟩ = some (.int .i64 a0_1) := (qC_ BK101.out 1).trans rfl; have hcz40_2 : w37.cell? ⟨gb101, 2, none⟩ = some (.int .i64 a0_2) := (qC_ BK101.out 2).trans rfl; have hcz40_3 : w37.cell? ⟨gb101, 3, none⟩ = some (.slice (some ad105) l0_3.length c0_3) := (qC_ BK101.out 3).trans rfl; have hcz40_4 : w37.cell? ⟨gb101, 4, none⟩ = some (.slice A0_4 l0_4.length c0_4) := (qC_ BK101.out 4).trans rfl; have hfz40_0 := qF_ BK101.out 0; have hfz40_1 := qF_ BK101.out 1; have hfz40_2 := qF_ BK101.out 2; have hfz40_3 := qF_ BK101.out 3; have hfz40_4 := qF_ BK101.out 4) | ((with_reducible refine gate_callee (f := 53) rfl ?_); refine goesL_ (some 57) rfl rfl Try.func53 (by kernel_rfl) rfl #[.int .i64 ((rd_T28 l0_3 x46_3).f0), .int .i64 (wrap64 (x3_3 + 1)), .int .i64 (wrap64 (a0_2 - 1))] rfl (by (try simp only [List.map_toArray, List.map_cons, List.map_nil]); first | done | rfl | (simp only [List.length_drop, List.length_take]; rfl)) ?_; (with_reducible refine (impl_within.calls ((rd_T28 l0_3 x46_3).f0) (wrap64 (x3_3 + 1)) (wrap64 (a0_2 - 1)) true _ A24.out).mono ?_); rintro e w' ⟨rfl, ⟨nd, rfl⟩⟩; refine ⟨_, rfl, ?_⟩) | (go_at_call 53; (with_reducible refine (impl_within.calls ((rd_T28 l0_3 x46_3).f1) 0 31 false _ A26.out).mono ?_); rintro e w' ⟨rfl, ⟨nd, rfl⟩⟩))
              go_ret
              exact ⟨by first | rfl | (simp [errW_none, errW_some] <;> rfl) | (simp [*, errW_none, errW_some] <;> rfl), by repeat (first | (with_reducible first | exact HB.out | apply qA_ | apply qD_ | apply qE_ | refine below_set ?_ GE101.out | refine below_set ?_ GE106.out) | exact HB.out)⟩
            ·replace c25 := Bool.eq_false_iff.mpr c25
             subst c25
             have H1 : (some false) = some r := by rw [if_neg (show ¬ (false = true) by decide)] at H; exact H
             clear H
             have H := H1
             clear H1
             obtain rfl := Option.some.inj H
             have p105 : 0 ≤ (x46_3 : Int) := qT_ (by first | (with_reducible assumption) | assumption)
             have q105 : x46_3 < (l0_3.length : Int) := qT_ (by first | (with_reducible assumption) | assumption)
             obtain ⟨ad105, e105, hx105_0, hx105_1, hx105_2⟩ := at_T28 HR0_3.out x46_3 p105 q105
             cases e105
             replace hx105_0 := (HB.out.cell (qL_ w _ hx105_0)).trans hx105_0
             replace hx105_1 := (HB.out.cell (qL_ w _ hx105_1)).trans hx105_1
             replace hx105_2 := (HB.out.cell (qL_ w _ hx105_2)).trans hx105_2
             replace p105 := eq_true p105
             replace q105 := eq_true q105
             go_wp2_with (first | ((with_reducible refine gate_dst (N := 5) rfl ?_); (try (refine gate_guard (by rfl) ?_; dsimp only)); refine box_event ?hg (N := 5) ?hd (cs := #[.int .i64 0, .int .i64 0, .string (⟨#[]⟩ : ByteArray)]) (t := 28) ?hr ?_; (case hd => rfl); (case hg => rfl); (case hr => first | (go_simp; done) | (go_simp; rfl)); intro gb106 hg w41 hbox hb; have n0_ := qM_ (blk_below (g := gb101) (o := .cells #[.string a0_0, .int .i64 a0_1, .int .i64 a0_2, .slice (some ad105) l0_3.length c0_3, .slice A0_4 l0_4.length c0_4] 33 (0, 0)) (by (with_reducible repeat (first | refine blk_drewN ?_ _ | refine blk_drew ?_ | refine blk_alloc ?_ _)); exact BK101.out) hb); have n1_ := qM_ (below_step (by repeat (first | (with_reducible first | exact HB.out | apply qA_ | apply qD_ | apply qE_ | refine below_set ?_ GE101.out) | exact HB.out)) hb); have n2_ := qM_ (hbox); have n3_ := qM_ ((by rw [hg]; exact (below_size (by repeat (first | (with_reducible first | exact HB.out | apply qA_ | apply qD_ | apply qE_ | refine below_set ?_ GE101.out) | exact HB.out))) : w.heap.size ≤ gb106)); have n4_ := qM_ ((by rw [hg]; exact (below_size (by repeat (first | (with_reducible first | exact HB.out | apply qA_ | apply qD_ | apply qE_ | refine below_set ?_ GE101.out) | exact HB.out))) : w.heap.size ≤ gb106)); have n5_ := qM_ ((by rw [hg]; exact Nat.ne_of_lt (blk_lt (g := gb101) (o := .cells #[.string a0_0, .int .i64 a0_1, .int .i64 a0_2, .slice (some ad105) l0_3.length c0_3, .slice A0_4 l0_4.length c0_4] 33 (0, 0)) (by (with_reducible repeat (first | refine blk_drewN ?_ _ | refine blk_drew ?_ | refine blk_alloc ?_ _)); exact BK101.out)) : gb101 ≠ gb106)); have n6_ := qM_ ((by rw [hg]; exact Nat.ne_of_gt (blk_lt (g := gb101) (o := .cells #[.string a0_0, .int .i64 a0_1, .int .i64 a0_2, .slice (some ad105) l0_3.length c0_3, .slice A0_4 l0_4.length c0_4] 33 (0, 0)) (by (with_reducible repeat (first | refine blk_drewN ?_ _ | refine blk_drew ?_ | refine blk_alloc ?_ _)); exact BK101.out)) : gb106 ≠ gb101)); clear BK101; clear HB; have BK101 := n0_; have HB := n1_; have BK106 := n2_; have GW106 := n3_; have GE106 := n4_; have NB101_106 := n5_; have NB106_101 := n6_; clear n0_ n1_ n2_ n3_ n4_ n5_ n6_; clear hb hbox hg; have hnb42 := NB106_101.out; have hnc42 := NB101_106.out; have hcz43_0 : w41.cell? ⟨gb106, 0, none⟩ = some (.int .i64 0) := (qC_ BK106.out 0).trans rfl; have hcz43_1 : w41.cell? ⟨gb106, 1, none⟩ = some (.int .i64 0) := (qC_ BK106.out 1).trans rfl; have hcz43_2 : w41.cell? ⟨gb106, 2, none⟩ = some (.string (⟨#[]⟩ : ByteArray)) := (qC_ BK106.out 2).trans rfl; have hfz43_0 := qF_ BK106.out 0; have hfz43_1 := qF_ BK106.out 1; have hfz43_2 := qF_ BK106.out 2; have hcz44_0 : w41.cell? ⟨gb101, 0, none⟩ = some (.string a0_0) := (qC_ BK101.out 0).trans rfl; have hcz44_1 : w41.cell? ⟨gb101, 1, none⟩ = some (.int .i64 a0_1) := (qC_ BK101.out 1).trans rfl; have hcz44_2 : w41.cell? ⟨gb101, 2, none⟩ = some (.int .i64 a0_2) := (qC_ BK101.out 2).trans rfl; have hcz44_3 : w41.cell? ⟨gb101, 3, none⟩ = some (.slice (some ad105) l0_3.length c0_3) := (qC_ BK101.out 3).trans rfl; have hcz44_4 : w41.cell? ⟨gb101, 4, none⟩ = some (.slice A0_4 l0_4.length c0_4) := (qC_ BK101.out 4).trans rfl; have hfz44_0 := qF_ BK101.out 0; have hfz44_1 := qF_ BK101.out 1; have hfz44_2 := qF_ BK101.out 2; have hfz44_3 := qF_ BK101.out 3; have hfz44_4 := qF_ BK101.out 4) | ((with_reducible refine gate_callee (f := 53) rfl ?_); refine goesL_ (some 57) rfl rfl Try.func53 (by kernel_rfl) rfl #[.int .i64 ((rd_T28 l0_3 x46_3).f0), .int .i64 (wrap64 (x3_3 + 1)), .int .i64 (wrap64 (a0_2 - 1))] rfl (by (try simp only [List.map_toArray, List.map_cons, List.map_nil]); first | done | rfl | (simp only [List.length_drop, List.length_take]; rfl)) ?_; (with_reducible refine (impl_within.calls ((rd_T28 l0_3 x46_3).f0) (wrap64 (x3_3 + 1)) (wrap64 (a0_2 - 1)) false _ A24.out).mono ?_); rintro e w' ⟨rfl, ⟨nd, rfl⟩⟩; refine ⟨_, rfl, ?_⟩))
             go_ret
             exact ⟨by first | rfl | (simp [errW_none, errW_some] <;> rfl) | (simp [*, errW_none, errW_some] <;> rfl), by repeat (first | (with_reducible first | exact HB.out | apply qA_ | apply qD_ | apply qE_ | refine below_set ?_ GE101.out | refine below_set ?_ GE106.out) | exact HB.out)⟩
           ·rw [if_neg c23] at H
            exact absurd H (by simp)
          ·rw [if_neg c22] at H
           exact absurd H (by simp)
         ·rw [if_neg c21] at H
          have c21b0 : decide (x46_3 < (l0_3.length : Int)) = false := decide_eq_false c21
          clear c21
          have H' := qM_ H
          clear H
          have hcz45_0 : wr.cell? ⟨gb101, 0, none⟩ = some (.string a0_0) := (qC_ BK101.out 0).trans rfl
          have hcz45_1 : wr.cell? ⟨gb101, 1, none⟩ = some (.int .i64 a0_1) := (qC_ BK101.out 1).trans rfl
          have hcz45_2 : wr.cell? ⟨gb101, 2, none⟩ = some (.int .i64 a0_2) := (qC_ BK101.out 2).trans rfl
          have hcz45_3 : wr.cell? ⟨gb101, 3, none⟩ = some (.slice A0_3 l0_3.length c0_3) := (qC_ BK101.out 3).trans rfl
          have hcz45_4 : wr.cell? ⟨gb101, 4, none⟩ = some (.slice A0_4 l0_4.length c0_4) := (qC_ BK101.out 4).trans rfl
          have hfz45_0 := qF_ BK101.out 0
          have hfz45_1 := qF_ BK101.out 1
          have hfz45_2 := qF_ BK101.out 2
          have hfz45_3 := qF_ BK101.out 3
          have hfz45_4 := qF_ BK101.out 4
          go_wp2
          go_loopg [77] k3 (fun kq v77 w' => ∃ (x77_4 : Int), v77 = .int .i64 x77_4 ∧ Aside0 (impl_BoxOK.l1 kq l0_4 (l0_4.length : Int) x77_4 a0_0 a0_1 a0_2 l0_3 l0_4 = some r) ∧ Aside0 (kq ≤ k3) ∧ Aside0 (w'.heap[gb101]? = some (.cells #[.string a0_0, .int .i64 a0_1, .int .i64 a0_2, (.slice A0_3 l0_3.length c0_3), (.slice A0_4 l0_4.length c0_4)] 33 (0, 0))) ∧ Aside0 (Below w.heap.size w w'))
          case atStart => exact ⟨(0), (by first | rfl | (simp; done) | (simp [*]; done)), H', ⟨Nat.le_refl _⟩, ⟨by (with_reducible repeat (first | refine blk_drewN ?_ _ | refine blk_drew ?_ | refine blk_alloc ?_ _)); exact BK101.out⟩, ⟨by repeat (first | (with_reducible first | exact HB.out | apply qA_ | apply qD_ | apply qE_ | refine below_set ?_ GE101.out) | exact HB.out)⟩⟩
          case round =>
           clear H'
           try clear c1
           try clear p1
           try clear q1
           try clear hx1
           try clear c2
           try clear p2
           try clear c3
           try clear c4
           try clear c5
           try clear p6
           try clear c7
           try clear p10
           try clear q10
           try clear hx10
           try clear c12
           try clear c14
           try clear c14b0
           try clear c14b1
           try clear c16
           try clear c16b0
           try clear c16b1
           try clear c19
           try clear c21
           try clear c21b0
           try clear c22
           try clear c22b0
           try clear c23
           try clear c23b0
           try clear c25
           try clear c27
           try clear c28
           try clear c28b0
           try clear c28b1
           try clear c30
           try clear c31
           try clear c34
           try clear c38
           try clear c42
           try clear hcz10_0
           try clear hcz10_1
           try clear hcz10_2
           try clear hcz10_3
           try clear hcz10_4
           try clear hcz11_0
           try clear hcz11_1
           try clear hcz11_2
           try clear hcz11_3
           try clear hcz11_4
           try clear hcz15_0
           try clear hcz15_1
           try clear hcz15_2
           try clear hcz15_3
           try clear hcz15_4
           try clear hcz17_0
           try clear hcz17_1
           try clear hcz17_2
           try clear hcz17_3
           try clear hcz17_4
           try clear hcz18_0
           try clear hcz18_1
           try clear hcz18_2
           try clear hcz18_3
           try clear hcz18_4
           try clear hcz20_0
           try clear hcz20_1
           try clear hcz20_2
           try clear hcz20_3
           try clear hcz20_4
           try clear hcz31_0
           try clear hcz31_1
           try clear hcz31_2
           try clear hcz32_0
           try clear hcz32_1
           try clear hcz32_2
           try clear hcz32_3
           try clear hcz32_4
           try clear hcz35_0
           try clear hcz35_1
           try clear hcz35_2
           try clear hcz36_0
           try clear hcz36_1
           try clear hcz36_2
           try clear hcz36_3
           try clear hcz36_4
           try clear hcz39_0
           try clear hcz39_1
           try clear hcz39_2
           try clear hcz40_0
           try clear hcz40_1
           try clear hcz40_2
           try clear hcz40_3
           try clear hcz40_4
           try clear hcz43_0
           try clear hcz43_1
           try clear hcz43_2
           try clear hcz44_0
           try clear hcz44_1
           try clear hcz44_2
           try clear hcz44_3
           try clear hcz44_4
           try clear hcz45_0
           try clear hcz45_1
           try clear hcz45_2
           try clear hcz45_3
           try clear hcz45_4
           try clear hcz9_0
           try clear hcz9_1
           try clear hcz9_2
           try clear hcz9_3
           try clear hcz9_4
           try clear hfz10_0
           try clear hfz10_1
           try clear hfz10_2
           try clear hfz10_3
           try clear hfz10_4
           try clear hfz11_0
           try clear hfz11_1
           try clear hfz11_2
           try clear hfz11_3
           try clear hfz11_4
           try clear hfz15_0
           try clear hfz15_1
           try clear hfz15_2
           try clear hfz15_3
           try clear hfz15_4
           try clear hfz17_0
           try clear hfz17_1
           try clear hfz17_2
           try clear hfz17_3
           try clear hfz17_4
           try clear hfz18_0
           try clear hfz18_1
           try clear hfz18_2
           try clear hfz18_3
           try clear hfz18_4
           try clear hfz20_0
           try clear hfz20_1
           try clear hfz20_2
           try clear hfz20_3
           try clear hfz20_4
           try clear hfz31_0
           try clear hfz31_1
           try clear hfz31_2
           try clear hfz32_0
           try clear hfz32_1
           try clear hfz32_2
           try clear hfz32_3
           try clear hfz32_4
           try clear hfz35_0
           try clear hfz35_1
           try clear hfz35_2
           try clear hfz36_0
           try clear hfz36_1
           try clear hfz36_2
           try clear hfz36_3
           try clear hfz36_4
           try clear hfz39_0
           try clear hfz39_1
           try clear hfz39_2
           try clear hfz40_0
           try clear hfz40_1
           try clear hfz40_2
           try clear hfz40_3
           try clear hfz40_4
           try clear hfz43_0
           try clear hfz43_1
           try clear hfz43_2
           try clear hfz44_0
           try clear hfz44_1
           try clear hfz44_2
           try clear hfz44_3
           try clear hfz44_4
           try clear hfz45_0
           try clear hfz45_1
           try clear hfz45_2
           try clear hfz45_3
           try clear hfz45_4
           try clear hfz9_0
           try clear hfz9_1
           try clear hfz9_2
           try clear hfz9_3
           try clear hfz9_4
           try clear hx105_0
           try clear hx105_1
           try clear hx105_2
           try clear p105
           try clear p2
           try clear p6
           try clear q105
           obtain ⟨x77_4, rfl, HA, HK4, BK101, HB⟩ := hrel
           cases gk with
           | zero => exact absurd HA.out (by simp [impl_BoxOK.l1])
           | succ k4 =>
            have H := HA.out
            clear HA
            simp only [impl_BoxOK.l1] at H
            by_cases c46 : x77_4 < (l0_4.length : Int)
            ·rw [if_pos c46] at H
             have c46b0 : decide (x77_4 < (l0_4.length : Int)) = true := decide_eq_true c46
             clear c46
             by_cases c47 : 0 ≤ x77_4
             ·rw [if_pos c47] at H
              have c47b0 : decide (0 ≤ x77_4) = true := decide_eq_true c47
              clear c47
              by_cases c48 : x77_4 < (l0_4.length : Int)
              ·rw [if_pos c48] at H
               have c48b0 : decide (x77_4 < (l0_4.length : Int)) = true := decide_eq_true c48
               clear c48
               replace H := Option.bind_eq_some_iff.mp H
               obtain ⟨t110, A490, H⟩ := H
               replace H : (if t110 = true then (if x77_4 ≤ (l0_4.length : Int) then ((slices_Contains_string.f k4 (l0_4.take (x77_4 : Int).toNat) (rdOf ByteArray.empty l0_4 x77_4)).bind fun t112 => (if t112 = true then (some false) else (impl_BoxOK.l1 k4 l0_4 (l0_4.length : Int) (wrap64 (x77_4 + 1)) a0_0 a0_1 a0_2 l0_3 l0_4))) else (none)) else (some false)) = some r := H
               have A49 := qM_ A490
               clear A490
               by_cases c50 : t110 = true
               ·subst c50
                have H1 : (if x77_4 ≤ (l0_4.length : Int) then ((slices_Contains_string.f k4 (l0_4.take (x77_4 : Int).toNat) (rdOf ByteArray.empty l0_4 x77_4)).bind fun t112 => (if t112 = true then (some false) else (impl_BoxOK.l1 k4 l0_4 (l0_4.length : Int) (wrap64 (x77_4 + 1)) a0_0 a0_1 a0_2 l0_3 l0_4))) else (none)) = some r := by rw [if_pos rfl] at H; exact H
                clear H
                have H := H1
                clear H1
                have c51b0 := eq_true (qT_ (by first | (with_reducible assumption) | assumption) : 0 ≤ x77_4)
                by_cases c52 : x77_4 ≤ (l0_4.length : Int)
                ·rw [if_pos c52] at H
                 have c52b0 := eq_true c52
                 have c52b1 : decide (x77_4 ≤ (l0_4.length : Int)) = true := decide_eq_true c52
                 clear c52
                 replace H := Option.bind_eq_some_iff.mp H
                 obtain ⟨t112, A530, H⟩ := H
                 replace H : (if t112 = true then (some false) else (impl_BoxOK.l1 k4 l0_4 (l0_4.length : Int) (wrap64 (x77_4 + 1)) a0_0 a0_1 a0_2 l0_3 l0_4)) = some r := H
                 have A53 := qM_ A530
                 clear A530
                 by_cases c54 : t112 = true
                 ·subst c54
                  have H1 : (some false) = some r := by rw [if_pos rfl] at H; exact H
                  clear H
                  have H := H1
                  clear H1
                  obtain rfl := Option.some.inj H
                  have p109 : 0 ≤ (x77_4 : Int) := qT_ (by first | (with_reducible assumption) | assumption)
                  have q109 : x77_4 < (l0_4.length : Int) := qT_ (by first | (with_reducible assumption) | assumption)
                  obtain ⟨ad109, e109, hx109_0⟩ := Kd.at_string HR0_4.out x77_4 p109 q109
                  cases e109
                  replace hx109_0 := (HB.out.cell (qL_ w _ hx109_0)).trans hx109_0
                  replace p109 := eq_true p109
                  replace q109 := eq_true q109
                  go_wp2_with (first | ((with_reducible refine gate_callee (f := 54) rfl ?_); refine goesL_ (some 83) rfl rfl Try.func54 (by kernel_rfl) rfl #[.string (rdOf ByteArray.empty l0_4 x77_4)] rfl (by (try simp only [List.map_toArray, List.map_cons, List.map_nil]); first | done | rfl | (simp only [List.length_drop, List.length_take]; rfl)) ?_; (with_reducible refine (impl_keyOK.calls (rdOf ByteArray.empty l0_4 x77_4) true _ A49.out).mono ?_); rintro e w' ⟨rfl, ⟨nd, rfl⟩⟩; refine ⟨_, rfl, ?_⟩; have hcz55_0 : wr.cell? ⟨gb101, 0, none⟩ = some (.string a0_0) := (qC_ BK101.out 0).trans rfl; have hcz55_1 : wr.cell? ⟨gb101, 1, none⟩ = some (.int .i64 a0_1) := (qC_ BK101.out 1).trans rfl; have hcz55_2 : wr.cell? ⟨gb101, 2, none⟩ = some (.int .i64 a0_2) := (qC_ BK101.out 2).trans rfl; have hcz55_3 : wr.cell? ⟨gb101, 3, none⟩ = some (.slice A0_3 l0_3.length c0_3) := (qC_ BK101.out 3).trans rfl; have hcz55_4 : wr.cell? ⟨gb101, 4, none⟩ = some (.slice (some ad109) l0_4.length c0_4) := (qC_ BK101.out 4).trans rfl; have hfz55_0 := qF_ BK101.out 0; have hfz55_1 := qF_ BK101.out 1; have hfz55_2 := qF_ BK101.out 2; have hfz55_3 := qF_ BK101.out 3; have hfz55_4 := qF_ BK101.out 4; obtain ⟨i056, hi056, _, hsz56, _⟩ := info_parts info9; obtain ⟨hcut56, hA56, hC56⟩ := print_take_of (P := Try.prog) Value.string (⟨#[]⟩ : ByteArray) 23 9 .i64 Try.underlying23 hi056 hsz56 (some ad109) c0_4 l0_4 x77_4 (qT_ (by first | (with_reducible assumption) | assumption)) (qT_ (by first | (with_reducible assumption) | assumption)) HC0_4.out; have HR111 := qM_ (Kd.C_of_reads (h1 := fun _ => rfl) (hA56 _ (Kd.reads_of_C HR0_4.out))); have HC111 := qM_ hC56; clear hA56 hC56 hi056 hsz56) | (go_at_call 55; refine calls_of_args (args' := #[.slice _ (l0_4.take (x77_4 : Int).toNat).length _, .string (rdOf ByteArray.empty l0_4 x77_4)]) (by first | (rw [show (l0_4.take (x77_4 : Int).toNat).length = x77_4.toNat from (by rw [List.length_take]; have h_ : (x77_4 : Int) ≤ (l0_4.length : Int) := qT_ (by first | (with_reducible assumption) | assumption); omega)] <;> rfl) | rfl) ?_; (with_reducible refine (slices_Contains_string.calls k4 _ _ (l0_4.take (x77_4 : Int).toNat) (rdOf ByteArray.empty l0_4 x77_4) true _ ?side1 ?side2 A53.out).mono ?_); (case side1 => repeat (first | exact (Kd.C_below HR111.out (by repeat (first | (with_reducible first | exact HB.out | apply qA_ | apply qD_ | apply qE_ | refine below_set ?_ GE101.out) | exact HB.out))) | (with_reducible refine Kd.C_alloc ?_ _) | (with_reducible refine Kd.C_drewN ?_ _) | (with_reducible refine Kd.C_drew ?_))); (case side2 => exact HC111.out); rintro e w' ⟨rfl, ⟨nd, rfl⟩⟩))
                  go_ret
                  exact ⟨by first | rfl | (simp [errW_none, errW_some] <;> rfl) | (simp [*, errW_none, errW_some] <;> rfl), by repeat (first | (with_reducible first | exact HB.out | apply qA_ | apply qD_ | apply qE_ | refine below_set ?_ GE101.out) | exact HB.out)⟩
                 ·replace c54 := Bool.eq_false_iff.mpr c54
                  subst c54
                  have H1 : (impl_BoxOK.l1 k4 l0_4 (l0_4.length : Int) (wrap64 (x77_4 + 1)) a0_0 a0_1 a0_2 l0_3 l0_4) = some r := by rw [if_neg (show ¬ (false = true) by decide)] at H; exact H
                  clear H
                  have H := H1
                  clear H1
                  have H' := qM_ H
                  clear H
                  have p109 : 0 ≤ (x77_4 : Int) := qT_ (by first | (with_reducible assumption) | assumption)
                  have q109 : x77_4 < (l0_4.length : Int) := qT_ (by first | (with_reducible assumption) | assumption)
                  obtain ⟨ad109, e109, hx109_0⟩ := Kd.at_string HR0_4.out x77_4 p109 q109
                  cases e109
                  replace hx109_0 := (HB.out.cell (qL_ w _ hx109_0)).trans hx109_0
                  replace p109 := eq_true p109
                  replace q109 := eq_true q109
                  go_wp2_with (first | ((with_reducible refine gate_callee (f := 54) rfl ?_); refine goesL_ (some 83) rfl rfl Try.func54 (by kernel_rfl) rfl #[.string (rdOf ByteArray.empty l0_4 x77_4)] rfl (by (try simp only [List.map_toArray, List.map_cons, List.map_nil]); first | done | rfl | (simp only [List.length_drop, List.length_take]; rfl)) ?_; (with_reducible refine (impl_keyOK.calls (rdOf ByteArray.empty l0_4 x77_4) true _ A49.out).mono ?_); rintro e w' ⟨rfl, ⟨nd, rfl⟩⟩; refine ⟨_, rfl, ?_⟩; have hcz57_0 : wr.cell? ⟨gb101, 0, none⟩ = some (.string a0_0) := (qC_ BK101.out 0).trans rfl; have hcz57_1 : wr.cell? ⟨gb101, 1, none⟩ = some (.int .i64 a0_1) := (qC_ BK101.out 1).trans rfl; have hcz57_2 : wr.cell? ⟨gb101, 2, none⟩ = some (.int .i64 a0_2) := (qC_ BK101.out 2).trans rfl; have hcz57_3 : wr.cell? ⟨gb101, 3, none⟩ = some (.slice A0_3 l0_3.length c0_3) := (qC_ BK101.out 3).trans rfl; have hcz57_4 : wr.cell? ⟨gb101, 4, none⟩ = some (.slice (some ad109) l0_4.length c0_4) := (qC_ BK101.out 4).trans rfl; have hfz57_0 := qF_ BK101.out 0; have hfz57_1 := qF_ BK101.out 1; have hfz57_2 := qF_ BK101.out 2; have hfz57_3 := qF_ BK101.out 3; have hfz57_4 := qF_ BK101.out 4; obtain ⟨i058, hi058, _, hsz58, _⟩ := info_parts info9; obtain ⟨hcut58, hA58, hC58⟩ := print_take_of (P := Try.prog) Value.string (⟨#[]⟩ : ByteArray) 23 9 .i64 Try.underlying23 hi058 hsz58 (some ad109) c0_4 l0_4 x77_4 (qT_ (by first | (with_reducible assumption) | assumption)) (qT_ (by first | (with_reducible assumption) | assumption)) HC0_4.out; have HR111 := qM_ (Kd.C_of_reads (h1 := fun _ => rfl) (hA58 _ (Kd.reads_of_C HR0_4.out))); have HC111 := qM_ hC58; clear hA58 hC58 hi058 hsz58) | (go_at_call 55; refine calls_of_args (args' := #[.slice _ (l0_4.take (x77_4 : Int).toNat).length _, .string (rdOf ByteArray.empty l0_4 x77_4)]) (by first | (rw [show (l0_4.take (x77_4 : Int).toNat).length = x77_4.toNat from (by rw [List.length_take]; have h_ : (x77_4 : Int) ≤ (l0_4.length : Int) := qT_ (by first | (with_reducible assumption) | assumption); omega)] <;> rfl) | rfl) ?_; (with_reducible refine (slices_Contains_string.calls k4 _ _ (l0_4.take (x77_4 : Int).toNat) (rdOf ByteArray.empty l0_4 x77_4) false _ ?side1 ?side2 A53.out).mono ?_); (case side1 => repeat (first | exact (Kd.C_below HR111.out (by repeat (first | (with_reducible first | exact HB.out | apply qA_ | apply qD_ | apply qE_ | refine below_set ?_ GE101.out) | exact HB.out))) | (with_reducible refine Kd.C_alloc ?_ _) | (with_reducible refine Kd.C_drewN ?_ _) | (with_reducible refine Kd.C_drew ?_))); (case side2 => exact HC111.out); rintro e w' ⟨rfl, ⟨nd, rfl⟩⟩))
                  go_roundg k4
                  case measure => have := HJ1.out; have := HJ12.out; have := HK3.out; have := HK4.out; omega
                  case rel => exact ⟨(wrap64 (x77_4 + 1)), (by first | rfl | (simp; done) | (simp [*]; done)), H', ⟨by have := HJ1.out; have := HJ12.out; have := HK3.out; have := HK4.out; omega⟩, ⟨by (with_reducible repeat (first | refine blk_drewN ?_ _ | refine blk_drew ?_ | refine blk_alloc ?_ _)); exact BK101.out⟩, ⟨by repeat (first | (with_reducible first | exact HB.out | apply qA_ | apply qD_ | apply qE_ | refine below_set ?_ GE101.out) | exact HB.out)⟩⟩
                ·rw [if_neg c52] at H
                 exact absurd H (by simp)
               ·replace c50 := Bool.eq_false_iff.mpr c50
                subst c50
                have H1 : (some false) = some r := by rw [if_neg (show ¬ (false = true) by decide)] at H; exact H
                clear H
                have H := H1
                clear H1
                obtain rfl := Option.some.inj H
                have p109 : 0 ≤ (x77_4 : Int) := qT_ (by first | (with_reducible assumption) | assumption)
                have q109 : x77_4 < (l0_4.length : Int) := qT_ (by first | (with_reducible assumption) | assumption)
                obtain ⟨ad109, e109, hx109_0⟩ := Kd.at_string HR0_4.out x77_4 p109 q109
                cases e109
                replace hx109_0 := (HB.out.cell (qL_ w _ hx109_0)).trans hx109_0
                replace p109 := eq_true p109
                replace q109 := eq_true q109
                go_wp2_with (first | ((with_reducible refine gate_callee (f := 54) rfl ?_); refine goesL_ (some 83) rfl rfl Try.func54 (by kernel_rfl) rfl #[.string (rdOf ByteArray.empty l0_4 x77_4)] rfl (by (try simp only [List.map_toArray, List.map_cons, List.map_nil]); first | done | rfl | (simp only [List.length_drop, List.length_take]; rfl)) ?_; (with_reducible refine (impl_keyOK.calls (rdOf ByteArray.empty l0_4 x77_4) false _ A49.out).mono ?_); rintro e w' ⟨rfl, ⟨nd, rfl⟩⟩; refine ⟨_, rfl, ?_⟩))
                go_ret
                exact ⟨by first | rfl | (simp [errW_none, errW_some] <;> rfl) | (simp [*, errW_none, errW_some] <;> rfl), by repeat (first | (with_reducible first | exact HB.out | apply qA_ | apply qD_ | apply qE_ | refine below_set ?_ GE101.out) | exact HB.out)⟩
              ·rw [if_neg c48] at H
               exact absurd H (by simp)
             ·rw [if_neg c47] at H
              exact absurd H (by simp)
            ·rw [if_neg c46] at H
             have c46b0 : decide (x77_4 < (l0_4.length : Int)) = false := decide_eq_false c46
             clear c46
             obtain rfl := Option.some.inj H
             go_wp2
             go_ret
             exact ⟨by first | rfl | (simp [errW_none, errW_some] <;> rfl) | (simp [*, errW_none, errW_some] <;> rfl), by repeat (first | (with_reducible first | exact HB.out | apply qA_ | apply qD_ | apply qE_ | refine below_set ?_ GE101.out) | exact HB.out)⟩


/-! ### slices_IndexFunc_Box: function 58 (a text of mine) -/
def slices_IndexFunc_Box.f (p : S33 → Bool) (l0 : List S33) : Option Int := if l0.length ≤ 9223372036854775807 then some (idxOf p l0) else none
set_option maxHeartbeats 8000000 in
set_option maxRecDepth 100000 in
theorem slices_IndexFunc_Box.calls0 (p : S33 → Bool) (g : Nat) (lb : Array Value) (eg : ∀ args w, (callFunc g args).run Try.prog w = .ok (.enter g args) w) (A0 : Option Addr) (c0 : Nat) (l0 : List S33) (w : World)
  (hp : ∀ (W : World) (i_ : Int) (A3_ : Option Addr) (c3_ : Nat) (A4_ : Option Addr) (c4_ : Nat), 0 ≤ i_ → i_ < (l0.length : Int) → Below w.heap.size w W → Calls Try.prog g (#[.agg #[.string ((rd_T33 l0 i_).f0), .int .i64 ((rd_T33 l0 i_).f1), .int .i64 ((rd_T33 l0 i_).f2), .slice A3_ (rd_T33 l0 i_).f3.length c3_, .slice A4_ (rd_T33 l0 i_).f4.length c4_]] ++ lb) W fun e w' => e = .returned (.bool (p (rd_T33 l0 i_))) ∧ Below w.heap.size w w')
  (hr0 : Kd.C k33 w A0 l0.length l0) (hn0 : l0.length ≤ 9223372036854775807) :
  Calls Try.prog 58 #[.slice A0 l0.length c0, .func (.func g) #[] lb] w fun e w' => e = .returned (.int .i64 (idxOf p l0)) ∧ Below w.heap.size w w' := by
 have hu33 := Try.underlying33
 have HR0 := qM_ hr0
 have HN0 := qM_ hn0
 have HP0 := qM_ hp
 clear hr0 hn0 hp
 go_enter Try.func58, Try.ntmps58
 go_wp2
 go_loopg [5, 8] l0.length (fun gg _ s8 wr => ∃ x5 : Int, s8 = .int .i64 x5 ∧ Aside0 (0 ≤ x5 ∧ x5 ≤ l0.length ∧ l0.length - x5.toNat ≤ gg) ∧ Aside0 (Below w.heap.size w wr) ∧ Aside0 (∀ j, j < x5.toNat → p (l0.getD j z33) = false))
 case atStart => exact ⟨0, rfl, ⟨by omega, by omega, by omega⟩, ⟨Below.refl _ w⟩, ⟨fun j hj => absurd hj (Nat.not_lt_zero _)⟩⟩
 case round =>
  obtain ⟨x5, rfl, HK, HB, HA⟩ := hrel
  by_cases hlt : x5 < (l0.length : Int)
  ·have p101 : 0 ≤ (x5 : Int) := HK.out.1
   have q101 : x5 < (l0.length : Int) := hlt
   have hb5 : wrap64 (x5 + 1) = x5 + 1 := by have := HN0.out; unfold wrap64; omega
   have HW := qM_ hb5
   clear hb5
   obtain ⟨ad101, A3_, c3_, A4_, c4_, e101, hx101_0, hx101_1, hx101_2, hx101_3, hx101_4, hl101_3, hC101_3, hl101_4, hC101_4⟩ := at_T33 HR0.out x5 p101 q101
   cases e101
   replace hx101_0 := (HB.out.cell (qL_ w _ hx101_0)).trans hx101_0
   replace hx101_1 := (HB.out.cell (qL_ w _ hx101_1)).trans hx101_1
   replace hx101_2 := (HB.out.cell (qL_ w _ hx101_2)).trans hx101_2
   replace hx101_3 := (HB.out.cell (qL_ w _ hx101_3)).trans hx101_3
   replace hx101_4 := (HB.out.cell (qL_ w _ hx101_4)).trans hx101_4
   have hcall := HP0.out _ x5 A3_ c3_ A4_ c4_ p101 q101 HB.out
   have hlt' : decide (x5 < (l0.length : Int)) = true := decide_eq_true hlt
   have H1 := qM_ hlt
   clear hlt
   replace p101 := eq_true p101
   replace q101 := eq_true q101
   cases hq : p (rd_T33 l0 x5) with
   | true =>
    rw [hq] at hcall
    have HQ := qM_ hq
    clear hq
    go_wp2_with (go_at_fn g; refine hcall.mono ?_; rintro e w' ⟨rfl, hb'⟩)
    go_ret
    refine ⟨?_, hb'⟩
    rw [idxOf_hit p l0 z33 x5.toNat (by have := HK.out; have := H1.out; omega) HQ.out HA.out, Int.toNat_of_nonneg HK.out.1]
    rfl
   | false =>
    rw [hq] at hcall
    have HQ := qM_ hq
    clear hq
    go_wp2_with (go_at_fn g; refine hcall.mono ?_; rintro e w' ⟨rfl, hb'⟩)
    go_roundg (l0.length - (x5.toNat + 1))
    case measure => have := HK.out; have := H1.out; omega
    case rel =>
     refine ⟨x5 + 1, (by first | rfl | (rw [HW.out]; done) | (simp [HW.out]; done)), ⟨⟨by have := HK.out; omega, by have := H1.out; omega, by have := HK.out; omega⟩⟩, ⟨hb'⟩, ⟨fun j hj => ?_⟩⟩
     by_cases e : j = x5.toNat
     ·subst e; exact HQ.out
     ·exact HA.out j (by have := HK.out; omega)
  ·have hlt' : decide (x5 < (l0.length : Int)) = false := decide_eq_false hlt
   have H1 := qM_ hlt
   clear hlt
   go_wp2
   go_ret
   refine ⟨?_, HB.out⟩
   rw [idxOf_miss p l0 z33 (fun j hj => HA.out j (by have := HK.out; have := H1.out; omega))]
   rfl
theorem slices_IndexFunc_Box.calls (p : S33 → Bool) (g : Nat) (lb : Array Value) (eg : ∀ args w, (callFunc g args).run Try.prog w = .ok (.enter g args) w) (A0 : Option Addr) (c0 : Nat) (l0 : List S33) (w : World)
  (hp : ∀ (W : World) (i_ : Int) (A3_ : Option Addr) (c3_ : Nat) (A4_ : Option Addr) (c4_ : Nat), 0 ≤ i_ → i_ < (l0.length : Int) → Below w.heap.size w W → Calls Try.prog g (#[.agg #[.string ((rd_T33 l0 i_).f0), .int .i64 ((rd_T33 l0 i_).f1), .int .i64 ((rd_T33 l0 i_).f2), .slice A3_ (rd_T33 l0 i_).f3.length c3_, .slice A4_ (rd_T33 l0 i_).f4.length c4_]] ++ lb) W fun e w' => e = .returned (.bool (p (rd_T33 l0 i_))) ∧ Below w.heap.size w w')
  (hr0 : Kd.C k33 w A0 l0.length l0) (hc0 : l0.length ≤ c0) (hn0 : l0.length ≤ 9223372036854775807) :
  Calls Try.prog 58 #[.slice A0 l0.length c0, .func (.func g) #[] lb] w fun e w' => e = .returned (.int .i64 (idxOf p l0)) ∧ Below w.heap.size w w' :=
 slices_IndexFunc_Box.calls0 p g lb eg A0 c0 l0 w hp hr0 hn0


/-! ### impl_boxIndex: function 36 (a text of mine) -/
def impl_boxIndex.f (l0 : List S33) (a1 : ByteArray) : Option Int := if l0.length ≤ 9223372036854775807 then some (idxOf (fun x => x.f0.toList == a1.toList) l0) else none
set_option maxHeartbeats 8000000 in
set_option maxRecDepth 100000 in
theorem boxIndex_in (x : S33) (A3 : Option Addr) (c3 : Nat) (A4 : Option Addr) (c4 : Nat) (s : ByteArray) (b : Nat) (w : World) (hb : w.cell? ⟨b, 0, none⟩ = some (.string s)) :
  Calls Try.prog 59 #[.agg #[.string x.f0, .int .i64 x.f1, .int .i64 x.f2, .slice A3 x.f3.length c3, .slice A4 x.f4.length c4], .pointer (some ⟨b, 0, none⟩)] w fun e w' => e = .returned (.bool (x.f0.toList == s.toList)) ∧ Below w.heap.size w w' := by
 have hu := Try.underlying33
 have hl := qL_ _ _ hb
 have h2 : ∀ o : Obj, (w.alloc o).cell? ⟨b, 0, none⟩ = some (.string s) := fun o => (World.cell?_alloc_lt _ _ _ hl).trans hb
 clear hb
 go_enter Try.func59, Try.ntmps59
 go_wp2
 go_ret
 exact ⟨rfl, qA_ (Below.refl _ _) _⟩
set_option maxHeartbeats 8000000 in
set_option maxRecDepth 100000 in
theorem boxIndex_call (T : Nat) (A0 : Option Addr) (c0 : Nat) (l0 : List S33) (s : ByteArray) (w : World) (hr0 : Kd.C k33 w A0 l0.length l0) (hn : l0.length ≤ 9223372036854775807) :
  Calls Try.prog 58 #[.slice A0 l0.length c0, .func (.func 59) #[] #[.pointer (some ⟨w.heap.size, 0, none⟩)]] (w.alloc (.cells #[.string s] T))
   fun e w' => e = .returned (.int .i64 (idxOf (fun x => x.f0.toList == s.toList) l0)) ∧ Below w.heap.size w w' := by
 have c1 : (w.alloc (.cells #[.string s] T)).cell? ⟨w.heap.size, 0, none⟩ = some (.string s) := (qC_ (heap_alloc_new w _) 0).trans rfl
 have hbw : Below w.heap.size w (w.alloc (.cells #[.string s] T)) := qA_ (Below.refl _ _) _
 refine (slices_IndexFunc_Box.calls0 (fun x => x.f0.toList == s.toList) 59 #[.pointer (some ⟨w.heap.size, 0, none⟩)] (enters_ Try.func59 (by kernel_rfl) rfl) A0 c0 l0 _ (fun W i_ A3 c3 A4 c4 h0_ h1_ hB_ => ?_) (Kd.C_alloc hr0 _) hn).mono (fun e w' ⟨he, hb⟩ => ⟨he, below_step hbw hb⟩)
 exact (boxIndex_in (rd_T33 l0 i_) A3 c3 A4 c4 s w.heap.size W ((hB_.cell (qL_ _ _ c1)).trans c1)).mono (fun e w' ⟨he, hb⟩ => ⟨he, below_step hB_ hb⟩)
set_option maxHeartbeats 8000000 in
set_option maxRecDepth 100000 in
theorem impl_boxIndex.calls (A0 : Option Addr) (c0 : Nat) (l0 : List S33) (a1 : ByteArray) (r : Int) (w : World) (hr0 : Kd.C k33 w A0 l0.length l0) (hc0 : l0.length ≤ c0) (h : impl_boxIndex.f l0 a1 = some r) :
  Calls Try.prog 36 #[.slice A0 l0.length c0, .string a1] w fun e w' => e = .returned (.int .i64 r) ∧ Below w.heap.size w w' := by
 unfold impl_boxIndex.f at h
 split at h
 ·rename_i hn
  obtain rfl := Option.some.inj h
  clear h hc0
  have HR := qM_ hr0
  have HN := qM_ hn
  clear hr0 hn
  go_enter Try.func36, Try.ntmps36
  go_wp2_with (go_at_call 58; refine (boxIndex_call _ A0 c0 l0 a1 w HR.out HN.out).mono ?_; rintro e w' ⟨rfl, hb⟩)
  go_ret
  exact ⟨rfl, hb⟩
 ·cases h

end Go.Proofs.Ytjaedjcdgeikpaa.P
