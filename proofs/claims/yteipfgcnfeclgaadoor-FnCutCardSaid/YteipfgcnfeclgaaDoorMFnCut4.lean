/- Part 4 of what the law FnCut stands on; the last part ends with the law's row. No condition of mine. -/
import Derived.Test.YteipfgcnfeclgaaDoorMFnCut1
import Derived.Test.YteipfgcnfeclgaaDoorMFnCut2
import Derived.Test.YteipfgcnfeclgaaDoorMFnCut3
import Derived.Lib.Strings
import Derived.Lib.IndexBytes
import Derived.Laws.BitsLemmas
import Derived.IntWalk
import Derived.Lib.SpaceUEq
import Derived.Lib.ValidU
namespace Go.Proofs.YteipfgcnfeclgaaDoor.P
open Go.RowKit Go.Proofs.YteipfgcnfeclgaaDoorW.PrintWords Go.Proofs.YteipfgcnfeclgaaDoorW.PrintLast Go.Proofs.YteipfgcnfeclgaaDoorW.PrintMore
attribute [local go_sem] max2_int min2_int max_two min_two max_three min_three max_four min_four   -- for this text's walks alone
set_option linter.unusedVariables false
set_option linter.unusedSimpArgs false

/-! ### laws_FnCut: function 3 -/
def laws_FnCut.j0 : Nat → List Int → List Int → Bool → Option (Bool)
 | 0, _, _, _ => none
 | k + 1, x0, x1, x18 => if x18 = true then (some true) else ((spec_TextOf.f k x0).bind fun t101 => ((laws_at.f x1 0 30).bind fun t102 => ((impl_CutRunes.f k t101 t102).bind fun bt103 => ((spec_CutRunes.f k t101 t102).bind fun bt105 => (if bt103.2 = 0 then (if bt103.1.toList = bt105.1.toList then (if (bt103.1.size : Int) > t102 then (some false) else (if (bt103.1.size : Int) > (t101.size : Int) then (some false) else (if 0 ≤ (bt103.1.size : Int) then (if (bt103.1.size : Int) ≤ (t101.size : Int) then (if (t101.extract 0 ((bt103.1.size : Int) : Int).toNat).toList = bt103.1.toList then ((impl_ValidText.f bt103.1).bind fun t107 => (if t107 = true then (if bt103.1.toList = t101.toList then (some true) else (some (decide ((wrap64 ((bt103.1.size : Int) + 4)) > t102)))) else (some false))) else (some false)) else (none)) else (none)))) else (some false)) else (some false))))))
def laws_FnCut.f (k : Nat) (l0 : List Int) (l1 : List Int) : Option (Bool) := if (l0.length : Int) > 1048576 then (laws_FnCut.j0 k l0 l1 true) else (laws_FnCut.j0 k l0 l1 (decide ((l1.length : Int) > 1048576)))
theorem laws_FnCut.mono_l : ∀ k, (∀ y0 y1 y2, LeO (laws_FnCut.j0 k y0 y1 y2) (laws_FnCut.j0 (k + 1) y0 y1 y2))
 | 0 => fun _ _ _ r h => by simp [laws_FnCut.j0] at h
 | k + 1 => by
  have ih0 := laws_FnCut.mono_l k
  ·intro y0 y1 y2
   unfold laws_FnCut.j0
   repeat' first
   | (with_reducible exact ih0 _ _ _)
   | (with_reducible exact impl_CutRunes.mono _ _ _)
   | (with_reducible exact spec_CutRunes.mono _ _ _)
   | (with_reducible exact spec_TextOf.mono _ _)
   | (with_reducible exact LeO.refl _)
   | (with_reducible exact LeO.none _)
   | (with_reducible refine LeO.ite ?_ ?_)
   | (with_reducible refine LeO.bind ?_ (fun _ => ?_))
   | exact ih0 _ _ _
   | exact impl_CutRunes.mono _ _ _
   | exact spec_CutRunes.mono _ _ _
   | exact spec_TextOf.mono _ _
   | exact LeO.none _
   | refine LeO.ite ?_ ?_
   | refine LeO.bind ?_ (fun _ => ?_)
theorem laws_FnCut.mono : ∀ a0 a1 k, LeO (laws_FnCut.f k a0 a1) (laws_FnCut.f (k + 1) a0 a1) := by
 intro a0 a1 k
 have ih0 := laws_FnCut.mono_l k
 unfold laws_FnCut.f
 repeat' first
   | (with_reducible exact ih0 _ _ _)
   | (with_reducible exact impl_CutRunes.mono _ _ _)
   | (with_reducible exact spec_CutRunes.mono _ _ _)
   | (with_reducible exact spec_TextOf.mono _ _)
   | (with_reducible exact LeO.refl _)
   | (with_reducible exact LeO.none _)
   | (with_reducible refine LeO.ite ?_ ?_)
   | (with_reducible refine LeO.bind ?_ (fun _ => ?_))
   | exact ih0 _ _ _
   | exact impl_CutRunes.mono _ _ _
   | exact spec_CutRunes.mono _ _ _
   | exact spec_TextOf.mono _ _
   | exact LeO.none _
   | refine LeO.ite ?_ ?_
   | refine LeO.bind ?_ (fun _ => ?_)
set_option maxHeartbeats 8000000 in
set_option maxRecDepth 100000 in
theorem laws_FnCut.calls (k : Nat) (A0 : Option Addr) (c0 : Nat) (l0 : List Int) (A1 : Option Addr) (c1 : Nat) (l1 : List Int) (r : Bool) (w : World) (hr0 : Kd.C (Kd.int .u8) w A0 l0.length l0) (hc0 : l0.length ≤ c0) (hr1 : Kd.C (Kd.int .u8) w A1 l1.length l1) (hc1 : l1.length ≤ c1) (hGWu : GWu w) (h : laws_FnCut.f k l0 l1 = some r) :
  Calls Tryd.prog 3 #[.slice A0 l0.length c0, .slice A1 l1.length c1] w fun e w' => e = .returned (.bool r) ∧ Below w.heap.size w w' := by
 have HGWu := Aside0.mk hGWu
 clear hGWu
 have HR0 := Aside0.mk hr0
 have HC0 := Aside0.mk hc0
 clear hr0 hc0
 have HR1 := Aside0.mk hr1
 have HC1 := Aside0.mk hc1
 clear hr1 hc1
 have HB := Aside0.mk (Below.refl w.heap.size w)
 have H : (if (l0.length : Int) > 1048576 then (laws_FnCut.j0 k l0 l1 true) else (laws_FnCut.j0 k l0 l1 (decide ((l1.length : Int) > 1048576)))) = some r := h
 clear h
 have HC3 := Aside0.mk H
 clear H
 go_enter Tryd.func3, Tryd.ntmps3
 go_upto_region 1 with (fail)
 go_cut [18] (fun v18 wc => ∃ (kq : Nat) (x18_2 : Bool), v18 = .bool x18_2 ∧ Aside0 (laws_FnCut.j0 kq l0 l1 x18_2 = some r) ∧ Aside0 (kq ≤ k) ∧ Aside0 (Below w.heap.size w wc))
 case first =>
  have H := HC3.out
  clear HC3
  by_cases c4 : (l0.length : Int) > 1048576
  ·rw [if_pos c4] at H
   have c4b0 : decide (1048576 < (l0.length : Int)) = true := decide_eq_true c4
   have c4b1 : decide (1048576 < l0.length) = true := decide_eq_true (by omega)
   clear c4
   (first | rw [c4b0] | (simp only [i64_w, i32_w]; rw [c4b0]) | skip)
   have H' := Aside0.mk H
   clear H
   go_wp2
   go_meet
   case rel => exact ⟨_, (true), (by first | rfl | (simp; done) | (simp [*]; done)), H', ⟨by first | omega | exact Nat.le_refl _⟩, ⟨by repeat (first | (with_reducible first | exact HB.out | apply below_alloc | apply pw_below_drewN | apply below_drew1) | exact HB.out)⟩⟩
  ·rw [if_neg c4] at H
   have c4b0 : decide (1048576 < (l0.length : Int)) = false := decide_eq_false c4
   have c4b1 : decide (1048576 < l0.length) = false := decide_eq_false (by omega)
   clear c4
   (first | rw [c4b0] | (simp only [i64_w, i32_w]; rw [c4b0]) | skip)
   have H' := Aside0.mk H
   clear H
   go_wp2
   go_meet
   case rel => exact ⟨_, (decide ((l1.length : Int) > 1048576)), (by first | rfl | (simp; done) | (simp [*]; done)), H', ⟨by first | omega | exact Nat.le_refl _⟩, ⟨by repeat (first | (with_reducible first | exact HB.out | apply below_alloc | apply pw_below_drewN | apply below_drew1) | exact HB.out)⟩⟩
 case rest =>
  clear HC3
  try clear c1
  try clear p2
  try clear c3
  try clear c4
  try clear c4b0
  try clear c4b1
  obtain ⟨kq, x18_2, rfl, HA, HJ2, HB⟩ := hcut
  cases kq with
  | zero => exact absurd HA.out (by simp [laws_FnCut.j0])
  | succ kj2 =>
   have H := HA.out
   clear HA
   simp only [laws_FnCut.j0] at H
   by_cases c5 : x18_2 = true
   ·subst c5
    have H1 : (some true) = some r := by rw [if_pos rfl] at H; exact H
    clear H
    have H := H1
    clear H1
    obtain rfl := Option.some.inj H
    go_wp2
    go_ret
    exact ⟨by first | rfl | (simp [errW_none, errW_some] <;> rfl) | (simp [*, errW_none, errW_some] <;> rfl), by repeat (first | (with_reducible first | exact HB.out | apply below_alloc | apply pw_below_drewN | apply below_drew1) | exact HB.out)⟩
   ·replace c5 := Bool.eq_false_iff.mpr c5
    subst c5
    have H1 : ((spec_TextOf.f kj2 l0).bind fun t101 => ((laws_at.f l1 0 30).bind fun t102 => ((impl_CutRunes.f kj2 t101 t102).bind fun bt103 => ((spec_CutRunes.f kj2 t101 t102).bind fun bt105 => (if bt103.2 = 0 then (if bt103.1.toList = bt105.1.toList then (if (bt103.1.size : Int) > t102 then (some false) else (if (bt103.1.size : Int) > (t101.size : Int) then (some false) else (if 0 ≤ (bt103.1.size : Int) then (if (bt103.1.size : Int) ≤ (t101.size : Int) then (if (t101.extract 0 ((bt103.1.size : Int) : Int).toNat).toList = bt103.1.toList then ((impl_ValidText.f bt103.1).bind fun t107 => (if t107 = true then (if bt103.1.toList = t101.toList then (some true) else (some (decide ((wrap64 ((bt103.1.size : Int) + 4)) > t102)))) else (some false))) else (some false)) else (none)) else (none)))) else (some false)) else (some false)))))) = some r := by rw [if_neg (show ¬ (false = true) by decide)] at H; exact H
    clear H
    have H := H1
    clear H1
    replace H := Option.bind_eq_some_iff.mp H
    obtain ⟨t101, A60, H⟩ := H
    replace H : ((laws_at.f l1 0 30).bind fun t102 => ((impl_CutRunes.f kj2 t101 t102).bind fun bt103 => ((spec_CutRunes.f kj2 t101 t102).bind fun bt105 => (if bt103.2 = 0 then (if bt103.1.toList = bt105.1.toList then (if (bt103.1.size : Int) > t102 then (some false) else (if (bt103.1.size : Int) > (t101.size : Int) then (some false) else (if 0 ≤ (bt103.1.size : Int) then (if (bt103.1.size : Int) ≤ (t101.size : Int) then (if (t101.extract 0 ((bt103.1.size : Int) : Int).toNat).toList = bt103.1.toList then ((impl_ValidText.f bt103.1).bind fun t107 => (if t107 = true then (if bt103.1.toList = t101.toList then (some true) else (some (decide ((wrap64 ((bt103.1.size : Int) + 4)) > t102)))) else (some false))) else (some false)) else (none)) else (none)))) else (some false)) else (some false))))) = some r := H
    have A6 := Aside0.mk A60
    clear A60
    replace H := Option.bind_eq_some_iff.mp H
    obtain ⟨t102, A70, H⟩ := H
    replace H : ((impl_CutRunes.f kj2 t101 t102).bind fun bt103 => ((spec_CutRunes.f kj2 t101 t102).bind fun bt105 => (if bt103.2 = 0 then (if bt103.1.toList = bt105.1.toList then (if (bt103.1.size : Int) > t102 then (some false) else (if (bt103.1.size : Int) > (t101.size : Int) then (some false) else (if 0 ≤ (bt103.1.size : Int) then (if (bt103.1.size : Int) ≤ (t101.size : Int) then (if (t101.extract 0 ((bt103.1.size : Int) : Int).toNat).toList = bt103.1.toList then ((impl_ValidText.f bt103.1).bind fun t107 => (if t107 = true then (if bt103.1.toList = t101.toList then (some true) else (some (decide ((wrap64 ((bt103.1.size : Int) + 4)) > t102)))) else (some false))) else (some false)) else (none)) else (none)))) else (some false)) else (some false)))) = some r := H
    have A7 := Aside0.mk A70
    clear A70
    replace H := Option.bind_eq_some_iff.mp H
    obtain ⟨⟨t103, t104⟩, A80, H⟩ := H
    replace H : ((spec_CutRunes.f kj2 t101 t102).bind fun bt105 => (if t104 = 0 then (if t103.toList = bt105.1.toList then (if (t103.size : Int) > t102 then (some false) else (if (t103.size : Int) > (t101.size : Int) then (some false) else (if 0 ≤ (t103.size : Int) then (if (t103.size : Int) ≤ (t101.size : Int) then (if (t101.extract 0 ((t103.size : Int) : Int).toNat).toList = t103.toList then ((impl_ValidText.f t103).bind fun t107 => (if t107 = true then (if t103.toList = t101.toList then (some true) else (some (decide ((wrap64 ((t103.size : Int) + 4)) > t102)))) else (some false))) else (some false)) else (none)) else (none)))) else (some false)) else (some false))) = some r := H
    have A8 := Aside0.mk A80
    clear A80
    replace H := Option.bind_eq_some_iff.mp H
    obtain ⟨⟨t105, t106⟩, A90, H⟩ := H
    replace H : (if t104 = 0 then (if t103.toList = t105.toList then (if (t103.size : Int) > t102 then (some false) else (if (t103.size : Int) > (t101.size : Int) then (some false) else (if 0 ≤ (t103.size : Int) then (if (t103.size : Int) ≤ (t101.size : Int) then (if (t101.extract 0 ((t103.size : Int) : Int).toNat).toList = t103.toList then ((impl_ValidText.f t103).bind fun t107 => (if t107 = true then (if t103.toList = t101.toList then (some true) else (some (decide ((wrap64 ((t103.size : Int) + 4)) > t102)))) else (some false))) else (some false)) else (none)) else (none)))) else (some false)) else (some false)) = some r := H
    have A9 := Aside0.mk A90
    clear A90
    by_cases c10 : t104 = 0
    ·rw [if_pos c10] at H
     have c10b0 : (t104 == 0) = true := beq_iff_eq.mpr c10
     have c10b1 : (t104 != 0) = false := bne_eq_false_iff_eq.mpr c10
     clear c10
     by_cases c11 : t103.toList = t105.toList
     ·rw [if_pos c11] at H
      have c11b0 : (t103.toList == t105.toList) = true := beq_iff_eq.mpr c11
      have c11b1 : (t103.toList != t105.toList) = false := bne_eq_false_iff_eq.mpr c11
      clear c11
      by_cases c12 : (t103.size : Int) > t102
      ·rw [if_pos c12] at H
       have c12b0 : decide (t102 < (t103.size : Int)) = true := decide_eq_true c12
       clear c12
       obtain rfl := Option.some.inj H
       go_wp2_with (first | ((with_reducible refine gate_callee (f := 5) rfl ?_); refine goesL_ (some 20) rfl rfl Tryd.func5 (by kernel_rfl) rfl #[.slice A0 l0.length c0] rfl (by (try simp only [List.map_toArray, List.map_cons, List.map_nil]); first | done | rfl | (simp only [List.length_drop, List.length_take]; rfl)) ?_; (with_reducible refine (spec_TextOf.calls kj2 _ _ l0 t101 _ ?side1 ?side2 A6.out).mono ?_); (case side1 => repeat (first | exact (Kd.C_below HR0.out HB.out) | (with_reducible refine Kd.C_alloc ?_ _) | (with_reducible refine Kd.C_drewN ?_ _) | (with_reducible refine Kd.C_drew ?_))); (case side2 => exact HC0.out); rintro e w13 ⟨rfl, hb⟩; refine ⟨_, rfl, ?_⟩; have n0_ := Aside0.mk (below_step (by repeat (first | (with_reducible first | exact HB.out | apply below_alloc | apply pw_below_drewN | apply below_drew1) | exact HB.out)) hb); clear HB; have HB := n0_; clear n0_; (try clear hb); (try clear hb2); (try clear hk); (try clear hi)) | ((with_reducible refine gate_callee (f := 6) rfl ?_); refine goesL_ (some 22) rfl rfl Tryd.func6 (by kernel_rfl) rfl #[.slice A1 l1.length c1, .int .i64 0, .int .i64 30] rfl (by (try simp only [List.map_toArray, List.map_cons, List.map_nil]); first | done | rfl | (simp only [List.length_drop, List.length_take]; rfl)) ?_; (with_reducible refine (laws_at.calls _ _ l1 0 30 t102 _ ?side1 ?side2 A7.out).mono ?_); (case side1 => repeat (first | exact (Kd.C_below HR1.out HB.out) | (with_reducible refine Kd.C_alloc ?_ _) | (with_reducible refine Kd.C_drewN ?_ _) | (with_reducible refine Kd.C_drew ?_))); (case side2 => exact HC1.out); rintro e w' ⟨rfl, ⟨nd, rfl⟩⟩; refine ⟨_, rfl, ?_⟩) | ((with_reducible refine gate_callee (f := 7) rfl ?_); refine goesL_ (some 26) rfl rfl Tryd.func7 (by kernel_rfl) rfl #[.string t101, .int .i64 t102] rfl (by (try simp only [List.map_toArray, List.map_cons, List.map_nil]); first | done | rfl | (simp only [List.length_drop, List.length_take]; rfl)) ?_; (with_reducible refine (impl_CutRunes.calls kj2 t101 t102 t103 t104 _ (GWu.below HGWu.out (by repeat (first | (with_reducible first | exact HB.out | apply below_alloc | apply pw_below_drewN | apply below_drew1) | exact HB.out))) A8.out).mono ?_); rintro e w14 ⟨rfl, hb⟩; refine ⟨_, rfl, ?_⟩; have n0_ := Aside0.mk (below_step (by repeat (first | (with_reducible first | exact HB.out | apply below_alloc | apply pw_below_drewN | apply below_drew1) | exact HB.out)) hb); clear HB; have HB := n0_; clear n0_; (try clear hb); (try clear hb2); (try clear hk); (try clear hi)) | ((with_reducible refine gate_callee (f := 8) rfl ?_); refine goesL_ (some 32) rfl rfl Tryd.func8 (by kernel_rfl) rfl #[.string t101, .int .i64 t102] rfl (by (try simp only [List.map_toArray, List.map_cons, List.map_nil]); first | done | rfl | (simp only [List.length_drop, List.length_take]; rfl)) ?_; (with_reducible refine (spec_CutRunes.calls kj2 t101 t102 t105 t106 _ A9.out).mono ?_); rintro e w' ⟨rfl, ⟨nd, rfl⟩⟩; refine ⟨_, rfl, ?_⟩))
       go_ret
       exact ⟨by first | rfl | (simp [errW_none, errW_some] <;> rfl) | (simp [*, errW_none, errW_some] <;> rfl), by repeat (first | (with_reducible first | exact HB.out | apply below_alloc | apply pw_below_drewN | apply below_drew1) | exact HB.out)⟩
      ·rw [if_neg c12] at H
       have c12b0 : decide (t102 < (t103.size : Int)) = false := decide_eq_false c12
       clear c12
       by_cases c15 : (t103.size : Int) > (t101.size : Int)
       ·rw [if_pos c15] at H
        have c15b0 : decide ((t101.size : Int) < (t103.size : Int)) = true := decide_eq_true c15
        have c15b1 : decide (t101.size < t103.size) = true := decide_eq_true (Int.ofNat_lt.mp c15)
        clear c15
        obtain rfl := Option.some.inj H
        go_wp2_with (first | ((with_reducible refine gate_callee (f := 5) rfl ?_); refine goesL_ (some 20) rfl rfl Tryd.func5 (by kernel_rfl) rfl #[.slice A0 l0.length c0] rfl (by (try simp only [List.map_toArray, List.map_cons, List.map_nil]); first | done | rfl | (simp only [List.length_drop, List.length_take]; rfl)) ?_; (with_reducible refine (spec_TextOf.calls kj2 _ _ l0 t101 _ ?side1 ?side2 A6.out).mono ?_); (case side1 => repeat (first | exact (Kd.C_below HR0.out HB.out) | (with_reducible refine Kd.C_alloc ?_ _) | (with_reducible refine Kd.C_drewN ?_ _) | (with_reducible refine Kd.C_drew ?_))); (case side2 => exact HC0.out); rintro e w16 ⟨rfl, hb⟩; refine ⟨_, rfl, ?_⟩; have n0_ := Aside0.mk (below_step (by repeat (first | (with_reducible first | exact HB.out | apply below_alloc | apply pw_below_drewN | apply below_drew1) | exact HB.out)) hb); clear HB; have HB := n0_; clear n0_; (try clear hb); (try clear hb2); (try clear hk); (try clear hi)) | ((with_reducible refine gate_callee (f := 6) rfl ?_); refine goesL_ (some 22) rfl rfl Tryd.func6 (by kernel_rfl) rfl #[.slice A1 l1.length c1, .int .i64 0, .int .i64 30] rfl (by (try simp only [List.map_toArray, List.map_cons, List.map_nil]); first | done | rfl | (simp only [List.length_drop, List.length_take]; rfl)) ?_; (with_reducible refine (laws_at.calls _ _ l1 0 30 t102 _ ?side1 ?side2 A7.out).mono ?_); (case side1 => repeat (first | exact (Kd.C_below HR1.out HB.out) | (with_reducible refine Kd.C_alloc ?_ _) | (with_reducible refine Kd.C_drewN ?_ _) | (with_reducible refine Kd.C_drew ?_))); (case side2 => exact HC1.out); rintro e w' ⟨rfl, ⟨nd, rfl⟩⟩; refine ⟨_, rfl, ?_⟩) | ((with_reducible refine gate_callee (f := 7) rfl ?_); refine goesL_ (some 26) rfl rfl Tryd.func7 (by kernel_rfl) rfl #[.string t101, .int .i64 t102] rfl (by (try simp only [List.map_toArray, List.map_cons, List.map_nil]); first | done | rfl | (simp only [List.length_drop, List.length_take]; rfl)) ?_; (with_reducible refine (impl_CutRunes.calls kj2 t101 t102 t103 t104 _ (GWu.below HGWu.out (by repeat (first | (with_reducible first | exact HB.out | apply below_alloc | apply pw_below_drewN | apply below_drew1) | exact HB.out))) A8.out).mono ?_); rintro e w17 ⟨rfl, hb⟩; refine ⟨_, rfl, ?_⟩; have n0_ := Aside0.mk (below_step (by repeat (first | (with_reducible first | exact HB.out | apply below_alloc | apply pw_below_drewN | apply below_drew1) | exact HB.out)) hb); clear HB; have HB := n0_; clear n0_; (try clear hb); (try clear hb2); (try clear hk); (try clear hi)) | ((with_reducible refine gate_callee (f := 8) rfl ?_); refine goesL_ (some 32) rfl rfl Tryd.func8 (by kernel_rfl) rfl #[.string t101, .int .i64 t102] rfl (by (try simp only [List.map_toArray, List.map_cons, List.map_nil]); first | done | rfl | (simp only [List.length_drop, List.length_take]; rfl)) ?_; (with_reducible refine (spec_CutRunes.calls kj2 t101 t102 t105 t106 _ A9.out).mono ?_); rintro e w' ⟨rfl, ⟨nd, rfl⟩⟩; refine ⟨_, rfl, ?_⟩))
        go_ret
        exact ⟨by first | rfl | (simp [errW_none, errW_some] <;> rfl) | (simp [*, errW_none, errW_some] <;> rfl), by repeat (first | (with_reducible first | exact HB.out | apply below_alloc | apply pw_below_drewN | apply below_drew1) | exact HB.out)⟩
       ·rw [if_neg c15] at H
        have c15b0 : decide ((t101.size : Int) < (t103.size : Int)) = false := decide_eq_false c15
        have c15b1 : decide (t101.size < t103.size) = false := decide_eq_false (fun h => c15 (Int.ofNat_lt.mpr h))
        clear c15
        by_cases c18 : 0 ≤ (t103.size : Int)
        ·rw [if_pos c18] at H
         have c18b0 := eq_true c18
         have c18b1 : decide (0 ≤ (t103.size : Int)) = true := decide_eq_true c18
         clear c18
         by_cases c19 : (t103.size : Int) ≤ (t101.size : Int)
         ·rw [if_pos c19] at H
          have c19b0 := eq_true c19
          have c19b1 : decide ((t103.size : Int) ≤ (t101.size : Int)) = true := decide_eq_true c19
          clear c19
          by_cases c20 : (t101.extract 0 ((t103.size : Int) : Int).toNat).toList = t103.toList
          ·rw [if_pos c20] at H
           have c20b0 : ((t101.extract 0 ((t103.size : Int) : Int).toNat).toList == t103.toList) = true := beq_iff_eq.mpr c20
           have c20b1 : ((t101.extract 0 ((t103.size : Int) : Int).toNat).toList != t103.toList) = false := bne_eq_false_iff_eq.mpr c20
           try (have c20x0 := c20b0; simp only [ByteArray.size_extract, Nat.min_self, Nat.sub_zero, Int.toNat_natCast] at c20x0)
           try (have c20x1 := c20b1; simp only [ByteArray.size_extract, Nat.min_self, Nat.sub_zero, Int.toNat_natCast] at c20x1)
           clear c20
           replace H := Option.bind_eq_some_iff.mp H
           obtain ⟨t107, A210, H⟩ := H
           replace H : (if t107 = true then (if t103.toList = t101.toList then (some true) else (some (decide ((wrap64 ((t103.size : Int) + 4)) > t102)))) else (some false)) = some r := H
           have A21 := Aside0.mk A210
           clear A210
           by_cases c22 : t107 = true
           ·subst c22
            have H1 : (if t103.toList = t101.toList then (some true) else (some (decide ((wrap64 ((t103.size : Int) + 4)) > t102)))) = some r := by rw [if_pos rfl] at H; exact H
            clear H
            have H := H1
            clear H1
            by_cases c23 : t103.toList = t101.toList
            ·rw [if_pos c23] at H
             have c23b0 : (t103.toList == t101.toList) = true := beq_iff_eq.mpr c23
             have c23b1 : (t103.toList != t101.toList) = false := bne_eq_false_iff_eq.mpr c23
             clear c23
             obtain rfl := Option.some.inj H
             go_wp2_with (first | ((with_reducible refine gate_callee (f := 5) rfl ?_); refine goesL_ (some 20) rfl rfl Tryd.func5 (by kernel_rfl) rfl #[.slice A0 l0.length c0] rfl (by (try simp only [List.map_toArray, List.map_cons, List.map_nil]); first | done | rfl | (simp only [List.length_drop, List.length_take]; rfl)) ?_; (with_reducible refine (spec_TextOf.calls kj2 _ _ l0 t101 _ ?side1 ?side2 A6.out).mono ?_); (case side1 => repeat (first | exact (Kd.C_below HR0.out HB.out) | (with_reducible refine Kd.C_alloc ?_ _) | (with_reducible refine Kd.C_drewN ?_ _) | (with_reducible refine Kd.C_drew ?_))); (case side2 => exact HC0.out); rintro e w24 ⟨rfl, hb⟩; refine ⟨_, rfl, ?_⟩; have n0_ := Aside0.mk (below_step (by repeat (first | (with_reducible first | exact HB.out | apply below_alloc | apply pw_below_drewN | apply below_drew1) | exact HB.out)) hb); clear HB; have HB := n0_; clear n0_; (try clear hb); (try clear hb2); (try clear hk); (try clear hi)) | ((with_reducible refine gate_callee (f := 6) rfl ?_); refine goesL_ (some 22) rfl rfl Tryd.func6 (by kernel_rfl) rfl #[.slice A1 l1.length c1, .int .i64 0, .int .i64 30] rfl (by (try simp only [List.map_toArray, List.map_cons, List.map_nil]); first | done | rfl | (simp only [List.length_drop, List.length_take]; rfl)) ?_; (with_reducible refine (laws_at.calls _ _ l1 0 30 t102 _ ?side1 ?side2 A7.out).mono ?_); (case side1 => repeat (first | exact (Kd.C_below HR1.out HB.out) | (with_reducible refine Kd.C_alloc ?_ _) | (with_reducible refine Kd.C_drewN ?_ _) | (with_reducible refine Kd.C_drew ?_))); (case side2 => exact HC1.out); rintro e w' ⟨rfl, ⟨nd, rfl⟩⟩; refine ⟨_, rfl, ?_⟩) | ((with_reducible refine gate_callee (f := 7) rfl ?_); refine goesL_ (some 26) rfl rfl Tryd.func7 (by kernel_rfl) rfl #[.string t101, .int .i64 t102] rfl (by (try simp only [List.map_toArray, List.map_cons, List.map_nil]); first | done | rfl | (simp only [List.length_drop, List.length_take]; rfl)) ?_; (with_reducible refine (impl_CutRunes.calls kj2 t101 t102 t103 t104 _ (GWu.below HGWu.out (by repeat (first | (with_reducible first | exact HB.out | apply below_alloc | apply pw_below_drewN | apply below_drew1) | exact HB.out))) A8.out).mono ?_); rintro e w25 ⟨rfl, hb⟩; refine ⟨_, rfl, ?_⟩; have n0_ := Aside0.mk (below_step (by repeat (first | (with_reducible first | exact HB.out | apply below_alloc | apply pw_below_drewN | apply below_drew1) | exact HB.out)) hb); clear HB; have HB := n0_; clear n0_; (try clear hb); (try clear hb2); (try clear hk); (try clear hi)) | ((with_reducible refine gate_callee (f := 8) rfl ?_); refine goesL_ (some 32) rfl rfl Tryd.func8 (by kernel_rfl) rfl #[.string t101, .int .i64 t102] rfl (by (try simp only [List.map_toArray, List.map_cons, List.map_nil]); first | done | rfl | (simp only [List.length_drop, List.length_take]; rfl)) ?_; (with_reducible refine (spec_CutRunes.calls kj2 t101 t102 t105 t106 _ A9.out).mono ?_); rintro e w' ⟨rfl, ⟨nd, rfl⟩⟩; refine ⟨_, rfl, ?_⟩) | (go_at_call 9; (with_reducible refine (impl_ValidText.calls t103 true _ (GWu.below HGWu.out (by repeat (first | (with_reducible first | exact HB.out | apply below_alloc | apply pw_below_drewN | apply below_drew1) | exact HB.out))) A21.out).mono ?_); rintro e w26 ⟨rfl, hb⟩; have n0_ := Aside0.mk (below_step (by repeat (first | (with_reducible first | exact HB.out | apply below_alloc | apply pw_below_drewN | apply below_drew1) | exact HB.out)) hb); clear HB; have HB := n0_; clear n0_; (try clear hb); (try clear hb2); (try clear hk); (try clear hi)))
             go_ret
             exact ⟨by first | rfl | (simp [errW_none, errW_some] <;> rfl) | (simp [*, errW_none, errW_some] <;> rfl), by repeat (first | (with_reducible first | exact HB.out | apply below_alloc | apply pw_below_drewN | apply below_drew1) | exact HB.out)⟩
            ·rw [if_neg c23] at H
             have c23b0 : (t103.toList == t101.toList) = false := beq_eq_false_iff_ne.mpr c23
             have c23b1 : (t103.toList != t101.toList) = true := bne_iff_ne.mpr c23
             obtain rfl := Option.some.inj H
             go_wp2_with (first | ((with_reducible refine gate_callee (f := 5) rfl ?_); refine goesL_ (some 20) rfl rfl Tryd.func5 (by kernel_rfl) rfl #[.slice A0 l0.length c0] rfl (by (try simp only [List.map_toArray, List.map_cons, List.map_nil]); first | done | rfl | (simp only [List.length_drop, List.length_take]; rfl)) ?_; (with_reducible refine (spec_TextOf.calls kj2 _ _ l0 t101 _ ?side1 ?side2 A6.out).mono ?_); (case side1 => repeat (first | exact (Kd.C_below HR0.out HB.out) | (with_reducible refine Kd.C_alloc ?_ _) | (with_reducible refine Kd.C_drewN ?_ _) | (with_reducible refine Kd.C_drew ?_))); (case side2 => exact HC0.out); rintro e w27 ⟨rfl, hb⟩; refine ⟨_, rfl, ?_⟩; have n0_ := Aside0.mk (below_step (by repeat (first | (with_reducible first | exact HB.out | apply below_alloc | apply pw_below_drewN | apply below_drew1) | exact HB.out)) hb); clear HB; have HB := n0_; clear n0_; (try clear hb); (try clear hb2); (try clear hk); (try clear hi)) | ((with_reducible refine gate_callee (f := 6) rfl ?_); refine goesL_ (some 22) rfl rfl Tryd.func6 (by kernel_rfl) rfl #[.slice A1 l1.length c1, .int .i64 0, .int .i64 30] rfl (by (try simp only [List.map_toArray, List.map_cons, List.map_nil]); first | done | rfl | (simp only [List.length_drop, List.length_take]; rfl)) ?_; (with_reducible refine (laws_at.calls _ _ l1 0 30 t102 _ ?side1 ?side2 A7.out).mono ?_); (case side1 => repeat (first | exact (Kd.C_below HR1.out HB.out) | (with_reducible refine Kd.C_alloc ?_ _) | (with_reducible refine Kd.C_drewN ?_ _) | (with_reducible refine Kd.C_drew ?_))); (case side2 => exact HC1.out); rintro e w' ⟨rfl, ⟨nd, rfl⟩⟩; refine ⟨_, rfl, ?_⟩) | ((with_reducible refine gate_callee (f := 7) rfl ?_); refine goesL_ (some 26) rfl rfl Tryd.func7 (by kernel_rfl) rfl #[.string t101, .int .i64 t102] rfl (by (try simp only [List.map_toArray, List.map_cons, List.map_nil]); first | done | rfl | (simp only [List.length_drop, List.length_take]; rfl)) ?_; (with_reducible refine (impl_CutRunes.calls kj2 t101 t102 t103 t104 _ (GWu.below HGWu.out (by repeat (first | (with_reducible first | exact HB.out | apply below_alloc | apply pw_below_drewN | apply below_drew1) | exact HB.out))) A8.out).mono ?_); rintro e w28 ⟨rfl, hb⟩; refine ⟨_, rfl, ?_⟩; have n0_ := Aside0.mk (below_step (by repeat (first | (with_reducible first | exact HB.out | apply below_alloc | apply pw_below_drewN | apply below_drew1) | exact HB.out)) hb); clear HB; have HB := n0_; clear n0_; (try clear hb); (try clear hb2); (try clear hk); (try clear hi)) | ((with_reducible refine gate_callee (f := 8) rfl ?_); refine goesL_ (some 32) rfl rfl Tryd.func8 (by kernel_rfl) rfl #[.string t101, .int .i64 t102] rfl (by (try simp only [List.map_toArray, List.map_cons, List.map_nil]); first | done | rfl | (simp only [List.length_drop, List.length_take]; rfl)) ?_; (with_reducible refine (spec_CutRunes.calls kj2 t101 t102 t105 t106 _ A9.out).mono ?_); rintro e w' ⟨rfl, ⟨nd, rfl⟩⟩; refine ⟨_, rfl, ?_⟩) | (go_at_call 9; (with_reducible refine (impl_ValidText.calls t103 true _ (GWu.below HGWu.out (by repeat (first | (with_reducible first | exact HB.out | apply below_alloc | apply pw_below_drewN | apply below_drew1) | exact HB.out))) A21.out).mono ?_); rintro e w29 ⟨rfl, hb⟩; have n0_ := Aside0.mk (below_step (by repeat (first | (with_reducible first | exact HB.out | apply below_alloc | apply pw_below_drewN | apply below_drew1) | exact HB.out)) hb); clear HB; have HB := n0_; clear n0_; (try clear hb); (try clear hb2); (try clear hk); (try clear hi)))
             go_ret
             exact ⟨by first | rfl | (simp [errW_none, errW_some] <;> rfl) | (simp [*, errW_none, errW_some] <;> rfl), by repeat (first | (with_reducible first | exact HB.out | apply below_alloc | apply pw_below_drewN | apply below_drew1) | exact HB.out)⟩
           ·replace c22 := Bool.eq_false_iff.mpr c22
            subst c22
            have H1 : (some false) = some r := by rw [if_neg (show ¬ (false = true) by decide)] at H; exact H
            clear H
            have H := H1
            clear H1
            obtain rfl := Option.some.inj H
            go_wp2_with (first | ((with_reducible refine gate_callee (f := 5) rfl ?_); refine goesL_ (some 20) rfl rfl Tryd.func5 (by kernel_rfl) rfl #[.slice A0 l0.length c0] rfl (by (try simp only [List.map_toArray, List.map_cons, List.map_nil]); first | done | rfl | (simp only [List.length_drop, List.length_take]; rfl)) ?_; (with_reducible refine (spec_TextOf.calls kj2 _ _ l0 t101 _ ?side1 ?side2 A6.out).mono ?_); (case side1 => repeat (first | exact (Kd.C_below HR0.out HB.out) | (with_reducible refine Kd.C_alloc ?_ _) | (with_reducible refine Kd.C_drewN ?_ _) | (with_reducible refine Kd.C_drew ?_))); (case side2 => exact HC0.out); rintro e w30 ⟨rfl, hb⟩; refine ⟨_, rfl, ?_⟩; have n0_ := Aside0.mk (below_step (by repeat (first | (with_reducible first | exact HB.out | apply below_alloc | apply pw_below_drewN | apply below_drew1) | exact HB.out)) hb); clear HB; have HB := n0_; clear n0_; (try clear hb); (try clear hb2); (try clear hk); (try clear hi)) | ((with_reducible refine gate_callee (f := 6) rfl ?_); refine goesL_ (some 22) rfl rfl Tryd.func6 (by kernel_rfl) rfl #[.slice A1 l1.length c1, .int .i64 0, .int .i64 30] rfl (by (try simp only [List.map_toArray, List.map_cons, List.map_nil]); first | done | rfl | (simp only [List.length_drop, List.length_take]; rfl)) ?_; (with_reducible refine (laws_at.calls _ _ l1 0 30 t102 _ ?side1 ?side2 A7.out).mono ?_); (case side1 => repeat (first | exact (Kd.C_below HR1.out HB.out) | (with_reducible refine Kd.C_alloc ?_ _) | (with_reducible refine Kd.C_drewN ?_ _) | (with_reducible refine Kd.C_drew ?_))); (case side2 => exact HC1.out); rintro e w' ⟨rfl, ⟨nd, rfl⟩⟩; refine ⟨_, rfl, ?_⟩) | ((with_reducible refine gate_callee (f := 7) rfl ?_); refine goesL_ (some 26) rfl rfl Tryd.func7 (by kernel_rfl) rfl #[.string t101, .int .i64 t102] rfl (by (try simp only [List.map_toArray, List.map_cons, List.map_nil]); first | done | rfl | (simp only [List.length_drop, List.length_take]; rfl)) ?_; (with_reducible refine (impl_CutRunes.calls kj2 t101 t102 t103 t104 _ (GWu.below HGWu.out (by repeat (first | (with_reducible first | exact HB.out | apply below_alloc | apply pw_below_drewN | apply below_drew1) | exact HB.out))) A8.out).mono ?_); rintro e w31 ⟨rfl, hb⟩; refine ⟨_, rfl, ?_⟩; have n0_ := Aside0.mk (below_step (by repeat (first | (with_reducible first | exact HB.out | apply below_alloc | apply pw_below_drewN | apply below_drew1) | exact HB.out)) hb); clear HB; have HB := n0_; clear n0_; (try clear hb); (try clear hb2); (try clear hk); (try clear hi)) | ((with_reducible refine gate_callee (f := 8) rfl ?_); refine goesL_ (some 32) rfl rfl Tryd.func8 (by kernel_rfl) rfl #[.string t101, .int .i64 t102] rfl (by (try simp only [List.map_toArray, List.map_cons, List.map_nil]); first | done | rfl | (simp only [List.length_drop, List.length_take]; rfl)) ?_; (with_reducible refine (spec_CutRunes.calls kj2 t101 t102 t105 t106 _ A9.out).mono ?_); rintro e w' ⟨rfl, ⟨nd, rfl⟩⟩; refine ⟨_, rfl, ?_⟩) | (go_at_call 9; (with_reducible refine (impl_ValidText.calls t103 false _ (GWu.below HGWu.out (by repeat (first | (with_reducible first | exact HB.out | apply below_alloc | apply pw_below_drewN | apply below_drew1) | exact HB.out))) A21.out).mono ?_); rintro e w32 ⟨rfl, hb⟩; have n0_ := Aside0.mk (below_step (by repeat (first | (with_reducible first | exact HB.out | apply below_alloc | apply pw_below_drewN | apply below_drew1) | exact HB.out)) hb); clear HB; have HB := n0_; clear n0_; (try clear hb); (try clear hb2); (try clear hk); (try clear hi)))
            go_ret
            exact ⟨by first | rfl | (simp [errW_none, errW_some] <;> rfl) | (simp [*, errW_none, errW_some] <;> rfl), by repeat (first | (with_reducible first | exact HB.out | apply below_alloc | apply pw_below_drewN | apply below_drew1) | exact HB.out)⟩
          ·rw [if_neg c20] at H
           have c20b0 : ((t101.extract 0 ((t103.size : Int) : Int).toNat).toList == t103.toList) = false := beq_eq_false_iff_ne.mpr c20
           have c20b1 : ((t101.extract 0 ((t103.size : Int) : Int).toNat).toList != t103.toList) = true := bne_iff_ne.mpr c20
           try (have c20x0 := c20b0; simp only [ByteArray.size_extract, Nat.min_self, Nat.sub_zero, Int.toNat_natCast] at c20x0)
           try (have c20x1 := c20b1; simp only [ByteArray.size_extract, Nat.min_self, Nat.sub_zero, Int.toNat_natCast] at c20x1)
           obtain rfl := Option.some.inj H
           go_wp2_with (first | ((with_reducible refine gate_callee (f := 5) rfl ?_); refine goesL_ (some 20) rfl rfl Tryd.func5 (by kernel_rfl) rfl #[.slice A0 l0.length c0] rfl (by (try simp only [List.map_toArray, List.map_cons, List.map_nil]); first | done | rfl | (simp only [List.length_drop, List.length_take]; rfl)) ?_; (with_reducible refine (spec_TextOf.calls kj2 _ _ l0 t101 _ ?side1 ?side2 A6.out).mono ?_); (case side1 => repeat (first | exact (Kd.C_below HR0.out HB.out) | (with_reducible refine Kd.C_alloc ?_ _) | (with_reducible refine Kd.C_drewN ?_ _) | (with_reducible refine Kd.C_drew ?_))); (case side2 => exact HC0.out); rintro e w33 ⟨rfl, hb⟩; refine ⟨_, rfl, ?_⟩; have n0_ := Aside0.mk (below_step (by repeat (first | (with_reducible first | exact HB.out | apply below_alloc | apply pw_below_drewN | apply below_drew1) | exact HB.out)) hb); clear HB; have HB := n0_; clear n0_; (try clear hb); (try clear hb2); (try clear hk); (try clear hi)) | ((with_reducible refine gate_callee (f := 6) rfl ?_); refine goesL_ (some 22) rfl rfl Tryd.func6 (by kernel_rfl) rfl #[.slice A1 l1.length c1, .int .i64 0, .int .i64 30] rfl (by (try simp only [List.map_toArray, List.map_cons, List.map_nil]); first | done | rfl | (simp only [List.length_drop, List.length_take]; rfl)) ?_; (with_reducible refine (laws_at.calls _ _ l1 0 30 t102 _ ?side1 ?side2 A7.out).mono ?_); (case side1 => repeat (first | exact (Kd.C_below HR1.out HB.out) | (with_reducible refine Kd.C_alloc ?_ _) | (with_reducible refine Kd.C_drewN ?_ _) | (with_reducible refine Kd.C_drew ?_))); (case side2 => exact HC1.out); rintro e w' ⟨rfl, ⟨nd, rfl⟩⟩; refine ⟨_, rfl, ?_⟩) | ((with_reducible refine gate_callee (f := 7) rfl ?_); refine goesL_ (some 26) rfl rfl Tryd.func7 (by kernel_rfl) rfl #[.string t101, .int .i64 t102] rfl (by (try simp only [List.map_toArray, List.map_cons, List.map_nil]); first | done | rfl | (simp only [List.length_drop, List.length_take]; rfl)) ?_; (with_reducible refine (impl_CutRunes.calls kj2 t101 t102 t103 t104 _ (GWu.below HGWu.out (by repeat (first | (with_reducible first | exact HB.out | apply below_alloc | apply pw_below_drewN | apply below_drew1) | exact HB.out))) A8.out).mono ?_); rintro e w34 ⟨rfl, hb⟩; refine ⟨_, rfl, ?_⟩; have n0_ := Aside0.mk (below_step (by repeat (first | (with_reducible first | exact HB.out | apply below_alloc | apply pw_below_drewN | apply below_drew1) | exact HB.out)) hb); clear HB; have HB := n0_; clear n0_; (try clear hb); (try clear hb2); (try clear hk); (try clear hi)) | ((with_reducible refine gate_callee (f := 8) rfl ?_); refine goesL_ (some 32) rfl rfl Tryd.func8 (by kernel_rfl) rfl #[.string t101, .int .i64 t102] rfl (by (try simp only [List.map_toArray, List.map_cons, List.map_nil]); first | done | rfl | (simp only [List.length_drop, List.length_take]; rfl)) ?_; (with_reducible refine (spec_CutRunes.calls kj2 t101 t102 t105 t106 _ A9.out).mono ?_); rintro e w' ⟨rfl, ⟨nd, rfl⟩⟩; refine ⟨_, rfl, ?_⟩))
           go_ret
           exact ⟨by first | rfl | (simp [errW_none, errW_some] <;> rfl) | (simp [*, errW_none, errW_some] <;> rfl), by repeat (first | (with_reducible first | exact HB.out | apply below_alloc | apply pw_below_drewN | apply below_drew1) | exact HB.out)⟩
         ·rw [if_neg c19] at H
          exact absurd H (by simp)
        ·rw [if_neg c18] at H
         exact absurd H (by simp)
     ·rw [if_neg c11] at H
      have c11b0 : (t103.toList == t105.toList) = false := beq_eq_false_iff_ne.mpr c11
      have c11b1 : (t103.toList != t105.toList) = true := bne_iff_ne.mpr c11
      obtain rfl := Option.some.inj H
      go_wp2_with (first | ((with_reducible refine gate_callee (f := 5) rfl ?_); refine goesL_ (some 20) rfl rfl Tryd.func5 (by kernel_rfl) rfl #[.slice A0 l0.length c0] rfl (by (try simp only [List.map_toArray, List.map_cons, List.map_nil]); first | done | rfl | (simp only [List.length_drop, List.length_take]; rfl)) ?_; (with_reducible refine (spec_TextOf.calls kj2 _ _ l0 t101 _ ?side1 ?side2 A6.out).mono ?_); (case side1 => repeat (first | exact (Kd.C_below HR0.out HB.out) | (with_reducible refine Kd.C_alloc ?_ _) | (with_reducible refine Kd.C_drewN ?_ _) | (with_reducible refine Kd.C_drew ?_))); (case side2 => exact HC0.out); rintro e w35 ⟨rfl, hb⟩; refine ⟨_, rfl, ?_⟩; have n0_ := Aside0.mk (below_step (by repeat (first | (with_reducible first | exact HB.out | apply below_alloc | apply pw_below_drewN | apply below_drew1) | exact HB.out)) hb); clear HB; have HB := n0_; clear n0_; (try clear hb); (try clear hb2); (try clear hk); (try clear hi)) | ((with_reducible refine gate_callee (f := 6) rfl ?_); refine goesL_ (some 22) rfl rfl Tryd.func6 (by kernel_rfl) rfl #[.slice A1 l1.length c1, .int .i64 0, .int .i64 30] rfl (by (try simp only [List.map_toArray, List.map_cons, List.map_nil]); first | done | rfl | (simp only [List.length_drop, List.length_take]; rfl)) ?_; (with_reducible refine (laws_at.calls _ _ l1 0 30 t102 _ ?side1 ?side2 A7.out).mono ?_); (case side1 => repeat (first | exact (Kd.C_below HR1.out HB.out) | (with_reducible refine Kd.C_alloc ?_ _) | (with_reducible refine Kd.C_drewN ?_ _) | (with_reducible refine Kd.C_drew ?_))); (case side2 => exact HC1.out); rintro e w' ⟨rfl, ⟨nd, rfl⟩⟩; refine ⟨_, rfl, ?_⟩) | ((with_reducible refine gate_callee (f := 7) rfl ?_); refine goesL_ (some 26) rfl rfl Tryd.func7 (by kernel_rfl) rfl #[.string t101, .int .i64 t102] rfl (by (try simp only [List.map_toArray, List.map_cons, List.map_nil]); first | done | rfl | (simp only [List.length_drop, List.length_take]; rfl)) ?_; (with_reducible refine (impl_CutRunes.calls kj2 t101 t102 t103 t104 _ (GWu.below HGWu.out (by repeat (first | (with_reducible first | exact HB.out | apply below_alloc | apply pw_below_drewN | apply below_drew1) | exact HB.out))) A8.out).mono ?_); rintro e w36 ⟨rfl, hb⟩; refine ⟨_, rfl, ?_⟩; have n0_ := Aside0.mk (below_step (by repeat (first | (with_reducible first | exact HB.out | apply below_alloc | apply pw_below_drewN | apply below_drew1) | exact HB.out)) hb); clear HB; have HB := n0_; clear n0_; (try clear hb); (try clear hb2); (try clear hk); (try clear hi)) | ((with_reducible refine gate_callee (f := 8) rfl ?_); refine goesL_ (some 32) rfl rfl Tryd.func8 (by kernel_rfl) rfl #[.string t101, .int .i64 t102] rfl (by (try simp only [List.map_toArray, List.map_cons, List.map_nil]); first | done | rfl | (simp only [List.length_drop, List.length_take]; rfl)) ?_; (with_reducible refine (spec_CutRunes.calls kj2 t101 t102 t105 t106 _ A9.out).mono ?_); rintro e w' ⟨rfl, ⟨nd, rfl⟩⟩; refine ⟨_, rfl, ?_⟩))
      go_ret
      exact ⟨by first | rfl | (simp [errW_none, errW_some] <;> rfl) | (simp [*, errW_none, errW_some] <;> rfl), by repeat (first | (with_reducible first | exact HB.out | apply below_alloc | apply pw_below_drewN | apply below_drew1) | exact HB.out)⟩
    ·rw [if_neg c10] at H
     have c10b0 : (t104 == 0) = false := beq_eq_false_iff_ne.mpr c10
     have c10b1 : (t104 != 0) = true := bne_iff_ne.mpr c10
     obtain rfl := Option.some.inj H
     go_wp2_with (first | ((with_reducible refine gate_callee (f := 5) rfl ?_); refine goesL_ (some 20) rfl rfl Tryd.func5 (by kernel_rfl) rfl #[.slice A0 l0.length c0] rfl (by (try simp only [List.map_toArray, List.map_cons, List.map_nil]); first | done | rfl | (simp only [List.length_drop, List.length_take]; rfl)) ?_; (with_reducible refine (spec_TextOf.calls kj2 _ _ l0 t101 _ ?side1 ?side2 A6.out).mono ?_); (case side1 => repeat (first | exact (Kd.C_below HR0.out HB.out) | (with_reducible refine Kd.C_alloc ?_ _) | (with_reducible refine Kd.C_drewN ?_ _) | (with_reducible refine Kd.C_drew ?_))); (case side2 => exact HC0.out); rintro e w37 ⟨rfl, hb⟩; refine ⟨_, rfl, ?_⟩; have n0_ := Aside0.mk (below_step (by repeat (first | (with_reducible first | exact HB.out | apply below_alloc | apply pw_below_drewN | apply below_drew1) | exact HB.out)) hb); clear HB; have HB := n0_; clear n0_; (try clear hb); (try clear hb2); (try clear hk); (try clear hi)) | ((with_reducible refine gate_callee (f := 6) rfl ?_); refine goesL_ (some 22) rfl rfl Tryd.func6 (by kernel_rfl) rfl #[.slice A1 l1.length c1, .int .i64 0, .int .i64 30] rfl (by (try simp only [List.map_toArray, List.map_cons, List.map_nil]); first | done | rfl | (simp only [List.length_drop, List.length_take]; rfl)) ?_; (with_reducible refine (laws_at.calls _ _ l1 0 30 t102 _ ?side1 ?side2 A7.out).mono ?_); (case side1 => repeat (first | exact (Kd.C_below HR1.out HB.out) | (with_reducible refine Kd.C_alloc ?_ _) | (with_reducible refine Kd.C_drewN ?_ _) | (with_reducible refine Kd.C_drew ?_))); (case side2 => exact HC1.out); rintro e w' ⟨rfl, ⟨nd, rfl⟩⟩; refine ⟨_, rfl, ?_⟩) | ((with_reducible refine gate_callee (f := 7) rfl ?_); refine goesL_ (some 26) rfl rfl Tryd.func7 (by kernel_rfl) rfl #[.string t101, .int .i64 t102] rfl (by (try simp only [List.map_toArray, List.map_cons, List.map_nil]); first | done | rfl | (simp only [List.length_drop, List.length_take]; rfl)) ?_; (with_reducible refine (impl_CutRunes.calls kj2 t101 t102 t103 t104 _ (GWu.below HGWu.out (by repeat (first | (with_reducible first | exact HB.out | apply below_alloc | apply pw_below_drewN | apply below_drew1) | exact HB.out))) A8.out).mono ?_); rintro e w38 ⟨rfl, hb⟩; refine ⟨_, rfl, ?_⟩; have n0_ := Aside0.mk (below_step (by repeat (first | (with_reducible first | exact HB.out | apply below_alloc | apply pw_below_drewN | apply below_drew1) | exact HB.out)) hb); clear HB; have HB := n0_; clear n0_; (try clear hb); (try clear hb2); (try clear hk); (try clear hi)) | ((with_reducible refine gate_callee (f := 8) rfl ?_); refine goesL_ (some 32) rfl rfl Tryd.func8 (by kernel_rfl) rfl #[.string t101, .int .i64 t102] rfl (by (try simp only [List.map_toArray, List.map_cons, List.map_nil]); first | done | rfl | (simp only [List.length_drop, List.length_take]; rfl)) ?_; (with_reducible refine (spec_CutRunes.calls kj2 t101 t102 t105 t106 _ A9.out).mono ?_); rintro e w' ⟨rfl, ⟨nd, rfl⟩⟩; refine ⟨_, rfl, ?_⟩))
     go_ret
     exact ⟨by first | rfl | (simp [errW_none, errW_some] <;> rfl) | (simp [*, errW_none, errW_some] <;> rfl), by repeat (first | (with_reducible first | exact HB.out | apply below_alloc | apply pw_below_drewN | apply below_drew1) | exact HB.out)⟩

end Go.Proofs.YteipfgcnfeclgaaDoor.P
namespace Go.Proofs.YteipfgcnfeclgaaDoor.P
open Go.RowKit Go.ChangeShapes Go.WideShapes Go.Proofs.YteipfgcnfeclgaaDoorW.PrintWords

end Go.Proofs.YteipfgcnfeclgaaDoor.P
namespace Go.Proofs.YteipfgcnfeclgaaDoor.P
open Go.RowKit Go.ChangeShapes Go.WideShapes Go.Proofs.YteipfgcnfeclgaaDoorW.PrintWords

/-- What is to be proved of the law FnCut, over numbers and lists alone. -/
def laws_FnCut.Pure : Prop := ∀ (x0 : List Int) (x1 : List Int), (x0.length ≤ maxLen ∧ x0.length * 1 ≤ 140737488351232 ∧ ∀ y ∈ x0, (Lit.int .u8 y).wf = true) → (x1.length ≤ maxLen ∧ x1.length * 1 ≤ 140737488351232 ∧ ∀ y ∈ x1, (Lit.int .u8 y).wf = true) → ∃ k, laws_FnCut.f k x0 x1 = some true
end Go.Proofs.YteipfgcnfeclgaaDoor.P
/- Lemmas of mine: strings as lists of bytes; whole numbers of 64 bits; rounds. Plain. -/
set_option linter.unusedVariables false
set_option linter.unusedSimpArgs false
namespace Go.Proofs.YteipfgcnfeclgaaDoor.P
open Go.RowKit Go.Proofs.YteipfgcnfeclgaaDoorW.PrintWords
/-- As Option.bind_some, but no equation by computing: for terms that are not to be computed by the kernel. -/
theorem bS {α β : Type} (a : α) (f : α → Option β) : (some a).bind f = f a := Eq.trans (Option.bind_some a f) (Eq.refl (f a))
/-- A string's bytes. -/
def bl (s : ByteArray) : List UInt8 := s.data.toList
/-- Bytes as numbers. -/
def nb (l : List UInt8) : List Int := l.map fun b => (b.toNat : Int)
theorem bl_inj {a b : ByteArray} (h : bl a = bl b) : a = b := WideShapes.bytes_inj h
theorem toList_bl (s : ByteArray) : s.toList = bl s := Lib.toList_data s
theorem toList_iff {a b : ByteArray} : a.toList = b.toList ↔ a = b := ⟨fun h => bl_inj (by rw [← toList_bl, ← toList_bl, h]), fun h => by rw [h]⟩
theorem bl_size (s : ByteArray) : s.size = (bl s).length := Lib.size_eq s
theorem bl_append (a b : ByteArray) : bl (a ++ b) = bl a ++ bl b := by simp [bl]
theorem bl_extract (s : ByteArray) (i j : Nat) : bl (s.extract i j) = ((bl s).drop i).take (j - i) := Lib.extract_data s i j
theorem bl_mk (l : List UInt8) : bl ⟨l.toArray⟩ = l := by simp [bl]
theorem bl_empty : bl (⟨#[]⟩ : ByteArray) = [] := rfl
theorem mk_bl (s : ByteArray) : (⟨(bl s).toArray⟩ : ByteArray) = s := bl_inj (bl_mk _)
theorem bytesOf_bl (s : ByteArray) : bytesOf s = nb (bl s) := rfl
theorem nb_length (l : List UInt8) : (nb l).length = l.length := by simp [nb]
theorem nb_append (l m : List UInt8) : nb (l ++ m) = nb l ++ nb m := by simp [nb]
theorem strOf_nb (l : List UInt8) : strOfNums (nb l) = ⟨l.toArray⟩ := by
 simp [strOfNums, nb, Function.comp_def]
theorem bl_strOf_nb (l : List UInt8) : bl (strOfNums (nb l)) = l := by rw [strOf_nb, bl_mk]
theorem bt_eq (s : ByteArray) (i : Nat) (h : i < (bl s).length) : bt s (i : Int) = (((bl s)[i]'h).toNat : Int) := by
 have hs : i < s.size := by rw [bl_size]; exact h
 unfold bt
 rw [dif_pos (by simpa using hs)]
 have h1 := Lib.data_getElem? s i hs
 have h2 : (bl s)[i]? = some ((bl s)[i]'h) := List.getElem?_eq_getElem h
 have h3 : s[i]'hs = (bl s)[i]'h := Option.some.inj (h1.symm.trans h2)
 simp only [Int.toNat_natCast]
 rw [← h3]
theorem rd_nb (l : List UInt8) (i : Nat) (h : i < l.length) : rd (nb l) (i : Int) = ((l[i]'h).toNat : Int) := by
 simp [rd, nb, List.getD_eq_getElem?_getD, List.getElem?_map, List.getElem?_eq_getElem h]
theorem byte_lt (b : UInt8) : b.toNat < 256 := b.toNat_lt
/-- No wrap within the bounds. -/
theorem w64 {n : Int} (h0 : -9223372036854775808 ≤ n) (h1 : n ≤ 9223372036854775807) : wrap64 n = n := by unfold wrap64; omega
theorem w64n (n : Nat) (h1 : n ≤ 9223372036854775807) : wrap64 (n : Int) = n := w64 (by omega) (by omega)
theorem w64s (n : Nat) (h1 : n + 1 ≤ 9223372036854775807) : wrap64 ((n : Int) + 1) = ((n + 1 : Nat) : Int) := by rw [w64 (by omega) (by omega)]; rfl
theorem w64add (a b : Nat) (h : a + b ≤ 9223372036854775807) : wrap64 ((a : Int) + (b : Int)) = ((a + b : Nat) : Int) := by rw [w64 (by omega) (by omega)]; rfl
theorem w64lit (a b : Nat) (h : a + b ≤ 9223372036854775807) : wrap64 ((a : Int) + wrap64 ((b : Int))) = ((a + b : Nat) : Int) := by rw [w64n b (by omega), w64add a b h]
theorem w64sub (a b : Nat) (h : b ≤ a) (h2 : a ≤ 9223372036854775807) : wrap64 ((a : Int) - (b : Int)) = ((a - b : Nat) : Int) := by rw [w64 (by omega) (by omega)]; omega
theorem bits_xor_nat (k : IntKind) (j : Nat) (hj : j ≤ k.bits) (hk : ∀ n : Int, 0 ≤ n → n < 2 ^ j → k.wrap n = n) (a b : Nat) (ha : a < 2 ^ j) (hb : b < 2 ^ j) : bits .xor k a b = ((a ^^^ b : Nat) : Int) := by
 have hp : 2 ^ j ≤ 2 ^ k.bits := Nat.pow_le_pow_right (by decide) hj
 have ha' : a % 2 ^ k.bits = a := Nat.mod_eq_of_lt (Nat.lt_of_lt_of_le ha hp)
 have hb' : b % 2 ^ k.bits = b := Nat.mod_eq_of_lt (Nat.lt_of_lt_of_le hb hp)
 simp only [bits, BitVec.ofInt_natCast, BitVec.toNat_xor, BitVec.toNat_ofNat, ha', hb']
 exact hk _ (Int.natCast_nonneg _) (by exact_mod_cast Nat.xor_lt_two_pow ha hb)
theorem u32_in (n : Int) (h0 : 0 ≤ n) (h1 : n < 2 ^ 32) : IntKind.u32.wrap n = n := by rw [IntKind.wrap_u32]; omega
theorem i64_in32 (n : Int) (h0 : 0 ≤ n) (h1 : n < 2 ^ 32) : IntKind.i64.wrap n = n := by rw [IntKind.wrap_i64]; omega
theorem xor_u32 (a b : Nat) (ha : a < 4294967296) (hb : b < 4294967296) : bits .xor .u32 a b = ((a ^^^ b : Nat) : Int) := bits_xor_nat .u32 32 (by decide) u32_in a b ha hb
theorem xor_i64 (a b : Nat) (ha : a < 4294967296) (hb : b < 4294967296) : bits .xor .i64 a b = ((a ^^^ b : Nat) : Int) := bits_xor_nat .i64 32 (by decide) i64_in32 a b ha hb
/-- Rounds: what is told for all numbers of rounds from some on. -/
theorem Ev.k {α : Type} {g : Nat → Option α} {r : α} (h : Ev g r) : ∃ k, g k = some r := h.rounds
theorem Ev.and {α β : Type} {g : Nat → Option α} {f : Nat → Option β} {r : α} {q : β} (h : Ev g r) (h' : Ev f q) : ∃ K, ∀ k, K ≤ k → g k = some r ∧ f k = some q := by
 obtain ⟨K, h⟩ := h
 obtain ⟨K', h'⟩ := h'
 exact ⟨max K K', fun k hk => ⟨h k (by omega), h' k (by omega)⟩⟩
theorem Ev.uniq {α : Type} {g : Nat → Option α} {r q : α} (h : Ev g r) (h' : Ev g q) : r = q := by
 obtain ⟨K, hk⟩ := Ev.and h h'
 have h1 := hk K (Nat.le_refl _)
 exact Option.some.inj (h1.1.symm.trans h1.2)
end Go.Proofs.YteipfgcnfeclgaaDoor.P
/- Lemmas of mine: loops that count up: over any function of rounds. Plain. -/
set_option linter.unusedVariables false
set_option linter.unusedSimpArgs false
namespace Go.Proofs.YteipfgcnfeclgaaDoor.P
open Go.RowKit Go.Proofs.YteipfgcnfeclgaaDoorW.PrintWords
/-- A loop whose rounds change the place alone. -/
theorem up_loop {R : Type} (L : Nat → Int → Option R) (n : Nat) (r : R)
  (hstep : ∀ i : Nat, i < n → ∃ K, ∀ k, K ≤ k → L (k + 1) (i : Int) = L k ((i + 1 : Nat) : Int))
  (hend : ∃ K, ∀ k, K ≤ k → L (k + 1) (n : Int) = some r) : ∀ d i : Nat, i + d = n → Ev (fun k => L k (i : Int)) r := by
 intro d
 induction d with
 | zero =>
  intro i hi
  obtain rfl : i = n := by omega
  obtain ⟨K, h⟩ := hend
  exact ⟨K + 1, fun k hk => by obtain ⟨m, rfl⟩ : ∃ m, k = m + 1 := ⟨k - 1, by omega⟩; exact h m (by omega)⟩
 | succ d ih =>
  intro i hi
  obtain ⟨K, h⟩ := hstep i (by omega)
  obtain ⟨K2, h2⟩ := ih (i + 1) (by omega)
  refine ⟨K + K2 + 1, fun k hk => ?_⟩
  obtain ⟨m, rfl⟩ : ∃ m, k = m + 1 := ⟨k - 1, by omega⟩
  show L (m + 1) (i : Int) = some r
  rw [h m (by omega)]
  exact h2 m (by omega)
/-- A loop with a state: what holds of the state says what comes out. -/
theorem st_loop {σ R : Type} (L : Nat → σ → Int → Option R) (n : Nat) (out : Nat → σ → R → Prop)
  (hstep : ∀ (i : Nat) (s : σ), i < n → (∃ r, (∃ K, ∀ k, K ≤ k → L (k + 1) s (i : Int) = some r) ∧ out i s r) ∨ ∃ s', (∃ K, ∀ k, K ≤ k → L (k + 1) s (i : Int) = L k s' ((i + 1 : Nat) : Int)) ∧ ∀ r, out (i + 1) s' r → out i s r)
  (hend : ∀ s, ∃ r, (∃ K, ∀ k, K ≤ k → L (k + 1) s (n : Int) = some r) ∧ out n s r) : ∀ (d i : Nat) (s : σ), i + d = n → ∃ r, Ev (fun k => L k s (i : Int)) r ∧ out i s r := by
 intro d
 induction d with
 | zero =>
  intro i s hi
  obtain rfl : i = n := by omega
  obtain ⟨r, ⟨K, h⟩, ho⟩ := hend s
  exact ⟨r, ⟨K + 1, fun k hk => by obtain ⟨m, rfl⟩ : ∃ m, k = m + 1 := ⟨k - 1, by omega⟩; exact h m (by omega)⟩, ho⟩
 | succ d ih =>
  intro i s hi
  rcases hstep i s (by omega) with ⟨r, ⟨K, h⟩, ho⟩ | ⟨s', ⟨K, h⟩, ho⟩
  ·exact ⟨r, ⟨K + 1, fun k hk => by obtain ⟨m, rfl⟩ : ∃ m, k = m + 1 := ⟨k - 1, by omega⟩; exact h m (by omega)⟩, ho⟩
  ·obtain ⟨r, ⟨K2, h2⟩, ho2⟩ := ih (i + 1) s' (by omega)
   refine ⟨r, ⟨K + K2 + 1, fun k hk => ?_⟩, ho r ho2⟩
   obtain ⟨m, rfl⟩ : ∃ m, k = m + 1 := ⟨k - 1, by omega⟩
   show L (m + 1) s (i : Int) = some r
   rw [h m (by omega)]
   exact h2 m (by omega)
theorem map_set {α β : Type} (xs : List α) (ys : List β) (g : α → β) (i : Nat) (hi : i < xs.length) (hl : ys.length = xs.length) (hy : ys.take i = (xs.take i).map g) :
  (ys.set i (g (xs[i]'hi))).take (i + 1) = (xs.take (i + 1)).map g := by
 have e2 : (xs.take (i + 1)).map g = (xs.take i).map g ++ [g (xs[i]'hi)] := by
  rw [List.take_add_one, List.getElem?_eq_getElem hi, List.map_append]
  rfl
 have e : ((xs.take i).map g).length = i := by rw [List.length_map, List.length_take]; omega
 rw [e2, List.take_set, List.take_add_one, List.getElem?_eq_getElem (by omega), hy, List.set_append_right _ _ (by omega), e, Nat.sub_self]
 rfl
/-- A loop that fills a row of the same length. -/
theorem copy_loop {α β : Type} (L : Nat → List β → Int → Option (List β)) (xs : List α) (g : α → β)
  (hstep : ∀ (i : Nat) (ys : List β) (hi : i < xs.length), ys.length = xs.length → ∃ K, ∀ k, K ≤ k → L (k + 1) ys (i : Int) = L k (ys.set i (g (xs[i]'hi))) ((i + 1 : Nat) : Int))
  (hend : ∀ ys, ys.length = xs.length → ∃ K, ∀ k, K ≤ k → L (k + 1) ys (xs.length : Int) = some ys) :
  ∀ (d i : Nat) (ys : List β), i + d = xs.length → ys.length = xs.length → ys.take i = (xs.take i).map g → Ev (fun k => L k ys (i : Int)) (xs.map g) := by
 intro d
 induction d with
 | zero =>
  intro i ys hi hl hy
  obtain rfl : i = xs.length := by omega
  rw [List.take_of_length_le (by omega), List.take_of_length_le (Nat.le_refl _)] at hy
  subst hy
  obtain ⟨K, h⟩ := hend _ hl
  exact ⟨K + 1, fun k hk => by obtain ⟨m, rfl⟩ : ∃ m, k = m + 1 := ⟨k - 1, by omega⟩; exact h m (by omega)⟩
 | succ d ih =>
  intro i ys hi hl hy
  obtain ⟨K, h⟩ := hstep i ys (by omega) hl
  obtain ⟨K2, h2⟩ := ih (i + 1) (ys.set i (g (xs[i]'(by omega)))) (by omega) (by rw [List.length_set]; exact hl) (map_set xs ys g i (by omega) hl hy)
  refine ⟨K + K2 + 1, fun k hk => ?_⟩
  obtain ⟨m, rfl⟩ : ∃ m, k = m + 1 := ⟨k - 1, by omega⟩
  show L (m + 1) ys (i : Int) = _
  rw [h m (by omega)]
  exact h2 m (by omega)
theorem getD_nat {α : Type} (xs : List α) (z : α) (i : Nat) (h : i < xs.length) : xs.getD ((i : Nat) : Int).toNat z = xs[i]'h := by
 rw [Int.toNat_natCast, List.getD_eq_getElem?_getD, List.getElem?_eq_getElem h]; rfl
end Go.Proofs.YteipfgcnfeclgaaDoor.P
/- Lemmas of mine: a source of choices always gives one, within its bounds. Plain. -/
set_option linter.unusedVariables false
set_option linter.unusedSimpArgs false
namespace Go.Proofs.YteipfgcnfeclgaaDoor.P
open Go.RowKit Go.Proofs.YteipfgcnfeclgaaDoorW.PrintWords
/-- A source: its bytes, its place (at most B), its seed. -/
def Src (l : List Int) (a s B : Int) : Prop := (∀ y ∈ l, 0 ≤ y ∧ y ≤ 255) ∧ (0 ≤ a ∧ a ≤ B) ∧ (0 ≤ s ∧ s < 2147483648)
theorem Src.grow {l : List Int} {a s B C : Int} (h : Src l a s B) (hc : B ≤ C) : Src l a s C := ⟨h.1, ⟨h.2.1.1, by have := h.2.1.2; omega⟩, h.2.2⟩
theorem rd_mem (l : List Int) (i : Int) (h0 : 0 ≤ i) (h1 : i < (l.length : Int)) : rd l i ∈ l := by
 have h : i.toNat < l.length := by omega
 unfold rd
 rw [List.getD_eq_getElem?_getD, List.getElem?_eq_getElem h]
 exact List.getElem_mem h
theorem byte_ok {l : List Int} {a s B : Int} (h : Src l a s B) (hB : B ≤ 4611686018427387904) : ∃ r a' s', spec_l00Src_byte.f l a s = some (r, a', s') ∧ Src l a' s' (B + 1) ∧ 0 ≤ r ∧ r ≤ 255 := by
 obtain ⟨hl, ⟨h0, h1⟩, h2, h3⟩ := h
 unfold spec_l00Src_byte.f
 rw [if_pos ⟨h0, by omega, h2, h3⟩]
 by_cases c1 : a + 1 ≤ (l.length : Int)
 ·have hm := hl _ (rd_mem l a h0 (by omega))
  rw [if_pos c1, if_pos hm]
  exact ⟨_, _, _, rfl, ⟨hl, ⟨by omega, by omega⟩, by omega, by omega⟩, hm.1, hm.2⟩
 ·rw [if_neg c1]
  by_cases c2 : a + 1 > 3000
  ·rw [if_pos c2]
   exact ⟨_, _, _, rfl, ⟨hl, ⟨by omega, by omega⟩, h2, h3⟩, by omega, by omega⟩
  ·rw [if_neg c2]
   exact ⟨_, _, _, rfl, ⟨hl, ⟨by omega, by omega⟩, by omega, by omega⟩, by omega, by omega⟩
theorem tmod_in (n m : Int) (h0 : 0 ≤ n) (h1 : 0 < m) : 0 ≤ Int.tmod n m ∧ Int.tmod n m < m := ⟨Int.tmod_nonneg m h0, Int.tmod_lt_of_pos n h1⟩
theorem next_ok {l : List Int} {a s B : Int} (n : Int) (h : Src l a s B) (hB : B ≤ 4611686018427387900) : ∃ r a' s', spec_l00Src_next.f l a s n = some (r, a', s') ∧ Src l a' s' (B + 3) ∧ 0 ≤ r ∧ (1 ≤ n → r < n) := by
 unfold spec_l00Src_next.f
 by_cases c1 : n ≤ 1
 ·rw [if_pos c1]
  exact ⟨_, _, _, rfl, h.grow (by omega), by omega, fun _ => by omega⟩
 ·rw [if_neg c1]
  obtain ⟨r1, a1, s1, e1, h1, b1, d1⟩ := byte_ok h (by omega)
  by_cases c2 : n ≤ 256
  ·rw [if_pos c2, e1]
   simp only [Option.bind_some]
   rw [if_neg (by omega)]
   obtain ⟨t1, t2⟩ := tmod_in r1 n b1 (by omega)
   exact ⟨_, _, _, rfl, h1.grow (by omega), t1, fun _ => t2⟩
  ·rw [if_neg c2, e1]
   simp only [Option.bind_some]
   obtain ⟨r2, a2, s2, e2, h2, b2, d2⟩ := byte_ok h1 (by omega)
   rw [e2]
   simp only [Option.bind_some]
   obtain ⟨r3, a3, s3, e3, h3, b3, d3⟩ := byte_ok h2 (by omega)
   rw [e3]
   simp only [Option.bind_some]
   rw [if_neg (by omega), w64 (n := r1 * 65536) (by omega) (by omega), w64 (n := r2 * 256) (by omega) (by omega), w64 (n := r1 * 65536 + r2 * 256) (by omega) (by omega), w64 (n := r1 * 65536 + r2 * 256 + r3) (by omega) (by omega)]
   obtain ⟨t1, t2⟩ := tmod_in (r1 * 65536 + r2 * 256 + r3) n (by omega) (by omega)
   exact ⟨_, _, _, rfl, h3.grow (by omega), t1, fun _ => t2⟩
theorem source_ok (l : List Int) (h : ∀ y ∈ l, 0 ≤ y ∧ y ≤ 255) : ∃ s, spec_l00Source.f l = some (l, 0, s) ∧ Src l 0 s 0 := by
 refine ⟨_, rfl, h, ⟨by omega, by omega⟩, by omega, by omega⟩
theorem u8_of_wf {y : Int} (h : (Lit.int .u8 y).wf = true) : 0 ≤ y ∧ y ≤ 255 := by
 have : IntKind.u8.min ≤ y ∧ y ≤ IntKind.u8.max := by simpa [Lit.wf] using h
 have e1 : IntKind.u8.min = 0 := by decide
 have e2 : IntKind.u8.max = 255 := by decide
 rw [e1, e2] at this
 exact this
end Go.Proofs.YteipfgcnfeclgaaDoor.P
/- Lemmas of mine: a drawn text is put together out of right pieces. Plain. -/
set_option linter.unusedVariables false
set_option linter.unusedSimpArgs false
namespace Go.Proofs.YteipfgcnfeclgaaDoor.P
open Go.RowKit Go.Proofs.YteipfgcnfeclgaaDoorW.PrintWords
theorem l01In_t (a b c : Int) : spec_l01In.f a b c = some (decide (b ≤ a ∧ a ≤ c)) := by
 unfold spec_l01In.f
 by_cases h : a ≥ b
 ·rw [if_pos h]; simp [show b ≤ a from h]
 ·rw [if_neg h]; simp; omega
/-- A drawn rune. -/
def RuneR (r : Int) : Prop := (0 ≤ r ∧ r < 128) ∨ r ∈ ([228, 2047, 2048, 8364, 55295, 57344, 65535, 65536, 128512, 1114111] : List Int)
/-- A rune's bytes. -/
def Piece (p : List UInt8) : Prop := (∃ b : UInt8, b.toNat < 128 ∧ p = [b]) ∨ p ∈ ([[195, 164], [223, 191], [224, 160, 128], [226, 130, 172], [237, 159, 191], [238, 128, 128], [239, 191, 191], [240, 144, 128, 128], [240, 159, 152, 128], [244, 143, 191, 191]] : List (List UInt8))
theorem piece_len {p : List UInt8} (h : Piece p) : 1 ≤ p.length ∧ p.length ≤ 4 := by
 rcases h with ⟨b, _, rfl⟩ | h
 ·exact ⟨Nat.le_refl _, show 1 ≤ 4 by decide⟩
 ·simp only [List.mem_cons, List.not_mem_nil, or_false] at h
  rcases h with rfl | rfl | rfl | rfl | rfl | rfl | rfl | rfl | rfl | rfl <;> exact ⟨by decide, by decide⟩
theorem rune_ok {l : List Int} {a s B : Int} (h : Src l a s B) (hB : B ≤ 4611686018427387000) : ∃ r a' s', spec_l00Src_rune.f l a s = some (r, a', s') ∧ Src l a' s' (B + 9) ∧ RuneR r := by
 obtain ⟨r1, a1, s1, e1, h1, b1, c1⟩ := next_ok 128 h (by omega)
 obtain ⟨r2, a2, s2, e2, h2, b2, c2⟩ := next_ok 26 h1 (by omega)
 obtain ⟨r3, a3, s3, e3, h3, b3, c3⟩ := next_ok 12 h2 (by omega)
 have c1 := c1 (by decide)
 have c2 := c2 (by decide)
 have c3 := c3 (by decide)
 have w : wrap64 (97 + r2) = 97 + r2 := w64 (by omega) (by omega)
 have hlen : (([r1, 97 + r2, 228, 2047, 2048, 8364, 55295, 57344, 65535, 65536, 128512, 1114111] : List Int).length : Int) = 12 := rfl
 refine ⟨rd ([r1, 97 + r2, 228, 2047, 2048, 8364, 55295, 57344, 65535, 65536, 128512, 1114111] : List Int) r3, a3, s3, ?_, h3.grow (by omega), ?_⟩
 ·simp only [spec_l00Src_rune.f, e1, e2, e3, bS, w]
  rw [if_pos b3, hlen, if_pos c3]
 ·obtain ⟨i, hi⟩ : ∃ i : Nat, r3 = (i : Int) := ⟨r3.toNat, (Int.toNat_of_nonneg b3).symm⟩
  subst hi
  have hc : i = 0 ∨ i = 1 ∨ i = 2 ∨ i = 3 ∨ i = 4 ∨ i = 5 ∨ i = 6 ∨ i = 7 ∨ i = 8 ∨ i = 9 ∨ i = 10 ∨ i = 11 := by omega
  rcases hc with rfl | rfl | rfl | rfl | rfl | rfl | rfl | rfl | rfl | rfl | rfl | rfl
  ·exact .inl ⟨b1, c1⟩
  ·exact .inl (show 0 ≤ 97 + r2 ∧ 97 + r2 < 128 by omega)
  ·exact .inr (show (228 : Int) ∈ ([228, 2047, 2048, 8364, 55295, 57344, 65535, 65536, 128512, 1114111] : List Int) by decide)
  ·exact .inr (show (2047 : Int) ∈ ([228, 2047, 2048, 8364, 55295, 57344, 65535, 65536, 128512, 1114111] : List Int) by decide)
  ·exact .inr (show (2048 : Int) ∈ ([228, 2047, 2048, 8364, 55295, 57344, 65535, 65536, 128512, 1114111] : List Int) by decide)
  ·exact .inr (show (8364 : Int) ∈ ([228, 2047, 2048, 8364, 55295, 57344, 65535, 65536, 128512, 1114111] : List Int) by decide)
  ·exact .inr (show (55295 : Int) ∈ ([228, 2047, 2048, 8364, 55295, 57344, 65535, 65536, 128512, 1114111] : List Int) by decide)
  ·exact .inr (show (57344 : Int) ∈ ([228, 2047, 2048, 8364, 55295, 57344, 65535, 65536, 128512, 1114111] : List Int) by decide)
  ·exact .inr (show (65535 : Int) ∈ ([228, 2047, 2048, 8364, 55295, 57344, 65535, 65536, 128512, 1114111] : List Int) by decide)
  ·exact .inr (show (65536 : Int) ∈ ([228, 2047, 2048, 8364, 55295, 57344, 65535, 65536, 128512, 1114111] : List Int) by decide)
  ·exact .inr (show (128512 : Int) ∈ ([228, 2047, 2048, 8364, 55295, 57344, 65535, 65536, 128512, 1114111] : List Int) by decide)
  ·exact .inr (show (1114111 : Int) ∈ ([228, 2047, 2048, 8364, 55295, 57344, 65535, 65536, 128512, 1114111] : List Int) by decide)
theorem bytes_ok (r : Int) (h : RuneR r) : ∃ p, spec_l01Bytes.f r = some (nb p) ∧ Piece p := by
 rcases h with ⟨h0, h1⟩ | h
 ·obtain ⟨n, rfl⟩ : ∃ n : Nat, r = (n : Int) := ⟨r.toNat, (Int.toNat_of_nonneg h0).symm⟩
  have hb : (UInt8.ofNat n).toNat = n := by
   rw [UInt8.toNat_ofNat']
   exact Nat.mod_eq_of_lt (by omega)
  refine ⟨[UInt8.ofNat n], ?_, .inl ⟨_, by omega, rfl⟩⟩
  have hs : spec_RuneSize.f (n : Int) = some 1 := by
   unfold spec_RuneSize.f spec_l01Scalar.f
   simp only [l01In_t, bS]
   rw [decide_eq_true (show (0 : Int) ≤ (n : Int) ∧ (n : Int) ≤ 55295 by omega)]
   simp only [if_true, bS]
   rw [if_pos (by omega)]
  simp only [spec_l01Bytes.f, hs, bS, if_true]
  have e : (n : Int) % 256 = (n : Int) := by omega
  rw [e]
  simp [nb, hb]
 ·simp only [List.mem_cons, List.not_mem_nil, or_false] at h
  rcases h with rfl | rfl | rfl | rfl | rfl | rfl | rfl | rfl | rfl | rfl
  ·exact ⟨[195, 164], by decide +kernel, .inr (by decide)⟩
  ·exact ⟨[223, 191], by decide +kernel, .inr (by decide)⟩
  ·exact ⟨[224, 160, 128], by decide +kernel, .inr (by decide)⟩
  ·exact ⟨[226, 130, 172], by decide +kernel, .inr (by decide)⟩
  ·exact ⟨[237, 159, 191], by decide +kernel, .inr (by decide)⟩
  ·exact ⟨[238, 128, 128], by decide +kernel, .inr (by decide)⟩
  ·exact ⟨[239, 191, 191], by decide +kernel, .inr (by decide)⟩
  ·exact ⟨[240, 144, 128, 128], by decide +kernel, .inr (by decide)⟩
  ·exact ⟨[240, 159, 152, 128], by decide +kernel, .inr (by decide)⟩
  ·exact ⟨[244, 143, 191, 191], by decide +kernel, .inr (by decide)⟩
theorem abc_ok (i : Int) (h0 : 0 ≤ i) (h1 : i < 8) : ∃ b : UInt8, b.toNat < 128 ∧ bt (⟨#[97, 98, 99, 32, 120, 121, 122, 46]⟩ : ByteArray) i = (b.toNat : Int) := by
 obtain ⟨n, rfl⟩ : ∃ n : Nat, i = (n : Int) := ⟨i.toNat, (Int.toNat_of_nonneg h0).symm⟩
 have hl : n < (bl (⟨#[97, 98, 99, 32, 120, 121, 122, 46]⟩ : ByteArray)).length := by show n < 8; omega
 refine ⟨_, ?_, bt_eq _ n hl⟩
 have hall : ∀ b ∈ bl (⟨#[97, 98, 99, 32, 120, 121, 122, 46]⟩ : ByteArray), b.toNat < 128 := by decide
 exact hall _ (List.getElem_mem hl)
theorem text_l0 {l : List Int} : ∀ (d : Nat) (ps : List (List UInt8)) (a s B : Int), Src l a s B → B + 20 * (d : Int) ≤ 4611686018427386000 → ps.length + d ≤ 100 → (∀ p ∈ ps, Piece p) →
  ∃ (qs : List (List UInt8)) (a' s' : Int), Ev (fun k => spec_l00Src_text.l0 k (nb ps.flatten) (d : Int) l a s) (strOfNums (nb qs.flatten), a', s') ∧ (∀ p ∈ qs, Piece p) ∧ qs.length ≤ ps.length + d
 | 0, ps, a, s, B, h, hB, hl, hx => ⟨ps, a, s, Ev.step (f := fun _ => some _) (fun k => by simp only [spec_l00Src_text.l0]; rw [if_neg (by omega)]) (Ev.now _), hx, Nat.le_refl _⟩
 | d + 1, ps, a, s, B, h, hB, hl, hx => by
  have hfl : ps.flatten.length ≤ 400 := by
   have : ∀ qs : List (List UInt8), (∀ p ∈ qs, Piece p) → qs.flatten.length ≤ 4 * qs.length := by
    intro qs
    induction qs with
    | nil => intro _; simp
    | cons q qs ih =>
     intro hq
     have h1 := (piece_len (hq q (List.mem_cons_self ..))).2
     have h2 := ih fun p hp => hq p (List.mem_cons_of_mem _ hp)
     rw [List.flatten_cons, List.length_append, List.length_cons]
     omega
   have := this ps hx
   omega
  have e3 : Aside0 (wrap64 ((((d + 1 : Nat)) : Int) - 1) = (d : Int)) := ⟨by rw [w64 (by omega) (by omega)]; omega⟩
  obtain ⟨r1, a1, s1, e1, h1, b1, c1⟩ := next_ok 2 h (by omega)
  have hch : spec_l00Src_chance.f l a s 2 = some ((r1 == 1), a1, s1) := by
   have w1 : wrap64 (2 - 1) = 1 := w64 (by omega) (by omega)
   simp only [spec_l00Src_chance.f, e1, bS, w1]
  have hgo : ∀ (p : List UInt8) (a2 s2 : Int), Piece p → Src l a2 s2 (B + 20) → ∃ (qs : List (List UInt8)) (a' s' : Int), Ev (fun k => spec_l00Src_text.l0 k (nb ps.flatten ++ nb p) (d : Int) l a2 s2) (strOfNums (nb qs.flatten), a', s') ∧ (∀ p ∈ qs, Piece p) ∧ qs.length ≤ ps.length + (d + 1) := by
   intro p a2 s2 hp h2
   obtain ⟨qs, a', s', e, hq, hle⟩ := text_l0 d (ps ++ [p]) a2 s2 (B + 20) h2 (by omega) (by rw [List.length_append, List.length_singleton]; omega) (fun x hx' => by
    rcases List.mem_append.1 hx' with h | h
    ·exact hx x h
    ·rw [List.mem_singleton.1 h]; exact hp)
   rw [List.flatten_append, nb_append, show [p].flatten = p by simp] at e
   rw [List.length_append, List.length_singleton] at hle
   exact ⟨qs, a', s', e, hq, by omega⟩
  cases hr : (r1 == 1) with
  | true =>
   rw [hr] at hch
   obtain ⟨r2, a2, s2, e2, h2, b2, c2⟩ := next_ok 8 h1 (by omega)
   have c2 := c2 (by decide)
   obtain ⟨b, hb, hbt⟩ := abc_ok r2 b2 c2
   obtain ⟨qs, a', s', e, hq, hle⟩ := hgo [b] a2 s2 (.inl ⟨b, hb, rfl⟩) (h2.grow (by omega))
   refine ⟨qs, a', s', Ev.step (fun k => ?_) e, hq, hle⟩
   simp only [spec_l00Src_text.l0, hch, bS, e2, hbt, e3.out, nb_length]
   rw [if_pos (by omega), if_pos trivial, if_pos b2, if_pos c2, if_pos (by omega)]
   rfl
  | false =>
   rw [hr] at hch
   obtain ⟨r2, a2, s2, e2, h2, hR⟩ := rune_ok h1 (by omega)
   obtain ⟨p, hp, hP⟩ := bytes_ok r2 hR
   have hpl := piece_len hP
   obtain ⟨qs, a', s', e, hq, hle⟩ := hgo p a2 s2 hP (h2.grow (by omega))
   refine ⟨qs, a', s', Ev.step (fun k => ?_) e, hq, hle⟩
   simp only [spec_l00Src_text.l0, hch, bS, e2, hp, e3.out, nb_length]
   rw [if_pos (by omega), if_neg (by decide), if_pos (by omega)]
theorem flat_pieces (qs : List (List UInt8)) (h : ∀ p ∈ qs, Piece p) : qs.flatten.length ≤ 4 * qs.length := by
 induction qs with
 | nil => simp
 | cons q qs ih =>
  have h1 := (piece_len (h q (List.mem_cons_self ..))).2
  have h2 := ih fun p hp => h p (List.mem_cons_of_mem _ hp)
  rw [List.flatten_cons, List.length_append, List.length_cons]
  omega
theorem textOf_ok (l : List Int) (hw : ∀ y ∈ l, 0 ≤ y ∧ y ≤ 255) : ∃ qs : List (List UInt8), ∃ t, Ev (fun k => spec_TextOf.f k l) t ∧ bl t = qs.flatten ∧ (∀ p ∈ qs, Piece p) ∧ t.size ≤ 48 := by
 obtain ⟨s0, e0, h0⟩ := source_ok l hw
 obtain ⟨r, a1, s1, e1, h1, b1, c1⟩ := next_ok 12 h0 (by omega)
 have c1 := c1 (by decide)
 obtain ⟨d, hd⟩ : ∃ d : Nat, r = (d : Int) := ⟨r.toNat, (Int.toNat_of_nonneg b1).symm⟩
 subst hd
 obtain ⟨qs, a2, s2, ⟨K, e⟩, hq, hle⟩ := text_l0 d [] a1 s1 _ h1 (by omega) (by simp only [List.length_nil]; omega) (fun p hp => by cases hp)
 have hfl := flat_pieces qs hq
 simp only [List.length_nil] at hle
 refine ⟨qs, strOfNums (nb qs.flatten), ⟨K, fun k hk => ?_⟩, bl_strOf_nb _, hq, by rw [bl_size, bl_strOf_nb]; omega⟩
 have e2 : spec_l00Src_text.l0 k [] (d : Int) l a1 s1 = some (strOfNums (nb qs.flatten), a2, s2) := e k hk
 simp only [spec_TextOf.f, e0, bS, spec_l00Src_text.f, e1, e2]
end Go.Proofs.YteipfgcnfeclgaaDoor.P
/- Lemmas of mine: right texts are pieces; where they are cut. Plain. -/
set_option linter.unusedVariables false
set_option linter.unusedSimpArgs false
namespace Go.Proofs.YteipfgcnfeclgaaDoor.P
open Go.RowKit Go.Proofs.YteipfgcnfeclgaaDoorW.PrintWords
theorem piece_dec (q : List UInt8) (h : Piece q) (t : List UInt8) : (Lib.decodeL (q ++ t)).2 = q.length ∧ ¬ ((Lib.decodeL (q ++ t)).1 = 65533 ∧ (Lib.decodeL (q ++ t)).2 = 1) := by
  rcases h with ⟨b, hb, rfl⟩ | h
  · have e : Lib.decodeL ([b] ++ t) = (b.toNat, 1) := Lib.decodeL_ascii b t hb
    rw [e]
    exact ⟨rfl, fun q => by have := q.1; simp only at this; omega⟩
  · simp only [List.mem_cons, List.not_mem_nil, or_false] at h
    rcases h with rfl | rfl | rfl | rfl | rfl | rfl | rfl | rfl | rfl | rfl
    all_goals
      (rw [Lib.decodeL_N]
       simp [Lib.decodeN, List.getD])
theorem valid_go : ∀ (qs : List (List UInt8)), (∀ q ∈ qs, Piece q) → ∀ n, qs.flatten.length ≤ n → Lib.validGoD n qs.flatten = true
  | [], _, n, _ => by
    cases n with
    | zero => rfl
    | succ n => unfold Lib.validGoD; exact if_pos rfl
  | q :: qs, h, n, hn => by
    have hq := h q (List.mem_cons_self ..)
    have hl := piece_len hq
    rw [List.flatten_cons, List.length_append] at hn
    obtain ⟨m, rfl⟩ : ∃ m, n = m + 1 := ⟨n - 1, by omega⟩
    obtain ⟨h1, h2⟩ := piece_dec q hq qs.flatten
    have hne : q ++ qs.flatten ≠ [] := fun e => by
      have := congrArg List.length e
      rw [List.length_append, List.length_nil] at this
      omega
    rw [List.flatten_cons]
    unfold Lib.validGoD
    rw [if_neg hne, if_neg h2, h1, List.drop_left' rfl]
    exact valid_go qs (fun p hp => h p (List.mem_cons_of_mem _ hp)) m (by omega)
theorem valid_flat (qs : List (List UInt8)) (h : ∀ q ∈ qs, Piece q) : Lib.validD qs.flatten = true := valid_go qs h _ (Nat.le_refl _)
-- a rune, by the reference
theorem rune_step (t : ByteArray) (hs : t.size ≤ 65536) (at_ n j v c : Nat) (hj : j < n) (hn : n ≤ 4) (hlt : at_ + j < t.size) (hb : bt t ((at_ + j : Nat) : Int) = (c : Int)) (hc : 128 ≤ c ∧ c ≤ 191) (hv : v ≤ 1000000) (k : Nat) :
    spec_l01Rune.l0 (k + 1) t (at_ : Int) (n : Int) (v : Int) (j : Int) = spec_l01Rune.l0 k t (at_ : Int) (n : Int) ((v * 64 + c - 128 : Nat) : Int) ((j + 1 : Nat) : Int) := by
  have w1 : Aside0 (wrap64 ((at_ : Int) + (j : Int)) = ((at_ + j : Nat) : Int)) := ⟨w64add _ _ (by omega)⟩
  have w2 : Aside0 (wrap64 (c : Int) = (c : Int)) := ⟨w64n c (by omega)⟩
  have w3 : Aside0 (wrap64 ((wrap64 ((wrap64 ((v : Int) * 64)) + (c : Int))) - 128) = ((v * 64 + c - 128 : Nat) : Int)) := ⟨by
    rw [w64 (n := (v : Int) * 64) (by omega) (by omega), w64 (n := (v : Int) * 64 + (c : Int)) (by omega) (by omega), w64 (by omega) (by omega)]
    omega⟩
  have w4 : Aside0 (wrap64 ((j : Int) + 1) = ((j + 1 : Nat) : Int)) := ⟨w64s j (by omega)⟩
  simp only [spec_l01Rune.l0, w1.out, hb, w2.out, l01In_t, bS, w3.out, w4.out]
  rw [if_pos (by omega), if_pos (by omega), if_pos (by omega), if_pos (decide_eq_true (by omega))]
theorem rune_end (t : ByteArray) (at_ n v : Nat) (h : spec_RuneSize.f (v : Int) = some (n : Int)) (k : Nat) : spec_l01Rune.l0 (k + 1) t (at_ : Int) (n : Int) (v : Int) (n : Int) = some ((v : Int), (n : Int), true) := by
  simp only [spec_l01Rune.l0, h, bS]
  rw [if_neg (by omega), if_pos trivial]
theorem rune_j0 (t : ByteArray) (hs : t.size ≤ 65536) (at_ n v : Nat) (hn : n ≤ 4) (h : at_ + n ≤ t.size) (k : Nat) : spec_l01Rune.j0 (k + 1) t (at_ : Int) (n : Int) (v : Int) = spec_l01Rune.l0 k t (at_ : Int) (n : Int) (v : Int) ((1 : Nat) : Int) := by
  simp only [spec_l01Rune.j0]
  rw [w64add _ _ (by omega), if_neg (by omega)]
  rfl
theorem rune2 (t : ByteArray) (hs : t.size ≤ 65536) (at_ b c : Nat) (h : at_ + 2 ≤ t.size) (hb : bt t (at_ : Int) = (b : Int)) (hc : bt t ((at_ + 1 : Nat) : Int) = (c : Int)) (hbr : 194 ≤ b ∧ b ≤ 223) (hcr : 128 ≤ c ∧ c ≤ 191)
    (hz : spec_RuneSize.f (((b - 192) * 64 + c - 128 : Nat) : Int) = some ((2 : Nat) : Int)) (k : Nat) : ∃ r, spec_l01Rune.f (k + 4) t (at_ : Int) = some (r, 2, true) := by
  have w2 : Aside0 (wrap64 (b : Int) = (b : Int)) := ⟨w64n b (by omega)⟩
  have w3 : Aside0 (wrap64 ((b : Int) - 192) = ((b - 192 : Nat) : Int)) := ⟨w64sub b 192 (by omega) (by omega)⟩
  refine ⟨(((b - 192) * 64 + c - 128 : Nat) : Int), ?_⟩
  simp only [spec_l01Rune.f, hb, w2.out, l01In_t, bS, w3.out]
  rw [if_pos (by omega), if_pos (by omega), if_neg (by omega), if_pos (decide_eq_true (by omega))]
  refine (rune_j0 t hs at_ 2 _ (by omega) h (k + 3)).trans ?_
  rw [rune_step t hs at_ 2 1 _ c (by omega) (by omega) (by omega) hc hcr (by omega) (k + 2)]
  exact rune_end t at_ 2 _ hz (k + 1)
theorem rune3 (t : ByteArray) (hs : t.size ≤ 65536) (at_ b c d : Nat) (h : at_ + 3 ≤ t.size) (hb : bt t (at_ : Int) = (b : Int)) (hc : bt t ((at_ + 1 : Nat) : Int) = (c : Int)) (hd : bt t ((at_ + 2 : Nat) : Int) = (d : Int)) (hbr : 224 ≤ b ∧ b ≤ 239) (hcr : 128 ≤ c ∧ c ≤ 191) (hdr : 128 ≤ d ∧ d ≤ 191)
    (hz : spec_RuneSize.f ((((b - 224) * 64 + c - 128) * 64 + d - 128 : Nat) : Int) = some ((3 : Nat) : Int)) (k : Nat) : ∃ r, spec_l01Rune.f (k + 5) t (at_ : Int) = some (r, 3, true) := by
  have w2 : Aside0 (wrap64 (b : Int) = (b : Int)) := ⟨w64n b (by omega)⟩
  have w3 : Aside0 (wrap64 ((b : Int) - 224) = ((b - 224 : Nat) : Int)) := ⟨w64sub b 224 (by omega) (by omega)⟩
  refine ⟨((((b - 224) * 64 + c - 128) * 64 + d - 128 : Nat) : Int), ?_⟩
  simp only [spec_l01Rune.f, hb, w2.out, l01In_t, bS, w3.out]
  rw [if_pos (by omega), if_pos (by omega), if_neg (by omega), if_neg (fun q => by have := of_decide_eq_true q; omega), if_pos (decide_eq_true (by omega))]
  refine (rune_j0 t hs at_ 3 _ (by omega) h (k + 4)).trans ?_
  rw [rune_step t hs at_ 3 1 _ c (by omega) (by omega) (by omega) hc hcr (by omega) (k + 3), rune_step t hs at_ 3 2 _ d (by omega) (by omega) (by omega) hd hdr (by omega) (k + 2)]
  exact rune_end t at_ 3 _ hz (k + 1)
theorem rune4 (t : ByteArray) (hs : t.size ≤ 65536) (at_ b c d e : Nat) (h : at_ + 4 ≤ t.size) (hb : bt t (at_ : Int) = (b : Int)) (hc : bt t ((at_ + 1 : Nat) : Int) = (c : Int)) (hd : bt t ((at_ + 2 : Nat) : Int) = (d : Int)) (he : bt t ((at_ + 3 : Nat) : Int) = (e : Int)) (hbr : 240 ≤ b ∧ b ≤ 244) (hcr : 128 ≤ c ∧ c ≤ 191) (hdr : 128 ≤ d ∧ d ≤ 191) (her : 128 ≤ e ∧ e ≤ 191)
    (hz : spec_RuneSize.f (((((b - 240) * 64 + c - 128) * 64 + d - 128) * 64 + e - 128 : Nat) : Int) = some ((4 : Nat) : Int)) (k : Nat) : ∃ r, spec_l01Rune.f (k + 6) t (at_ : Int) = some (r, 4, true) := by
  have w2 : Aside0 (wrap64 (b : Int) = (b : Int)) := ⟨w64n b (by omega)⟩
  have w3 : Aside0 (wrap64 ((b : Int) - 240) = ((b - 240 : Nat) : Int)) := ⟨w64sub b 240 (by omega) (by omega)⟩
  refine ⟨(((((b - 240) * 64 + c - 128) * 64 + d - 128) * 64 + e - 128 : Nat) : Int), ?_⟩
  simp only [spec_l01Rune.f, hb, w2.out, l01In_t, bS, w3.out]
  rw [if_pos (by omega), if_pos (by omega), if_neg (by omega), if_neg (fun q => by have := of_decide_eq_true q; omega), if_neg (fun q => by have := of_decide_eq_true q; omega), if_pos (decide_eq_true (by omega))]
  refine (rune_j0 t hs at_ 4 _ (by omega) h (k + 5)).trans ?_
  rw [rune_step t hs at_ 4 1 _ c (by omega) (by omega) (by omega) hc hcr (by omega) (k + 4), rune_step t hs at_ 4 2 _ d (by omega) (by omega) (by omega) hd hdr (by omega) (k + 3), rune_step t hs at_ 4 3 _ e (by omega) (by omega) (by omega) he her (by omega) (k + 2)]
  exact rune_end t at_ 4 _ hz (k + 1)
theorem bt_at (t : ByteArray) (pre q post : List UInt8) (h : bl t = pre ++ (q ++ post)) (j : Nat) (hj : j < q.length) : bt t ((pre.length + j : Nat) : Int) = ((q[j]'hj).toNat : Int) := by
  have hl : pre.length + j < (bl t).length := by rw [h, List.length_append, List.length_append]; omega
  have hg : (bl t)[pre.length + j]? = some (q[j]'hj) := by
    rw [h, List.getElem?_append_right (by omega), Nat.add_sub_cancel_left, List.getElem?_append_left hj, List.getElem?_eq_getElem hj]
  rw [bt_eq t _ hl]
  rw [List.getElem?_eq_getElem hl] at hg
  rw [Option.some.inj hg]
theorem rune_at (t : ByteArray) (hs : t.size ≤ 65536) (pre q post : List UInt8) (h : bl t = pre ++ (q ++ post)) (hq : Piece q) (k : Nat) : ∃ r, spec_l01Rune.f (k + 6) t (pre.length : Int) = some (r, (q.length : Int), true) := by
  have hsz := bl_size t
  have hlen := congrArg List.length h
  rw [List.length_append, List.length_append] at hlen
  have hb := bt_at t pre q post h
  rcases hq with ⟨b, hb1, rfl⟩ | hq
  · have h0 := hb 0 (by simp)
    have h0' : bt t (pre.length : Int) = (b.toNat : Int) := h0
    simp only [List.length_cons, List.length_nil] at hlen
    refine ⟨(b.toNat : Int), ?_⟩
    have w2 : Aside0 (wrap64 (b.toNat : Int) = (b.toNat : Int)) := ⟨w64n _ (by omega)⟩
    simp only [spec_l01Rune.f, h0', w2.out]
    rw [if_pos (by omega), if_pos (by omega), if_pos (by omega)]
    rfl
  · simp only [List.mem_cons, List.not_mem_nil, or_false] at hq
    rcases hq with rfl | rfl | rfl | rfl | rfl | rfl | rfl | rfl | rfl | rfl
    · exact rune2 t hs pre.length 195 164 (by simp only [List.length_cons, List.length_nil] at hlen; omega) (hb 0 (by decide)) (hb 1 (by decide)) (by decide) (by decide) (by decide +kernel) (k + 2)
    · exact rune2 t hs pre.length 223 191 (by simp only [List.length_cons, List.length_nil] at hlen; omega) (hb 0 (by decide)) (hb 1 (by decide)) (by decide) (by decide) (by decide +kernel) (k + 2)
    · exact rune3 t hs pre.length 224 160 128 (by simp only [List.length_cons, List.length_nil] at hlen; omega) (hb 0 (by decide)) (hb 1 (by decide)) (hb 2 (by decide)) (by decide) (by decide) (by decide) (by decide +kernel) (k + 1)
    · exact rune3 t hs pre.length 226 130 172 (by simp only [List.length_cons, List.length_nil] at hlen; omega) (hb 0 (by decide)) (hb 1 (by decide)) (hb 2 (by decide)) (by decide) (by decide) (by decide) (by decide +kernel) (k + 1)
    · exact rune3 t hs pre.length 237 159 191 (by simp only [List.length_cons, List.length_nil] at hlen; omega) (hb 0 (by decide)) (hb 1 (by decide)) (hb 2 (by decide)) (by decide) (by decide) (by decide) (by decide +kernel) (k + 1)
    · exact rune3 t hs pre.length 238 128 128 (by simp only [List.length_cons, List.length_nil] at hlen; omega) (hb 0 (by decide)) (hb 1 (by decide)) (hb 2 (by decide)) (by decide) (by decide) (by decide) (by decide +kernel) (k + 1)
    · exact rune3 t hs pre.length 239 191 191 (by simp only [List.length_cons, List.length_nil] at hlen; omega) (hb 0 (by decide)) (hb 1 (by decide)) (hb 2 (by decide)) (by decide) (by decide) (by decide) (by decide +kernel) (k + 1)
    · exact rune4 t hs pre.length 240 144 128 128 (by simp only [List.length_cons, List.length_nil] at hlen; omega) (hb 0 (by decide)) (hb 1 (by decide)) (hb 2 (by decide)) (hb 3 (by decide)) (by decide) (by decide) (by decide) (by decide) (by decide +kernel) k
    · exact rune4 t hs pre.length 240 159 152 128 (by simp only [List.length_cons, List.length_nil] at hlen; omega) (hb 0 (by decide)) (hb 1 (by decide)) (hb 2 (by decide)) (hb 3 (by decide)) (by decide) (by decide) (by decide) (by decide) (by decide +kernel) k
    · exact rune4 t hs pre.length 244 143 191 191 (by simp only [List.length_cons, List.length_nil] at hlen; omega) (hb 0 (by decide)) (hb 1 (by decide)) (hb 2 (by decide)) (hb 3 (by decide)) (by decide) (by decide) (by decide) (by decide) (by decide +kernel) k
theorem rune_ev (t : ByteArray) (hs : t.size ≤ 65536) (pre q post : List UInt8) (h : bl t = pre ++ (q ++ post)) (hq : Piece q) : ∃ r, Ev (fun k => spec_l01Rune.f k t (pre.length : Int)) (r, (q.length : Int), true) := by
  obtain ⟨r, hr⟩ := rune_at t hs pre q post h hq 0
  refine ⟨r, 6, fun k hk => ?_⟩
  obtain ⟨m, rfl⟩ : ∃ m, k = m + 6 := ⟨k - 6, by omega⟩
  obtain ⟨r', hr'⟩ := rune_at t hs pre q post h hq m
  have hmono : ∀ a b, LeO (spec_l01Rune.f a t (pre.length : Int)) (spec_l01Rune.f (a + b) t (pre.length : Int)) := by
    intro a b
    induction b with
    | zero => exact LeO.refl _
    | succ b ih => exact fun r h => spec_l01Rune.mono _ _ _ r (ih r h)
  have := hmono 6 m _ hr
  rw [Nat.add_comm] at this
  exact this
theorem valid_l0 (t : ByteArray) (hs : t.size ≤ 65536) : ∀ (qs : List (List UInt8)) (pre : List UInt8), (∀ q ∈ qs, Piece q) → bl t = pre ++ qs.flatten → Ev (fun k => spec_ValidText.l0 k t (pre.length : Int)) true
  | [], pre, _, h => by
    have hsz := bl_size t
    rw [h, List.flatten_nil, List.append_nil] at hsz
    exact Ev.step (f := fun _ => some _) (fun k => by simp only [spec_ValidText.l0]; rw [if_neg (by omega)]) (Ev.now _)
  | q :: qs, pre, hq, h => by
    have hsz := bl_size t
    have hp := hq q (List.mem_cons_self ..)
    have hl := piece_len hp
    rw [List.flatten_cons] at h
    obtain ⟨r, K, hr⟩ := rune_ev t hs pre q qs.flatten h hp
    obtain ⟨K2, ih⟩ := valid_l0 t hs qs (pre ++ q) (fun p hp => hq p (List.mem_cons_of_mem _ hp)) (by rw [h, List.append_assoc])
    rw [h, List.length_append, List.length_append] at hsz
    refine ⟨K + K2 + 1, fun k hk => ?_⟩
    obtain ⟨m, rfl⟩ : ∃ m, k = m + 1 := ⟨k - 1, by omega⟩
    have f1 := hr m (by omega)
    have f2 := ih m (by omega)
    simp only at f1 f2
    rw [List.length_append] at f2
    simp only [spec_ValidText.l0, f1, bS, w64add pre.length q.length (by omega)]
    rw [if_pos (by omega), if_pos trivial]
    exact f2
theorem exists_cut (n : Nat) : ∀ (qs : List (List UInt8)) (off : Nat), off ≤ n → ∃ ps rs, qs = ps ++ rs ∧ off + ps.flatten.length ≤ n ∧ (rs = [] ∨ ∃ q rs', rs = q :: rs' ∧ n < off + ps.flatten.length + q.length)
  | [], off, h => ⟨[], [], rfl, h, .inl rfl⟩
  | q :: qs, off, h => by
    by_cases hq : n < off + q.length
    · exact ⟨[], q :: qs, rfl, h, .inr ⟨q, qs, rfl, hq⟩⟩
    · obtain ⟨ps, rs, h1, h2, h3⟩ := exists_cut n qs (off + q.length) (by omega)
      refine ⟨q :: ps, rs, by rw [h1]; rfl, ?_, ?_⟩
      · rw [List.flatten_cons, List.length_append]; omega
      · rcases h3 with h3 | ⟨p, rs', h3, h4⟩
        · exact .inl h3
        · refine .inr ⟨p, rs', h3, ?_⟩
          rw [List.flatten_cons, List.length_append]; omega
theorem specCut_l0 (t : ByteArray) (hs : t.size ≤ 65536) (n : Nat) (hn : n ≤ 1000000) (rs : List (List UInt8)) (hr : ∀ q ∈ rs, Piece q) : ∀ (ps : List (List UInt8)) (pre : List UInt8), (∀ q ∈ ps, Piece q) → bl t = pre ++ (ps.flatten ++ rs.flatten) →
    pre.length + ps.flatten.length ≤ n → (rs = [] ∨ ∃ q rs', rs = q :: rs' ∧ n < pre.length + ps.flatten.length + q.length) → Ev (fun k => spec_CutRunes.l0 k t (n : Int) (pre.length : Int)) (t.extract 0 (pre.length + ps.flatten.length), 0)
  | [], pre, _, h, h1, h2 => by
    have hsz := bl_size t
    rw [List.flatten_nil, List.nil_append] at h
    rcases h2 with rfl | ⟨q, rs', rfl, h2⟩
    · rw [h, List.flatten_nil, List.append_nil] at hsz
      refine Ev.step (f := fun _ => some _) (fun k => ?_) (Ev.now _)
      simp only [spec_CutRunes.l0, Int.toNat_natCast, List.flatten_nil, List.length_nil, Nat.add_zero]
      rw [if_neg (by omega), if_pos (by omega), if_pos (by omega)]
    · have hp := hr q (List.mem_cons_self ..)
      have hl := piece_len hp
      rw [List.flatten_cons] at h
      obtain ⟨r, K, hr⟩ := rune_ev t hs pre q rs'.flatten h hp
      rw [h, List.length_append, List.length_append] at hsz
      rw [List.flatten_nil, List.length_nil, Nat.add_zero] at h2
      refine ⟨K + 1, fun k hk => ?_⟩
      obtain ⟨m, rfl⟩ : ∃ m, k = m + 1 := ⟨k - 1, by omega⟩
      have f1 := hr m (by omega)
      simp only at f1
      simp only [spec_CutRunes.l0, f1, bS, w64add pre.length q.length (by omega), Int.toNat_natCast, List.flatten_nil, List.length_nil, Nat.add_zero]
      rw [if_pos (by omega), if_pos (by omega), if_pos (by omega), if_pos (by omega)]
  | p :: ps, pre, hp, h, h1, h2 => by
    have hsz := bl_size t
    have hpp := hp p (List.mem_cons_self ..)
    have hl := piece_len hpp
    rw [List.flatten_cons, List.append_assoc] at h
    rw [List.flatten_cons, List.length_append] at h1 h2
    obtain ⟨r, K, hr'⟩ := rune_ev t hs pre p (ps.flatten ++ rs.flatten) h hpp
    obtain ⟨K2, ih⟩ := specCut_l0 t hs n hn rs hr ps (pre ++ p) (fun q hq => hp q (List.mem_cons_of_mem _ hq)) (by rw [h, List.append_assoc]) (by rw [List.length_append]; omega) (by
      rcases h2 with h2 | ⟨q, rs', e, h2⟩
      · exact .inl h2
      · exact .inr ⟨q, rs', e, by rw [List.length_append]; omega⟩)
    rw [h, List.length_append, List.length_append] at hsz
    refine ⟨K + K2 + 1, fun k hk => ?_⟩
    obtain ⟨m, rfl⟩ : ∃ m, k = m + 1 := ⟨k - 1, by omega⟩
    have f1 := hr' m (by omega)
    have f2 := ih m (by omega)
    simp only at f1 f2
    rw [List.length_append] at f2
    simp only [spec_CutRunes.l0, f1, bS, w64add pre.length p.length (by omega)]
    rw [if_pos (by omega), if_neg (by omega), f2, List.flatten_cons, List.length_append, Nat.add_assoc]
-- the program
theorem rs_all : ∀ x : Fin 256, ((Go.bits .and .u8 ((x.val : Nat) : Int) 192) != 128) = !decide (128 ≤ x.val ∧ x.val ≤ 191) := by decide +kernel
theorem rs_eq (b : UInt8) : utf8_RuneStart.f (b.toNat : Int) = some (!decide (128 ≤ b.toNat ∧ b.toNat ≤ 191)) := by
  unfold utf8_RuneStart.f
  rw [rs_all ⟨b.toNat, b.toNat_lt⟩]
theorem piece_start (q : List UInt8) (h : Piece q) : ∀ (j : Nat) (hj : j < q.length), (decide (128 ≤ (q[j]'hj).toNat ∧ (q[j]'hj).toNat ≤ 191)) = decide (0 < j) := by
  rcases h with ⟨b, hb, rfl⟩ | h
  · intro j hj
    have h0 : j = 0 := by simp only [List.length_cons, List.length_nil] at hj; omega
    subst h0
    show decide (128 ≤ b.toNat ∧ b.toNat ≤ 191) = _
    rw [decide_eq_false (by omega)]
    rfl
  · simp only [List.mem_cons, List.not_mem_nil, or_false] at h
    rcases h with rfl | rfl | rfl | rfl | rfl | rfl | rfl | rfl | rfl | rfl <;> decide
theorem first_l0 (t : ByteArray) (hs : t.size ≤ 65536) (pre q post : List UInt8) (h : bl t = pre ++ (q ++ post)) (hq : Piece q) : ∀ j, j < q.length → Ev (fun k => impl_firstRunes.l0 k t ((pre.length + j : Nat) : Int)) (t.extract 0 pre.length) := by
  have hsz := bl_size t
  have hlen := congrArg List.length h
  rw [List.length_append, List.length_append] at hlen
  intro j
  induction j with
  | zero =>
    intro hj
    refine Ev.step (f := fun _ => some _) (fun k => ?_) (Ev.now _)
    simp only [impl_firstRunes.l0, bt_at t pre q post h 0 hj, rs_eq, bS, piece_start q hq 0 hj, Int.toNat_natCast]
    rw [if_pos (by omega), if_pos (by omega), if_pos (by decide), if_pos (by omega)]
    rfl
  | succ j ih =>
    intro hj
    refine Ev.step (fun k => ?_) (ih (by omega))
    have w1 : Aside0 (wrap64 ((((pre.length + (j + 1) : Nat)) : Int) - 1) = ((pre.length + j : Nat) : Int)) := ⟨by rw [w64 (by omega) (by omega)]; omega⟩
    simp only [impl_firstRunes.l0, bt_at t pre q post h (j + 1) hj, rs_eq, bS, piece_start q hq (j + 1) hj, w1.out]
    rw [if_pos (by omega), if_pos (by omega), decide_eq_true (show 0 < j + 1 by omega), if_neg (by decide)]
end Go.Proofs.YteipfgcnfeclgaaDoor.P
/- Lemmas of mine: a choice out of a row's bytes always lies within its bound. Plain. -/
set_option linter.unusedVariables false
set_option linter.unusedSimpArgs false
namespace Go.Proofs.YteipfgcnfeclgaaDoor.P
open Go.RowKit Go.Proofs.YteipfgcnfeclgaaDoorW.PrintWords
theorem wfByteA {x : Int} (h : (Lit.int .u8 x).wf = true) : 0 ≤ x ∧ x ≤ 255 := by
 have h2 : IntKind.u8.min ≤ x ∧ x ≤ IntKind.u8.max := by simpa [Lit.wf] using h
 have e1 : IntKind.u8.min = 0 := by decide +kernel
 have e2 : IntKind.u8.max = 255 := by decide +kernel
 rw [e1, e2] at h2
 exact h2
theorem at_ok (l : List Int) (hw : ∀ y ∈ l, 0 ≤ y ∧ y ≤ 255) (hl : l.length ≤ 1048576) (i m : Nat) (hi : i ≤ 1000000000000) (hm : 2 ≤ m) (hm2 : m ≤ 1000) : ∃ n : Nat, laws_at.f l (i : Int) (m : Int) = some (n : Int) ∧ n < m := by
 simp only [laws_at.f]
 rw [if_neg (by omega)]
 have hfin : ∀ x : Int, 0 ≤ x → ∃ n : Nat, (if (m : Int) = 0 then none else some (Int.tmod x (m : Int))) = some (n : Int) ∧ n < m := by
  intro x hx
  have h1 := Int.emod_nonneg x (show (m : Int) ≠ 0 by omega)
  have h2 := Int.emod_lt_of_pos x (show (0 : Int) < (m : Int) by omega)
  refine ⟨(x % (m : Int)).toNat, ?_, ?_⟩
  ·rw [if_neg (by omega), Int.tmod_eq_emod_of_nonneg hx, Int.toNat_of_nonneg (by omega)]
  ·omega
 by_cases h0 : (l.length : Int) = 0
 ·rw [if_pos h0, w64 (n := (i : Int) * 7) (by omega) (by omega)]
  exact hfin _ (by omega)
 ·rw [if_neg h0]
  have hpos : 0 < l.length := by omega
  obtain ⟨p, hp, hp1⟩ : ∃ p : Nat, Int.tmod (i : Int) (l.length : Int) = (p : Int) ∧ p < l.length := by
   refine ⟨i % l.length, ?_, Nat.mod_lt _ hpos⟩
   rw [Int.tmod_eq_emod_of_nonneg (by omega)]
   rfl
  obtain ⟨q, hq, hq1⟩ : ∃ q : Nat, Int.tmod (((i + 1 : Nat)) : Int) (l.length : Int) = (q : Int) ∧ q < l.length := by
   refine ⟨(i + 1) % l.length, ?_, Nat.mod_lt _ hpos⟩
   rw [Int.tmod_eq_emod_of_nonneg (by omega)]
   rfl
  obtain ⟨d, hd, hd1⟩ : ∃ d : Nat, Int.tdiv (i : Int) (l.length : Int) = (d : Int) ∧ d ≤ i := by
   refine ⟨i / l.length, ?_, Nat.div_le_self _ _⟩
   rw [Int.tdiv_eq_ediv_of_nonneg (by omega)]
   rfl
  rw [w64s i (by omega), hp, hq, hd, w64n d (by omega), if_pos (by omega), if_pos (by omega), if_pos (by omega), if_pos (by omega)]
  have hr : ∀ i : Nat, i < l.length → 0 ≤ rd l (i : Int) ∧ rd l (i : Int) ≤ 255 := fun i hi => by
   unfold rd
   rw [Int.toNat_natCast, List.getD_eq_getElem?_getD, List.getElem?_eq_getElem hi]
   exact hw _ (List.getElem_mem hi)
  have h1 := hr p hp1
  have h2 := hr q hq1
  generalize rd l (p : Int) = a at h1
  generalize rd l (q : Int) = b at h2
  have e1 : wrap64 a = a := w64 (by omega) (by omega)
  have e2 : wrap64 b = b := w64 (by omega) (by omega)
  rw [e1, e2]
  clear e1 e2 hr
  have e3 : wrap64 (a * 31) = a * 31 := w64 (by omega) (by omega)
  rw [e3]
  clear e3
  have e4 : wrap64 (a * 31 + b) = a * 31 + b := w64 (by omega) (by omega)
  rw [e4]
  clear e4
  have e5 : wrap64 (a * 31 + b + (d : Int)) = a * 31 + b + (d : Int) := w64 (by omega) (by omega)
  rw [e5]
  clear e5
  exact hfin _ (by omega)
end Go.Proofs.YteipfgcnfeclgaaDoor.P
/- The pure statement of the law FnCut: what is cut off a text is right, a beginning of it, and the longest one that fits. No condition. -/
set_option linter.unusedVariables false
set_option linter.unusedSimpArgs false
namespace Go.Proofs.YteipfgcnfeclgaaDoor.Pure
open Go.RowKit Go.Proofs.YteipfgcnfeclgaaDoor.P Go.Proofs.YteipfgcnfeclgaaDoorW.PrintWords
theorem FnCut : laws_FnCut.Pure := by
 intro x y hx hy
 refine Ev.k (?_ : Ev (fun k => laws_FnCut.f k x y) true)
 have hT : Ev (fun k => laws_FnCut.j0 k x y true) true := Ev.step (f := fun _ => some true) (fun k => by simp only [laws_FnCut.j0]; exact if_pos trivial) (Ev.now _)
 by_cases h1 : (x.length : Int) > 1048576
 ·exact Ev.congr (fun k => by simp only [laws_FnCut.f]; exact if_pos h1) hT
 ·by_cases h2 : (y.length : Int) > 1048576
  ·exact Ev.congr (fun k => by simp only [laws_FnCut.f]; rw [if_neg h1, decide_eq_true h2]) hT
  ·refine Ev.congr (fun k => by simp only [laws_FnCut.f]; rw [if_neg h1, decide_eq_false h2]) ?_
   obtain ⟨qs, t, ⟨K1, ht⟩, hq, hp, hz⟩ := textOf_ok x fun z hz => wfByteA (hx.2.2 z hz)
   obtain ⟨n, hn, hn30⟩ := at_ok y (fun z hz => wfByteA (hy.2.2 z hz)) (by omega) 0 30 (by omega) (by omega) (by omega)
   have hn' : laws_at.f y 0 30 = some (n : Int) := hn
   obtain ⟨ps, rs, e1, e2, e3⟩ := exists_cut n qs 0 (Nat.zero_le _)
   rw [Nat.zero_add] at e2
   have hsz := bl_size t
   have hpp : ∀ q ∈ ps, Piece q := fun q hq' => hp q (by rw [e1]; exact List.mem_append_left _ hq')
   have hpr : ∀ q ∈ rs, Piece q := fun q hq' => hp q (by rw [e1]; exact List.mem_append_right _ hq')
   have hfl : qs.flatten = ps.flatten ++ rs.flatten := by rw [e1, List.flatten_append]
   have htl : bl t = ps.flatten ++ rs.flatten := by rw [hq, hfl]
   have hlen := congrArg List.length htl
   rw [List.length_append] at hlen
   obtain ⟨a, ha⟩ : ∃ a, t.extract 0 ps.flatten.length = a := ⟨_, rfl⟩
   have hal : bl a = ps.flatten := by rw [← ha, bl_extract, htl, List.drop_zero, Nat.sub_zero, List.take_left' rfl]
   have has : a.size = ps.flatten.length := by rw [bl_size, hal]
   obtain ⟨K2, hv⟩ := valid_l0 t (by omega) qs [] hp hq
   obtain ⟨K3, hc⟩ := specCut_l0 t (by omega) n (by omega) rs hpr ps [] hpp htl (by simp only [List.length_nil]; omega) (by simpa using e3)
   simp only [List.length_nil, Nat.zero_add] at hv hc
   rw [ha] at hc
   have hspec : ∀ k, K2 + K3 ≤ k → spec_CutRunes.f k t (n : Int) = some (a, 0) := fun k hk => by
    have f1 : spec_ValidText.l0 k t 0 = some true := hv k (by omega)
    have f2 : spec_CutRunes.l0 k t (n : Int) 0 = some (a, 0) := hc k (by omega)
    simp only [spec_CutRunes.f, spec_ValidText.f]
    rw [if_neg (by omega), if_neg (by omega), f1, bS, if_pos rfl, if_neg (by omega)]
    exact f2
   have hvalid : ∀ (u : ByteArray) (us : List (List UInt8)), (∀ q ∈ us, Piece q) → bl u = us.flatten → u.size ≤ 65536 → utf8_ValidString.f u = some true := fun u us hu1 hu2 hu3 => by
    unfold utf8_ValidString.f
    rw [if_pos (by omega)]
    show some (Lib.validD (bl u)) = some true
    rw [hu2, valid_flat us hu1]
   have hfirst : Ev (fun k => impl_firstRunes.f k t (n : Int)) a := by
    by_cases hge : (n : Int) ≥ (t.size : Int)
    ·have hrs : rs = [] := by
      rcases e3 with e3 | ⟨q, rs', e, h⟩
      ·exact e3
      ·rw [e, List.flatten_cons, List.length_append] at hlen
       omega
     have hat : a = t := bl_inj (by rw [hal, htl, hrs]; simp)
     rw [hat]
     exact Ev.congr (f := fun _ => some t) (fun k => by simp only [impl_firstRunes.f]; exact if_pos hge) (Ev.now _)
    ·rcases e3 with e3 | ⟨q, rs', e, h⟩
     ·rw [e3] at hlen
      simp only [List.flatten_nil, List.length_nil] at hlen
      omega
     ·rw [Nat.zero_add] at h
      rw [e, List.flatten_cons] at htl
      have hf := first_l0 t (by omega) ps.flatten q rs'.flatten htl (hpr q (by rw [e]; exact List.mem_cons_self ..)) (n - ps.flatten.length) (by omega)
      rw [ha, show ps.flatten.length + (n - ps.flatten.length) = n by omega] at hf
      exact Ev.congr (fun k => by simp only [impl_firstRunes.f]; exact if_neg hge) hf
   obtain ⟨K4, hf⟩ := hfirst
   have himpl : ∀ k, K4 ≤ k → impl_CutRunes.f k t (n : Int) = some (a, 0) := fun k hk => by
    have f1 : impl_firstRunes.f k t (n : Int) = some a := hf k hk
    simp only [impl_CutRunes.f, hvalid t qs hp hq (by omega), f1, bS]
    rw [if_neg (by omega), if_pos trivial, if_neg (by omega)]
   have hva : impl_ValidText.f a = some true := by
    simp only [impl_ValidText.f, hvalid a ps hpp hal (by omega), bS]
    exact if_pos (by omega)
   refine ⟨K1 + K2 + K3 + K4 + 1, fun k hk => ?_⟩
   obtain ⟨m, rfl⟩ : ∃ m, k = m + 1 := ⟨k - 1, by omega⟩
   have f1 : spec_TextOf.f m x = some t := ht m (by omega)
   have f2 := himpl m (by omega)
   have f3 := hspec m (by omega)
   have eta : t.extract 0 a.size = a := by rw [has, ha]
   have w4 : Aside0 (wrap64 ((a.size : Int) + 4) = (a.size : Int) + 4) := ⟨w64 (by omega) (by omega)⟩
   show laws_FnCut.j0 (m + 1) x y false = some true
   simp only [laws_FnCut.j0, f1, hn', f2, f3, bS, hva, w4.out, Int.toNat_natCast, eta]
   rw [if_neg (by decide), if_pos trivial, if_pos trivial, if_neg (by omega), if_neg (by omega), if_pos (by omega), if_pos (by omega), if_pos trivial, if_pos trivial]
   rcases e3 with e3 | ⟨q, rs', e, h⟩
   ·have hat : a = t := bl_inj (by rw [hal, htl, e3]; simp)
    exact if_pos (by rw [hat])
   ·have hl := piece_len (hpr q (by rw [e]; exact List.mem_cons_self ..))
    split
    ·rfl
    ·exact congrArg some (decide_eq_true (by omega))
end Go.Proofs.YteipfgcnfeclgaaDoor.Pure
