/- Part 3 of what the law FnLine stands on; the last part ends with the law's row. No condition of mine. -/
import Derived.Test.YteipfgcnfeclgaaMFnLine1
import Derived.Test.YteipfgcnfeclgaaMFnLine2
import Derived.Shelf.Strings.FieldsFuncAny
import Derived.Lib.Strings
import Derived.Lib.IndexBytes
import Derived.Laws.BitsLemmas
import Derived.IntWalk
namespace Go.Proofs.Yteipfgcnfeclgaa.P
open Go.RowKit Go.Proofs.YteipfgcnfeclgaaW.PrintWords Go.Proofs.YteipfgcnfeclgaaW.PrintLast Go.Proofs.YteipfgcnfeclgaaW.PrintMore
attribute [local go_sem] max2_int min2_int max_two min_two max_three min_three max_four min_four   -- for this text's walks alone
set_option linter.unusedVariables false
set_option linter.unusedSimpArgs false

/-! ### impl_oneLine_L1: function 17 -/
def impl_oneLine_L1.f (a0 : Int) : Option (Bool) := if a0 < 128 then ((impl_isBlank.f ((a0) % 256)).bind fun t101 => (some t101)) else (some false)
set_option maxHeartbeats 8000000 in
set_option maxRecDepth 100000 in
theorem impl_oneLine_L1.calls (a0 : Int) (r : Bool) (w : World) (h : impl_oneLine_L1.f a0 = some r) :
  Calls Try.prog 17 #[.int .i32 a0] w fun e w' => e = .returned (.bool r) ∧ Drawn0 w w' := by
 have H : (if a0 < 128 then ((impl_isBlank.f ((a0) % 256)).bind fun t101 => (some t101)) else (some false)) = some r := h
 clear h
 by_cases c2 : a0 < 128
 ·rw [if_pos c2] at H
  have c2b0 : decide (a0 < 128) = true := decide_eq_true c2
  clear c2
  replace H := Option.bind_eq_some_iff.mp H
  obtain ⟨t101, A30, H⟩ := H
  replace H : (some t101) = some r := H
  have A3 := Aside0.mk A30
  clear A30
  obtain rfl := Option.some.inj H
  go_enter Try.func17, Try.ntmps17
  go_wp2_with (first | (go_at_call 18; (with_reducible refine (impl_isBlank.calls ((a0) % 256) t101 _ A3.out).mono ?_); rintro e w' ⟨rfl, ⟨nd, rfl⟩⟩))
  go_ret
  exact ⟨by first | rfl | (simp; done) | (simp [*]; done), by repeat (first | exact Drawn0.refl _ | apply Drawn0.step)⟩
 ·rw [if_neg c2] at H
  have c2b0 : decide (a0 < 128) = false := decide_eq_false c2
  clear c2
  obtain rfl := Option.some.inj H
  go_enter Try.func17, Try.ntmps17
  go_wp2
  go_ret
  exact ⟨by first | rfl | (simp; done) | (simp [*]; done), by repeat (first | exact Drawn0.refl _ | apply Drawn0.step)⟩


/-! ### strings_FieldsFunc_at_impl_oneLine_L1: function 900016017 (a text of mine) -/
section
open Go.Shelf
def sh900016017_lays229_ren : Go.Shelf.Ren := ⟨fun | 229 => 16 | n => n, fun | 9 => 9 | 40 => 41 | 31 => 38 | 152 => 51 | 3 => 3 | 0 => 0 | 4 => 4 | 21 => 21 | 154 => 53 | n => n, fun | n => n⟩
theorem sh900016017_lays229 : Go.Proofs.Lays.n229 Try.prog sh900016017_lays229_ren := {
 mixed := by kernel_rfl
 f229 := Try.func16.trans (congrArg some (by kernel_rfl))
 t0 := Try.underlying0
 a0 := Try.isAgg0
 z0 := Try.sizeOf0
 v0 := Try.zeroValue0
 t3 := Try.underlying3
 a3 := Try.isAgg3
 z3 := Try.sizeOf3
 v3 := Try.zeroValue3
 t4 := Try.underlying4
 a4 := Try.isAgg4
 z4 := Try.sizeOf4
 v4 := Try.zeroValue4
 t9 := Try.underlying9
 a9 := Try.isAgg9
 z9 := Try.sizeOf9
 v9 := Try.zeroValue9
 t21 := Try.underlying21
 a21 := Try.isAgg21
 z21 := Try.sizeOf21
 v21 := Try.zeroValue21
 t31 := Try.underlying38
 a31 := Try.isAgg38
 z31 := Try.sizeOf38
 v31 := Try.zeroValue38
 t40 := Try.underlying41
 a40 := Try.isAgg41
 z40 := Try.sizeOf41
 v40 := Try.zeroValue41
 t152 := Try.underlying51
 a152 := Try.isAgg51
 z152 := Try.sizeOf51
 v152 := Try.zeroValue51
 t154 := Try.underlying53
 a154 := Try.isAgg53
 z154 := Try.sizeOf53
 v154 := Try.zeroValue53 }
open Go.RowKit Go.Lib in
theorem sh900016017_strings_FieldsFunc_runes (g : Nat) (lb : Array Value) (eg : ∀ args w, (callFunc g args).run Try.prog w = .ok (.enter g args) w) (p : Nat → Bool) (s : ByteArray) (w : World) (hs : s.size ≤ 4294967296) (hp : PredAtRunes Try.prog g lb p w) :
  Calls Try.prog 16 #[.string s, .func (.func g) #[] lb] w fun e w' => ∃ A, e = .returned (.slice (some ⟨A, 0, none⟩) (Lib.goFieldsP p s).length (Lib.goFieldsP p s).length) ∧ w.heap.size ≤ A ∧
   w'.ownsRow w.heap.size 9 1 (.slice (some ⟨A, 0, none⟩) (Lib.goFieldsP p s).length (Lib.goFieldsP p s).length) (Lib.goFieldsP p s).length ((Lib.goFieldsP p s).map Value.string) ∧ Below w.heap.size w w' := Any.strings_FieldsFunc_runes sh900016017_lays229 g lb eg p s w hs hp (by kernel_rfl) (by kernel_rfl)
open Go.RowKit Go.Lib in
end

def strings_FieldsFunc_at_impl_oneLine_L1.f (a0 : ByteArray) : Option (List ByteArray) := if a0.size ≤ 4294967296 then some (Lib.goFieldsP (fun n_ : Nat => (impl_oneLine_L1.f (n_ : Int)) == some true) a0) else none
theorem strings_FieldsFunc_at_impl_oneLine_L1.calls (a0 : ByteArray) (r : List ByteArray) (w : World) (h : strings_FieldsFunc_at_impl_oneLine_L1.f a0 = some r) :
  Calls Try.prog 16 #[.string a0, .func (.func 17) #[] #[]] w fun e w' => ∃ v0_ : Value, e = .returned (v0_) ∧ Kd.R Kd.string 9 w' w.heap.size (fun _ => True) v0_ r ∧ Below w.heap.size w w' := by
 unfold strings_FieldsFunc_at_impl_oneLine_L1.f at h
 split at h
 ·rename_i hs
  obtain rfl := Option.some.inj h
  refine (sh900016017_strings_FieldsFunc_runes 17 #[] (enters_ Try.func17 (by kernel_rfl) rfl) (fun n_ : Nat => (impl_oneLine_L1.f (n_ : Int)) == some true) a0 w hs (fun W x hx hB => ?_)).mono ?_
  ·have hb : ∃ b, impl_oneLine_L1.f (x : Int) = some b := by
    unfold impl_oneLine_L1.f
    (try unfold impl_isBlank.f)
    repeat' split
    all_goals exact ⟨_, rfl⟩
   obtain ⟨b, hb⟩ := hb
   have e_ : ((impl_oneLine_L1.f (x : Int)) == some true) = b := by rw [hb]; cases b <;> rfl
   show Calls Try.prog 17 #[.int .i32 (x : Int)] W fun e w' => e = .returned (.bool ((impl_oneLine_L1.f (x : Int)) == some true)) ∧ ∃ q, w' = W.drewN q
   rw [e_]
   exact (impl_oneLine_L1.calls (x : Int) b W hb).mono fun e w' ⟨he, hd⟩ => ⟨he, hd.out⟩
  ·rintro e w' ⟨A, rfl, hA, hown, hB⟩
   exact ⟨_, rfl, Kd.R_of_own (h1 := fun _ => rfl) (ok := fun _ => True) hown (fun _ _ => trivial), hB⟩
 ·cases h


/-! ### impl_oneLine: function 9 -/
def impl_oneLine.f (a0 : ByteArray) : Option (ByteArray) := (strings_FieldsFunc_at_impl_oneLine_L1.f a0).bind fun t101 => ((strings_Join.f t101 (⟨#[32]⟩ : ByteArray)).bind fun t104 => (some t104))
set_option maxHeartbeats 8000000 in
set_option maxRecDepth 100000 in
theorem impl_oneLine.calls (a0 : ByteArray) (r : ByteArray) (w : World) (h : impl_oneLine.f a0 = some r) :
  Calls Try.prog 9 #[.string a0] w fun e w' => e = .returned (.string r) ∧ Below w.heap.size w w' := by
 have HB := Aside0.mk (Below.refl w.heap.size w)
 have H : ((strings_FieldsFunc_at_impl_oneLine_L1.f a0).bind fun t101 => ((strings_Join.f t101 (⟨#[32]⟩ : ByteArray)).bind fun t104 => (some t104))) = some r := h
 clear h
 replace H := Option.bind_eq_some_iff.mp H
 obtain ⟨t101, A20, H⟩ := H
 replace H : ((strings_Join.f t101 (⟨#[32]⟩ : ByteArray)).bind fun t104 => (some t104)) = some r := H
 have A2 := Aside0.mk A20
 clear A20
 replace H := Option.bind_eq_some_iff.mp H
 obtain ⟨t104, A30, H⟩ := H
 replace H : (some t104) = some r := H
 have A3 := Aside0.mk A30
 clear A30
 obtain rfl := Option.some.inj H
 go_enter Try.func9, Try.ntmps9
 go_wp2_with (first | ((with_reducible refine gate_callee (f := 16) rfl ?_); refine goesL_ (some 4) rfl rfl Try.func16 (by kernel_rfl) rfl #[.string a0, .func (.func 17) #[] #[]] rfl (by (try simp only [List.map_toArray, List.map_cons, List.map_nil]); first | done | rfl | (simp only [List.length_drop, List.length_take]; rfl)) ?_; (with_reducible refine (strings_FieldsFunc_at_impl_oneLine_L1.calls a0 t101 _ A2.out).mono ?_); rintro e w4 ⟨v102, rfl, ho0, hb⟩; refine ⟨_, rfl, ?_⟩; have n0_ := Aside0.mk (Kd.R_lower ho0 (below_size (by repeat (first | (with_reducible first | exact HB.out | apply below_alloc | apply pw_below_drewN | apply below_drew1) | exact HB.out)))); have n1_ := Aside0.mk (below_step (by repeat (first | (with_reducible first | exact HB.out | apply below_alloc | apply pw_below_drewN | apply below_drew1) | exact HB.out)) hb); clear HB; have HO103 := n0_; have HB := n1_; clear n0_ n1_; (try clear hb); (try clear hb2); (try clear hk); (try clear hi); (try clear ho0); obtain ⟨Ao5, co5, eo5⟩ := Kd.R_slice HO103.out; subst eo5) | ((with_reducible refine gate_callee (f := 15) rfl ?_); refine goesL_ (some 5) rfl rfl Try.func15 (by kernel_rfl) rfl #[.slice Ao5 t101.length co5, .string (⟨#[32]⟩ : ByteArray)] rfl (by (try simp only [List.map_toArray, List.map_cons, List.map_nil]); first | done | rfl | (simp only [List.length_drop, List.length_take]; rfl)) ?_; (with_reducible refine (strings_Join.calls _ _ t101 (⟨#[32]⟩ : ByteArray) t104 _ ?side1 ?side2 A3.out).mono ?_); (case side1 => repeat (first | exact (Kd.R_reads' HO103.out).2.2 | (with_reducible refine Kd.C_alloc ?_ _) | (with_reducible refine Kd.C_drewN ?_ _) | (with_reducible refine Kd.C_drew ?_))); (case side2 => exact (Kd.R_reads' HO103.out).2.1); rintro e w6 ⟨rfl, hb⟩; refine ⟨_, rfl, ?_⟩; have n0_ := Aside0.mk (Kd.R_below (by (with_reducible repeat (first | apply Kd.R_alloc | apply Kd.R_drewN | apply Kd.R_drew)); exact HO103.out) hb); have n1_ := Aside0.mk (below_step (by repeat (first | (with_reducible first | exact HB.out | apply below_alloc | apply pw_below_drewN | apply below_drew1) | exact HB.out)) hb); clear HO103; clear HB; have HO103 := n0_; have HB := n1_; clear n0_ n1_; (try clear hb); (try clear hb2); (try clear hk); (try clear hi)))
 go_ret
 exact ⟨by first | rfl | (simp [errW_none, errW_some] <;> rfl) | (simp [*, errW_none, errW_some] <;> rfl), by repeat (first | (with_reducible first | exact HB.out | apply below_alloc | apply pw_below_drewN | apply below_drew1) | exact HB.out)⟩


/-! ### impl_OneLine: function 5 -/
def impl_OneLine.f (a0 : ByteArray) : Option (ByteArray × Int) := if (a0.size : Int) > 65536 then (some ((⟨#[]⟩ : ByteArray), 2)) else ((impl_oneLine.f a0).bind fun t101 => (some (t101, 0)))
set_option maxHeartbeats 8000000 in
set_option maxRecDepth 100000 in
theorem impl_OneLine.calls (a0 : ByteArray) (r1 : ByteArray) (r2 : Int) (w : World) (h : impl_OneLine.f a0 = some (r1, r2)) :
  Calls Try.prog 5 #[.string a0] w fun e w' => e = .returned (.tuple #[.string r1, .int .i64 r2]) ∧ Below w.heap.size w w' := by
 have HB := Aside0.mk (Below.refl w.heap.size w)
 have H : (if (a0.size : Int) > 65536 then (some ((⟨#[]⟩ : ByteArray), 2)) else ((impl_oneLine.f a0).bind fun t101 => (some (t101, 0)))) = some (r1, r2) := h
 clear h
 by_cases c2 : (a0.size : Int) > 65536
 ·rw [if_pos c2] at H
  have c2b0 : decide (65536 < (a0.size : Int)) = true := decide_eq_true c2
  have c2b1 : decide (65536 < a0.size) = true := decide_eq_true (by omega)
  clear c2
  simp only [Option.some.injEq, Prod.mk.injEq] at H
  obtain ⟨rfl, rfl⟩ := H
  go_enter Try.func5, Try.ntmps5
  go_wp2
  go_ret2
  exact ⟨by first | rfl | (simp [errW_none, errW_some] <;> rfl) | (simp [*, errW_none, errW_some] <;> rfl), by repeat (first | (with_reducible first | exact HB.out | apply below_alloc | apply pw_below_drewN | apply below_drew1) | exact HB.out)⟩
 ·rw [if_neg c2] at H
  have c2b0 : decide (65536 < (a0.size : Int)) = false := decide_eq_false c2
  have c2b1 : decide (65536 < a0.size) = false := decide_eq_false (by omega)
  clear c2
  replace H := Option.bind_eq_some_iff.mp H
  obtain ⟨t101, A30, H⟩ := H
  replace H : (some (t101, 0)) = some (r1, r2) := H
  have A3 := Aside0.mk A30
  clear A30
  simp only [Option.some.injEq, Prod.mk.injEq] at H
  obtain ⟨rfl, rfl⟩ := H
  go_enter Try.func5, Try.ntmps5
  go_wp2_with (first | ((with_reducible refine gate_callee (f := 9) rfl ?_); refine goesL_ (some 8) rfl rfl Try.func9 (by kernel_rfl) rfl #[.string a0] rfl (by (try simp only [List.map_toArray, List.map_cons, List.map_nil]); first | done | rfl | (simp only [List.length_drop, List.length_take]; rfl)) ?_; (with_reducible refine (impl_oneLine.calls a0 t101 _ A3.out).mono ?_); rintro e w4 ⟨rfl, hb⟩; refine ⟨_, rfl, ?_⟩; have n0_ := Aside0.mk (below_step (by repeat (first | (with_reducible first | exact HB.out | apply below_alloc | apply pw_below_drewN | apply below_drew1) | exact HB.out)) hb); clear HB; have HB := n0_; clear n0_; (try clear hb); (try clear hb2); (try clear hk); (try clear hi)))
  go_ret2
  exact ⟨by first | rfl | (simp [errW_none, errW_some] <;> rfl) | (simp [*, errW_none, errW_some] <;> rfl), by repeat (first | (with_reducible first | exact HB.out | apply below_alloc | apply pw_below_drewN | apply below_drew1) | exact HB.out)⟩


/-! ### spec_l05Blank: function 19 -/
def spec_l05Blank.f (a0 : Int) : Option (Bool) := if a0 = 32 then (some true) else (if a0 = 9 then (some true) else (if a0 = 10 then (some true) else (some (a0 == 13))))
set_option maxHeartbeats 8000000 in
set_option maxRecDepth 100000 in
theorem spec_l05Blank.calls (a0 : Int) (r : Bool) (w : World) (h : spec_l05Blank.f a0 = some r) :
  Calls Try.prog 19 #[.int .u8 a0] w fun e w' => e = .returned (.bool r) ∧ Drawn0 w w' := by
 have H : (if a0 = 32 then (some true) else (if a0 = 9 then (some true) else (if a0 = 10 then (some true) else (some (a0 == 13))))) = some r := h
 clear h
 by_cases c2 : a0 = 32
 ·rw [if_pos c2] at H
  have c2b0 : (a0 == 32) = true := beq_iff_eq.mpr c2
  have c2b1 : (a0 != 32) = false := bne_eq_false_iff_eq.mpr c2
  clear c2
  obtain rfl := Option.some.inj H
  go_enter Try.func19, Try.ntmps19
  go_wp2
  go_ret
  exact ⟨by first | rfl | (simp; done) | (simp [*]; done), by repeat (first | exact Drawn0.refl _ | apply Drawn0.step)⟩
 ·rw [if_neg c2] at H
  have c2b0 : (a0 == 32) = false := beq_eq_false_iff_ne.mpr c2
  have c2b1 : (a0 != 32) = true := bne_iff_ne.mpr c2
  by_cases c3 : a0 = 9
  ·rw [if_pos c3] at H
   have c3b0 : (a0 == 9) = true := beq_iff_eq.mpr c3
   have c3b1 : (a0 != 9) = false := bne_eq_false_iff_eq.mpr c3
   clear c3
   obtain rfl := Option.some.inj H
   go_enter Try.func19, Try.ntmps19
   go_wp2
   go_ret
   exact ⟨by first | rfl | (simp; done) | (simp [*]; done), by repeat (first | exact Drawn0.refl _ | apply Drawn0.step)⟩
  ·rw [if_neg c3] at H
   have c3b0 : (a0 == 9) = false := beq_eq_false_iff_ne.mpr c3
   have c3b1 : (a0 != 9) = true := bne_iff_ne.mpr c3
   by_cases c4 : a0 = 10
   ·rw [if_pos c4] at H
    have c4b0 : (a0 == 10) = true := beq_iff_eq.mpr c4
    have c4b1 : (a0 != 10) = false := bne_eq_false_iff_eq.mpr c4
    clear c4
    obtain rfl := Option.some.inj H
    go_enter Try.func19, Try.ntmps19
    go_wp2
    go_ret
    exact ⟨by first | rfl | (simp; done) | (simp [*]; done), by repeat (first | exact Drawn0.refl _ | apply Drawn0.step)⟩
   ·rw [if_neg c4] at H
    have c4b0 : (a0 == 10) = false := beq_eq_false_iff_ne.mpr c4
    have c4b1 : (a0 != 10) = true := bne_iff_ne.mpr c4
    obtain rfl := Option.some.inj H
    go_enter Try.func19, Try.ntmps19
    go_wp2
    go_ret
    exact ⟨by first | rfl | (simp; done) | (simp [*]; done), by repeat (first | exact Drawn0.refl _ | apply Drawn0.step)⟩


/-! ### spec_l06Line: function 10 -/
def spec_l06Line.l0 : Nat → ByteArray → List Int → Int → Option (ByteArray)
 | 0, _, _, _ => none
 | k + 1, x0, x3, x4 => if x4 < (x0.size : Int) then (if 0 ≤ x4 then ((spec_l05Blank.f (bt x0 x4)).bind fun t108 => (if t108 = true then (if (x3.length : Int) > 0 then (if 0 ≤ (wrap64 ((x3.length : Int) - 1)) then (if (wrap64 ((x3.length : Int) - 1)) < (x3.length : Int) then (if (rd x3 (wrap64 ((x3.length : Int) - 1))) = 32 then (spec_l06Line.l0 k x0 x3 (wrap64 (x4 + 1))) else (if x3.length < 140737488355328 then (spec_l06Line.l0 k x0 (x3 ++ [32]) (wrap64 (x4 + 1))) else (none))) else (none)) else (none)) else (spec_l06Line.l0 k x0 x3 (wrap64 (x4 + 1)))) else (if x3.length < 140737488355328 then (spec_l06Line.l0 k x0 (x3 ++ [bt x0 x4]) (wrap64 (x4 + 1))) else (none)))) else (none)) else (if (x3.length : Int) > 0 then (if 0 ≤ (wrap64 ((x3.length : Int) - 1)) then (if (wrap64 ((x3.length : Int) - 1)) < (x3.length : Int) then (if (rd x3 (wrap64 ((x3.length : Int) - 1))) = 32 then (if (wrap64 ((x3.length : Int) - 1)) ≤ (x3.length : Int) then (some (strOfNums (x3.take ((wrap64 ((x3.length : Int) - 1)) : Int).toNat))) else (none)) else (some (strOfNums x3))) else (none)) else (none)) else (some (strOfNums x3)))
def spec_l06Line.f (k : Nat) (a0 : ByteArray) : Option (ByteArray) := spec_l06Line.l0 k a0 (([] : List Int)) 0
theorem spec_l06Line.mono_l : ∀ k, (∀ y0 y1 y2, LeO (spec_l06Line.l0 k y0 y1 y2) (spec_l06Line.l0 (k + 1) y0 y1 y2))
 | 0 => fun _ _ _ r h => by simp [spec_l06Line.l0] at h
 | k + 1 => by
  have ih0 := spec_l06Line.mono_l k
  ·intro y0 y1 y2
   unfold spec_l06Line.l0
   repeat' first
   | (with_reducible exact ih0 _ _ _)
   | (with_reducible exact LeO.refl _)
   | (with_reducible exact LeO.none _)
   | (with_reducible refine LeO.ite ?_ ?_)
   | (with_reducible refine LeO.bind ?_ (fun _ => ?_))
   | exact ih0 _ _ _
   | exact LeO.none _
   | refine LeO.ite ?_ ?_
   | refine LeO.bind ?_ (fun _ => ?_)
theorem spec_l06Line.mono : ∀ a0 k, LeO (spec_l06Line.f k a0) (spec_l06Line.f (k + 1) a0) := by
 intro a0 k
 have ih0 := spec_l06Line.mono_l k
 unfold spec_l06Line.f
 repeat' first
   | (with_reducible exact ih0 _ _ _)
   | (with_reducible exact LeO.refl _)
   | (with_reducible exact LeO.none _)
   | (with_reducible refine LeO.ite ?_ ?_)
   | (with_reducible refine LeO.bind ?_ (fun _ => ?_))
   | exact ih0 _ _ _
   | exact LeO.none _
   | refine LeO.ite ?_ ?_
   | refine LeO.bind ?_ (fun _ => ?_)
set_option maxHeartbeats 8000000 in
set_option maxRecDepth 100000 in
theorem spec_l06Line.calls (k : Nat) (a0 : ByteArray) (r : ByteArray) (w : World) (h : spec_l06Line.f k a0 = some r) :
  Calls Try.prog 10 #[.string a0] w fun e w' => e = .returned (.string r) ∧ Below w.heap.size w w' := by
 have HB := Aside0.mk (Below.refl w.heap.size w)
 have H : (spec_l06Line.l0 k a0 (([] : List Int)) 0) = some r := h
 clear h
 obtain ⟨y101, hy101⟩ : ∃ y_ : List Int, y_ = (([] : List Int)) := ⟨_, rfl⟩
 replace H : (spec_l06Line.l0 k a0 y101 0) = some r := by first | (rw [hy101]; with_reducible exact H) | (have H2_ := (Option.bind_some _ _).symm.trans H; rw [hy101]; with_reducible exact H2_) | (have H2_ := (Option.bind_some _ _).symm.trans H; with_reducible exact H2_) | with_reducible exact H | (rw [hy101]; exact H) | exact H
 have Ny101 := Aside0.mk hy101
 clear hy101
 have H' := Aside0.mk H
 clear H
 go_enter Try.func10, Try.ntmps10
 go_wp2_with (first | ((with_reducible refine gate_dst (N := 6) rfl ?_); (try (refine gate_guard (by rfl) ?_; dsimp only)); refine Kd.R_lit (Kd.int .u8) _ 5 ?hg (N := 6) ?hd (xs := ([] : List Int)) (inner := []) (ok := fun _ => True) (okp := fun _ => True) ?hr ?hp (fun _ hk => hk) trivial (Below.refl _ _) (Nat.le_refl _) (by simp) ?_; (case hd => rfl); (case hg => rfl); (case hr => first | (go_simp; done) | (go_simp; rfl)); (case hp => exact (Reps.none _ _)); intro v102 w2 ho3 hb hg_ hnew_; clear hg_ hnew_; (first | rw [← Ny101.out] at ho3 | (simp only [Int.reduceToNat] at ho3; rw [← Ny101.out] at ho3)); have n0_ := Aside0.mk (Kd.R_lower ho3 (below_size (by repeat (first | (with_reducible first | exact HB.out | apply below_alloc | apply pw_below_drewN | apply below_drew1) | exact HB.out)))); have n1_ := Aside0.mk (below_step (by repeat (first | (with_reducible first | exact HB.out | apply below_alloc | apply pw_below_drewN | apply below_drew1) | exact HB.out)) hb); clear HB; have HO103 := n0_; have HB := n1_; clear n0_ n1_; clear hb ho3))
 go_loopg [3, 4] k (fun kq v3 v4 w' => ∃ (x3_1 : List Int) (x4_1 : Int), v4 = .int .i64 x4_1 ∧ Aside0 (spec_l06Line.l0 kq a0 x3_1 x4_1 = some r) ∧ Aside0 (kq ≤ k) ∧ Aside0 (Kd.R (Kd.int .u8) 5 w' w.heap.size (fun _ => True) v3 x3_1) ∧ Aside0 (Below w.heap.size w w'))
 case atStart => exact ⟨(y101), (0), (by first | rfl | (simp; done) | (simp [*]; done)), H', ⟨Nat.le_refl _⟩, ⟨by (with_reducible repeat (first | apply Kd.R_alloc | apply Kd.R_drewN | apply Kd.R_drew)); exact HO103.out⟩, ⟨by repeat (first | (with_reducible first | exact HB.out | apply below_alloc | apply pw_below_drewN | apply below_drew1) | exact HB.out)⟩⟩
 case round =>
  clear H'
  try clear c1
  try clear p2
  obtain ⟨x3_1, x4_1, rfl, HA, HK1, HO_3, HB⟩ := hrel
  cases gk with
  | zero => exact absurd HA.out (by simp [spec_l06Line.l0])
  | succ k1 =>
   have H := HA.out
   clear HA
   simp only [spec_l06Line.l0] at H
   by_cases c4 : x4_1 < (a0.size : Int)
   ·rw [if_pos c4] at H
    have c4b0 : decide (x4_1 < (a0.size : Int)) = true := decide_eq_true c4
    clear c4
    by_cases c5 : 0 ≤ x4_1
    ·rw [if_pos c5] at H
     have c5b0 : decide (0 ≤ x4_1) = true := decide_eq_true c5
     clear c5
     replace H := Option.bind_eq_some_iff.mp H
     obtain ⟨t108, A70, H⟩ := H
     replace H : (if t108 = true then (if (x3_1.length : Int) > 0 then (if 0 ≤ (wrap64 ((x3_1.length : Int) - 1)) then (if (wrap64 ((x3_1.length : Int) - 1)) < (x3_1.length : Int) then (if (rd x3_1 (wrap64 ((x3_1.length : Int) - 1))) = 32 then (spec_l06Line.l0 k1 a0 x3_1 (wrap64 (x4_1 + 1))) else (if x3_1.length < 140737488355328 then (spec_l06Line.l0 k1 a0 (x3_1 ++ [32]) (wrap64 (x4_1 + 1))) else (none))) else (none)) else (none)) else (spec_l06Line.l0 k1 a0 x3_1 (wrap64 (x4_1 + 1)))) else (if x3_1.length < 140737488355328 then (spec_l06Line.l0 k1 a0 (x3_1 ++ [bt a0 x4_1]) (wrap64 (x4_1 + 1))) else (none))) = some r := H
     have A7 := Aside0.mk A70
     clear A70
     by_cases c8 : t108 = true
     ·subst c8
      have H1 : (if (x3_1.length : Int) > 0 then (if 0 ≤ (wrap64 ((x3_1.length : Int) - 1)) then (if (wrap64 ((x3_1.length : Int) - 1)) < (x3_1.length : Int) then (if (rd x3_1 (wrap64 ((x3_1.length : Int) - 1))) = 32 then (spec_l06Line.l0 k1 a0 x3_1 (wrap64 (x4_1 + 1))) else (if x3_1.length < 140737488355328 then (spec_l06Line.l0 k1 a0 (x3_1 ++ [32]) (wrap64 (x4_1 + 1))) else (none))) else (none)) else (none)) else (spec_l06Line.l0 k1 a0 x3_1 (wrap64 (x4_1 + 1)))) = some r := by rw [if_pos rfl] at H; exact H
      clear H
      have H := H1
      clear H1
      by_cases c9 : (x3_1.length : Int) > 0
      ·rw [if_pos c9] at H
       have c9b0 : decide (0 < (x3_1.length : Int)) = true := decide_eq_true c9
       have c9b1 : decide (0 < x3_1.length) = true := decide_eq_true (by omega)
       clear c9
       obtain ⟨ji10, hji10⟩ : ∃ j_ : Int, (wrap64 ((x3_1.length : Int) - 1)) = j_ := ⟨_, rfl⟩
       replace H : (if 0 ≤ (ji10) then (if (ji10) < (x3_1.length : Int) then (if (rd x3_1 (ji10)) = 32 then (spec_l06Line.l0 k1 a0 x3_1 (wrap64 (x4_1 + 1))) else (if x3_1.length < 140737488355328 then (spec_l06Line.l0 k1 a0 (x3_1 ++ [32]) (wrap64 (x4_1 + 1))) else (none))) else (none)) else (none)) = some r := by first | (rw [hji10] at H; exact H) | (simp only [hji10] at H ⊢; exact H)
       (try rw [hji10] at A7)
       have hji10w : (IntKind.i64.wrap ((x3_1.length : Int) - 1)) = ji10 := (i64_w _).trans hji10
       by_cases c11 : 0 ≤ (ji10)
       ·rw [if_pos c11] at H
        have c11b0 : decide (0 ≤ (ji10)) = true := decide_eq_true c11
        clear c11
        by_cases c12 : (ji10) < (x3_1.length : Int)
        ·rw [if_pos c12] at H
         have c12b0 : decide ((ji10) < (x3_1.length : Int)) = true := decide_eq_true c12
         clear c12
         by_cases c13 : (rd x3_1 (ji10)) = 32
         ·rw [if_pos c13] at H
          have c13b0 : ((rd x3_1 (ji10)) == 32) = true := beq_iff_eq.mpr c13
          have c13b1 : ((rd x3_1 (ji10)) != 32) = false := bne_eq_false_iff_eq.mpr c13
          clear c13
          have H' := Aside0.mk H
          clear H
          have p6 : 0 ≤ (x4_1 : Int) := of_decide_eq_true (by first | (with_reducible assumption) | assumption)
          have q6 : x4_1 < (a0.size : Int) := of_decide_eq_true (by first | (with_reducible assumption) | assumption)
          have hx6 := bt_at a0 x4_1
          replace p6 := eq_true p6
          replace q6 := eq_true q6
          go_wp2_with (first | ((with_reducible refine gate_callee (f := 19) rfl ?_); refine goesL_ (some 16) rfl rfl Try.func19 (by kernel_rfl) rfl #[.int .u8 (bt a0 x4_1)] rfl (by (try simp only [List.map_toArray, List.map_cons, List.map_nil]); first | done | rfl | (simp only [List.length_drop, List.length_take]; rfl)) ?_; (with_reducible refine (spec_l05Blank.calls (bt a0 x4_1) true _ A7.out).mono ?_); rintro e w' ⟨rfl, ⟨nd, rfl⟩⟩; refine ⟨_, rfl, ?_⟩; obtain ⟨Ao14, co14, eo14⟩ := Kd.R_slice HO_3.out; subst eo14; have p109 : 0 ≤ ((ji10) : Int) := of_decide_eq_true (by first | (with_reducible assumption) | assumption); have q109 : (ji10) < (x3_1.length : Int) := of_decide_eq_true (by first | (with_reducible assumption) | assumption); obtain ⟨ad109, e109, hx109_0⟩ := Kd.at_int (Kd.R_reads' HO_3.out).2.2 (ji10) p109 q109; cases e109; replace p109 := eq_true p109; replace q109 := eq_true q109))
          go_roundg k1
          case measure => have := HK1.out; omega
          case rel => exact ⟨(x3_1), (wrap64 (x4_1 + 1)), (by first | rfl | (simp; done) | (simp [*]; done)), H', ⟨by have := HK1.out; omega⟩, ⟨by (with_reducible repeat (first | apply Kd.R_alloc | apply Kd.R_drewN | apply Kd.R_drew)); exact HO_3.out⟩, ⟨by repeat (first | (with_reducible first | exact HB.out | apply below_alloc | apply pw_below_drewN | apply below_drew1) | exact HB.out)⟩⟩
         ·rw [if_neg c13] at H
          have c13b0 : ((rd x3_1 (ji10)) == 32) = false := beq_eq_false_iff_ne.mpr c13
          have c13b1 : ((rd x3_1 (ji10)) != 32) = true := bne_iff_ne.mpr c13
          by_cases c15 : x3_1.length < 140737488355328
          ·rw [if_pos c15] at H
           have LMc15 := Aside0.mk c15
           clear c15
           obtain ⟨y110, hy110⟩ : ∃ y_ : List Int, y_ = (x3_1 ++ [32]) := ⟨_, rfl⟩
           replace H : (spec_l06Line.l0 k1 a0 y110 (wrap64 (x4_1 + 1))) = some r := by first | (rw [hy110]; with_reducible exact H) | (have H2_ := (Option.bind_some _ _).symm.trans H; rw [hy110]; with_reducible exact H2_) | (have H2_ := (Option.bind_some _ _).symm.trans H; with_reducible exact H2_) | with_reducible exact H | (rw [hy110]; exact H) | exact H
           have Ny110 := Aside0.mk hy110
           clear hy110
           have H' := Aside0.mk H
           clear H
           have p6 : 0 ≤ (x4_1 : Int) := of_decide_eq_true (by first | (with_reducible assumption) | assumption)
           have q6 : x4_1 < (a0.size : Int) := of_decide_eq_true (by first | (with_reducible assumption) | assumption)
           have hx6 := bt_at a0 x4_1
           replace p6 := eq_true p6
           replace q6 := eq_true q6
           go_wp2_with (first | ((with_reducible refine gate_callee (f := 19) rfl ?_); refine goesL_ (some 16) rfl rfl Try.func19 (by kernel_rfl) rfl #[.int .u8 (bt a0 x4_1)] rfl (by (try simp only [List.map_toArray, List.map_cons, List.map_nil]); first | done | rfl | (simp only [List.length_drop, List.length_take]; rfl)) ?_; (with_reducible refine (spec_l05Blank.calls (bt a0 x4_1) true _ A7.out).mono ?_); rintro e w' ⟨rfl, ⟨nd, rfl⟩⟩; refine ⟨_, rfl, ?_⟩; obtain ⟨Ao16, co16, eo16⟩ := Kd.R_slice HO_3.out; subst eo16; have p109 : 0 ≤ ((ji10) : Int) := of_decide_eq_true (by first | (with_reducible assumption) | assumption); have q109 : (ji10) < (x3_1.length : Int) := of_decide_eq_true (by first | (with_reducible assumption) | assumption); obtain ⟨ad109, e109, hx109_0⟩ := Kd.at_int (Kd.R_reads' HO_3.out).2.2 (ji10) p109 q109; cases e109; replace p109 := eq_true p109; replace q109 := eq_true q109) | ((with_reducible refine gate_builtin (b := .append) (xs := #[.tmp 29, .tmp 30]) rfl ?_); (try (refine gate_guard (by rfl) ?_; dsimp only)); at_builtin; refine Kd.R_append (Kd.int .u8) (w0 := w) w.heap.size rfl (.tmp 29) (.tmp 30) 22 5 (.int .u8 0) 1 rfl Try.underlying22 info5 rfl (by decide) (by omega) (.slice (some ad109) x3_1.length co16) x3_1 32 [.int .u8 32] (fun _ => True) (fun _ => False) rfl rfl ?aP (fun _ hk => hk.elim) ?aF ?aO ?aB ?aS ?aL ?_; (case aP => exact rfl); (case aB => exact (by repeat (first | (with_reducible first | exact HB.out | apply below_alloc | apply pw_below_drewN | apply below_drew1) | exact HB.out))); (case aF => exact (fun _ _ => trivial)); (case aO => exact (by (with_reducible repeat (first | apply Kd.R_alloc | apply Kd.R_drewN | apply Kd.R_drew)); exact HO_3.out)); (case aS => exact (below_size (by repeat (first | (with_reducible first | exact HB.out | apply below_alloc | apply pw_below_drewN | apply below_drew1) | exact HB.out)))); (case aL => have := LMc15.out; omega); intro v111 w17 ho hb hg hat; rw [← Ny110.out] at ho; have n0_ := Aside0.mk (hb); have n1_ := Aside0.mk (ho); clear HB; clear HO_3; have HB := n0_; have HO112 := n1_; clear n0_ n1_; clear ho hb hg hat))
           go_roundg k1
           case measure => have := HK1.out; omega
           case rel => exact ⟨(y110), (wrap64 (x4_1 + 1)), (by first | rfl | (simp; done) | (simp [*]; done)), H', ⟨by have := HK1.out; omega⟩, ⟨by (with_reducible repeat (first | apply Kd.R_alloc | apply Kd.R_drewN | apply Kd.R_drew)); exact HO112.out⟩, ⟨by repeat (first | (with_reducible first | exact HB.out | apply below_alloc | apply pw_below_drewN | apply below_drew1) | exact HB.out)⟩⟩
          ·rw [if_neg c15] at H
           exact absurd H (by simp)
        ·rw [if_neg c12] at H
         exact absurd H (by simp)
       ·rw [if_neg c11] at H
        exact absurd H (by simp)
      ·rw [if_neg c9] at H
       have c9b0 : decide (0 < (x3_1.length : Int)) = false := decide_eq_false c9
       have c9b1 : decide (0 < x3_1.length) = false := decide_eq_false (by omega)
       clear c9
       have H' := Aside0.mk H
       clear H
       have p6 : 0 ≤ (x4_1 : Int) := of_decide_eq_true (by first | (with_reducible assumption) | assumption)
       have q6 : x4_1 < (a0.size : Int) := of_decide_eq_true (by first | (with_reducible assumption) | assumption)
       have hx6 := bt_at a0 x4_1
       replace p6 := eq_true p6
       replace q6 := eq_true q6
       go_wp2_with (first | ((with_reducible refine gate_callee (f := 19) rfl ?_); refine goesL_ (some 16) rfl rfl Try.func19 (by kernel_rfl) rfl #[.int .u8 (bt a0 x4_1)] rfl (by (try simp only [List.map_toArray, List.map_cons, List.map_nil]); first | done | rfl | (simp only [List.length_drop, List.length_take]; rfl)) ?_; (with_reducible refine (spec_l05Blank.calls (bt a0 x4_1) true _ A7.out).mono ?_); rintro e w' ⟨rfl, ⟨nd, rfl⟩⟩; refine ⟨_, rfl, ?_⟩; obtain ⟨Ao18, co18, eo18⟩ := Kd.R_slice HO_3.out; subst eo18))
       go_roundg k1
       case measure => have := HK1.out; omega
       case rel => exact ⟨(x3_1), (wrap64 (x4_1 + 1)), (by first | rfl | (simp; done) | (simp [*]; done)), H', ⟨by have := HK1.out; omega⟩, ⟨by (with_reducible repeat (first | apply Kd.R_alloc | apply Kd.R_drewN | apply Kd.R_drew)); exact HO_3.out⟩, ⟨by repeat (first | (with_reducible first | exact HB.out | apply below_alloc | apply pw_below_drewN | apply below_drew1) | exact HB.out)⟩⟩
     ·replace c8 := Bool.eq_false_iff.mpr c8
      subst c8
      have H1 : (if x3_1.length < 140737488355328 then (spec_l06Line.l0 k1 a0 (x3_1 ++ [bt a0 x4_1]) (wrap64 (x4_1 + 1))) else (none)) = some r := by rw [if_neg (show ¬ (false = true) by decide)] at H; exact H
      clear H
      have H := H1
      clear H1
      by_cases c20 : x3_1.length < 140737488355328
      ·rw [if_pos c20] at H
       have LMc20 := Aside0.mk c20
       clear c20
       obtain ⟨y113, hy113⟩ : ∃ y_ : List Int, y_ = (x3_1 ++ [bt a0 x4_1]) := ⟨_, rfl⟩
       replace H : (spec_l06Line.l0 k1 a0 y113 (wrap64 (x4_1 + 1))) = some r := by first | (rw [hy113]; with_reducible exact H) | (have H2_ := (Option.bind_some _ _).symm.trans H; rw [hy113]; with_reducible exact H2_) | (have H2_ := (Option.bind_some _ _).symm.trans H; with_reducible exact H2_) | with_reducible exact H | (rw [hy113]; exact H) | exact H
       have Ny113 := Aside0.mk hy113
       clear hy113
       have H' := Aside0.mk H
       clear H
       have p6 : 0 ≤ (x4_1 : Int) := of_decide_eq_true (by first | (with_reducible assumption) | assumption)
       have q6 : x4_1 < (a0.size : Int) := of_decide_eq_true (by first | (with_reducible assumption) | assumption)
       have hx6 := bt_at a0 x4_1
       replace p6 := eq_true p6
       replace q6 := eq_true q6
       go_wp2_with (first | ((with_reducible refine gate_callee (f := 19) rfl ?_); refine goesL_ (some 16) rfl rfl Try.func19 (by kernel_rfl) rfl #[.int .u8 (bt a0 x4_1)] rfl (by (try simp only [List.map_toArray, List.map_cons, List.map_nil]); first | done | rfl | (simp only [List.length_drop, List.length_take]; rfl)) ?_; (with_reducible refine (spec_l05Blank.calls (bt a0 x4_1) false _ A7.out).mono ?_); rintro e w' ⟨rfl, ⟨nd, rfl⟩⟩; refine ⟨_, rfl, ?_⟩; have p19 : 0 ≤ (x4_1 : Int) := of_decide_eq_true (by first | (with_reducible assumption) | assumption); have q19 : x4_1 < (a0.size : Int) := of_decide_eq_true (by first | (with_reducible assumption) | assumption); have hx19 := bt_at a0 x4_1; replace p19 := eq_true p19; replace q19 := eq_true q19) | ((with_reducible refine gate_builtin (b := .append) (xs := #[.tmp 32, .tmp 36]) rfl ?_); (try (refine gate_guard (by rfl) ?_; dsimp only)); at_builtin; refine Kd.R_append (Kd.int .u8) (w0 := w) w.heap.size rfl (.tmp 32) (.tmp 36) 22 5 (.int .u8 0) 1 rfl Try.underlying22 info5 rfl (by decide) (by omega) u3 x3_1 (bt a0 x4_1) [.int .u8 (bt a0 x4_1)] (fun _ => True) (fun _ => False) rfl rfl ?aP (fun _ hk => hk.elim) ?aF ?aO ?aB ?aS ?aL ?_; (case aP => exact rfl); (case aB => exact (by repeat (first | (with_reducible first | exact HB.out | apply below_alloc | apply pw_below_drewN | apply below_drew1) | exact HB.out))); (case aF => exact (fun _ _ => trivial)); (case aO => exact (by (with_reducible repeat (first | apply Kd.R_alloc | apply Kd.R_drewN | apply Kd.R_drew)); exact HO_3.out)); (case aS => exact (below_size (by repeat (first | (with_reducible first | exact HB.out | apply below_alloc | apply pw_below_drewN | apply below_drew1) | exact HB.out)))); (case aL => have := LMc20.out; omega); intro v114 w21 ho hb hg hat; rw [← Ny113.out] at ho; have n0_ := Aside0.mk (hb); have n1_ := Aside0.mk (ho); clear HB; clear HO_3; have HB := n0_; have HO115 := n1_; clear n0_ n1_; clear ho hb hg hat))
       go_roundg k1
       case measure => have := HK1.out; omega
       case rel => exact ⟨(y113), (wrap64 (x4_1 + 1)), (by first | rfl | (simp; done) | (simp [*]; done)), H', ⟨by have := HK1.out; omega⟩, ⟨by (with_reducible repeat (first | apply Kd.R_alloc | apply Kd.R_drewN | apply Kd.R_drew)); exact HO115.out⟩, ⟨by repeat (first | (with_reducible first | exact HB.out | apply below_alloc | apply pw_below_drewN | apply below_drew1) | exact HB.out)⟩⟩
      ·rw [if_neg c20] at H
       exact absurd H (by simp)
    ·rw [if_neg c5] at H
     exact absurd H (by simp)
   ·rw [if_neg c4] at H
    have c4b0 : decide (x4_1 < (a0.size : Int)) = false := decide_eq_false c4
    clear c4
    by_cases c22 : (x3_1.length : Int) > 0
    ·rw [if_pos c22] at H
     have c22b0 : decide (0 < (x3_1.length : Int)) = true := decide_eq_true c22
     have c22b1 : decide (0 < x3_1.length) = true := decide_eq_true (by omega)
     clear c22
     obtain ⟨ji23, hji23⟩ : ∃ j_ : Int, (wrap64 ((x3_1.length : Int) - 1)) = j_ := ⟨_, rfl⟩
     replace H : (if 0 ≤ (ji23) then (if (ji23) < (x3_1.length : Int) then (if (rd x3_1 (ji23)) = 32 then (if (ji23) ≤ (x3_1.length : Int) then (some (strOfNums (x3_1.take ((ji23) : Int).toNat))) else (none)) else (some (strOfNums x3_1))) else (none)) else (none)) = some r := by first | (rw [hji23] at H; exact H) | (simp only [hji23] at H ⊢; exact H)
     have hji23w : (IntKind.i64.wrap ((x3_1.length : Int) - 1)) = ji23 := (i64_w _).trans hji23
     by_cases c24 : 0 ≤ (ji23)
     ·rw [if_pos c24] at H
      have c24b0 : decide (0 ≤ (ji23)) = true := decide_eq_true c24
      clear c24
      by_cases c25 : (ji23) < (x3_1.length : Int)
      ·rw [if_pos c25] at H
       have c25b0 : decide ((ji23) < (x3_1.length : Int)) = true := decide_eq_true c25
       clear c25
       by_cases c26 : (rd x3_1 (ji23)) = 32
       ·rw [if_pos c26] at H
        have c26b0 : ((rd x3_1 (ji23)) == 32) = true := beq_iff_eq.mpr c26
        have c26b1 : ((rd x3_1 (ji23)) != 32) = false := bne_eq_false_iff_eq.mpr c26
        clear c26
        by_cases c27 : (ji23) ≤ (x3_1.length : Int)
        ·rw [if_pos c27] at H
         have c27b0 := eq_true c27
         have c27b1 : decide ((ji23) ≤ (x3_1.length : Int)) = true := decide_eq_true c27
         clear c27
         obtain ⟨y105, hy105⟩ : ∃ y_ : List Int, y_ = (x3_1.take ((ji23) : Int).toNat) := ⟨_, rfl⟩
         replace H : (some (strOfNums y105)) = some r := by first | (rw [hy105]; with_reducible exact H) | (have H2_ := (Option.bind_some _ _).symm.trans H; rw [hy105]; with_reducible exact H2_) | (have H2_ := (Option.bind_some _ _).symm.trans H; with_reducible exact H2_) | with_reducible exact H | (rw [hy105]; exact H) | exact H
         have Ny105 := Aside0.mk hy105
         clear hy105
         obtain rfl := Option.some.inj H
         obtain ⟨Ao28, co28, eo28⟩ := Kd.R_slice HO_3.out
         subst eo28
         have p104 : 0 ≤ ((ji23) : Int) := of_decide_eq_true (by first | (with_reducible assumption) | assumption)
         have q104 : (ji23) < (x3_1.length : Int) := of_decide_eq_true (by first | (with_reducible assumption) | assumption)
         obtain ⟨ad104, e104, hx104_0⟩ := Kd.at_int (Kd.R_reads' HO_3.out).2.2 (ji23) p104 q104
         cases e104
         replace p104 := eq_true p104
         replace q104 := eq_true q104
         have q29 : ((ji23) : Int) ≤ ((x3_1.length : Int) : Int) := of_decide_eq_true (by first | (with_reducible assumption) | assumption)
         obtain ⟨i029, hi029, _, hsz29, _⟩ := info_parts info5
         have hcut29 := cut_to (P := Try.prog) 22 5 .i64 Try.underlying22 hi029 (some ad104) x3_1.length co28 (ji23) (of_decide_eq_true (by first | (with_reducible assumption) | assumption)) q29 (Kd.R_reads' HO_3.out).2.1
         have hr29 := Kd.R_take (m := ((ji23) : Int).toNat) HO_3.out (by omega)
         have hy29 : y105.length = ((ji23) : Int).toNat := (by rw [Ny105.out, List.length_take]; omega)
         rw [← Ny105.out] at hr29
         rw [← hy29] at hr29 hcut29
         clear hy29 hi029 hsz29 HO_3
         have HO107 := Aside0.mk hr29
         clear hr29
         replace q29 := eq_true q29
         have hcv30 := own_string (P := Try.prog) Try.underlying22 Try.underlying5 Try.underlying9 (Kd.own_of_R HO107.out)
         go_wp2
         go_ret
         exact ⟨by first | rfl | (simp [errW_none, errW_some] <;> rfl) | (simp only [← hji23]; first | rfl | (simp [errW_none, errW_some] <;> rfl)) | (simp [*, errW_none, errW_some] <;> rfl), by repeat (first | (with_reducible first | exact HB.out | apply below_alloc | apply pw_below_drewN | apply below_drew1) | exact HB.out)⟩
        ·rw [if_neg c27] at H
         exact absurd H (by simp)
       ·rw [if_neg c26] at H
        have c26b0 : ((rd x3_1 (ji23)) == 32) = false := beq_eq_false_iff_ne.mpr c26
        have c26b1 : ((rd x3_1 (ji23)) != 32) = true := bne_iff_ne.mpr c26
        obtain rfl := Option.some.inj H
        obtain ⟨Ao31, co31, eo31⟩ := Kd.R_slice HO_3.out
        subst eo31
        have p104 : 0 ≤ ((ji23) : Int) := of_decide_eq_true (by first | (with_reducible assumption) | assumption)
        have q104 : (ji23) < (x3_1.length : Int) := of_decide_eq_true (by first | (with_reducible assumption) | assumption)
        obtain ⟨ad104, e104, hx104_0⟩ := Kd.at_int (Kd.R_reads' HO_3.out).2.2 (ji23) p104 q104
        cases e104
        replace p104 := eq_true p104
        replace q104 := eq_true q104
        have hcv32 := own_string (P := Try.prog) Try.underlying22 Try.underlying5 Try.underlying9 (Kd.own_of_R HO_3.out)
        go_wp2
        go_ret
        exact ⟨by first | rfl | (simp [errW_none, errW_some] <;> rfl) | (simp only [← hji23]; first | rfl | (simp [errW_none, errW_some] <;> rfl)) | (simp [*, errW_none, errW_some] <;> rfl), by repeat (first | (with_reducible first | exact HB.out | apply below_alloc | apply pw_below_drewN | apply below_drew1) | exact HB.out)⟩
      ·rw [if_neg c25] at H
       exact absurd H (by simp)
     ·rw [if_neg c24] at H
      exact absurd H (by simp)
    ·rw [if_neg c22] at H
     have c22b0 : decide (0 < (x3_1.length : Int)) = false := decide_eq_false c22
     have c22b1 : decide (0 < x3_1.length) = false := decide_eq_false (by omega)
     clear c22
     obtain rfl := Option.some.inj H
     obtain ⟨Ao33, co33, eo33⟩ := Kd.R_slice HO_3.out
     subst eo33
     have hcv34 := own_string (P := Try.prog) Try.underlying22 Try.underlying5 Try.underlying9 (Kd.own_of_R HO_3.out)
     go_wp2
     go_ret
     exact ⟨by first | rfl | (simp [errW_none, errW_some] <;> rfl) | (simp [*, errW_none, errW_some] <;> rfl), by repeat (first | (with_reducible first | exact HB.out | apply below_alloc | apply pw_below_drewN | apply below_drew1) | exact HB.out)⟩


/-! ### spec_OneLine: function 6 -/
def spec_OneLine.f (k : Nat) (a0 : ByteArray) : Option (ByteArray × Int) := if (a0.size : Int) > 65536 then (some ((⟨#[]⟩ : ByteArray), 2)) else ((spec_l06Line.f k a0).bind fun t101 => (some (t101, 0)))
theorem spec_OneLine.mono : ∀ a0 k, LeO (spec_OneLine.f k a0) (spec_OneLine.f (k + 1) a0) := by
 intro a0 k
 unfold spec_OneLine.f
 repeat' first
   | (with_reducible exact spec_l06Line.mono _ _)
   | (with_reducible exact LeO.refl _)
   | (with_reducible exact LeO.none _)
   | (with_reducible refine LeO.ite ?_ ?_)
   | (with_reducible refine LeO.bind ?_ (fun _ => ?_))
   | exact spec_l06Line.mono _ _
   | exact LeO.none _
   | refine LeO.ite ?_ ?_
   | refine LeO.bind ?_ (fun _ => ?_)
set_option maxHeartbeats 8000000 in
set_option maxRecDepth 100000 in
theorem spec_OneLine.calls (k : Nat) (a0 : ByteArray) (r1 : ByteArray) (r2 : Int) (w : World) (h : spec_OneLine.f k a0 = some (r1, r2)) :
  Calls Try.prog 6 #[.string a0] w fun e w' => e = .returned (.tuple #[.string r1, .int .i64 r2]) ∧ Below w.heap.size w w' := by
 have HB := Aside0.mk (Below.refl w.heap.size w)
 have H : (if (a0.size : Int) > 65536 then (some ((⟨#[]⟩ : ByteArray), 2)) else ((spec_l06Line.f k a0).bind fun t101 => (some (t101, 0)))) = some (r1, r2) := h
 clear h
 by_cases c2 : (a0.size : Int) > 65536
 ·rw [if_pos c2] at H
  have c2b0 : decide (65536 < (a0.size : Int)) = true := decide_eq_true c2
  have c2b1 : decide (65536 < a0.size) = true := decide_eq_true (by omega)
  clear c2
  simp only [Option.some.injEq, Prod.mk.injEq] at H
  obtain ⟨rfl, rfl⟩ := H
  go_enter Try.func6, Try.ntmps6
  go_wp2
  go_ret2
  exact ⟨by first | rfl | (simp [errW_none, errW_some] <;> rfl) | (simp [*, errW_none, errW_some] <;> rfl), by repeat (first | (with_reducible first | exact HB.out | apply below_alloc | apply pw_below_drewN | apply below_drew1) | exact HB.out)⟩
 ·rw [if_neg c2] at H
  have c2b0 : decide (65536 < (a0.size : Int)) = false := decide_eq_false c2
  have c2b1 : decide (65536 < a0.size) = false := decide_eq_false (by omega)
  clear c2
  replace H := Option.bind_eq_some_iff.mp H
  obtain ⟨t101, A30, H⟩ := H
  replace H : (some (t101, 0)) = some (r1, r2) := H
  have A3 := Aside0.mk A30
  clear A30
  simp only [Option.some.injEq, Prod.mk.injEq] at H
  obtain ⟨rfl, rfl⟩ := H
  go_enter Try.func6, Try.ntmps6
  go_wp2_with (first | ((with_reducible refine gate_callee (f := 10) rfl ?_); refine goesL_ (some 8) rfl rfl Try.func10 (by kernel_rfl) rfl #[.string a0] rfl (by (try simp only [List.map_toArray, List.map_cons, List.map_nil]); first | done | rfl | (simp only [List.length_drop, List.length_take]; rfl)) ?_; (with_reducible refine (spec_l06Line.calls k a0 t101 _ A3.out).mono ?_); rintro e w4 ⟨rfl, hb⟩; refine ⟨_, rfl, ?_⟩; have n0_ := Aside0.mk (below_step (by repeat (first | (with_reducible first | exact HB.out | apply below_alloc | apply pw_below_drewN | apply below_drew1) | exact HB.out)) hb); clear HB; have HB := n0_; clear n0_; (try clear hb); (try clear hb2); (try clear hk); (try clear hi)))
  go_ret2
  exact ⟨by first | rfl | (simp [errW_none, errW_some] <;> rfl) | (simp [*, errW_none, errW_some] <;> rfl), by repeat (first | (with_reducible first | exact HB.out | apply below_alloc | apply pw_below_drewN | apply below_drew1) | exact HB.out)⟩


/-! ### laws_FnLine: function 3 -/
mutual
def laws_FnLine.j0 : Nat → List Int → List Int → Bool → Option (Bool)
 | 0, _, _, _ => none
 | k + 1, x0, x1, x20 => if x20 = true then (some true) else ((spec_TextOf.f k x0).bind fun t101 => (if t101.size + 2 ≤ 9223372036854775807 then ((spec_TextOf.f k x1).bind fun t102 => (if (t101 ++ (⟨#[32, 10]⟩ : ByteArray)).size + t102.size ≤ 9223372036854775807 then ((impl_OneLine.f ((t101 ++ (⟨#[32, 10]⟩ : ByteArray)) ++ t102)).bind fun bt103 => ((spec_OneLine.f k ((t101 ++ (⟨#[32, 10]⟩ : ByteArray)) ++ t102)).bind fun bt105 => ((impl_OneLine.f bt103.1).bind fun bt107 => (if bt103.2 = 0 then (if bt103.1.toList = bt105.1.toList then (if bt107.2 = 0 then (laws_FnLine.j1 k bt103.1 (bt107.1.toList != bt103.1.toList)) else (laws_FnLine.j1 k bt103.1 true)) else (laws_FnLine.j1 k bt103.1 true)) else (laws_FnLine.j1 k bt103.1 true))))) else (none))) else (none)))
def laws_FnLine.j1 : Nat → ByteArray → Bool → Option (Bool)
 | 0, _, _ => none
 | k + 1, x6, x57 => if x57 = true then (some false) else (laws_FnLine.l0 k x6 0)
def laws_FnLine.l0 : Nat → ByteArray → Int → Option (Bool)
 | 0, _, _ => none
 | k + 1, x6, x12 => if x12 < (x6.size : Int) then (if 0 ≤ x12 then (if (bt x6 x12) = 10 then (some false) else (if (bt x6 x12) = 13 then (some false) else (if (bt x6 x12) = 9 then (some false) else (if (bt x6 x12) = 32 then (if x12 = 0 then (some false) else (if (wrap64 (x12 + 1)) = (x6.size : Int) then (some false) else (if 0 ≤ (wrap64 (x12 - 1)) then (if (wrap64 (x12 - 1)) < (x6.size : Int) then (if (bt x6 (wrap64 (x12 - 1))) = 32 then (some false) else (laws_FnLine.l0 k x6 (wrap64 (x12 + 1)))) else (none)) else (none)))) else (laws_FnLine.l0 k x6 (wrap64 (x12 + 1))))))) else (none)) else (some true)
end
def laws_FnLine.f (k : Nat) (l0 : List Int) (l1 : List Int) : Option (Bool) := if (l0.length : Int) > 1048576 then (laws_FnLine.j0 k l0 l1 true) else (laws_FnLine.j0 k l0 l1 (decide ((l1.length : Int) > 1048576)))
theorem laws_FnLine.mono_l : ∀ k, (∀ y0 y1 y2, LeO (laws_FnLine.j0 k y0 y1 y2) (laws_FnLine.j0 (k + 1) y0 y1 y2)) ∧ (∀ y0 y1, LeO (laws_FnLine.j1 k y0 y1) (laws_FnLine.j1 (k + 1) y0 y1)) ∧ (∀ y0 y1, LeO (laws_FnLine.l0 k y0 y1) (laws_FnLine.l0 (k + 1) y0 y1))
 | 0 => ⟨fun _ _ _ r h => by simp [laws_FnLine.j0] at h, fun _ _ r h => by simp [laws_FnLine.j1] at h, fun _ _ r h => by simp [laws_FnLine.l0] at h⟩
 | k + 1 => by
  obtain ⟨ih0, ih1, ih2⟩ := laws_FnLine.mono_l k
  refine ⟨?_, ?_, ?_⟩
  ·intro y0 y1 y2
   unfold laws_FnLine.j0
   repeat' first
   | (with_reducible exact ih0 _ _ _)
   | (with_reducible exact ih1 _ _)
   | (with_reducible exact ih2 _ _)
   | (with_reducible exact spec_OneLine.mono _ _)
   | (with_reducible exact spec_TextOf.mono _ _)
   | (with_reducible exact LeO.refl _)
   | (with_reducible exact LeO.none _)
   | (with_reducible refine LeO.ite ?_ ?_)
   | (with_reducible refine LeO.bind ?_ (fun _ => ?_))
   | exact ih0 _ _ _
   | exact ih1 _ _
   | exact ih2 _ _
   | exact spec_OneLine.mono _ _
   | exact spec_TextOf.mono _ _
   | exact LeO.none _
   | refine LeO.ite ?_ ?_
   | refine LeO.bind ?_ (fun _ => ?_)
  ·intro y0 y1
   unfold laws_FnLine.j1
   repeat' first
   | (with_reducible exact ih0 _ _ _)
   | (with_reducible exact ih1 _ _)
   | (with_reducible exact ih2 _ _)
   | (with_reducible exact spec_OneLine.mono _ _)
   | (with_reducible exact spec_TextOf.mono _ _)
   | (with_reducible exact LeO.refl _)
   | (with_reducible exact LeO.none _)
   | (with_reducible refine LeO.ite ?_ ?_)
   | (with_reducible refine LeO.bind ?_ (fun _ => ?_))
   | exact ih0 _ _ _
   | exact ih1 _ _
   | exact ih2 _ _
   | exact spec_OneLine.mono _ _
   | exact spec_TextOf.mono _ _
   | exact LeO.none _
   | refine LeO.ite ?_ ?_
   | refine LeO.bind ?_ (fun _ => ?_)
  ·intro y0 y1
   unfold laws_FnLine.l0
   repeat' first
   | (with_reducible exact ih0 _ _ _)
   | (with_reducible exact ih1 _ _)
   | (with_reducible exact ih2 _ _)
   | (with_reducible exact spec_OneLine.mono _ _)
   | (with_reducible exact spec_TextOf.mono _ _)
   | (with_reducible exact LeO.refl _)
   | (with_reducible exact LeO.none _)
   | (with_reducible refine LeO.ite ?_ ?_)
   | (with_reducible refine LeO.bind ?_ (fun _ => ?_))
   | exact ih0 _ _ _
   | exact ih1 _ _
   | exact ih2 _ _
   | exact spec_OneLine.mono _ _
   | exact spec_TextOf.mono _ _
   | exact LeO.none _
   | refine LeO.ite ?_ ?_
   | refine LeO.bind ?_ (fun _ => ?_)
theorem laws_FnLine.mono : ∀ a0 a1 k, LeO (laws_FnLine.f k a0 a1) (laws_FnLine.f (k + 1) a0 a1) := by
 intro a0 a1 k
 obtain ⟨ih0, ih1, ih2⟩ := laws_FnLine.mono_l k
 unfold laws_FnLine.f
 repeat' first
   | (with_reducible exact ih0 _ _ _)
   | (with_reducible exact ih1 _ _)
   | (with_reducible exact ih2 _ _)
   | (with_reducible exact spec_OneLine.mono _ _)
   | (with_reducible exact spec_TextOf.mono _ _)
   | (with_reducible exact LeO.refl _)
   | (with_reducible exact LeO.none _)
   | (with_reducible refine LeO.ite ?_ ?_)
   | (with_reducible refine LeO.bind ?_ (fun _ => ?_))
   | exact ih0 _ _ _
   | exact ih1 _ _
   | exact ih2 _ _
   | exact spec_OneLine.mono _ _
   | exact spec_TextOf.mono _ _
   | exact LeO.none _
   | refine LeO.ite ?_ ?_
   | refine LeO.bind ?_ (fun _ => ?_)
set_option maxHeartbeats 8000000 in
set_option maxRecDepth 100000 in
theorem laws_FnLine.calls (k : Nat) (A0 : Option Addr) (c0 : Nat) (l0 : List Int) (A1 : Option Addr) (c1 : Nat) (l1 : List Int) (r : Bool) (w : World) (hr0 : Kd.C (Kd.int .u8) w A0 l0.length l0) (hc0 : l0.length ≤ c0) (hr1 : Kd.C (Kd.int .u8) w A1 l1.length l1) (hc1 : l1.length ≤ c1) (h : laws_FnLine.f k l0 l1 = some r) :
  Calls Try.prog 3 #[.slice A0 l0.length c0, .slice A1 l1.length c1] w fun e w' => e = .returned (.bool r) ∧ Below w.heap.size w w' := by
 have HR0 := Aside0.mk hr0
 have HC0 := Aside0.mk hc0
 clear hr0 hc0
 have HR1 := Aside0.mk hr1
 have HC1 := Aside0.mk hc1
 clear hr1 hc1
 have HB := Aside0.mk (Below.refl w.heap.size w)
 have H : (if (l0.length : Int) > 1048576 then (laws_FnLine.j0 k l0 l1 true) else (laws_FnLine.j0 k l0 l1 (decide ((l1.length : Int) > 1048576)))) = some r := h
 clear h
 have HC3 := Aside0.mk H
 clear H
 go_enter Try.func3, Try.ntmps3
 go_upto_region 1 with (fail)
 go_cut [20] (fun v20 wc => ∃ (kq : Nat) (x20_2 : Bool), v20 = .bool x20_2 ∧ Aside0 (laws_FnLine.j0 kq l0 l1 x20_2 = some r) ∧ Aside0 (kq ≤ k) ∧ Aside0 (Below w.heap.size w wc))
 case first =>
  have H := HC3.out
  clear HC3
  by_cases c4 : (l0.length : Int) > 1048576
  ·rw [if_pos c4] at H
   have c4b0 : decide (1048576 < (l0.length : Int)) = true := decide_eq_true c4
   have c4b1 : decide (1048576 < l0.length) = true := decide_eq_true (by omega)
   clear c4
   (first | rw [c4b0] | (simp only [i64_w, i32_w]; rw [c4b0]) | skip)
   have H' := Aside0.mk H
   clear H
   go_wp2
   go_meet
   case rel => exact ⟨_, (true), (by first | rfl | (simp; done) | (simp [*]; done)), H', ⟨by first | omega | exact Nat.le_refl _⟩, ⟨by repeat (first | (with_reducible first | exact HB.out | apply below_alloc | apply pw_below_drewN | apply below_drew1) | exact HB.out)⟩⟩
  ·rw [if_neg c4] at H
   have c4b0 : decide (1048576 < (l0.length : Int)) = false := decide_eq_false c4
   have c4b1 : decide (1048576 < l0.length) = false := decide_eq_false (by omega)
   clear c4
   (first | rw [c4b0] | (simp only [i64_w, i32_w]; rw [c4b0]) | skip)
   have H' := Aside0.mk H
   clear H
   go_wp2
   go_meet
   case rel => exact ⟨_, (decide ((l1.length : Int) > 1048576)), (by first | rfl | (simp; done) | (simp [*]; done)), H', ⟨by first | omega | exact Nat.le_refl _⟩, ⟨by repeat (first | (with_reducible first | exact HB.out | apply below_alloc | apply pw_below_drewN | apply below_drew1) | exact HB.out)⟩⟩
 case rest =>
  clear HC3
  try clear c1
  try clear p2
  try clear c3
  try clear c4
  try clear c4b0
  try clear c4b1
  obtain ⟨kq, x20_2, rfl, HA, HJ2, HB⟩ := hcut
  cases kq with
  | zero => exact absurd HA.out (by simp [laws_FnLine.j0])
  | succ kj2 =>
   have H := HA.out
   clear HA
   simp only [laws_FnLine.j0] at H
   by_cases c5 : x20_2 = true
   ·subst c5
    have H1 : (some true) = some r := by rw [if_pos rfl] at H; exact H
    clear H
    have H := H1
    clear H1
    obtain rfl := Option.some.inj H
    go_wp2
    go_ret
    exact ⟨by first | rfl | (simp [errW_none, errW_some] <;> rfl) | (simp [*, errW_none, errW_some] <;> rfl), by repeat (first | (with_reducible first | exact HB.out | apply below_alloc | apply pw_below_drewN | apply below_drew1) | exact HB.out)⟩
   ·replace c5 := Bool.eq_false_iff.mpr c5
    subst c5
    have H1 : ((spec_TextOf.f kj2 l0).bind fun t101 => (if t101.size + 2 ≤ 9223372036854775807 then ((spec_TextOf.f kj2 l1).bind fun t102 => (if (t101 ++ (⟨#[32, 10]⟩ : ByteArray)).size + t102.size ≤ 9223372036854775807 then ((impl_OneLine.f ((t101 ++ (⟨#[32, 10]⟩ : ByteArray)) ++ t102)).bind fun bt103 => ((spec_OneLine.f kj2 ((t101 ++ (⟨#[32, 10]⟩ : ByteArray)) ++ t102)).bind fun bt105 => ((impl_OneLine.f bt103.1).bind fun bt107 => (if bt103.2 = 0 then (if bt103.1.toList = bt105.1.toList then (if bt107.2 = 0 then (laws_FnLine.j1 kj2 bt103.1 (bt107.1.toList != bt103.1.toList)) else (laws_FnLine.j1 kj2 bt103.1 true)) else (laws_FnLine.j1 kj2 bt103.1 true)) else (laws_FnLine.j1 kj2 bt103.1 true))))) else (none))) else (none))) = some r := by rw [if_neg (show ¬ (false = true) by decide)] at H; exact H
    clear H
    have H := H1
    clear H1
    replace H := Option.bind_eq_some_iff.mp H
    obtain ⟨t101, A60, H⟩ := H
    replace H : (if t101.size + 2 ≤ 9223372036854775807 then ((spec_TextOf.f kj2 l1).bind fun t102 => (if (t101 ++ (⟨#[32, 10]⟩ : ByteArray)).size + t102.size ≤ 9223372036854775807 then ((impl_OneLine.f ((t101 ++ (⟨#[32, 10]⟩ : ByteArray)) ++ t102)).bind fun bt103 => ((spec_OneLine.f kj2 ((t101 ++ (⟨#[32, 10]⟩ : ByteArray)) ++ t102)).bind fun bt105 => ((impl_OneLine.f bt103.1).bind fun bt107 => (if bt103.2 = 0 then (if bt103.1.toList = bt105.1.toList then (if bt107.2 = 0 then (laws_FnLine.j1 kj2 bt103.1 (bt107.1.toList != bt103.1.toList)) else (laws_FnLine.j1 kj2 bt103.1 true)) else (laws_FnLine.j1 kj2 bt103.1 true)) else (laws_FnLine.j1 kj2 bt103.1 true))))) else (none))) else (none)) = some r := H
    have A6 := Aside0.mk A60
    clear A60
    by_cases c7 : t101.size + 2 ≤ 9223372036854775807
    ·rw [if_pos c7] at H
     have c7b0 := eq_true c7
     have c7b1 : decide (t101.size + 2 ≤ 9223372036854775807) = true := decide_eq_true c7
     try have c7b2 : (9223372036854775807 < t101.size + 2) = False := eq_false (Nat.not_lt.2 c7)
     replace H := Option.bind_eq_some_iff.mp H
     obtain ⟨t102, A80, H⟩ := H
     replace H : (if (t101 ++ (⟨#[32, 10]⟩ : ByteArray)).size + t102.size ≤ 9223372036854775807 then ((impl_OneLine.f ((t101 ++ (⟨#[32, 10]⟩ : ByteArray)) ++ t102)).bind fun bt103 => ((spec_OneLine.f kj2 ((t101 ++ (⟨#[32, 10]⟩ : ByteArray)) ++ t102)).bind fun bt105 => ((impl_OneLine.f bt103.1).bind fun bt107 => (if bt103.2 = 0 then (if bt103.1.toList = bt105.1.toList then (if bt107.2 = 0 then (laws_FnLine.j1 kj2 bt103.1 (bt107.1.toList != bt103.1.toList)) else (laws_FnLine.j1 kj2 bt103.1 true)) else (laws_FnLine.j1 kj2 bt103.1 true)) else (laws_FnLine.j1 kj2 bt103.1 true))))) else (none)) = some r := H
     have A8 := Aside0.mk A80
     clear A80
     by_cases c9 : (t101 ++ (⟨#[32, 10]⟩ : ByteArray)).size + t102.size ≤ 9223372036854775807
     ·rw [if_pos c9] at H
      have c9b0 := eq_true c9
      have c9b1 : decide ((t101 ++ (⟨#[32, 10]⟩ : ByteArray)).size + t102.size ≤ 9223372036854775807) = true := decide_eq_true c9
      try have c9b2 : (9223372036854775807 < (t101 ++ (⟨#[32, 10]⟩ : ByteArray)).size + t102.size) = False := eq_false (Nat.not_lt.2 c9)
      try (have hz_ := c9; have ez_ : (t101 ++ (⟨#[32, 10]⟩ : ByteArray)).size + t102.size = t101.size + 2 + t102.size := (by simp only [ByteArray.size_append] <;> rfl); rw [ez_] at hz_; clear ez_; have c9z0 := eq_false (Nat.not_lt.2 hz_); have c9z1 := eq_true hz_; clear hz_)
      replace H := Option.bind_eq_some_iff.mp H
      obtain ⟨⟨t103, t104⟩, A100, H⟩ := H
      replace H : ((spec_OneLine.f kj2 ((t101 ++ (⟨#[32, 10]⟩ : ByteArray)) ++ t102)).bind fun bt105 => ((impl_OneLine.f t103).bind fun bt107 => (if t104 = 0 then (if t103.toList = bt105.1.toList then (if bt107.2 = 0 then (laws_FnLine.j1 kj2 t103 (bt107.1.toList != t103.toList)) else (laws_FnLine.j1 kj2 t103 true)) else (laws_FnLine.j1 kj2 t103 true)) else (laws_FnLine.j1 kj2 t103 true)))) = some r := H
      have A10 := Aside0.mk A100
      clear A100
      replace H := Option.bind_eq_some_iff.mp H
      obtain ⟨⟨t105, t106⟩, A110, H⟩ := H
      replace H : ((impl_OneLine.f t103).bind fun bt107 => (if t104 = 0 then (if t103.toList = t105.toList then (if bt107.2 = 0 then (laws_FnLine.j1 kj2 t103 (bt107.1.toList != t103.toList)) else (laws_FnLine.j1 kj2 t103 true)) else (laws_FnLine.j1 kj2 t103 true)) else (laws_FnLine.j1 kj2 t103 true))) = some r := H
      have A11 := Aside0.mk A110
      clear A110
      replace H := Option.bind_eq_some_iff.mp H
      obtain ⟨⟨t107, t108⟩, A120, H⟩ := H
      replace H : (if t104 = 0 then (if t103.toList = t105.toList then (if t108 = 0 then (laws_FnLine.j1 kj2 t103 (t107.toList != t103.toList)) else (laws_FnLine.j1 kj2 t103 true)) else (laws_FnLine.j1 kj2 t103 true)) else (laws_FnLine.j1 kj2 t103 true)) = some r := H
      have A12 := Aside0.mk A120
      clear A120
      have HC13 := Aside0.mk H
      clear H
      go_upto_region 7 with (first | ((with_reducible refine gate_callee (f := 4) rfl ?_); refine goesL_ (some 22) rfl rfl Try.func4 (by kernel_rfl) rfl #[.slice A0 l0.length c0] rfl (by (try simp only [List.map_toArray, List.map_cons, List.map_nil]); first | done | rfl | (simp only [List.length_drop, List.length_take]; rfl)) ?_; (with_reducible refine (spec_TextOf.calls kj2 _ _ l0 t101 _ ?side1 ?side2 A6.out).mono ?_); (case side1 => repeat (first | exact (Kd.C_below HR0.out HB.out) | (with_reducible refine Kd.C_alloc ?_ _) | (with_reducible refine Kd.C_drewN ?_ _) | (with_reducible refine Kd.C_drew ?_))); (case side2 => exact HC0.out); rintro e w14 ⟨rfl, hb⟩; refine ⟨_, rfl, ?_⟩; have n0_ := Aside0.mk (below_step (by repeat (first | (with_reducible first | exact HB.out | apply below_alloc | apply pw_below_drewN | apply below_drew1) | exact HB.out)) hb); clear HB; have HB := n0_; clear n0_; (try clear hb); (try clear hb2); (try clear hk); (try clear hi)) | ((with_reducible refine gate_callee (f := 4) rfl ?_); refine goesL_ (some 25) rfl rfl Try.func4 (by kernel_rfl) rfl #[.slice A1 l1.length c1] rfl (by (try simp only [List.map_toArray, List.map_cons, List.map_nil]); first | done | rfl | (simp only [List.length_drop, List.length_take]; rfl)) ?_; (with_reducible refine (spec_TextOf.calls kj2 _ _ l1 t102 _ ?side1 ?side2 A8.out).mono ?_); (case side1 => repeat (first | exact (Kd.C_below HR1.out HB.out) | (with_reducible refine Kd.C_alloc ?_ _) | (with_reducible refine Kd.C_drewN ?_ _) | (with_reducible refine Kd.C_drew ?_))); (case side2 => exact HC1.out); rintro e w15 ⟨rfl, hb⟩; refine ⟨_, rfl, ?_⟩; have n0_ := Aside0.mk (below_step (by repeat (first | (with_reducible first | exact HB.out | apply below_alloc | apply pw_below_drewN | apply below_drew1) | exact HB.out)) hb); clear HB; have HB := n0_; clear n0_; (try clear hb); (try clear hb2); (try clear hk); (try clear hi)) | ((with_reducible refine gate_callee (f := 5) rfl ?_); refine goesL_ (some 29) rfl rfl Try.func5 (by kernel_rfl) rfl #[.string ((t101 ++ (⟨#[32, 10]⟩ : ByteArray)) ++ t102)] rfl (by (try simp only [List.map_toArray, List.map_cons, List.map_nil]); first | done | rfl | (simp only [List.length_drop, List.length_take]; rfl)) ?_; (with_reducible refine (impl_OneLine.calls ((t101 ++ (⟨#[32, 10]⟩ : ByteArray)) ++ t102) t103 t104 _ A10.out).mono ?_); rintro e w16 ⟨rfl, hb⟩; refine ⟨_, rfl, ?_⟩; have n0_ := Aside0.mk (below_step (by repeat (first | (with_reducible first | exact HB.out | apply below_alloc | apply pw_below_drewN | apply below_drew1) | exact HB.out)) hb); clear HB; have HB := n0_; clear n0_; (try clear hb); (try clear hb2); (try clear hk); (try clear hi)) | ((with_reducible refine gate_callee (f := 6) rfl ?_); refine goesL_ (some 34) rfl rfl Try.func6 (by kernel_rfl) rfl #[.string ((t101 ++ (⟨#[32, 10]⟩ : ByteArray)) ++ t102)] rfl (by (try simp only [List.map_toArray, List.map_cons, List.map_nil]); first | done | rfl | (simp only [List.length_drop, List.length_take]; rfl)) ?_; (with_reducible refine (spec_OneLine.calls kj2 ((t101 ++ (⟨#[32, 10]⟩ : ByteArray)) ++ t102) t105 t106 _ A11.out).mono ?_); rintro e w17 ⟨rfl, hb⟩; refine ⟨_, rfl, ?_⟩; have n0_ := Aside0.mk (below_step (by repeat (first | (with_reducible first | exact HB.out | apply below_alloc | apply pw_below_drewN | apply below_drew1) | exact HB.out)) hb); clear HB; have HB := n0_; clear n0_; (try clear hb); (try clear hb2); (try clear hk); (try clear hi)) | ((with_reducible refine gate_callee (f := 5) rfl ?_); refine goesL_ (some 39) rfl rfl Try.func5 (by kernel_rfl) rfl #[.string t103] rfl (by (try simp only [List.map_toArray, List.map_cons, List.map_nil]); first | done | rfl | (simp only [List.length_drop, List.length_take]; rfl)) ?_; (with_reducible refine (impl_OneLine.calls t103 t107 t108 _ A12.out).mono ?_); rintro e w18 ⟨rfl, hb⟩; refine ⟨_, rfl, ?_⟩; have n0_ := Aside0.mk (below_step (by repeat (first | (with_reducible first | exact HB.out | apply below_alloc | apply pw_below_drewN | apply below_drew1) | exact HB.out)) hb); clear HB; have HB := n0_; clear n0_; (try clear hb); (try clear hb2); (try clear hk); (try clear hi)))
      (try simp only [Act.put, List.setIfInBounds_toArray, List.set_cons_zero, List.set_cons_succ])
      go_cut [57] (fun v57 wc => ∃ (kq : Nat) (x57_12 : Bool), v57 = .bool x57_12 ∧ Aside0 (laws_FnLine.j1 kq t103 x57_12 = some r) ∧ Aside0 (kq ≤ kj2) ∧ Aside0 (Below w.heap.size w wc))
      case first =>
       have H := HC13.out
       clear HC13
       by_cases c19 : t104 = 0
       ·rw [if_pos c19] at H
        have c19b0 : (t104 == 0) = true := beq_iff_eq.mpr c19
        have c19b1 : (t104 != 0) = false := bne_eq_false_iff_eq.mpr c19
        clear c19
        (first | rw [c19b0] | (simp only [i64_w, i32_w]; rw [c19b0]) | skip)
        by_cases c20 : t103.toList = t105.toList
        ·rw [if_pos c20] at H
         have c20b0 : (t103.toList == t105.toList) = true := beq_iff_eq.mpr c20
         have c20b1 : (t103.toList != t105.toList) = false := bne_eq_false_iff_eq.mpr c20
         clear c20
         by_cases c21 : t108 = 0
         ·rw [if_pos c21] at H
          have c21b0 : (t108 == 0) = true := beq_iff_eq.mpr c21
          have c21b1 : (t108 != 0) = false := bne_eq_false_iff_eq.mpr c21
          clear c21
          have H' := Aside0.mk H
          clear H
          go_wp2
          go_meet
          case rel => exact ⟨_, ((t107.toList != t103.toList)), (by first | rfl | (simp; done) | (simp [*]; done)), H', ⟨by have := HJ2.out; first | omega | exact Nat.le_refl _⟩, ⟨by repeat (first | (with_reducible first | exact HB.out | apply below_alloc | apply pw_below_drewN | apply below_drew1) | exact HB.out)⟩⟩
         ·rw [if_neg c21] at H
          have c21b0 : (t108 == 0) = false := beq_eq_false_iff_ne.mpr c21
          have c21b1 : (t108 != 0) = true := bne_iff_ne.mpr c21
          have H' := Aside0.mk H
          clear H
          go_wp2
          go_meet
          case rel => exact ⟨_, (true), (by first | rfl | (simp; done) | (simp [*]; done)), H', ⟨by have := HJ2.out; first | omega | exact Nat.le_refl _⟩, ⟨by repeat (first | (with_reducible first | exact HB.out | apply below_alloc | apply pw_below_drewN | apply below_drew1) | exact HB.out)⟩⟩
        ·rw [if_neg c20] at H
         have c20b0 : (t103.toList == t105.toList) = false := beq_eq_false_iff_ne.mpr c20
         have c20b1 : (t103.toList != t105.toList) = true := bne_iff_ne.mpr c20
         have H' := Aside0.mk H
         clear H
         go_wp2
         go_meet
         case rel => exact ⟨_, (true), (by first | rfl | (simp; done) | (simp [*]; done)), H', ⟨by have := HJ2.out; first | omega | exact Nat.le_refl _⟩, ⟨by repeat (first | (with_reducible first | exact HB.out | apply below_alloc | apply pw_below_drewN | apply below_drew1) | exact HB.out)⟩⟩
       ·rw [if_neg c19] at H
        have c19b0 : (t104 == 0) = false := beq_eq_false_iff_ne.mpr c19
        have c19b1 : (t104 != 0) = true := bne_iff_ne.mpr c19
        (first | rw [c19b0] | (simp only [i64_w, i32_w]; rw [c19b0]) | skip)
        have H' := Aside0.mk H
        clear H
        go_wp2
        go_meet
        case rel => exact ⟨_, (true), (by first | rfl | (simp; done) | (simp [*]; done)), H', ⟨by have := HJ2.out; first | omega | exact Nat.le_refl _⟩, ⟨by repeat (first | (with_reducible first | exact HB.out | apply below_alloc | apply pw_below_drewN | apply below_drew1) | exact HB.out)⟩⟩
      case rest =>
       clear HC13
       try clear c1
       try clear c2
       try clear p2
       try clear c3
       try clear c4
       try clear c4b0
       try clear c4b1
       try clear c5
       try clear c6
       try clear c7
       try clear c7b0
       try clear c7b1
       try clear c7b2
       try clear c9
       try clear c9b0
       try clear c9b1
       try clear c9b2
       try clear c19
       try clear c19b0
       try clear c19b1
       try clear c20
       try clear c20b0
       try clear c20b1
       try clear c21
       try clear c21b0
       try clear c21b1
       try clear p2
       obtain ⟨kq, x57_12, rfl, HA, HJ12, HB⟩ := hcut
       cases kq with
       | zero => exact absurd HA.out (by simp [laws_FnLine.j1])
       | succ kj12 =>
        have H := HA.out
        clear HA
        simp only [laws_FnLine.j1] at H
        by_cases c22 : x57_12 = true
        ·subst c22
         have H1 : (some false) = some r := by rw [if_pos rfl] at H; exact H
         clear H
         have H := H1
         clear H1
         obtain rfl := Option.some.inj H
         go_wp2
         go_ret
         exact ⟨by first | rfl | (simp [errW_none, errW_some] <;> rfl) | (simp [*, errW_none, errW_some] <;> rfl), by repeat (first | (with_reducible first | exact HB.out | apply below_alloc | apply pw_below_drewN | apply below_drew1) | exact HB.out)⟩
        ·replace c22 := Bool.eq_false_iff.mpr c22
         subst c22
         have H1 : (laws_FnLine.l0 kj12 t103 0) = some r := by rw [if_neg (show ¬ (false = true) by decide)] at H; exact H
         clear H
         have H := H1
         clear H1
         have H' := Aside0.mk H
         clear H
         go_wp2
         go_loopg [12] kj12 (fun kq v12 w' => ∃ (x12_3 : Int), v12 = .int .i64 x12_3 ∧ Aside0 (laws_FnLine.l0 kq t103 x12_3 = some r) ∧ Aside0 (kq ≤ kj12) ∧ Aside0 (Below w.heap.size w w'))
         case atStart => exact ⟨(0), (by first | rfl | (simp; done) | (simp [*]; done)), H', ⟨Nat.le_refl _⟩, ⟨by repeat (first | (with_reducible first | exact HB.out | apply below_alloc | apply pw_below_drewN | apply below_drew1) | exact HB.out)⟩⟩
         case round =>
          clear H'
          try clear c1
          try clear c2
          try clear p2
          try clear c3
          try clear c4
          try clear c4b0
          try clear c4b1
          try clear c5
          try clear c6
          try clear c7
          try clear c7b0
          try clear c7b1
          try clear c7b2
          try clear c9
          try clear c9b0
          try clear c9b1
          try clear c9b2
          try clear c19
          try clear c19b0
          try clear c19b1
          try clear c20
          try clear c20b0
          try clear c20b1
          try clear c21
          try clear c21b0
          try clear c21b1
          try clear c22
          try clear p2
          obtain ⟨x12_3, rfl, HA, HK3, HB⟩ := hrel
          cases gk with
          | zero => exact absurd HA.out (by simp [laws_FnLine.l0])
          | succ k3 =>
           have H := HA.out
           clear HA
           simp only [laws_FnLine.l0] at H
           by_cases c23 : x12_3 < (t103.size : Int)
           ·rw [if_pos c23] at H
            have c23b0 : decide (x12_3 < (t103.size : Int)) = true := decide_eq_true c23
            clear c23
            by_cases c24 : 0 ≤ x12_3
            ·rw [if_pos c24] at H
             have c24b0 : decide (0 ≤ x12_3) = true := decide_eq_true c24
             clear c24
             by_cases c26 : (bt t103 x12_3) = 10
             ·rw [if_pos c26] at H
              have c26b0 : ((bt t103 x12_3) == 10) = true := beq_iff_eq.mpr c26
              have c26b1 : ((bt t103 x12_3) != 10) = false := bne_eq_false_iff_eq.mpr c26
              clear c26
              obtain rfl := Option.some.inj H
              have p25 : 0 ≤ (x12_3 : Int) := of_decide_eq_true (by first | (with_reducible assumption) | assumption)
              have q25 : x12_3 < (t103.size : Int) := of_decide_eq_true (by first | (with_reducible assumption) | assumption)
              have hx25 := bt_at t103 x12_3
              replace p25 := eq_true p25
              replace q25 := eq_true q25
              go_wp2
              go_ret
              exact ⟨by first | rfl | (simp [errW_none, errW_some] <;> rfl) | (simp [*, errW_none, errW_some] <;> rfl), by repeat (first | (with_reducible first | exact HB.out | apply below_alloc | apply pw_below_drewN | apply below_drew1) | exact HB.out)⟩
             ·rw [if_neg c26] at H
              have c26b0 : ((bt t103 x12_3) == 10) = false := beq_eq_false_iff_ne.mpr c26
              have c26b1 : ((bt t103 x12_3) != 10) = true := bne_iff_ne.mpr c26
              by_cases c28 : (bt t103 x12_3) = 13
              ·rw [if_pos c28] at H
               have c28b0 : ((bt t103 x12_3) == 13) = true := beq_iff_eq.mpr c28
               have c28b1 : ((bt t103 x12_3) != 13) = false := bne_eq_false_iff_eq.mpr c28
               clear c28
               obtain rfl := Option.some.inj H
               have p25 : 0 ≤ (x12_3 : Int) := of_decide_eq_true (by first | (with_reducible assumption) | assumption)
               have q25 : x12_3 < (t103.size : Int) := of_decide_eq_true (by first | (with_reducible assumption) | assumption)
               have hx25 := bt_at t103 x12_3
               replace p25 := eq_true p25
               replace q25 := eq_true q25
               have p27 : 0 ≤ (x12_3 : Int) := of_decide_eq_true (by first | (with_reducible assumption) | assumption)
               have q27 : x12_3 < (t103.size : Int) := of_decide_eq_true (by first | (with_reducible assumption) | assumption)
               have hx27 := bt_at t103 x12_3
               replace p27 := eq_true p27
               replace q27 := eq_true q27
               go_wp2
               go_ret
               exact ⟨by first | rfl | (simp [errW_none, errW_some] <;> rfl) | (simp [*, errW_none, errW_some] <;> rfl), by repeat (first | (with_reducible first | exact HB.out | apply below_alloc | apply pw_below_drewN | apply below_drew1) | exact HB.out)⟩
              ·rw [if_neg c28] at H
               have c28b0 : ((bt t103 x12_3) == 13) = false := beq_eq_false_iff_ne.mpr c28
               have c28b1 : ((bt t103 x12_3) != 13) = true := bne_iff_ne.mpr c28
               by_cases c30 : (bt t103 x12_3) = 9
               ·rw [if_pos c30] at H
                have c30b0 : ((bt t103 x12_3) == 9) = true := beq_iff_eq.mpr c30
                have c30b1 : ((bt t103 x12_3) != 9) = false := bne_eq_false_iff_eq.mpr c30
                clear c30
                obtain rfl := Option.some.inj H
                have p25 : 0 ≤ (x12_3 : Int) := of_decide_eq_true (by first | (with_reducible assumption) | assumption)
                have q25 : x12_3 < (t103.size : Int) := of_decide_eq_true (by first | (with_reducible assumption) | assumption)
                have hx25 := bt_at t103 x12_3
                replace p25 := eq_true p25
                replace q25 := eq_true q25
                have p27 : 0 ≤ (x12_3 : Int) := of_decide_eq_true (by first | (with_reducible assumption) | assumption)
                have q27 : x12_3 < (t103.size : Int) := of_decide_eq_true (by first | (with_reducible assumption) | assumption)
                have hx27 := bt_at t103 x12_3
                replace p27 := eq_true p27
                replace q27 := eq_true q27
                have p29 : 0 ≤ (x12_3 : Int) := of_decide_eq_true (by first | (with_reducible assumption) | assumption)
                have q29 : x12_3 < (t103.size : Int) := of_decide_eq_true (by first | (with_reducible assumption) | assumption)
                have hx29 := bt_at t103 x12_3
                replace p29 := eq_true p29
                replace q29 := eq_true q29
                go_wp2
                go_ret
                exact ⟨by first | rfl | (simp [errW_none, errW_some] <;> rfl) | (simp [*, errW_none, errW_some] <;> rfl), by repeat (first | (with_reducible first | exact HB.out | apply below_alloc | apply pw_below_drewN | apply below_drew1) | exact HB.out)⟩
               ·rw [if_neg c30] at H
                have c30b0 : ((bt t103 x12_3) == 9) = false := beq_eq_false_iff_ne.mpr c30
                have c30b1 : ((bt t103 x12_3) != 9) = true := bne_iff_ne.mpr c30
                by_cases c32 : (bt t103 x12_3) = 32
                ·rw [if_pos c32] at H
                 have c32b0 : ((bt t103 x12_3) == 32) = true := beq_iff_eq.mpr c32
                 have c32b1 : ((bt t103 x12_3) != 32) = false := bne_eq_false_iff_eq.mpr c32
                 clear c32
                 by_cases c33 : x12_3 = 0
                 ·rw [if_pos c33] at H
                  have c33b0 : (x12_3 == 0) = true := beq_iff_eq.mpr c33
                  have c33b1 : (x12_3 != 0) = false := bne_eq_false_iff_eq.mpr c33
                  clear c33
                  obtain rfl := Option.some.inj H
                  have p25 : 0 ≤ (x12_3 : Int) := of_decide_eq_true (by first | (with_reducible assumption) | assumption)
                  have q25 : x12_3 < (t103.size : Int) := of_decide_eq_true (by first | (with_reducible assumption) | assumption)
                  have hx25 := bt_at t103 x12_3
                  replace p25 := eq_true p25
                  replace q25 := eq_true q25
                  have p27 : 0 ≤ (x12_3 : Int) := of_decide_eq_true (by first | (with_reducible assumption) | assumption)
                  have q27 : x12_3 < (t103.size : Int) := of_decide_eq_true (by first | (with_reducible assumption) | assumption)
                  have hx27 := bt_at t103 x12_3
                  replace p27 := eq_true p27
                  replace q27 := eq_true q27
                  have p29 : 0 ≤ (x12_3 : Int) := of_decide_eq_true (by first | (with_reducible assumption) | assumption)
                  have q29 : x12_3 < (t103.size : Int) := of_decide_eq_true (by first | (with_reducible assumption) | assumption)
                  have hx29 := bt_at t103 x12_3
                  replace p29 := eq_true p29
                  replace q29 := eq_true q29
                  have p31 : 0 ≤ (x12_3 : Int) := of_decide_eq_true (by first | (with_reducible assumption) | assumption)
                  have q31 : x12_3 < (t103.size : Int) := of_decide_eq_true (by first | (with_reducible assumption) | assumption)
                  have hx31 := bt_at t103 x12_3
                  replace p31 := eq_true p31
                  replace q31 := eq_true q31
                  go_wp2
                  go_ret
                  exact ⟨by first | rfl | (simp [errW_none, errW_some] <;> rfl) | (simp [*, errW_none, errW_some] <;> rfl), by repeat (first | (with_reducible first | exact HB.out | apply below_alloc | apply pw_below_drewN | apply below_drew1) | exact HB.out)⟩
                 ·rw [if_neg c33] at H
                  have c33b0 : (x12_3 == 0) = false := beq_eq_false_iff_ne.mpr c33
                  have c33b1 : (x12_3 != 0) = true := bne_iff_ne.mpr c33
                  by_cases c34 : (wrap64 (x12_3 + 1)) = (t103.size : Int)
                  ·rw [if_pos c34] at H
                   have c34b0 : ((wrap64 (x12_3 + 1)) == (t103.size : Int)) = true := beq_iff_eq.mpr c34
                   have c34b1 : ((wrap64 (x12_3 + 1)) != (t103.size : Int)) = false := bne_eq_false_iff_eq.mpr c34
                   clear c34
                   obtain rfl := Option.some.inj H
                   have p25 : 0 ≤ (x12_3 : Int) := of_decide_eq_true (by first | (with_reducible assumption) | assumption)
                   have q25 : x12_3 < (t103.size : Int) := of_decide_eq_true (by first | (with_reducible assumption) | assumption)
                   have hx25 := bt_at t103 x12_3
                   replace p25 := eq_true p25
                   replace q25 := eq_true q25
                   have p27 : 0 ≤ (x12_3 : Int) := of_decide_eq_true (by first | (with_reducible assumption) | assumption)
                   have q27 : x12_3 < (t103.size : Int) := of_decide_eq_true (by first | (with_reducible assumption) | assumption)
                   have hx27 := bt_at t103 x12_3
                   replace p27 := eq_true p27
                   replace q27 := eq_true q27
                   have p29 : 0 ≤ (x12_3 : Int) := of_decide_eq_true (by first | (with_reducible assumption) | assumption)
                   have q29 : x12_3 < (t103.size : Int) := of_decide_eq_true (by first | (with_reducible assumption) | assumption)
                   have hx29 := bt_at t103 x12_3
                   replace p29 := eq_true p29
                   replace q29 := eq_true q29
                   have p31 : 0 ≤ (x12_3 : Int) := of_decide_eq_true (by first | (with_reducible assumption) | assumption)
                   have q31 : x12_3 < (t103.size : Int) := of_decide_eq_true (by first | (with_reducible assumption) | assumption)
                   have hx31 := bt_at t103 x12_3
                   replace p31 := eq_true p31
                   replace q31 := eq_true q31
                   go_wp2
                   go_ret
                   exact ⟨by first | rfl | (simp [errW_none, errW_some] <;> rfl) | (simp [*, errW_none, errW_some] <;> rfl), by repeat (first | (with_reducible first | exact HB.out | apply below_alloc | apply pw_below_drewN | apply below_drew1) | exact HB.out)⟩
                  ·rw [if_neg c34] at H
                   have c34b0 : ((wrap64 (x12_3 + 1)) == (t103.size : Int)) = false := beq_eq_false_iff_ne.mpr c34
                   have c34b1 : ((wrap64 (x12_3 + 1)) != (t103.size : Int)) = true := bne_iff_ne.mpr c34
                   obtain ⟨ji35, hji35⟩ : ∃ j_ : Int, (wrap64 (x12_3 - 1)) = j_ := ⟨_, rfl⟩
                   replace H : (if 0 ≤ (ji35) then (if (ji35) < (t103.size : Int) then (if (bt t103 (ji35)) = 32 then (some false) else (laws_FnLine.l0 k3 t103 (wrap64 (x12_3 + 1)))) else (none)) else (none)) = some r := by first | (rw [hji35] at H; exact H) | (simp only [hji35] at H ⊢; exact H)
                   have hji35w : (IntKind.i64.wrap (x12_3 - 1)) = ji35 := (i64_w _).trans hji35
                   by_cases c36 : 0 ≤ (ji35)
                   ·rw [if_pos c36] at H
                    have c36b0 : decide (0 ≤ (ji35)) = true := decide_eq_true c36
                    clear c36
                    by_cases c37 : (ji35) < (t103.size : Int)
                    ·rw [if_pos c37] at H
                     have c37b0 : decide ((ji35) < (t103.size : Int)) = true := decide_eq_true c37
                     clear c37
                     by_cases c39 : (bt t103 (ji35)) = 32
                     ·rw [if_pos c39] at H
                      have c39b0 : ((bt t103 (ji35)) == 32) = true := beq_iff_eq.mpr c39
                      have c39b1 : ((bt t103 (ji35)) != 32) = false := bne_eq_false_iff_eq.mpr c39
                      clear c39
                      obtain rfl := Option.some.inj H
                      have p25 : 0 ≤ (x12_3 : Int) := of_decide_eq_true (by first | (with_reducible assumption) | assumption)
                      have q25 : x12_3 < (t103.size : Int) := of_decide_eq_true (by first | (with_reducible assumption) | assumption)
                      have hx25 := bt_at t103 x12_3
                      replace p25 := eq_true p25
                      replace q25 := eq_true q25
                      have p27 : 0 ≤ (x12_3 : Int) := of_decide_eq_true (by first | (with_reducible assumption) | assumption)
                      have q27 : x12_3 < (t103.size : Int) := of_decide_eq_true (by first | (with_reducible assumption) | assumption)
                      have hx27 := bt_at t103 x12_3
                      replace p27 := eq_true p27
                      replace q27 := eq_true q27
                      have p29 : 0 ≤ (x12_3 : Int) := of_decide_eq_true (by first | (with_reducible assumption) | assumption)
                      have q29 : x12_3 < (t103.size : Int) := of_decide_eq_true (by first | (with_reducible assumption) | assumption)
                      have hx29 := bt_at t103 x12_3
                      replace p29 := eq_true p29
                      replace q29 := eq_true q29
                      have p31 : 0 ≤ (x12_3 : Int) := of_decide_eq_true (by first | (with_reducible assumption) | assumption)
                      have q31 : x12_3 < (t103.size : Int) := of_decide_eq_true (by first | (with_reducible assumption) | assumption)
                      have hx31 := bt_at t103 x12_3
                      replace p31 := eq_true p31
                      replace q31 := eq_true q31
                      have p38 : 0 ≤ ((ji35) : Int) := of_decide_eq_true (by first | (with_reducible assumption) | assumption)
                      have q38 : (ji35) < (t103.size : Int) := of_decide_eq_true (by first | (with_reducible assumption) | assumption)
                      have hx38 := bt_at t103 (ji35)
                      replace p38 := eq_true p38
                      replace q38 := eq_true q38
                      go_wp2
                      go_ret
                      exact ⟨by first | rfl | (simp [errW_none, errW_some] <;> rfl) | (simp only [← hji35]; first | rfl | (simp [errW_none, errW_some] <;> rfl)) | (simp [*, errW_none, errW_some] <;> rfl), by repeat (first | (with_reducible first | exact HB.out | apply below_alloc | apply pw_below_drewN | apply below_drew1) | exact HB.out)⟩
                     ·rw [if_neg c39] at H
                      have c39b0 : ((bt t103 (ji35)) == 32) = false := beq_eq_false_iff_ne.mpr c39
                      have c39b1 : ((bt t103 (ji35)) != 32) = true := bne_iff_ne.mpr c39
                      have H' := Aside0.mk H
                      clear H
                      have p25 : 0 ≤ (x12_3 : Int) := of_decide_eq_true (by first | (with_reducible assumption) | assumption)
                      have q25 : x12_3 < (t103.size : Int) := of_decide_eq_true (by first | (with_reducible assumption) | assumption)
                      have hx25 := bt_at t103 x12_3
                      replace p25 := eq_true p25
                      replace q25 := eq_true q25
                      have p27 : 0 ≤ (x12_3 : Int) := of_decide_eq_true (by first | (with_reducible assumption) | assumption)
                      have q27 : x12_3 < (t103.size : Int) := of_decide_eq_true (by first | (with_reducible assumption) | assumption)
                      have hx27 := bt_at t103 x12_3
                      replace p27 := eq_true p27
                      replace q27 := eq_true q27
                      have p29 : 0 ≤ (x12_3 : Int) := of_decide_eq_true (by first | (with_reducible assumption) | assumption)
                      have q29 : x12_3 < (t103.size : Int) := of_decide_eq_true (by first | (with_reducible assumption) | assumption)
                      have hx29 := bt_at t103 x12_3
                      replace p29 := eq_true p29
                      replace q29 := eq_true q29
                      have p31 : 0 ≤ (x12_3 : Int) := of_decide_eq_true (by first | (with_reducible assumption) | assumption)
                      have q31 : x12_3 < (t103.size : Int) := of_decide_eq_true (by first | (with_reducible assumption) | assumption)
                      have hx31 := bt_at t103 x12_3
                      replace p31 := eq_true p31
                      replace q31 := eq_true q31
                      have p38 : 0 ≤ ((ji35) : Int) := of_decide_eq_true (by first | (with_reducible assumption) | assumption)
                      have q38 : (ji35) < (t103.size : Int) := of_decide_eq_true (by first | (with_reducible assumption) | assumption)
                      have hx38 := bt_at t103 (ji35)
                      replace p38 := eq_true p38
                      replace q38 := eq_true q38
                      go_wp2
                      go_roundg k3
                      case measure => have := HJ2.out; have := HJ12.out; have := HK3.out; omega
                      case rel => exact ⟨(wrap64 (x12_3 + 1)), (by first | rfl | (simp; done) | (simp [*]; done)), H', ⟨by have := HJ2.out; have := HJ12.out; have := HK3.out; omega⟩, ⟨by repeat (first | (with_reducible first | exact HB.out | apply below_alloc | apply pw_below_drewN | apply below_drew1) | exact HB.out)⟩⟩
                    ·rw [if_neg c37] at H
                     exact absurd H (by simp)
                   ·rw [if_neg c36] at H
                    exact absurd H (by simp)
                ·rw [if_neg c32] at H
                 have c32b0 : ((bt t103 x12_3) == 32) = false := beq_eq_false_iff_ne.mpr c32
                 have c32b1 : ((bt t103 x12_3) != 32) = true := bne_iff_ne.mpr c32
                 have H' := Aside0.mk H
                 clear H
                 have p25 : 0 ≤ (x12_3 : Int) := of_decide_eq_true (by first | (with_reducible assumption) | assumption)
                 have q25 : x12_3 < (t103.size : Int) := of_decide_eq_true (by first | (with_reducible assumption) | assumption)
                 have hx25 := bt_at t103 x12_3
                 replace p25 := eq_true p25
                 replace q25 := eq_true q25
                 have p27 : 0 ≤ (x12_3 : Int) := of_decide_eq_true (by first | (with_reducible assumption) | assumption)
                 have q27 : x12_3 < (t103.size : Int) := of_decide_eq_true (by first | (with_reducible assumption) | assumption)
                 have hx27 := bt_at t103 x12_3
                 replace p27 := eq_true p27
                 replace q27 := eq_true q27
                 have p29 : 0 ≤ (x12_3 : Int) := of_decide_eq_true (by first | (with_reducible assumption) | assumption)
                 have q29 : x12_3 < (t103.size : Int) := of_decide_eq_true (by first | (with_reducible assumption) | assumption)
                 have hx29 := bt_at t103 x12_3
                 replace p29 := eq_true p29
                 replace q29 := eq_true q29
                 have p31 : 0 ≤ (x12_3 : Int) := of_decide_eq_true (by first | (with_reducible assumption) | assumption)
                 have q31 : x12_3 < (t103.size : Int) := of_decide_eq_true (by first | (with_reducible assumption) | assumption)
                 have hx31 := bt_at t103 x12_3
                 replace p31 := eq_true p31
                 replace q31 := eq_true q31
                 go_wp2
                 go_roundg k3
                 case measure => have := HJ2.out; have := HJ12.out; have := HK3.out; omega
                 case rel => exact ⟨(wrap64 (x12_3 + 1)), (by first | rfl | (simp; done) | (simp [*]; done)), H', ⟨by have := HJ2.out; have := HJ12.out; have := HK3.out; omega⟩, ⟨by repeat (first | (with_reducible first | exact HB.out | apply below_alloc | apply pw_below_drewN | apply below_drew1) | exact HB.out)⟩⟩
            ·rw [if_neg c24] at H
             exact absurd H (by simp)
           ·rw [if_neg c23] at H
            have c23b0 : decide (x12_3 < (t103.size : Int)) = false := decide_eq_false c23
            clear c23
            obtain rfl := Option.some.inj H
            go_wp2
            go_ret
            exact ⟨by first | rfl | (simp [errW_none, errW_some] <;> rfl) | (simp [*, errW_none, errW_some] <;> rfl), by repeat (first | (with_reducible first | exact HB.out | apply below_alloc | apply pw_below_drewN | apply below_drew1) | exact HB.out)⟩
     ·rw [if_neg c9] at H
      exact absurd H (by simp)
    ·rw [if_neg c7] at H
     exact absurd H (by simp)

end Go.Proofs.Yteipfgcnfeclgaa.P
namespace Go.Proofs.Yteipfgcnfeclgaa.P
open Go.RowKit Go.ChangeShapes Go.WideShapes Go.Proofs.YteipfgcnfeclgaaW.PrintWords

end Go.Proofs.Yteipfgcnfeclgaa.P
namespace Go.Proofs.Yteipfgcnfeclgaa.P
open Go.RowKit Go.ChangeShapes Go.WideShapes Go.Proofs.YteipfgcnfeclgaaW.PrintWords

/-- What is to be proved of the law FnLine, over numbers and lists alone. -/
def laws_FnLine.Pure : Prop := ∀ (x0 : List Int) (x1 : List Int), (x0.length ≤ maxLen ∧ x0.length * 1 ≤ 140737488351232 ∧ ∀ y ∈ x0, (Lit.int .u8 y).wf = true) → (x1.length ≤ maxLen ∧ x1.length * 1 ≤ 140737488351232 ∧ ∀ y ∈ x1, (Lit.int .u8 y).wf = true) → ∃ k, laws_FnLine.f k x0 x1 = some true
end Go.Proofs.Yteipfgcnfeclgaa.P
/- Lemmas of mine: strings as lists of bytes; whole numbers of 64 bits; rounds. Plain. -/
set_option linter.unusedVariables false
set_option linter.unusedSimpArgs false
namespace Go.Proofs.Yteipfgcnfeclgaa.P
open Go.RowKit Go.Proofs.YteipfgcnfeclgaaW.PrintWords
/-- As Option.bind_some, but no equation by computing: for terms that are not to be computed by the kernel. -/
theorem bS {α β : Type} (a : α) (f : α → Option β) : (some a).bind f = f a := Eq.trans (Option.bind_some a f) (Eq.refl (f a))
/-- A string's bytes. -/
def bl (s : ByteArray) : List UInt8 := s.data.toList
/-- Bytes as numbers. -/
def nb (l : List UInt8) : List Int := l.map fun b => (b.toNat : Int)
theorem bl_inj {a b : ByteArray} (h : bl a = bl b) : a = b := WideShapes.bytes_inj h
theorem toList_bl (s : ByteArray) : s.toList = bl s := Lib.toList_data s
theorem toList_iff {a b : ByteArray} : a.toList = b.toList ↔ a = b := ⟨fun h => bl_inj (by rw [← toList_bl, ← toList_bl, h]), fun h => by rw [h]⟩
theorem bl_size (s : ByteArray) : s.size = (bl s).length := Lib.size_eq s
theorem bl_append (a b : ByteArray) : bl (a ++ b) = bl a ++ bl b := by simp [bl]
theorem bl_extract (s : ByteArray) (i j : Nat) : bl (s.extract i j) = ((bl s).drop i).take (j - i) := Lib.extract_data s i j
theorem bl_mk (l : List UInt8) : bl ⟨l.toArray⟩ = l := by simp [bl]
theorem bl_empty : bl (⟨#[]⟩ : ByteArray) = [] := rfl
theorem mk_bl (s : ByteArray) : (⟨(bl s).toArray⟩ : ByteArray) = s := bl_inj (bl_mk _)
theorem bytesOf_bl (s : ByteArray) : bytesOf s = nb (bl s) := rfl
theorem nb_length (l : List UInt8) : (nb l).length = l.length := by simp [nb]
theorem nb_append (l m : List UInt8) : nb (l ++ m) = nb l ++ nb m := by simp [nb]
theorem strOf_nb (l : List UInt8) : strOfNums (nb l) = ⟨l.toArray⟩ := by
 simp [strOfNums, nb, Function.comp_def]
theorem bl_strOf_nb (l : List UInt8) : bl (strOfNums (nb l)) = l := by rw [strOf_nb, bl_mk]
theorem bt_eq (s : ByteArray) (i : Nat) (h : i < (bl s).length) : bt s (i : Int) = (((bl s)[i]'h).toNat : Int) := by
 have hs : i < s.size := by rw [bl_size]; exact h
 unfold bt
 rw [dif_pos (by simpa using hs)]
 have h1 := Lib.data_getElem? s i hs
 have h2 : (bl s)[i]? = some ((bl s)[i]'h) := List.getElem?_eq_getElem h
 have h3 : s[i]'hs = (bl s)[i]'h := Option.some.inj (h1.symm.trans h2)
 simp only [Int.toNat_natCast]
 rw [← h3]
theorem rd_nb (l : List UInt8) (i : Nat) (h : i < l.length) : rd (nb l) (i : Int) = ((l[i]'h).toNat : Int) := by
 simp [rd, nb, List.getD_eq_getElem?_getD, List.getElem?_map, List.getElem?_eq_getElem h]
theorem byte_lt (b : UInt8) : b.toNat < 256 := b.toNat_lt
/-- No wrap within the bounds. -/
theorem w64 {n : Int} (h0 : -9223372036854775808 ≤ n) (h1 : n ≤ 9223372036854775807) : wrap64 n = n := by unfold wrap64; omega
theorem w64n (n : Nat) (h1 : n ≤ 9223372036854775807) : wrap64 (n : Int) = n := w64 (by omega) (by omega)
theorem w64s (n : Nat) (h1 : n + 1 ≤ 9223372036854775807) : wrap64 ((n : Int) + 1) = ((n + 1 : Nat) : Int) := by rw [w64 (by omega) (by omega)]; rfl
theorem w64add (a b : Nat) (h : a + b ≤ 9223372036854775807) : wrap64 ((a : Int) + (b : Int)) = ((a + b : Nat) : Int) := by rw [w64 (by omega) (by omega)]; rfl
theorem w64lit (a b : Nat) (h : a + b ≤ 9223372036854775807) : wrap64 ((a : Int) + wrap64 ((b : Int))) = ((a + b : Nat) : Int) := by rw [w64n b (by omega), w64add a b h]
theorem w64sub (a b : Nat) (h : b ≤ a) (h2 : a ≤ 9223372036854775807) : wrap64 ((a : Int) - (b : Int)) = ((a - b : Nat) : Int) := by rw [w64 (by omega) (by omega)]; omega
theorem bits_xor_nat (k : IntKind) (j : Nat) (hj : j ≤ k.bits) (hk : ∀ n : Int, 0 ≤ n → n < 2 ^ j → k.wrap n = n) (a b : Nat) (ha : a < 2 ^ j) (hb : b < 2 ^ j) : bits .xor k a b = ((a ^^^ b : Nat) : Int) := by
 have hp : 2 ^ j ≤ 2 ^ k.bits := Nat.pow_le_pow_right (by decide) hj
 have ha' : a % 2 ^ k.bits = a := Nat.mod_eq_of_lt (Nat.lt_of_lt_of_le ha hp)
 have hb' : b % 2 ^ k.bits = b := Nat.mod_eq_of_lt (Nat.lt_of_lt_of_le hb hp)
 simp only [bits, BitVec.ofInt_natCast, BitVec.toNat_xor, BitVec.toNat_ofNat, ha', hb']
 exact hk _ (Int.natCast_nonneg _) (by exact_mod_cast Nat.xor_lt_two_pow ha hb)
theorem u32_in (n : Int) (h0 : 0 ≤ n) (h1 : n < 2 ^ 32) : IntKind.u32.wrap n = n := by rw [IntKind.wrap_u32]; omega
theorem i64_in32 (n : Int) (h0 : 0 ≤ n) (h1 : n < 2 ^ 32) : IntKind.i64.wrap n = n := by rw [IntKind.wrap_i64]; omega
theorem xor_u32 (a b : Nat) (ha : a < 4294967296) (hb : b < 4294967296) : bits .xor .u32 a b = ((a ^^^ b : Nat) : Int) := bits_xor_nat .u32 32 (by decide) u32_in a b ha hb
theorem xor_i64 (a b : Nat) (ha : a < 4294967296) (hb : b < 4294967296) : bits .xor .i64 a b = ((a ^^^ b : Nat) : Int) := bits_xor_nat .i64 32 (by decide) i64_in32 a b ha hb
/-- Rounds: what is told for all numbers of rounds from some on. -/
theorem Ev.k {α : Type} {g : Nat → Option α} {r : α} (h : Ev g r) : ∃ k, g k = some r := h.rounds
theorem Ev.and {α β : Type} {g : Nat → Option α} {f : Nat → Option β} {r : α} {q : β} (h : Ev g r) (h' : Ev f q) : ∃ K, ∀ k, K ≤ k → g k = some r ∧ f k = some q := by
 obtain ⟨K, h⟩ := h
 obtain ⟨K', h'⟩ := h'
 exact ⟨max K K', fun k hk => ⟨h k (by omega), h' k (by omega)⟩⟩
theorem Ev.uniq {α : Type} {g : Nat → Option α} {r q : α} (h : Ev g r) (h' : Ev g q) : r = q := by
 obtain ⟨K, hk⟩ := Ev.and h h'
 have h1 := hk K (Nat.le_refl _)
 exact Option.some.inj (h1.1.symm.trans h1.2)
end Go.Proofs.Yteipfgcnfeclgaa.P
