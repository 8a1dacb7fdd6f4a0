/- Part 6 of what the law FnExactReadSearch stands on; the last part ends with the law's row. No condition of mine. -/
import Derived.Test.YtoieoimfkimedaaDoorMFnExactReadSearch1
import Derived.Test.YtoieoimfkimedaaDoorMFnExactReadSearch4
import Derived.Test.YtoieoimfkimedaaDoorMFnExactReadSearch5
namespace Go.Proofs.YtoieoimfkimedaaDoor.P
open Go.RowKit Go.Proofs.YtoieoimfkimedaaDoorW.PrintWords Go.Proofs.YtoieoimfkimedaaDoorW.PrintLast Go.Proofs.YtoieoimfkimedaaDoorW.PrintMore
attribute [local go_sem] max2_int min2_int max_two min_two max_three min_three max_four min_four   -- for this text's walks alone
set_option linter.unusedVariables false
set_option linter.unusedSimpArgs false

/-! ### impl_readKey: function 23 -/
mutual
def impl_readKey.j0 : Nat → List ByteArray → ByteArray → Bool → Bool → ByteArray → ByteArray → Option (Bool × ByteArray × ByteArray × (List (S49)) × Int)
 | 0, _, _, _, _, _, _ => none
 | k + 1, x0, x4, x23, x105000, x105001, x105002 => if x23 = true then (some (x105000, x105001, x105002, ([] : List (S49)), 1)) else ((impl_wordKey.f x4).bind fun t107 => (if t107 = true then (impl_readKey.j1 k x0 x4 true x105000 x105001 x105002) else (impl_readKey.j1 k x0 x4 (x4.toList == ([85, 73, 68] : List UInt8)) x105000 x105001 x105002)))
def impl_readKey.j1 : Nat → List ByteArray → ByteArray → Bool → Bool → ByteArray → ByteArray → Option (Bool × ByteArray × ByteArray × (List (S49)) × Int)
 | 0, _, _, _, _, _, _ => none
 | k + 1, x0, x4, x31, x105000, x105001, x105002 => if x31 = true then (if (x0.length : Int) < 2 then (some (false, (⟨#[]⟩ : ByteArray), (⟨#[]⟩ : ByteArray), ([] : List (S49)), 0)) else ((impl_wordKey.f x4).bind fun t108 => (if t108 = true then (if 1 < (x0.length : Int) then (some (x105000, x105001, rdOf ByteArray.empty x0 1, ([] : List (S49)), 2)) else (none)) else (if 1 < (x0.length : Int) then ((impl_readSet.f k (rdOf ByteArray.empty x0 1)).bind fun bt111 => (if bt111.2 = true then (some (x105000, x105001, x105002, bt111.1, 2)) else (some (false, (⟨#[]⟩ : ByteArray), (⟨#[]⟩ : ByteArray), ([] : List (S49)), 0)))) else (none))))) else (if 0 < (x0.length : Int) then ((impl_readSet.f k (rdOf ByteArray.empty x0 0)).bind fun bt116 => (if bt116.2 = true then (some (false, (⟨#[83, 69, 84]⟩ : ByteArray), (⟨#[]⟩ : ByteArray), bt116.1, 1)) else (some (false, (⟨#[]⟩ : ByteArray), (⟨#[]⟩ : ByteArray), ([] : List (S49)), 0)))) else (none))
end
def impl_readKey.f (k : Nat) (l0 : List ByteArray) : Option (Bool × ByteArray × ByteArray × (List (S49)) × Int) := if 0 < (l0.length : Int) then ((impl_upper.f (rdOf ByteArray.empty l0 0)).bind fun t103 => ((impl_flagKey.f t103).bind fun bt105 => (if t103.toList = ([65, 76, 76] : List UInt8) then (impl_readKey.j0 k l0 t103 true false t103 (⟨#[]⟩ : ByteArray)) else (impl_readKey.j0 k l0 t103 (bt105.1 != 0) false t103 (⟨#[]⟩ : ByteArray))))) else (none)
theorem impl_readKey.mono_l : ∀ k, (∀ y0 y1 y2 y3 y4 y5, LeO (impl_readKey.j0 k y0 y1 y2 y3 y4 y5) (impl_readKey.j0 (k + 1) y0 y1 y2 y3 y4 y5)) ∧ (∀ y0 y1 y2 y3 y4 y5, LeO (impl_readKey.j1 k y0 y1 y2 y3 y4 y5) (impl_readKey.j1 (k + 1) y0 y1 y2 y3 y4 y5))
 | 0 => ⟨fun _ _ _ _ _ _ r h => by simp [impl_readKey.j0] at h, fun _ _ _ _ _ _ r h => by simp [impl_readKey.j1] at h⟩
 | k + 1 => by
  obtain ⟨ih0, ih1⟩ := impl_readKey.mono_l k; refine ⟨?_, ?_⟩
  ·intro y0 y1 y2 y3 y4 y5
   unfold impl_readKey.j0
   repeat' first
   | (with_reducible exact ih0 _ _ _ _ _ _)
   | (with_reducible exact ih1 _ _ _ _ _ _)
   | (with_reducible exact impl_readSet.mono _ _)
   | (with_reducible exact LeO.refl _)
   | (with_reducible exact LeO.none _)
   | (with_reducible refine LeO.ite ?_ ?_)
   | (with_reducible refine LeO.bind ?_ (fun _ => ?_))
   | exact ih0 _ _ _ _ _ _
   | exact ih1 _ _ _ _ _ _
   | exact impl_readSet.mono _ _
   | exact LeO.none _
   | refine LeO.ite ?_ ?_
   | refine LeO.bind ?_ (fun _ => ?_)
  ·intro y0 y1 y2 y3 y4 y5
   unfold impl_readKey.j1
   repeat' first
   | (with_reducible exact ih0 _ _ _ _ _ _)
   | (with_reducible exact ih1 _ _ _ _ _ _)
   | (with_reducible exact impl_readSet.mono _ _)
   | (with_reducible exact LeO.refl _)
   | (with_reducible exact LeO.none _)
   | (with_reducible refine LeO.ite ?_ ?_)
   | (with_reducible refine LeO.bind ?_ (fun _ => ?_))
   | exact ih0 _ _ _ _ _ _
   | exact ih1 _ _ _ _ _ _
   | exact impl_readSet.mono _ _
   | exact LeO.none _
   | refine LeO.ite ?_ ?_
   | refine LeO.bind ?_ (fun _ => ?_)
theorem impl_readKey.mono : ∀ a0 k, LeO (impl_readKey.f k a0) (impl_readKey.f (k + 1) a0) := by
 intro a0 k
 obtain ⟨ih0, ih1⟩ := impl_readKey.mono_l k
 unfold impl_readKey.f
 repeat' first
   | (with_reducible exact ih0 _ _ _ _ _ _)
   | (with_reducible exact ih1 _ _ _ _ _ _)
   | (with_reducible exact impl_readSet.mono _ _)
   | (with_reducible exact LeO.refl _)
   | (with_reducible exact LeO.none _)
   | (with_reducible refine LeO.ite ?_ ?_)
   | (with_reducible refine LeO.bind ?_ (fun _ => ?_))
   | exact ih0 _ _ _ _ _ _
   | exact ih1 _ _ _ _ _ _
   | exact impl_readSet.mono _ _
   | exact LeO.none _
   | refine LeO.ite ?_ ?_
   | refine LeO.bind ?_ (fun _ => ?_)
abbrev impl_readKey.b0 : Array Value := #[.bool false, .string (⟨#[]⟩ : ByteArray), .string (⟨#[]⟩ : ByteArray), .slice none 0 0]
set_option maxHeartbeats 8000000 in
set_option maxRecDepth 100000 in
theorem impl_readKey.calls (k : Nat) (A0 : Option Addr) (c0 : Nat) (l0 : List ByteArray) (r1 : Bool) (r2 : ByteArray) (r3 : ByteArray) (r4 : List (S49)) (r5 : Int) (w : World) (hr0 : Kd.C Kd.string w A0 l0.length l0) (hc0 : l0.length ≤ c0) (h : impl_readKey.f k l0 = some (r1, r2, r3, r4, r5)) :
  Calls Tryd.prog 23 #[.slice A0 l0.length c0] w fun e w' => ∃ v3_ : Value, e = .returned (.tuple #[.agg #[.bool r1, .string r2, .string r3, v3_], .int .i64 r5]) ∧ Kd.R k49 49 w' w.heap.size (fun _ => True) v3_ r4 ∧ Below w.heap.size w w' := by
 have hu37 := Tryd.underlying37
 have HR0 := Aside0.mk hr0
 have HC0 := Aside0.mk hc0
 clear hr0 hc0
 have HB := Aside0.mk (Below.refl w.heap.size w)
 have H : (if 0 < (l0.length : Int) then ((impl_upper.f (rdOf ByteArray.empty l0 0)).bind fun t103 => ((impl_flagKey.f t103).bind fun bt105 => (if t103.toList = ([65, 76, 76] : List UInt8) then (impl_readKey.j0 k l0 t103 true false t103 (⟨#[]⟩ : BA_)) else (impl_readKey.j0 k l0 t103 (bt105.1 != 0) false t103 (⟨#[]⟩ : BA_))))) else (none)) = some (r1, r2, r3, r4, r5) := h
 clear h
 by_cases c2 : 0 < (l0.length : Int)
 ·rw [if_pos c2] at H
  have c2b0 : decide (0 < (l0.length : Int)) = true := decide_eq_true c2; have c2b1 : decide (0 < l0.length) = true := decide_eq_true (by omega); clear c2; replace H := Option.bind_eq_some_iff.mp H; obtain ⟨t103, A30, H⟩ := H; have A3 := Aside0.mk A30; clear A30; replace H := Option.bind_eq_some_iff.mp H; obtain ⟨⟨t105, t106⟩, A40, H⟩ := H; dsimp only at H; have A4 := Aside0.mk A40; clear A40; have HC5 := Aside0.mk H; clear H; go_enter Tryd.func23, Tryd.ntmps23
  go_upto_region 4 with (first | ((with_reducible refine gate_dst (N := 2) rfl ?_); refine box_event ?Hg (N := 2) ?Hd (cs := impl_readKey.b0) (t := 37) ?Hr ?_; (case Hd => rfl); (case Hg => rfl); (case Hr => first | (go_simp; done) | (go_simp; rfl)); intro gb101 hg w6 hbox hb; have BK101 := Aside0.mk (hbox); have GW101 := Aside0.mk ((by rw [hg]; exact (below_size qBHB) : w.heap.size ≤ gb101)); have GE101 := Aside0.mk ((by rw [hg]; exact (below_size qBHB) : w.heap.size ≤ gb101)); replace HB := Aside0.mk (below_step qBHB hb); clear hb hbox hg; have p102 : 0 ≤ (0 : Int) := (by omega); have q102 : 0 < (l0.length : Int) := qd_; obtain ⟨ad102, e102, hx102_0⟩ := Kd.at_string HR0.out 0 p102 q102; cases e102; have qi102 : (0 < l0.length) = True := eq_true (by omega); (try rw [show ((0 : Int)).toNat = 0 from rfl] at hx102_0); (try rw [Addr.add_zero'] at hx102_0); replace hx102_0 := (HB.out.cell (World.block_lt_of_cell? w _ hx102_0)).trans hx102_0; replace p102 := eq_true p102; replace q102 := eq_true q102) | ((with_reducible refine gate_callee (f := 22) rfl ?_); refine goesL_ (some 15) rfl rfl Tryd.func22 qK rfl #[.string (rdOf ByteArray.empty l0 0)] rfl qll_ ?_; (with_reducible refine (impl_upper.calls (rdOf ByteArray.empty l0 0) t103 _ A3.out).mono ?_); rintro e w7 ⟨rfl, hb⟩; refine ⟨_, rfl, ?_⟩; replace BK101 := Aside0.mk (blk_below (qk_ BK101) hb); replace HB := Aside0.mk (below_step qBHB hb); (try clear hb); (try clear hb2); (try clear hk); (try clear hi)) | ((with_reducible refine gate_dst (N := 5) rfl ?_); refine box_event ?Hg (N := 5) ?Hd (cs := impl_readKey.b0) (t := 37) ?Hr ?_; (case Hd => rfl); (case Hg => rfl); (case Hr => first | (go_simp; done) | (go_simp; rfl)); intro gb104 hg w8 hbox hb; have BK104 := Aside0.mk (hbox); have GW104 := Aside0.mk ((by rw [hg]; exact (below_size qBHB) : w.heap.size ≤ gb104)); have GE104 := Aside0.mk ((by rw [hg]; exact (below_size qBHB) : w.heap.size ≤ gb104)); replace HB := Aside0.mk (below_step qBHB hb); have NB101_104 := Aside0.mk ((by rw [hg]; exact Nat.ne_of_lt (blk_lt (qk_ BK101)) : gb101 ≠ gb104)); have NB104_101 := Aside0.mk ((by rw [hg]; exact Nat.ne_of_gt (blk_lt (qk_ BK101)) : gb104 ≠ gb101)); replace BK101 := Aside0.mk (blk_below (qk_ BK101) hb); clear hb hbox hg; have hnb9 := NB104_101.out; have hnc9 := NB101_104.out; obtain ⟨hcz10_0, hcz10_1, hcz10_2, hcz10_3, hfz10_0⟩ := qc4_ BK104) | ((with_reducible refine gate_callee (f := 28) rfl ?_); refine goesL_ (some 20) rfl rfl Tryd.func28 qK rfl #[.string t103] rfl qll_ ?_; (with_reducible refine (impl_flagKey.calls t103 t105 t106 _ A4.out).mono ?_); rintro e w' ⟨rfl, ⟨nd, rfl⟩⟩; refine ⟨_, rfl, ?_⟩))
  (try simp only [Act.put, List.setIfInBounds_toArray, List.set_cons_zero, List.set_cons_succ])
  go_cut [23] (fun v23 wc => ∃ (kq : Nat) (x23_4 : Bool), v23 = .bool x23_4 ∧ Aside0 (impl_readKey.j0 kq l0 t103 x23_4 false t103 (⟨#[]⟩ : BA_) = some (r1, r2, r3, r4, r5)) ∧ Aside0 (kq ≤ k) ∧ Aside0 (wc.heap[gb101]? = some (.cells #[.bool false, .string (⟨#[]⟩ : BA_), .string (⟨#[]⟩ : BA_), (.slice none 0 0)] 37 (0, 0))) ∧ Aside0 (wc.heap[gb104]? = some (.cells #[.bool false, .string t103, .string (⟨#[]⟩ : BA_), (.slice none 0 0)] 37 (0, 0))) ∧ Aside0 (Below w.heap.size w wc))
  case first =>
   have H := HC5.out; clear HC5; by_cases c11 : t103.toList = ([65, 76, 76] : List UInt8)
   ·rw [if_pos c11] at H
    have c11b0 : (t103.toList == ([65, 76, 76] : List UInt8)) = true := beq_iff_eq.mpr c11; have c11b1 : (t103.toList != ([65, 76, 76] : List UInt8)) = false := bne_eq_false_iff_eq.mpr c11; clear c11
    (first | rw [c11b0] | (simp only [i64_w, i32_w]; rw [c11b0]) | skip)
    have H' := Aside0.mk H; clear H
    go_wp2
    go_meet
    case rel => exact ⟨_, (true), qff_, H', ⟨by first | omega | exact Nat.le_refl _⟩, ⟨qp_ BK101⟩, ⟨qp_ BK104⟩, ⟨qBHB⟩⟩
   ·rw [if_neg c11] at H
    have c11b0 : (t103.toList == ([65, 76, 76] : List UInt8)) = false := beq_eq_false_iff_ne.mpr c11; have c11b1 : (t103.toList != ([65, 76, 76] : List UInt8)) = true := bne_iff_ne.mpr c11
    (first | rw [c11b0] | (simp only [i64_w, i32_w]; rw [c11b0]) | skip)
    have H' := Aside0.mk H; clear H
    go_wp2
    go_meet
    case rel => exact ⟨_, ((t105 != 0)), qff_, H', ⟨by first | omega | exact Nat.le_refl _⟩, ⟨qp_ BK101⟩, ⟨qp_ BK104⟩, ⟨qBHB⟩⟩
  case rest =>
   clear HC5
   try clear c1
   try clear p1
   try clear q1
   try clear hx1
   try clear qi1
   try clear c2
   try clear c2b0
   try clear c2b1
   try clear p2
   try clear c9
   try clear p10
   try clear q10
   try clear hx10
   try clear qi10
   try clear c11
   try clear c11b0
   try clear c11b1
   try clear hcz10_0 hcz10_1 hcz10_2 hcz10_3
   try clear hfz10_0
   try clear hx102_0
   try clear p102
   try clear q102
   obtain ⟨kq, x23_4, rfl, HA, HJ4, BK101, BK104, HB⟩ := hcut
   cases kq with
   | zero => exact absurd HA.out (by simp [impl_readKey.j0])
   | succ kj4 =>
    have H := HA.out; clear HA; simp only [impl_readKey.j0] at H; by_cases c12 : x23_4 = true
    ·subst c12
     have H1 : (some (false, t103, (⟨#[]⟩ : BA_), ([] : List (S49)), 1)) = some (r1, r2, r3, r4, r5) := by rw [if_pos rfl] at H; exact H
     clear H; have H := H1; clear H1; simp only [Option.some.injEq, Prod.mk.injEq] at H; obtain ⟨rfl, rfl, rfl, rfl, rfl⟩ := H; have hnb13 := NB104_101.out; have hnc13 := NB101_104.out; obtain ⟨hcz14_0, hcz14_1, hcz14_2, hcz14_3, hfz14_0⟩ := qc4_ BK104; obtain ⟨hcz15_0, hcz15_1, hcz15_2, hcz15_3, hfz15_0⟩ := qc4_ BK101
     go_wp2
     refine bodyPost_ret (results_ct rfl _ _ gb101 37 #[.bool false, .string t103, .string (⟨#[]⟩ : BA_), .slice none 0 0] (0, 0) _ rfl (by (with_reducible repeat (first | refine blk_drewN ?_ _ | refine blk_drew ?_ | refine blk_alloc ?_ _)); refine blk_put (cs := #[.bool false, .string t103, .string (⟨#[]⟩ : BA_), .slice none 0 0]) ?_ 3 _ rfl; (with_reducible repeat (first | refine blk_drewN ?_ _ | refine blk_drew ?_ | refine blk_alloc ?_ _)); refine blk_put (cs := #[.bool false, .string t103, .string (⟨#[]⟩ : BA_), .slice none 0 0]) ?_ 2 _ rfl; (with_reducible repeat (first | refine blk_drewN ?_ _ | refine blk_drew ?_ | refine blk_alloc ?_ _)); refine blk_put (cs := impl_readKey.b0) ?_ 1 _ rfl; (with_reducible repeat (first | refine blk_drewN ?_ _ | refine blk_drew ?_ | refine blk_alloc ?_ _)); refine blk_put (cs := impl_readKey.b0) ?_ 0 _ rfl; (with_reducible repeat (first | refine blk_drewN ?_ _ | refine blk_drew ?_ | refine blk_alloc ?_ _)); exact BK101.out) Tryd.underlying37 rfl qK) rfl ?_; exact ⟨_, qee_, by first | exact Kd.R_nil _ _ _ _ _ | exact Kd.N_nil _ _ _ _ _ | exact Kd.V_nil _ _ _ _ _ | exact Kd.Q_nil _ _ _ _ _ | exact Kd.S_nil _ _ _ _ _, qBHB⟩
    ·replace c12 := Bool.eq_false_iff.mpr c12
     subst c12
     have H1 : ((impl_wordKey.f t103).bind fun t107 => (if t107 = true then (impl_readKey.j1 kj4 l0 t103 true false t103 (⟨#[]⟩ : BA_)) else (impl_readKey.j1 kj4 l0 t103 (t103.toList == ([85, 73, 68] : List UInt8)) false t103 (⟨#[]⟩ : BA_)))) = some (r1, r2, r3, r4, r5) := by rw [if_neg (show ¬ (false = true) by decide)] at H; exact H
     clear H; have H := H1; clear H1; have HC16 := Aside0.mk H; clear H
     go_upto_region 6 with (fail)
     go_cut [31] (fun v31 wc => ∃ (kq : Nat) (x31_15 : Bool), v31 = .bool x31_15 ∧ Aside0 (impl_readKey.j1 kq l0 t103 x31_15 false t103 (⟨#[]⟩ : BA_) = some (r1, r2, r3, r4, r5)) ∧ Aside0 (kq ≤ kj4) ∧ Aside0 (wc.heap[gb101]? = some (.cells #[.bool false, .string (⟨#[]⟩ : BA_), .string (⟨#[]⟩ : BA_), (.slice none 0 0)] 37 (0, 0))) ∧ Aside0 (wc.heap[gb104]? = some (.cells #[.bool false, .string t103, .string (⟨#[]⟩ : BA_), (.slice none 0 0)] 37 (0, 0))) ∧ Aside0 (Below w.heap.size w wc))
     case first =>
      have H := HC16.out; clear HC16; replace H := Option.bind_eq_some_iff.mp H; obtain ⟨t107, A170, H⟩ := H; have A17 := Aside0.mk A170; clear A170; by_cases c18 : t107 = true
      ·subst c18
       have H1 : (impl_readKey.j1 kj4 l0 t103 true false t103 (⟨#[]⟩ : BA_)) = some (r1, r2, r3, r4, r5) := by rw [if_pos rfl] at H; exact H
       clear H; have H := H1; clear H1; have H' := Aside0.mk H; clear H
       go_wp2_with (first | ((with_reducible refine gate_callee (f := 29) rfl ?_); refine goesL_ (some 33) rfl rfl Tryd.func29 qK rfl #[.string t103] rfl qll_ ?_; (with_reducible refine (impl_wordKey.calls t103 true _ A17.out).mono ?_); rintro e w' ⟨rfl, ⟨nd, rfl⟩⟩; refine ⟨_, rfl, ?_⟩))
       go_meet
       case rel => exact ⟨_, (true), qff_, H', ⟨by have := HJ4.out; first | omega | exact Nat.le_refl _⟩, ⟨qk_ BK101⟩, ⟨qk_ BK104⟩, ⟨qBHB⟩⟩
      ·replace c18 := Bool.eq_false_iff.mpr c18
       subst c18
       have H1 : (impl_readKey.j1 kj4 l0 t103 (t103.toList == ([85, 73, 68] : List UInt8)) false t103 (⟨#[]⟩ : BA_)) = some (r1, r2, r3, r4, r5) := by rw [if_neg (show ¬ (false = true) by decide)] at H; exact H
       clear H; have H := H1; clear H1; have H' := Aside0.mk H; clear H
       go_wp2_with (first | ((with_reducible refine gate_callee (f := 29) rfl ?_); refine goesL_ (some 33) rfl rfl Tryd.func29 qK rfl #[.string t103] rfl qll_ ?_; (with_reducible refine (impl_wordKey.calls t103 false _ A17.out).mono ?_); rintro e w' ⟨rfl, ⟨nd, rfl⟩⟩; refine ⟨_, rfl, ?_⟩))
       go_meet
       case rel => exact ⟨_, ((t103.toList == ([85, 73, 68] : List UInt8))), qff_, H', ⟨by have := HJ4.out; first | omega | exact Nat.le_refl _⟩, ⟨qk_ BK101⟩, ⟨qk_ BK104⟩, ⟨qBHB⟩⟩
     case rest =>
      clear HC16
      try clear c1
      try clear p1
      try clear q1
      try clear hx1
      try clear qi1
      try clear c2
      try clear c2b0
      try clear c2b1
      try clear p2
      try clear c9
      try clear p10
      try clear q10
      try clear hx10
      try clear qi10
      try clear c11
      try clear c11b0
      try clear c11b1
      try clear c12
      try clear c13
      try clear c18
      try clear hcz10_0 hcz10_1 hcz10_2 hcz10_3
      try clear hcz14_0 hcz14_1 hcz14_2 hcz14_3
      try clear hcz15_0 hcz15_1 hcz15_2 hcz15_3
      try clear hfz10_0
      try clear hfz14_0
      try clear hfz15_0
      try clear hx102_0
      try clear p1
      try clear p10
      try clear p102
      try clear p2
      try clear q1
      try clear q10
      try clear q102
      obtain ⟨kq, x31_15, rfl, HA, HJ15, BK101, BK104, HB⟩ := hcut
      cases kq with
      | zero => exact absurd HA.out (by simp [impl_readKey.j1])
      | succ kj15 =>
       have H := HA.out; clear HA; simp only [impl_readKey.j1] at H; by_cases c19 : x31_15 = true
       ·subst c19
        have H1 : (if (l0.length : Int) < 2 then (some (false, (⟨#[]⟩ : BA_), (⟨#[]⟩ : BA_), ([] : List (S49)), 0)) else ((impl_wordKey.f t103).bind fun t108 => (if t108 = true then (if 1 < (l0.length : Int) then (some (false, t103, rdOf ByteArray.empty l0 1, ([] : List (S49)), 2)) else (none)) else (if 1 < (l0.length : Int) then ((impl_readSet.f kj15 (rdOf ByteArray.empty l0 1)).bind fun bt111 => (if bt111.2 = true then (some (false, t103, (⟨#[]⟩ : BA_), bt111.1, 2)) else (some (false, (⟨#[]⟩ : BA_), (⟨#[]⟩ : BA_), ([] : List (S49)), 0)))) else (none))))) = some (r1, r2, r3, r4, r5) := by rw [if_pos rfl] at H; exact H
        clear H; have H := H1; clear H1; by_cases c20 : (l0.length : Int) < 2
        ·rw [if_pos c20] at H
         have c20b0 : decide ((l0.length : Int) < 2) = true := decide_eq_true c20; have c20b1 : decide (l0.length < 2) = true := decide_eq_true (by omega); clear c20; simp only [Option.some.injEq, Prod.mk.injEq] at H; obtain ⟨rfl, rfl, rfl, rfl, rfl⟩ := H; have hnb21 := NB101_104.out; have hnc21 := NB104_101.out; obtain ⟨hcz22_0, hcz22_1, hcz22_2, hcz22_3, hfz22_0⟩ := qc4_ BK101
         go_wp2
         refine bodyPost_ret (results_ct rfl _ _ gb101 37 impl_readKey.b0 (0, 0) _ rfl (by (with_reducible repeat (first | refine blk_drewN ?_ _ | refine blk_drew ?_ | refine blk_alloc ?_ _)); refine blk_put (cs := impl_readKey.b0) ?_ 3 _ rfl; (with_reducible repeat (first | refine blk_drewN ?_ _ | refine blk_drew ?_ | refine blk_alloc ?_ _)); refine blk_put (cs := impl_readKey.b0) ?_ 2 _ rfl; (with_reducible repeat (first | refine blk_drewN ?_ _ | refine blk_drew ?_ | refine blk_alloc ?_ _)); refine blk_put (cs := impl_readKey.b0) ?_ 1 _ rfl; (with_reducible repeat (first | refine blk_drewN ?_ _ | refine blk_drew ?_ | refine blk_alloc ?_ _)); refine blk_put (cs := impl_readKey.b0) ?_ 0 _ rfl; (with_reducible repeat (first | refine blk_drewN ?_ _ | refine blk_drew ?_ | refine blk_alloc ?_ _)); exact BK101.out) Tryd.underlying37 rfl qK) rfl ?_; exact ⟨_, qee_, by first | exact Kd.R_nil _ _ _ _ _ | exact Kd.N_nil _ _ _ _ _ | exact Kd.V_nil _ _ _ _ _ | exact Kd.Q_nil _ _ _ _ _ | exact Kd.S_nil _ _ _ _ _, qBHB⟩
        ·rw [if_neg c20] at H
         have c20b0 : decide ((l0.length : Int) < 2) = false := decide_eq_false c20; have c20b1 : decide (l0.length < 2) = false := decide_eq_false (by omega); clear c20; replace H := Option.bind_eq_some_iff.mp H; obtain ⟨t108, A230, H⟩ := H; have A23 := Aside0.mk A230; clear A230; by_cases c24 : t108 = true
         ·subst c24
          have H1 : (if 1 < (l0.length : Int) then (some (false, t103, rdOf ByteArray.empty l0 1, ([] : List (S49)), 2)) else (none)) = some (r1, r2, r3, r4, r5) := by rw [if_pos rfl] at H; exact H
          clear H; have H := H1; clear H1; by_cases c25 : 1 < (l0.length : Int)
          ·rw [if_pos c25] at H
           have c25b0 : decide (1 < (l0.length : Int)) = true := decide_eq_true c25; have c25b1 : decide (1 < l0.length) = true := decide_eq_true (by omega); clear c25; simp only [Option.some.injEq, Prod.mk.injEq] at H; obtain ⟨rfl, rfl, rfl, rfl, rfl⟩ := H
           go_wp2_with (first | ((with_reducible refine gate_callee (f := 29) rfl ?_); refine goesL_ (some 43) rfl rfl Tryd.func29 qK rfl #[.string t103] rfl qll_ ?_; (with_reducible refine (impl_wordKey.calls t103 true _ A23.out).mono ?_); rintro e w' ⟨rfl, ⟨nd, rfl⟩⟩; refine ⟨_, rfl, ?_⟩; (try (rw [drewN_self wc]; generalize hq_ : World.drewN wc _ = wc; replace BK101 : Aside0 (wc.heap[gb101]? = some (.cells impl_readKey.b0 37 (0, 0))) := ⟨by rw [← hq_]; exact (qk_ BK101)⟩; replace BK104 : Aside0 (wc.heap[gb104]? = some (.cells #[.bool false, .string t103, .string (⟨#[]⟩ : BA_), .slice none 0 0] 37 (0, 0))) := ⟨by rw [← hq_]; exact (qk_ BK104)⟩; replace HB : Aside0 (Below w.heap.size w wc) := ⟨by rw [← hq_]; exact qBHB⟩; clear hq_)); have p109 : 0 ≤ (1 : Int) := (by omega); have q109 : 1 < (l0.length : Int) := qd_; obtain ⟨ad109, e109, hx109_0⟩ := Kd.at_string HR0.out 1 p109 q109; obtain rfl : ad102 = ad109 := (by injection e109); (try simp only [show (1 : Int).toNat = 1 from rfl, Nat.reduceMul, Nat.reduceEqDiff, Go.Addr.add, ↓reduceIte] at hx109_0); have qi109 : (1 < l0.length) = True := eq_true (by omega); (try rw [show ((1 : Int)).toNat = 1 from rfl] at hx109_0); replace hx109_0 := (HB.out.cell (World.block_lt_of_cell? w _ hx109_0)).trans hx109_0; replace p109 := eq_true p109; replace q109 := eq_true q109; have hnb26 := NB104_101.out; have hnc26 := NB101_104.out; obtain ⟨hcz27_0, hcz27_1, hcz27_2, hcz27_3, hfz27_0⟩ := qc4_ BK104; obtain ⟨hcz28_0, hcz28_1, hcz28_2, hcz28_3, hfz28_0⟩ := qc4_ BK101))
           refine bodyPost_ret (results_ct rfl _ _ gb101 37 #[.bool false, .string t103, .string (rdOf ByteArray.empty l0 1), .slice none 0 0] (0, 0) _ rfl (by (with_reducible repeat (first | refine blk_drewN ?_ _ | refine blk_drew ?_ | refine blk_alloc ?_ _)); refine blk_put (cs := #[.bool false, .string t103, .string (rdOf ByteArray.empty l0 1), .slice none 0 0]) ?_ 3 _ rfl; (with_reducible repeat (first | refine blk_drewN ?_ _ | refine blk_drew ?_ | refine blk_alloc ?_ _)); refine blk_put (cs := #[.bool false, .string t103, .string (⟨#[]⟩ : BA_), .slice none 0 0]) ?_ 2 _ rfl; (with_reducible repeat (first | refine blk_drewN ?_ _ | refine blk_drew ?_ | refine blk_alloc ?_ _)); refine blk_put (cs := impl_readKey.b0) ?_ 1 _ rfl; (with_reducible repeat (first | refine blk_drewN ?_ _ | refine blk_drew ?_ | refine blk_alloc ?_ _)); refine blk_put (cs := impl_readKey.b0) ?_ 0 _ rfl; (with_reducible repeat (first | refine blk_drewN ?_ _ | refine blk_drew ?_ | refine blk_alloc ?_ _)); refine blk_far ?_ NB101_104.out _; (with_reducible repeat (first | refine blk_drewN ?_ _ | refine blk_drew ?_ | refine blk_alloc ?_ _)); exact BK101.out) Tryd.underlying37 rfl qK) rfl ?_; exact ⟨_, qee_, by first | exact Kd.R_nil _ _ _ _ _ | exact Kd.N_nil _ _ _ _ _ | exact Kd.V_nil _ _ _ _ _ | exact Kd.Q_nil _ _ _ _ _ | exact Kd.S_nil _ _ _ _ _, qBHB⟩
          ·rw [if_neg c25] at H
           exact absurd H (by simp)
         ·replace c24 := Bool.eq_false_iff.mpr c24
          subst c24
          have H1 : (if 1 < (l0.length : Int) then ((impl_readSet.f kj15 (rdOf ByteArray.empty l0 1)).bind fun bt111 => (if bt111.2 = true then (some (false, t103, (⟨#[]⟩ : BA_), bt111.1, 2)) else (some (false, (⟨#[]⟩ : BA_), (⟨#[]⟩ : BA_), ([] : List (S49)), 0)))) else (none)) = some (r1, r2, r3, r4, r5) := by rw [if_neg (show ¬ (false = true) by decide)] at H; exact H
          clear H; have H := H1; clear H1; by_cases c29 : 1 < (l0.length : Int)
          ·rw [if_pos c29] at H
           have c29b0 : decide (1 < (l0.length : Int)) = true := decide_eq_true c29; have c29b1 : decide (1 < l0.length) = true := decide_eq_true (by omega); clear c29; replace H := Option.bind_eq_some_iff.mp H; obtain ⟨⟨t111, t112⟩, A300, H⟩ := H; dsimp only at H; have A30 := Aside0.mk A300; clear A300; by_cases c31 : t112 = true
           ·subst c31
            have H1 : (some (false, t103, (⟨#[]⟩ : BA_), t111, 2)) = some (r1, r2, r3, r4, r5) := by rw [if_pos rfl] at H; exact H
            clear H; have H := H1; clear H1; simp only [Option.some.injEq, Prod.mk.injEq] at H; obtain ⟨rfl, rfl, rfl, rfl, rfl⟩ := H
            go_wp2_with (first | ((with_reducible refine gate_callee (f := 29) rfl ?_); refine goesL_ (some 43) rfl rfl Tryd.func29 qK rfl #[.string t103] rfl qll_ ?_; (with_reducible refine (impl_wordKey.calls t103 false _ A23.out).mono ?_); rintro e w' ⟨rfl, ⟨nd, rfl⟩⟩; refine ⟨_, rfl, ?_⟩; (try (rw [drewN_self wc]; generalize hq_ : World.drewN wc _ = wc; replace BK101 : Aside0 (wc.heap[gb101]? = some (.cells impl_readKey.b0 37 (0, 0))) := ⟨by rw [← hq_]; exact (qk_ BK101)⟩; replace BK104 : Aside0 (wc.heap[gb104]? = some (.cells #[.bool false, .string t103, .string (⟨#[]⟩ : BA_), .slice none 0 0] 37 (0, 0))) := ⟨by rw [← hq_]; exact (qk_ BK104)⟩; replace HB : Aside0 (Below w.heap.size w wc) := ⟨by rw [← hq_]; exact qBHB⟩; clear hq_)); have p110 : 0 ≤ (1 : Int) := (by omega); have q110 : 1 < (l0.length : Int) := qd_; obtain ⟨ad110, e110, hx110_0⟩ := Kd.at_string HR0.out 1 p110 q110; obtain rfl : ad102 = ad110 := (by injection e110); (try simp only [show (1 : Int).toNat = 1 from rfl, Nat.reduceMul, Nat.reduceEqDiff, Go.Addr.add, ↓reduceIte] at hx110_0); have qi110 : (1 < l0.length) = True := eq_true (by omega); (try rw [show ((1 : Int)).toNat = 1 from rfl] at hx110_0); replace hx110_0 := (HB.out.cell (World.block_lt_of_cell? w _ hx110_0)).trans hx110_0; replace p110 := eq_true p110; replace q110 := eq_true q110) | ((with_reducible refine gate_callee (f := 30) rfl ?_); refine goesL_ (some 53) rfl rfl Tryd.func30 qK rfl #[.string (rdOf ByteArray.empty l0 1)] rfl qll_ ?_; (with_reducible refine (impl_readSet.calls kj15 (rdOf ByteArray.empty l0 1) t111 true _ A30.out).mono ?_); rintro e w32 ⟨v113, rfl, ho0, hb⟩; refine ⟨_, rfl, ?_⟩; have HO114 := Aside0.mk (Kd.R_lower ho0 (below_size qBHB)); replace BK101 := Aside0.mk (blk_below (qk_ BK101) hb); replace BK104 := Aside0.mk (blk_below (qk_ BK104) hb); replace HB := Aside0.mk (below_step qBHB hb); (try clear hb); (try clear hb2); (try clear hk); (try clear hi); (try clear ho0); obtain ⟨Ao33, co33, eo33⟩ := Kd.R_slice HO114.out; subst eo33; have hnb34 := NB104_101.out; have hnc34 := NB101_104.out; obtain ⟨hcz35_0, hcz35_1, hcz35_2, hcz35_3, hfz35_0⟩ := qc4_ BK104; obtain ⟨hcz36_0, hcz36_1, hcz36_2, hcz36_3, hfz36_0⟩ := qc4_ BK101))
            refine bodyPost_ret (results_ct rfl _ _ gb101 37 #[.bool false, .string t103, .string (⟨#[]⟩ : BA_), .slice Ao33 t111.length co33] (0, 0) _ rfl (by (with_reducible repeat (first | refine blk_drewN ?_ _ | refine blk_drew ?_ | refine blk_alloc ?_ _)); refine blk_put (cs := #[.bool false, .string t103, .string (⟨#[]⟩ : BA_), .slice none 0 0]) ?_ 3 _ rfl; (with_reducible repeat (first | refine blk_drewN ?_ _ | refine blk_drew ?_ | refine blk_alloc ?_ _)); refine blk_put (cs := #[.bool false, .string t103, .string (⟨#[]⟩ : BA_), .slice none 0 0]) ?_ 2 _ rfl; (with_reducible repeat (first | refine blk_drewN ?_ _ | refine blk_drew ?_ | refine blk_alloc ?_ _)); refine blk_put (cs := impl_readKey.b0) ?_ 1 _ rfl; (with_reducible repeat (first | refine blk_drewN ?_ _ | refine blk_drew ?_ | refine blk_alloc ?_ _)); refine blk_put (cs := impl_readKey.b0) ?_ 0 _ rfl; (with_reducible repeat (first | refine blk_drewN ?_ _ | refine blk_drew ?_ | refine blk_alloc ?_ _)); refine blk_far ?_ NB101_104.out _; (with_reducible repeat (first | refine blk_drewN ?_ _ | refine blk_drew ?_ | refine blk_alloc ?_ _)); exact BK101.out) Tryd.underlying37 rfl qK) rfl ?_; exact ⟨_, qee_, by (with_reducible repeat (first | apply Kd.R_alloc | apply Kd.R_drewN | apply Kd.R_drew)); exact Kd.R_mono (Kd.R_far (p := ⟨gb101, 3, none⟩) (Kd.R_far (p := ⟨gb101, 2, none⟩) (Kd.R_far (p := ⟨gb101, 1, none⟩) (Kd.R_far (p := ⟨gb101, 0, none⟩) (Kd.R_far (p := ⟨gb104, 3, none⟩) (Kd.R_types (Kd.R_types HO114.out BK104.out (by decide)) BK101.out (by decide)) (fun _ hk => hk.1.2) (.slice Ao33 t111.length co33)) (fun _ hk => hk.2) (.bool false)) (fun _ hk => hk.2) (.string t103)) (fun _ hk => hk.2) (.string (⟨#[]⟩ : BA_))) (fun _ hk => hk.2) (.slice Ao33 t111.length co33)) (fun _ hk => trivial), qBHB⟩
           ·replace c31 := Bool.eq_false_iff.mpr c31
            subst c31
            have H1 : (some (false, (⟨#[]⟩ : BA_), (⟨#[]⟩ : BA_), ([] : List (S49)), 0)) = some (r1, r2, r3, r4, r5) := by rw [if_neg (show ¬ (false = true) by decide)] at H; exact H
            clear H; have H := H1; clear H1; simp only [Option.some.injEq, Prod.mk.injEq] at H; obtain ⟨rfl, rfl, rfl, rfl, rfl⟩ := H
            go_wp2_with (first | ((with_reducible refine gate_callee (f := 29) rfl ?_); refine goesL_ (some 43) rfl rfl Tryd.func29 qK rfl #[.string t103] rfl qll_ ?_; (with_reducible refine (impl_wordKey.calls t103 false _ A23.out).mono ?_); rintro e w' ⟨rfl, ⟨nd, rfl⟩⟩; refine ⟨_, rfl, ?_⟩; (try (rw [drewN_self wc]; generalize hq_ : World.drewN wc _ = wc; replace BK101 : Aside0 (wc.heap[gb101]? = some (.cells impl_readKey.b0 37 (0, 0))) := ⟨by rw [← hq_]; exact (qk_ BK101)⟩; replace BK104 : Aside0 (wc.heap[gb104]? = some (.cells #[.bool false, .string t103, .string (⟨#[]⟩ : BA_), .slice none 0 0] 37 (0, 0))) := ⟨by rw [← hq_]; exact (qk_ BK104)⟩; replace HB : Aside0 (Below w.heap.size w wc) := ⟨by rw [← hq_]; exact qBHB⟩; clear hq_)); have p110 : 0 ≤ (1 : Int) := (by omega); have q110 : 1 < (l0.length : Int) := qd_; obtain ⟨ad110, e110, hx110_0⟩ := Kd.at_string HR0.out 1 p110 q110; obtain rfl : ad102 = ad110 := (by injection e110); (try simp only [show (1 : Int).toNat = 1 from rfl, Nat.reduceMul, Nat.reduceEqDiff, Go.Addr.add, ↓reduceIte] at hx110_0); have qi110 : (1 < l0.length) = True := eq_true (by omega); (try rw [show ((1 : Int)).toNat = 1 from rfl] at hx110_0); replace hx110_0 := (HB.out.cell (World.block_lt_of_cell? w _ hx110_0)).trans hx110_0; replace p110 := eq_true p110; replace q110 := eq_true q110) | ((with_reducible refine gate_callee (f := 30) rfl ?_); refine goesL_ (some 53) rfl rfl Tryd.func30 qK rfl #[.string (rdOf ByteArray.empty l0 1)] rfl qll_ ?_; (with_reducible refine (impl_readSet.calls kj15 (rdOf ByteArray.empty l0 1) t111 false _ A30.out).mono ?_); rintro e w37 ⟨v113, rfl, ho0, hb⟩; refine ⟨_, rfl, ?_⟩; have HO114 := Aside0.mk (Kd.R_lower ho0 (below_size qBHB)); replace BK101 := Aside0.mk (blk_below (qk_ BK101) hb); replace BK104 := Aside0.mk (blk_below (qk_ BK104) hb); replace HB := Aside0.mk (below_step qBHB hb); (try clear hb); (try clear hb2); (try clear hk); (try clear hi); (try clear ho0); have hnb38 := NB101_104.out; have hnc38 := NB104_101.out; obtain ⟨hcz39_0, hcz39_1, hcz39_2, hcz39_3, hfz39_0⟩ := qc4_ BK101))
            refine bodyPost_ret (results_ct rfl _ _ gb101 37 impl_readKey.b0 (0, 0) _ rfl (by (with_reducible repeat (first | refine blk_drewN ?_ _ | refine blk_drew ?_ | refine blk_alloc ?_ _)); refine blk_put (cs := impl_readKey.b0) ?_ 3 _ rfl; (with_reducible repeat (first | refine blk_drewN ?_ _ | refine blk_drew ?_ | refine blk_alloc ?_ _)); refine blk_put (cs := impl_readKey.b0) ?_ 2 _ rfl; (with_reducible repeat (first | refine blk_drewN ?_ _ | refine blk_drew ?_ | refine blk_alloc ?_ _)); refine blk_put (cs := impl_readKey.b0) ?_ 1 _ rfl; (with_reducible repeat (first | refine blk_drewN ?_ _ | refine blk_drew ?_ | refine blk_alloc ?_ _)); refine blk_put (cs := impl_readKey.b0) ?_ 0 _ rfl; (with_reducible repeat (first | refine blk_drewN ?_ _ | refine blk_drew ?_ | refine blk_alloc ?_ _)); exact BK101.out) Tryd.underlying37 rfl qK) rfl ?_; exact ⟨_, qee_, by first | exact Kd.R_nil _ _ _ _ _ | exact Kd.N_nil _ _ _ _ _ | exact Kd.V_nil _ _ _ _ _ | exact Kd.Q_nil _ _ _ _ _ | exact Kd.S_nil _ _ _ _ _, qBHB⟩
          ·rw [if_neg c29] at H
           exact absurd H (by simp)
       ·replace c19 := Bool.eq_false_iff.mpr c19
        subst c19
        have H1 : (if 0 < (l0.length : Int) then ((impl_readSet.f kj15 (rdOf ByteArray.empty l0 0)).bind fun bt116 => (if bt116.2 = true then (some (false, (⟨#[83, 69, 84]⟩ : BA_), (⟨#[]⟩ : BA_), bt116.1, 1)) else (some (false, (⟨#[]⟩ : BA_), (⟨#[]⟩ : BA_), ([] : List (S49)), 0)))) else (none)) = some (r1, r2, r3, r4, r5) := by rw [if_neg (show ¬ (false = true) by decide)] at H; exact H
        clear H; have H := H1; clear H1; by_cases c40 : 0 < (l0.length : Int)
        ·rw [if_pos c40] at H
         have c40b0 : decide (0 < (l0.length : Int)) = true := decide_eq_true c40; have c40b1 : decide (0 < l0.length) = true := decide_eq_true (by omega); clear c40; replace H := Option.bind_eq_some_iff.mp H; obtain ⟨⟨t116, t117⟩, A410, H⟩ := H; dsimp only at H; have A41 := Aside0.mk A410; clear A410; by_cases c42 : t117 = true
         ·subst c42
          have H1 : (some (false, (⟨#[83, 69, 84]⟩ : BA_), (⟨#[]⟩ : BA_), t116, 1)) = some (r1, r2, r3, r4, r5) := by rw [if_pos rfl] at H; exact H
          clear H; have H := H1; clear H1; simp only [Option.some.injEq, Prod.mk.injEq] at H; obtain ⟨rfl, rfl, rfl, rfl, rfl⟩ := H; have p115 : 0 ≤ (0 : Int) := (by omega); have q115 : 0 < (l0.length : Int) := qd_; obtain ⟨ad115, e115, hx115_0⟩ := Kd.at_string HR0.out 0 p115 q115; obtain rfl : ad102 = ad115 := (by injection e115); have qi115 : (0 < l0.length) = True := eq_true (by omega)
          (try rw [show ((0 : Int)).toNat = 0 from rfl] at hx115_0)
          (try rw [Addr.add_zero'] at hx115_0)
          replace hx115_0 := (HB.out.cell (World.block_lt_of_cell? w _ hx115_0)).trans hx115_0; replace p115 := eq_true p115; replace q115 := eq_true q115
          go_wp2_with (first | ((with_reducible refine gate_callee (f := 30) rfl ?_); refine goesL_ (some 66) rfl rfl Tryd.func30 qK rfl #[.string (rdOf ByteArray.empty l0 0)] rfl qll_ ?_; (with_reducible refine (impl_readSet.calls kj15 (rdOf ByteArray.empty l0 0) t116 true _ A41.out).mono ?_); rintro e w43 ⟨v118, rfl, ho0, hb⟩; refine ⟨_, rfl, ?_⟩; have HO119 := Aside0.mk (Kd.R_lower ho0 (below_size qBHB)); replace BK101 := Aside0.mk (blk_below (qk_ BK101) hb); replace BK104 := Aside0.mk (blk_below (qk_ BK104) hb); replace HB := Aside0.mk (below_step qBHB hb); (try clear hb); (try clear hb2); (try clear hk); (try clear hi); (try clear ho0); obtain ⟨Ao44, co44, eo44⟩ := Kd.R_slice HO119.out; subst eo44; have hnb45 := NB101_104.out; have hnc45 := NB104_101.out; obtain ⟨hcz46_0, hcz46_1, hcz46_2, hcz46_3, hfz46_0⟩ := qc4_ BK101))
          refine bodyPost_ret (results_ct rfl _ _ gb101 37 #[.bool false, .string (⟨#[83, 69, 84]⟩ : BA_), .string (⟨#[]⟩ : BA_), .slice Ao44 t116.length co44] (0, 0) _ rfl (by (with_reducible repeat (first | refine blk_drewN ?_ _ | refine blk_drew ?_ | refine blk_alloc ?_ _)); refine blk_put (cs := #[.bool false, .string (⟨#[83, 69, 84]⟩ : BA_), .string (⟨#[]⟩ : BA_), .slice none 0 0]) ?_ 3 _ rfl; (with_reducible repeat (first | refine blk_drewN ?_ _ | refine blk_drew ?_ | refine blk_alloc ?_ _)); refine blk_put (cs := #[.bool false, .string (⟨#[83, 69, 84]⟩ : BA_), .string (⟨#[]⟩ : BA_), .slice none 0 0]) ?_ 2 _ rfl; (with_reducible repeat (first | refine blk_drewN ?_ _ | refine blk_drew ?_ | refine blk_alloc ?_ _)); refine blk_put (cs := impl_readKey.b0) ?_ 1 _ rfl; (with_reducible repeat (first | refine blk_drewN ?_ _ | refine blk_drew ?_ | refine blk_alloc ?_ _)); refine blk_put (cs := impl_readKey.b0) ?_ 0 _ rfl; (with_reducible repeat (first | refine blk_drewN ?_ _ | refine blk_drew ?_ | refine blk_alloc ?_ _)); exact BK101.out) Tryd.underlying37 rfl qK) rfl ?_; exact ⟨_, qee_, by (with_reducible repeat (first | apply Kd.R_alloc | apply Kd.R_drewN | apply Kd.R_drew)); exact Kd.R_mono (qf4_ HO119 BK101) (fun _ hk => trivial), qBHB⟩
         ·replace c42 := Bool.eq_false_iff.mpr c42
          subst c42
          have H1 : (some (false, (⟨#[]⟩ : BA_), (⟨#[]⟩ : BA_), ([] : List (S49)), 0)) = some (r1, r2, r3, r4, r5) := by rw [if_neg (show ¬ (false = true) by decide)] at H; exact H
          clear H; have H := H1; clear H1; simp only [Option.some.injEq, Prod.mk.injEq] at H; obtain ⟨rfl, rfl, rfl, rfl, rfl⟩ := H; have p115 : 0 ≤ (0 : Int) := (by omega); have q115 : 0 < (l0.length : Int) := qd_; obtain ⟨ad115, e115, hx115_0⟩ := Kd.at_string HR0.out 0 p115 q115; obtain rfl : ad102 = ad115 := (by injection e115); have qi115 : (0 < l0.length) = True := eq_true (by omega)
          (try rw [show ((0 : Int)).toNat = 0 from rfl] at hx115_0)
          (try rw [Addr.add_zero'] at hx115_0)
          replace hx115_0 := (HB.out.cell (World.block_lt_of_cell? w _ hx115_0)).trans hx115_0; replace p115 := eq_true p115; replace q115 := eq_true q115
          go_wp2_with (first | ((with_reducible refine gate_callee (f := 30) rfl ?_); refine goesL_ (some 66) rfl rfl Tryd.func30 qK rfl #[.string (rdOf ByteArray.empty l0 0)] rfl qll_ ?_; (with_reducible refine (impl_readSet.calls kj15 (rdOf ByteArray.empty l0 0) t116 false _ A41.out).mono ?_); rintro e w47 ⟨v118, rfl, ho0, hb⟩; refine ⟨_, rfl, ?_⟩; have HO119 := Aside0.mk (Kd.R_lower ho0 (below_size qBHB)); replace BK101 := Aside0.mk (blk_below (qk_ BK101) hb); replace BK104 := Aside0.mk (blk_below (qk_ BK104) hb); replace HB := Aside0.mk (below_step qBHB hb); (try clear hb); (try clear hb2); (try clear hk); (try clear hi); (try clear ho0); have hnb48 := NB101_104.out; have hnc48 := NB104_101.out; obtain ⟨hcz49_0, hcz49_1, hcz49_2, hcz49_3, hfz49_0⟩ := qc4_ BK101))
          refine bodyPost_ret (results_ct rfl _ _ gb101 37 impl_readKey.b0 (0, 0) _ rfl (by (with_reducible repeat (first | refine blk_drewN ?_ _ | refine blk_drew ?_ | refine blk_alloc ?_ _)); refine blk_put (cs := impl_readKey.b0) ?_ 3 _ rfl; (with_reducible repeat (first | refine blk_drewN ?_ _ | refine blk_drew ?_ | refine blk_alloc ?_ _)); refine blk_put (cs := impl_readKey.b0) ?_ 2 _ rfl; (with_reducible repeat (first | refine blk_drewN ?_ _ | refine blk_drew ?_ | refine blk_alloc ?_ _)); refine blk_put (cs := impl_readKey.b0) ?_ 1 _ rfl; (with_reducible repeat (first | refine blk_drewN ?_ _ | refine blk_drew ?_ | refine blk_alloc ?_ _)); refine blk_put (cs := impl_readKey.b0) ?_ 0 _ rfl; (with_reducible repeat (first | refine blk_drewN ?_ _ | refine blk_drew ?_ | refine blk_alloc ?_ _)); exact BK101.out) Tryd.underlying37 rfl qK) rfl ?_; exact ⟨_, qee_, by first | exact Kd.R_nil _ _ _ _ _ | exact Kd.N_nil _ _ _ _ _ | exact Kd.V_nil _ _ _ _ _ | exact Kd.Q_nil _ _ _ _ _ | exact Kd.S_nil _ _ _ _ _, qBHB⟩
        ·rw [if_neg c40] at H
         exact absurd H (by simp)
 ·rw [if_neg c2] at H
  exact absurd H (by simp)


/-! ### impl_readSearch: function 14 -/
mutual
def impl_readSearch.l0 : Nat → List ByteArray → List (S37) → Option ((List (S37)) × Bool)
 | 0, _, _ => none
 | k + 1, x0, x4 => if (x0.length : Int) > 0 then (if 0 < (x0.length : Int) then ((impl_upper.f (rdOf ByteArray.empty x0 0)).bind fun t105 => (if t105.toList = ([78, 79, 84] : List UInt8) then (if 1 ≤ (x0.length : Int) then (impl_readSearch.j1 k (x0.drop 1) x4 (t105.toList == ([78, 79, 84] : List UInt8))) else (none)) else (impl_readSearch.j1 k x0 x4 (t105.toList == ([78, 79, 84] : List UInt8))))) else (none)) else (some (x4, decide ((x4.length : Int) > 0)))
def impl_readSearch.j1 : Nat → List ByteArray → List (S37) → Bool → Option ((List (S37)) × Bool)
 | 0, _, _, _ => none
 | k + 1, x0, x4, x5 => if (x0.length : Int) = 0 then (impl_readSearch.j2 k x0 x4 x5 true) else (impl_readSearch.j2 k x0 x4 x5 ((x4.length : Int) == 20))
def impl_readSearch.j2 : Nat → List ByteArray → List (S37) → Bool → Bool → Option ((List (S37)) × Bool)
 | 0, _, _, _, _ => none
 | k + 1, x0, x4, x5, x27 => if x27 = true then (some (([] : List (S37)), false)) else ((impl_readKey.f k x0).bind fun bt111 => (if bt111.2.2.2.2 = 0 then (some (([] : List (S37)), false)) else (if x4.length < 2199023255552 then (if 0 ≤ bt111.2.2.2.2 then (if bt111.2.2.2.2 ≤ (x0.length : Int) then (impl_readSearch.l0 k (x0.drop (bt111.2.2.2.2 : Int).toNat) (x4 ++ [(⟨x5, bt111.2.1, bt111.2.2.1, bt111.2.2.2.1⟩ : S37)])) else (none)) else (none)) else (none))))
end
def impl_readSearch.f (k : Nat) (l0 : List ByteArray) : Option ((List (S37)) × Bool) := impl_readSearch.l0 k l0 (([] : List (S37)))
theorem impl_readSearch.mono_l : ∀ k, (∀ y0 y1, LeO (impl_readSearch.l0 k y0 y1) (impl_readSearch.l0 (k + 1) y0 y1)) ∧ (∀ y0 y1 y2, LeO (impl_readSearch.j1 k y0 y1 y2) (impl_readSearch.j1 (k + 1) y0 y1 y2)) ∧ (∀ y0 y1 y2 y3, LeO (impl_readSearch.j2 k y0 y1 y2 y3) (impl_readSearch.j2 (k + 1) y0 y1 y2 y3))
 | 0 => ⟨fun _ _ r h => by simp [impl_readSearch.l0] at h, fun _ _ _ r h => by simp [impl_readSearch.j1] at h, fun _ _ _ _ r h => by simp [impl_readSearch.j2] at h⟩
 | k + 1 => by
  obtain ⟨ih0, ih1, ih2⟩ := impl_readSearch.mono_l k; refine ⟨?_, ?_, ?_⟩
  ·intro y0 y1
   unfold impl_readSearch.l0
   repeat' first
   | (with_reducible exact ih0 _ _)
   | (with_reducible exact ih1 _ _ _)
   | (with_reducible exact ih2 _ _ _ _)
   | (with_reducible exact impl_readKey.mono _ _)
   | (with_reducible exact LeO.refl _)
   | (with_reducible exact LeO.none _)
   | (with_reducible refine LeO.ite ?_ ?_)
   | (with_reducible refine LeO.bind ?_ (fun _ => ?_))
   | exact ih0 _ _
   | exact ih1 _ _ _
   | exact ih2 _ _ _ _
   | exact impl_readKey.mono _ _
   | exact LeO.none _
   | refine LeO.ite ?_ ?_
   | refine LeO.bind ?_ (fun _ => ?_)
  ·intro y0 y1 y2
   unfold impl_readSearch.j1
   repeat' first
   | (with_reducible exact ih0 _ _)
   | (with_reducible exact ih1 _ _ _)
   | (with_reducible exact ih2 _ _ _ _)
   | (with_reducible exact impl_readKey.mono _ _)
   | (with_reducible exact LeO.refl _)
   | (with_reducible exact LeO.none _)
   | (with_reducible refine LeO.ite ?_ ?_)
   | (with_reducible refine LeO.bind ?_ (fun _ => ?_))
   | exact ih0 _ _
   | exact ih1 _ _ _
   | exact ih2 _ _ _ _
   | exact impl_readKey.mono _ _
   | exact LeO.none _
   | refine LeO.ite ?_ ?_
   | refine LeO.bind ?_ (fun _ => ?_)
  ·intro y0 y1 y2 y3
   unfold impl_readSearch.j2
   repeat' first
   | (with_reducible exact ih0 _ _)
   | (with_reducible exact ih1 _ _ _)
   | (with_reducible exact ih2 _ _ _ _)
   | (with_reducible exact impl_readKey.mono _ _)
   | (with_reducible exact LeO.refl _)
   | (with_reducible exact LeO.none _)
   | (with_reducible refine LeO.ite ?_ ?_)
   | (with_reducible refine LeO.bind ?_ (fun _ => ?_))
   | exact ih0 _ _
   | exact ih1 _ _ _
   | exact ih2 _ _ _ _
   | exact impl_readKey.mono _ _
   | exact LeO.none _
   | refine LeO.ite ?_ ?_
   | refine LeO.bind ?_ (fun _ => ?_)
theorem impl_readSearch.mono : ∀ a0 k, LeO (impl_readSearch.f k a0) (impl_readSearch.f (k + 1) a0) := by
 intro a0 k
 obtain ⟨ih0, ih1, ih2⟩ := impl_readSearch.mono_l k
 unfold impl_readSearch.f
 repeat' first
   | (with_reducible exact ih0 _ _)
   | (with_reducible exact ih1 _ _ _)
   | (with_reducible exact ih2 _ _ _ _)
   | (with_reducible exact impl_readKey.mono _ _)
   | (with_reducible exact LeO.refl _)
   | (with_reducible exact LeO.none _)
   | (with_reducible refine LeO.ite ?_ ?_)
   | (with_reducible refine LeO.bind ?_ (fun _ => ?_))
   | exact ih0 _ _
   | exact ih1 _ _ _
   | exact ih2 _ _ _ _
   | exact impl_readKey.mono _ _
   | exact LeO.none _
   | refine LeO.ite ?_ ?_
   | refine LeO.bind ?_ (fun _ => ?_)
set_option maxHeartbeats 8000000 in
set_option maxRecDepth 100000 in
theorem impl_readSearch.calls (k : Nat) (P0_ : Nat → Prop) (A0 : Option Addr) (c0 : Nat) (l0 : List ByteArray) (r1 : List (S37)) (r2 : Bool) (w : World) (hs0 : Kd.V Kd.string 9 w w.heap.size (fun k_ => P0_ k_) (.slice A0 l0.length c0) l0) (h : impl_readSearch.f k l0 = some (r1, r2)) :
  Calls Tryd.prog 14 #[.slice A0 l0.length c0] w fun e w' => ∃ v0_ : Value, e = .returned (.tuple #[v0_, .bool r2]) ∧ Kd.S k37 37 w' w.heap.size (fun k_ => (w.heap.size ≤ k_)) v0_ r1 ∧ Below w.heap.size w w' := by
 have hu37 := Tryd.underlying37
 have HO0 := Aside0.mk (show Kd.V Kd.string 9 w w.heap.size (fun k_ => (P0_ k_ ∨ w.heap.size ≤ k_)) (.slice A0 l0.length c0) l0 from Kd.V_mono hs0 (fun k_ hk => .inl hk))
 have HB := Aside0.mk (Below.refl w.heap.size w)
 have H : (impl_readSearch.l0 k l0 (([] : List (S37)))) = some (r1, r2) := h
 clear h
 obtain ⟨y101, hy101⟩ : ∃ y_ : List (S37), y_ = (([] : List (S37))) := ⟨_, rfl⟩
 replace H : (impl_readSearch.l0 k l0 y101) = some (r1, r2) := qh_ hy101 H
 have Ny101 := Aside0.mk hy101
 clear hy101
 have H' := Aside0.mk H
 clear H
 go_enter Tryd.func14, Tryd.ntmps14
 go_wp2_with (first | ((with_reducible refine gate_dst (N := 8) rfl ?_); (try (refine gate_guard (by rfl) ?_; dsimp only)); refine Kd.S_lit k37 _ 37 ?Hg (N := 8) ?Hd (xs := ([] : List (S37))) (inner := []) (ok := fun _ => True) (okp := fun _ => True) ?Hr ?Hp (fun _ hk => hk) trivial (Below.refl _ _) (Nat.le_refl _) (by simp) ?_; (case Hd => rfl); (case Hg => rfl); (case Hr => first | (go_simp; done) | (go_simp; rfl)); (case Hp => exact (Reps.none _ _)); intro v102 w2 ho3 hb hg_ hnew_; clear hg_ hnew_; (first | rw [← Ny101.out] at ho3 | (simp only [Int.reduceToNat] at ho3; rw [← Ny101.out] at ho3)); replace HO0 := Aside0.mk (Kd.V_elder' (qv_ HO0) (Kd.S_base ho3) hb); have HO103 := Aside0.mk (Kd.S_lower (Kd.S_newM (M := fun k_ => (w.heap.size ≤ k_)) ho3 (below_size qBHB) (fun k_ h_ => h_)) (below_size qBHB)); replace HB := Aside0.mk (below_step qBHB hb); clear hb ho3))
 go_loopg [0, 4] k (fun kq v0 v4 w' => ∃ (x0_1 : List ByteArray) (x4_1 : List (S37)), Aside0 (impl_readSearch.l0 kq x0_1 x4_1 = some (r1, r2)) ∧ Aside0 (kq ≤ k) ∧ Aside0 (Kd.V Kd.string 9 w' w.heap.size (fun k_ => (P0_ k_ ∨ w.heap.size ≤ k_) ∧ some k_ ≠ (v4 : Value).ownBlock) v0 x0_1) ∧ Aside0 (Kd.S k37 37 w' w.heap.size (fun k_ => (w.heap.size ≤ k_)) v4 x4_1) ∧ Aside0 (Below w.heap.size w w'))
 case atStart => exact ⟨(l0), (y101), H', ⟨Nat.le_refl _⟩, ⟨qv_ HO0⟩, ⟨by (with_reducible repeat (first | apply Kd.S_alloc | apply Kd.S_drewN | apply Kd.S_drew)); exact Kd.S_mono HO103.out (fun _ hk => hk.1)⟩, ⟨qBHB⟩⟩
 case round =>
  clear H'
  try clear c1
  try clear p2
  obtain ⟨x0_1, x4_1, HA, HK1, HO_0, HO_4, HB⟩ := hrel
  cases gk with
  | zero => exact absurd HA.out (by simp [impl_readSearch.l0])
  | succ k1 =>
   have H := HA.out; clear HA; simp only [impl_readSearch.l0] at H; by_cases c4 : (x0_1.length : Int) > 0
   ·rw [if_pos c4] at H
    have c4b0 : decide (0 < (x0_1.length : Int)) = true := decide_eq_true c4; have c4b1 : decide (0 < x0_1.length) = true := decide_eq_true (by omega); clear c4; by_cases c5 : 0 < (x0_1.length : Int)
    ·rw [if_pos c5] at H
     have c5b0 : decide (0 < (x0_1.length : Int)) = true := decide_eq_true c5; have c5b1 : decide (0 < x0_1.length) = true := decide_eq_true (by omega); clear c5; replace H := Option.bind_eq_some_iff.mp H; obtain ⟨t105, A60, H⟩ := H; have A6 := Aside0.mk A60; clear A60; have HC7 := Aside0.mk H; clear H; obtain ⟨Ao8, co8, eo8⟩ := Kd.V_slice HO_0.out; subst eo8; have p104 : 0 ≤ (0 : Int) := (by omega); have q104 : 0 < (x0_1.length : Int) := qd_; obtain ⟨ad104, e104, hx104_0⟩ := Kd.at_string (Kd.V_reads' HO_0.out).2.2 0 p104 q104; cases e104; have qi104 : (0 < x0_1.length) = True := eq_true (by omega)
     (try rw [show ((0 : Int)).toNat = 0 from rfl] at hx104_0)
     (try rw [Addr.add_zero'] at hx104_0)
     replace p104 := eq_true p104; replace q104 := eq_true q104
     go_upto_if 17 with (first | ((with_reducible refine gate_callee (f := 22) rfl ?_); refine goesL_ (some 15) rfl rfl Tryd.func22 qK rfl #[.string (rdOf ByteArray.empty x0_1 0)] rfl qll_ ?_; (with_reducible refine (impl_upper.calls (rdOf ByteArray.empty x0_1 0) t105 _ A6.out).mono ?_); rintro e w9 ⟨rfl, hb⟩; refine ⟨_, rfl, ?_⟩; replace HO_0 := Aside0.mk (Kd.V_below (qv_ HO_0) hb); replace HO_4 := Aside0.mk (Kd.S_below (by (with_reducible repeat (first | apply Kd.S_alloc | apply Kd.S_drewN | apply Kd.S_drew)); exact HO_4.out) hb); replace HB := Aside0.mk (below_step qBHB hb); (try clear hb); (try clear hb2); (try clear hk); (try clear hi)))
     (try simp only [Act.put, List.setIfInBounds_toArray, List.set_cons_zero, List.set_cons_succ])
     go_cut [0, 5] (fun v0 v5 wc => ∃ (kq : Nat) (x0_6 : List ByteArray), v5 = .bool (t105.toList == ([78, 79, 84] : List UInt8)) ∧ Aside0 (impl_readSearch.j1 kq x0_6 x4_1 (t105.toList == ([78, 79, 84] : List UInt8)) = some (r1, r2)) ∧ Aside0 (kq ≤ k1) ∧ Aside0 (Kd.V Kd.string 9 wc w.heap.size (fun k_ => (P0_ k_ ∨ w.heap.size ≤ k_) ∧ some k_ ≠ (u4 : Value).ownBlock) v0 x0_6) ∧ Aside0 (Kd.S k37 37 wc w.heap.size (fun k_ => (w.heap.size ≤ k_)) u4 x4_1) ∧ Aside0 (Below w.heap.size w wc))
     case first =>
      have H := HC7.out; clear HC7; by_cases c10 : t105.toList = ([78, 79, 84] : List UInt8)
      ·rw [if_pos c10] at H
       have c10b0 : (t105.toList == ([78, 79, 84] : List UInt8)) = true := beq_iff_eq.mpr c10; have c10b1 : (t105.toList != ([78, 79, 84] : List UInt8)) = false := bne_eq_false_iff_eq.mpr c10; clear c10
       (first | rw [c10b0] | (simp only [i64_w, i32_w]; rw [c10b0]) | skip)
       by_cases c11 : 1 ≤ (x0_1.length : Int)
       ·rw [if_pos c11] at H
        have c11b0 := eq_true c11; have c11b1 : decide (1 ≤ (x0_1.length : Int)) = true := decide_eq_true c11; clear c11
        obtain ⟨y106, hy106⟩ : ∃ y_ : List ByteArray, y_ = (x0_1.drop 1) := ⟨_, rfl⟩
        replace H : (impl_readSearch.j1 k1 y106 x4_1 (t105.toList == ([78, 79, 84] : List UInt8))) = some (r1, r2) := qh_ hy106 H; have Ny106 := Aside0.mk hy106; clear hy106; have H' := Aside0.mk H; clear H; have q12 : (1 : Int) ≤ ((x0_1.length : Int) : Int) := qd_; obtain ⟨i012, hi012, _, hsz12, _⟩ := info_parts info9; have hroom12 : x0_1.length ≤ co8 := (Kd.V_reads' HO_0.out).2.1; have hC12 : Kd.F Kd.string _ _ (some ad104) x0_1.length x0_1 := (Kd.V_at (base := w.heap.size) HO_0.out).2.2; have hcut12 := cut_from (P := Tryd.prog) 22 9 .i64 Tryd.underlying22 hi012 1 hsz12 (some ad104) x0_1.length co8 1 (by omega) q12; have hr12 := Kd.F_cut (m := (1 : Int).toNat) (c := co8) hC12 (by omega) hroom12
        obtain ⟨A12, hA12⟩ : ∃ A1, A1 = (if co8 = (1 : Int).toNat then (some ad104) else ((some ad104) : Option Addr).map (·.add ((1 : Int).toNat * 1))) := ⟨_, rfl⟩
        obtain ⟨c12, hc12⟩ : ∃ c1, c1 = co8 - (1 : Int).toNat := ⟨_, rfl⟩
        have hy12 : y106.length = x0_1.length - (1 : Int).toNat := (by rw [Ny106.out, List.length_drop] <;> omega); rw [show (x0_1).drop (1 : Int).toNat = y106 from Ny106.out.symm] at hr12; replace hr12 : Kd.F Kd.string _ _ A12 y106.length y106 := (by rw [hA12]; exact hr12)
        rw [← hy12, ← hA12, ← hc12] at hcut12; have HO110 := Aside0.mk (show Kd.V Kd.string 9 _ w.heap.size _ (.slice A12 y106.length c12) y106 from Kd.V_mk (by rw [hy12, hc12]; exact Nat.sub_le_sub_right hroom12 _) hr12)
        have HC110 := Aside0.mk (show y106.length ≤ c12 from by rw [hy12, hc12]; exact Nat.sub_le_sub_right hroom12 _); clear hr12 hC12 hroom12 hi012 hsz12 hc12; have KY12 := Aside0.mk hy12; have KA12 := Aside0.mk hA12; clear hy12 hA12; replace q12 := eq_true q12
        go_wp2
        go_meet
        case rel => exact ⟨_, (y106), (by rw [c10b0]), H', ⟨by have := HK1.out; first | omega | exact Nat.le_refl _⟩, ⟨qv_ HO110⟩, ⟨by (with_reducible repeat (first | apply Kd.S_alloc | apply Kd.S_drewN | apply Kd.S_drew)); exact HO_4.out⟩, ⟨qBHB⟩⟩
       ·rw [if_neg c11] at H
        exact absurd H (by simp)
      ·rw [if_neg c10] at H
       have c10b0 : (t105.toList == ([78, 79, 84] : List UInt8)) = false := beq_eq_false_iff_ne.mpr c10; have c10b1 : (t105.toList != ([78, 79, 84] : List UInt8)) = true := bne_iff_ne.mpr c10
       (first | rw [c10b0] | (simp only [i64_w, i32_w]; rw [c10b0]) | skip)
       have H' := Aside0.mk H; clear H
       go_wp2
       go_meet
       case rel => exact ⟨_, (x0_1), (by rw [c10b0]), H', ⟨by have := HK1.out; first | omega | exact Nat.le_refl _⟩, ⟨qv_ HO_0⟩, ⟨by (with_reducible repeat (first | apply Kd.S_alloc | apply Kd.S_drewN | apply Kd.S_drew)); exact HO_4.out⟩, ⟨qBHB⟩⟩
     case rest =>
      clear HC7
      try clear c1
      try clear p1
      try clear q1
      try clear hx1
      try clear qi1
      try clear c2
      try clear p2
      try clear c4
      try clear c4b0
      try clear c4b1
      try clear c5
      try clear c5b0
      try clear c5b1
      try clear c10
      try clear c10b0
      try clear c10b1
      try clear p10
      try clear q10
      try clear hx10
      try clear qi10
      try clear c11
      try clear c11b0
      try clear c11b1
      try clear c12
      try clear q12
      try clear hx104_0
      try clear p104
      try clear p2
      try clear q104
      try clear q12
      obtain ⟨kq, x0_6, rfl, HA, HJ6, HO_0, HO_4, HB⟩ := hcut
      cases kq with
      | zero => exact absurd HA.out (by simp [impl_readSearch.j1])
      | succ kj6 =>
       have H := HA.out; clear HA; simp only [impl_readSearch.j1] at H; have HC13 := Aside0.mk H; clear H
       go_upto_region 6 with (fail)
       go_cut [27] (fun v27 wc => ∃ (kq : Nat) (x27_12 : Bool), v27 = .bool x27_12 ∧ Aside0 (impl_readSearch.j2 kq x0_6 x4_1 (t105.toList == ([78, 79, 84] : List UInt8)) x27_12 = some (r1, r2)) ∧ Aside0 (kq ≤ kj6) ∧ Aside0 (Kd.V Kd.string 9 wc w.heap.size (fun k_ => (P0_ k_ ∨ w.heap.size ≤ k_) ∧ some k_ ≠ (u4 : Value).ownBlock) u0 x0_6) ∧ Aside0 (Kd.S k37 37 wc w.heap.size (fun k_ => (w.heap.size ≤ k_)) u4 x4_1) ∧ Aside0 (Below w.heap.size w wc))
       case first =>
        have H := HC13.out; clear HC13; by_cases c14 : (x0_6.length : Int) = 0
        ·rw [if_pos c14] at H
         have c14b0 : ((x0_6.length : Int) == 0) = true := beq_iff_eq.mpr c14; have c14b1 : ((x0_6.length : Int) != 0) = false := bne_eq_false_iff_eq.mpr c14; clear c14
         (first | rw [c14b0] | (simp only [i64_w, i32_w]; rw [c14b0]) | skip)
         have H' := Aside0.mk H; clear H; obtain ⟨Ao15, co15, eo15⟩ := Kd.V_slice HO_0.out; subst eo15
         go_wp2
         go_meet
         case rel => exact ⟨_, (true), qff_, H', ⟨by have := HK1.out; have := HJ6.out; first | omega | exact Nat.le_refl _⟩, ⟨qv_ HO_0⟩, ⟨by (with_reducible repeat (first | apply Kd.S_alloc | apply Kd.S_drewN | apply Kd.S_drew)); exact HO_4.out⟩, ⟨qBHB⟩⟩
        ·rw [if_neg c14] at H
         have c14b0 : ((x0_6.length : Int) == 0) = false := beq_eq_false_iff_ne.mpr c14; have c14b1 : ((x0_6.length : Int) != 0) = true := bne_iff_ne.mpr c14
         have c14b2 : ¬ (x0_6 = []) := fun h_ => c14 (by rw [h_]; rfl)
         (first | rw [c14b0] | (simp only [i64_w, i32_w]; rw [c14b0]) | skip)
         have H' := Aside0.mk H; clear H; obtain ⟨Ao16, co16, eo16⟩ := Kd.V_slice HO_0.out; subst eo16; obtain ⟨Ao17, co17, eo17⟩ := Kd.S_slice HO_4.out; subst eo17
         go_wp2
         go_meet
         case rel => exact ⟨_, (((x4_1.length : Int) == 20)), qff_, H', ⟨by have := HK1.out; have := HJ6.out; first | omega | exact Nat.le_refl _⟩, ⟨qv_ HO_0⟩, ⟨by (with_reducible repeat (first | apply Kd.S_alloc | apply Kd.S_drewN | apply Kd.S_drew)); exact HO_4.out⟩, ⟨qBHB⟩⟩
       case rest =>
        clear HC13
        try clear c1
        try clear p1
        try clear q1
        try clear hx1
        try clear qi1
        try clear c2
        try clear p2
        try clear c4
        try clear c4b0
        try clear c4b1
        try clear c5
        try clear c5b0
        try clear c5b1
        try clear c10
        try clear c10b0
        try clear c10b1
        try clear p10
        try clear q10
        try clear hx10
        try clear qi10
        try clear c11
        try clear c11b0
        try clear c11b1
        try clear c12
        try clear q12
        try clear c14
        try clear c14b0
        try clear c14b1
        try clear c14b2
        try clear hx104_0
        try clear p1
        try clear p10
        try clear p104
        try clear p2
        try clear q1
        try clear q10
        try clear q104
        try clear q12
        obtain ⟨kq, x27_12, rfl, HA, HJ12, HO_0, HO_4, HB⟩ := hcut
        cases kq with
        | zero => exact absurd HA.out (by simp [impl_readSearch.j2])
        | succ kj12 =>
         have H := HA.out; clear HA; simp only [impl_readSearch.j2] at H; by_cases c18 : x27_12 = true
         ·subst c18
          have H1 : (some (([] : List (S37)), false)) = some (r1, r2) := by rw [if_pos rfl] at H; exact H
          clear H; have H := H1; clear H1; simp only [Option.some.injEq, Prod.mk.injEq] at H; obtain ⟨rfl, rfl⟩ := H
          go_wp2
          go_ret2
          exact ⟨_, qee_, by first | exact Kd.S_nil _ _ _ _ _ | exact Kd.N_nil _ _ _ _ _ | exact Kd.V_nil _ _ _ _ _ | exact Kd.Q_nil _ _ _ _ _ | exact Kd.R_nil _ _ _ _ _, qBHB⟩
         ·replace c18 := Bool.eq_false_iff.mpr c18
          subst c18
          have H1 : ((impl_readKey.f kj12 x0_6).bind fun bt111 => (if bt111.2.2.2.2 = 0 then (some (([] : List (S37)), false)) else (if x4_1.length < 2199023255552 then (if 0 ≤ bt111.2.2.2.2 then (if bt111.2.2.2.2 ≤ (x0_6.length : Int) then (impl_readSearch.l0 kj12 (x0_6.drop (bt111.2.2.2.2 : Int).toNat) (x4_1 ++ [(⟨(t105.toList == ([78, 79, 84] : List UInt8)), bt111.2.1, bt111.2.2.1, bt111.2.2.2.1⟩ : S37)])) else (none)) else (none)) else (none)))) = some (r1, r2) := by rw [if_neg (show ¬ (false = true) by decide)] at H; exact H
          clear H; have H := H1; clear H1; replace H := Option.bind_eq_some_iff.mp H; obtain ⟨⟨t111, t112, t113, t114, t117⟩, A190, H⟩ := H; dsimp only at H; have A19 := Aside0.mk A190; clear A190; by_cases c20 : t117 = 0
          ·rw [if_pos c20] at H
           have c20b0 : (t117 == 0) = true := beq_iff_eq.mpr c20; have c20b1 : (t117 != 0) = false := bne_eq_false_iff_eq.mpr c20; clear c20; simp only [Option.some.injEq, Prod.mk.injEq] at H; obtain ⟨rfl, rfl⟩ := H; obtain ⟨Ao21, co21, eo21⟩ := Kd.V_slice HO_0.out; subst eo21
           go_wp2_with (first | ((with_reducible refine gate_callee (f := 23) rfl ?_); refine goesL_ (some 30) rfl rfl Tryd.func23 qK rfl #[.slice Ao21 x0_6.length co21] rfl qll_ ?_; (with_reducible refine (impl_readKey.calls kj12 _ _ x0_6 t111 t112 t113 t114 t117 _ ?side1 ?side2 A19.out).mono ?_); (case side1 => exact qcc_ (Kd.V_reads' HO_0.out).2.2); (case side2 => exact (Kd.V_reads' HO_0.out).2.1); rintro e w22 ⟨v115, rfl, ho0, hb⟩; refine ⟨_, rfl, ?_⟩; replace HO_0 := Aside0.mk (Kd.V_elder' (qv_ HO_0) (Kd.R_base ho0) hb); replace HO_4 := Aside0.mk (Kd.S_elder' (by (with_reducible repeat (first | apply Kd.S_alloc | apply Kd.S_drewN | apply Kd.S_drew)); exact HO_4.out) (Kd.R_base ho0) hb); have HO116 := Aside0.mk (Kd.R_lower (Kd.R_newM (M := fun k_ => (w.heap.size ≤ k_)) ho0 (below_size qBHB) (fun k_ h_ => h_)) (below_size qBHB)); replace HB := Aside0.mk (below_step qBHB hb); (try clear hb); (try clear hb2); (try clear hk); (try clear hi); (try clear ho0)) | ((with_reducible refine gate_dst (N := 6) rfl ?_); (try (refine gate_guard (by rfl) ?_; dsimp only)); refine box_event ?Hg (N := 6) ?Hd (cs := #[.bool false, .string (⟨#[]⟩ : BA_), .string (⟨#[]⟩ : BA_), .slice none 0 0]) (t := 37) ?Hr ?_; (case Hd => rfl); (case Hg => rfl); (case Hr => first | (go_simp; done) | (go_simp; rfl)); intro gb118 hg w23 hbox hb; replace HO_0 := Aside0.mk (Kd.V_below (Kd.V_elderB (qv_ HO_0) gb118 (Nat.le_of_eq hg.symm)) hb); replace HO_4 := Aside0.mk (Kd.S_below (Kd.S_elderB (by (with_reducible repeat (first | apply Kd.S_alloc | apply Kd.S_drewN | apply Kd.S_drew)); exact HO_4.out) gb118 (Nat.le_of_eq hg.symm)) hb); replace HO116 := Aside0.mk (Kd.R_below (qr_ HO116) hb); have BK118 := Aside0.mk (hbox); have GW118 := Aside0.mk ((by rw [hg]; exact (below_size qBHB) : w.heap.size ≤ gb118)); have GE118 := Aside0.mk ((by rw [hg]; exact (below_size qBHB) : w.heap.size ≤ gb118)); replace HB := Aside0.mk (below_step qBHB hb); clear hb hbox hg; obtain ⟨hcz24_0, hcz24_1, hcz24_2, hcz24_3, hfz24_0⟩ := qc4_ BK118; obtain ⟨Ao25, co25, eo25⟩ := Kd.R_slice HO116.out; subst eo25))
           go_ret2
           exact ⟨_, qee_, by first | exact Kd.S_nil _ _ _ _ _ | exact Kd.N_nil _ _ _ _ _ | exact Kd.V_nil _ _ _ _ _ | exact Kd.Q_nil _ _ _ _ _ | exact Kd.R_nil _ _ _ _ _, qBHB⟩
          ·rw [if_neg c20] at H
           have c20b0 : (t117 == 0) = false := beq_eq_false_iff_ne.mpr c20; have c20b1 : (t117 != 0) = true := bne_iff_ne.mpr c20; by_cases c26 : x4_1.length < 2199023255552
           ·rw [if_pos c26] at H
            have LMc26 := Aside0.mk c26; clear c26
            obtain ⟨y119, hy119⟩ : ∃ y_ : List (S37), y_ = (x4_1 ++ [(⟨(t105.toList == ([78, 79, 84] : List UInt8)), t112, t113, t114⟩ : S37)]) := ⟨_, rfl⟩
            replace H : (if 0 ≤ t117 then (if t117 ≤ (x0_6.length : Int) then (impl_readSearch.l0 kj12 (x0_6.drop (t117 : Int).toNat) y119) else (none)) else (none)) = some (r1, r2) := qh_ hy119 H; have Ny119 := Aside0.mk hy119; clear hy119; by_cases c27 : 0 ≤ t117
            ·rw [if_pos c27] at H
             have c27b0 := eq_true c27; have c27b1 : decide (0 ≤ t117) = true := decide_eq_true c27; clear c27; by_cases c28 : t117 ≤ (x0_6.length : Int)
             ·rw [if_pos c28] at H
              have c28b0 := eq_true c28; have c28b1 : decide (t117 ≤ (x0_6.length : Int)) = true := decide_eq_true c28; clear c28
              obtain ⟨y122, hy122⟩ : ∃ y_ : List ByteArray, y_ = (x0_6.drop (t117 : Int).toNat) := ⟨_, rfl⟩
              replace H : (impl_readSearch.l0 kj12 y122 y119) = some (r1, r2) := qh_ hy122 H; have Ny122 := Aside0.mk hy122; clear hy122; have H' := Aside0.mk H; clear H; obtain ⟨Ao29, co29, eo29⟩ := Kd.V_slice HO_0.out; subst eo29
              go_wp2_with (first | ((with_reducible refine gate_callee (f := 23) rfl ?_); refine goesL_ (some 30) rfl rfl Tryd.func23 qK rfl #[.slice Ao29 x0_6.length co29] rfl qll_ ?_; (with_reducible refine (impl_readKey.calls kj12 _ _ x0_6 t111 t112 t113 t114 t117 _ ?side1 ?side2 A19.out).mono ?_); (case side1 => exact qcc_ (Kd.V_reads' HO_0.out).2.2); (case side2 => exact (Kd.V_reads' HO_0.out).2.1); rintro e w30 ⟨v115, rfl, ho0, hb⟩; refine ⟨_, rfl, ?_⟩; replace HO_0 := Aside0.mk (Kd.V_elder' (qv_ HO_0) (Kd.R_base ho0) hb); replace HO_4 := Aside0.mk (Kd.S_elder' (by (with_reducible repeat (first | apply Kd.S_alloc | apply Kd.S_drewN | apply Kd.S_drew)); exact HO_4.out) (Kd.R_base ho0) hb); have HO116 := Aside0.mk (Kd.R_lower (Kd.R_newM (M := fun k_ => (w.heap.size ≤ k_)) ho0 (below_size qBHB) (fun k_ h_ => h_)) (below_size qBHB)); replace HB := Aside0.mk (below_step qBHB hb); (try clear hb); (try clear hb2); (try clear hk); (try clear hi); (try clear ho0)) | ((with_reducible refine gate_dst (N := 6) rfl ?_); (try (refine gate_guard (by rfl) ?_; dsimp only)); refine box_event ?Hg (N := 6) ?Hd (cs := #[.bool false, .string (⟨#[]⟩ : BA_), .string (⟨#[]⟩ : BA_), .slice none 0 0]) (t := 37) ?Hr ?_; (case Hd => rfl); (case Hg => rfl); (case Hr => first | (go_simp; done) | (go_simp; rfl)); intro gb118 hg w31 hbox hb; replace HO_0 := Aside0.mk (Kd.V_below (Kd.V_elderB (qv_ HO_0) gb118 (Nat.le_of_eq hg.symm)) hb); replace HO_4 := Aside0.mk (Kd.S_below (Kd.S_elderB (by (with_reducible repeat (first | apply Kd.S_alloc | apply Kd.S_drewN | apply Kd.S_drew)); exact HO_4.out) gb118 (Nat.le_of_eq hg.symm)) hb); replace HO116 := Aside0.mk (Kd.R_below (qr_ HO116) hb); have BK118 := Aside0.mk (hbox); have GW118 := Aside0.mk ((by rw [hg]; exact (below_size qBHB) : w.heap.size ≤ gb118)); have GE118 := Aside0.mk ((by rw [hg]; exact (below_size qBHB) : w.heap.size ≤ gb118)); replace HB := Aside0.mk (below_step qBHB hb); clear hb hbox hg; obtain ⟨hcz32_0, hcz32_1, hcz32_2, hcz32_3, hfz32_0⟩ := qc4_ BK118; obtain ⟨Ao33, co33, eo33⟩ := Kd.R_slice HO116.out; subst eo33) | ((with_reducible refine gate_store (t := 37) (p := 6) rfl ?_); refine store_event (t := 37) (p := 6) (v := ?vo_w34) (w1 := ((((w31.setCell ⟨gb118, 0, none⟩ (.bool t111)).setCell ⟨gb118, 1, none⟩ (.string t112)).setCell ⟨gb118, 2, none⟩ (.string t113)).setCell ⟨gb118, 3, none⟩ (.slice Ao33 t114.length co33))) ?Hg ?Ho ?Hn ?Hr ?_; (case Ho => rfl); (case Hg => rfl); (case Hn => rfl); (case Hr => first | (go_simp; done) | (go_simp; rfl)); intro w34 hw; replace HO_0 : Aside0 (Kd.V Kd.string 9 w34 w.heap.size (fun k_ => (P0_ k_ ∨ w.heap.size ≤ k_) ∧ some k_ ≠ (u4 : Value).ownBlock ∧ some k_ ≠ (.slice Ao33 t114.length co33 : Value).ownBlock ∧ k_ ≠ gb118) (.slice Ao29 x0_6.length co29) x0_6) := ⟨(by rw [hw]; exact (by (with_reducible repeat (first | apply Kd.V_alloc | apply Kd.V_drewN | apply Kd.V_drew)); exact Kd.V_mono (Kd.V_far (p := ⟨gb118, 3, none⟩) (Kd.V_far (p := ⟨gb118, 2, none⟩) (Kd.V_far (p := ⟨gb118, 1, none⟩) (Kd.V_far (p := ⟨gb118, 0, none⟩) (Kd.V_mono HO_0.out (fun k_ hk => (⟨hk, hk.2⟩ : _ ∧ k_ ≠ gb118))) (fun _ hk => hk.2) (.bool t111)) (fun _ hk => hk.2) (.string t112)) (fun _ hk => hk.2) (.string t113)) (fun _ hk => hk.2) (.slice Ao33 t114.length co33)) (fun _ hk => ⟨hk.1.1.1.1, ⟨hk.1.1.1.2, ⟨hk.1.1.2, hk.1.2⟩⟩⟩)))⟩; replace HO_4 : Aside0 (Kd.S k37 37 w34 w.heap.size (fun k_ => (w.heap.size ≤ k_) ∧ some k_ ≠ (.slice Ao33 t114.length co33 : Value).ownBlock ∧ k_ ≠ gb118) u4 x4_1) := ⟨(by rw [hw]; exact (by (with_reducible repeat (first | apply Kd.S_alloc | apply Kd.S_drewN | apply Kd.S_drew)); exact Kd.S_mono (Kd.S_far (p := ⟨gb118, 3, none⟩) (Kd.S_far (p := ⟨gb118, 2, none⟩) (Kd.S_far (p := ⟨gb118, 1, none⟩) (Kd.S_far (p := ⟨gb118, 0, none⟩) (Kd.S_mono HO_4.out (fun k_ hk => (⟨hk, hk.2⟩ : _ ∧ k_ ≠ gb118))) (fun _ hk => hk.2) (.bool t111)) (fun _ hk => hk.2) (.string t112)) (fun _ hk => hk.2) (.string t113)) (fun _ hk => hk.2) (.slice Ao33 t114.length co33)) (fun _ hk => ⟨hk.1.1.1, ⟨hk.1.1.2, hk.1.2⟩⟩)))⟩; replace HO116 : Aside0 (Kd.R k49 49 w34 w.heap.size (fun k_ => (w.heap.size ≤ k_)) (.slice Ao33 t114.length co33) t114) := ⟨(by rw [hw]; exact (by (with_reducible repeat (first | apply Kd.R_alloc | apply Kd.R_drewN | apply Kd.R_drew)); exact Kd.R_mono (qf4_ HO116 BK118) (fun _ hk => hk.1.1)))⟩; replace BK118 : Aside0 (w34.heap[gb118]? = some (.cells #[.bool t111, .string t112, .string t113, .slice Ao33 t114.length co33] 37 (0, 0))) := ⟨(by rw [hw]; exact (qp_ BK118))⟩; replace HB : Aside0 (Below w.heap.size w w34) := ⟨(by rw [hw]; exact qBHB)⟩; clear hw; obtain ⟨hcz35_0, hcz35_1, hcz35_2, hcz35_3, hfz35_0⟩ := qc4_ BK118) | ((with_reducible refine gate_store (t := 4) (p := 36) rfl ?_); refine store_event (t := 4) (p := 36) (v := ?vo_w36) (w1 := (w34.setCell ⟨gb118, 0, none⟩ (.bool (t105.toList == ([78, 79, 84] : List UInt8))))) ?Hg ?Ho ?Hn ?Hr ?_; (case Ho => rfl); (case Hg => rfl); (case Hn => rfl); (case Hr => first | (go_simp; done) | (go_simp; rfl)); intro w36 hw; replace HO_0 : Aside0 (Kd.V Kd.string 9 w36 w.heap.size (fun k_ => (P0_ k_ ∨ w.heap.size ≤ k_) ∧ some k_ ≠ (u4 : Value).ownBlock ∧ some k_ ≠ (.slice Ao33 t114.length co33 : Value).ownBlock ∧ k_ ≠ gb118) (.slice Ao29 x0_6.length co29) x0_6) := ⟨(by rw [hw]; exact (by (with_reducible repeat (first | apply Kd.V_alloc | apply Kd.V_drewN | apply Kd.V_drew)); exact Kd.V_mono (Kd.V_far (p := ⟨gb118, 0, none⟩) (Kd.V_mono HO_0.out (fun k_ hk => (⟨hk, hk.2.2.2⟩ : _ ∧ k_ ≠ gb118))) (fun _ hk => hk.2) (.bool (t105.toList == ([78, 79, 84] : List UInt8)))) (fun _ hk => ⟨hk.1.1, ⟨hk.1.2.1, ⟨hk.1.2.2.1, hk.1.2.2.2⟩⟩⟩)))⟩; replace HO_4 : Aside0 (Kd.S k37 37 w36 w.heap.size (fun k_ => (w.heap.size ≤ k_) ∧ some k_ ≠ (.slice Ao33 t114.length co33 : Value).ownBlock ∧ k_ ≠ gb118) u4 x4_1) := ⟨(by rw [hw]; exact (by (with_reducible repeat (first | apply Kd.S_alloc | apply Kd.S_drewN | apply Kd.S_drew)); exact Kd.S_mono (Kd.S_far (p := ⟨gb118, 0, none⟩) (Kd.S_mono HO_4.out (fun k_ hk => (⟨hk, hk.2.2⟩ : _ ∧ k_ ≠ gb118))) (fun _ hk => hk.2) (.bool (t105.toList == ([78, 79, 84] : List UInt8)))) (fun _ hk => ⟨hk.1.1, ⟨hk.1.2.1, hk.1.2.2⟩⟩)))⟩; replace HO116 : Aside0 (Kd.R k49 49 w36 w.heap.size (fun k_ => (w.heap.size ≤ k_)) (.slice Ao33 t114.length co33) t114) := ⟨(by rw [hw]; exact (by (with_reducible repeat (first | apply Kd.R_alloc | apply Kd.R_drewN | apply Kd.R_drew)); exact Kd.R_mono (qf1_ HO116 BK118) (fun _ hk => hk.1)))⟩; replace BK118 : Aside0 (w36.heap[gb118]? = some (.cells #[.bool (t105.toList == ([78, 79, 84] : List UInt8)), .string t112, .string t113, .slice Ao33 t114.length co33] 37 (0, 0))) := ⟨(by rw [hw]; exact (qp_ BK118))⟩; replace HB : Aside0 (Below w.heap.size w w36) := ⟨(by rw [hw]; exact qBHB)⟩; clear hw; obtain ⟨hcz37_0, hcz37_1, hcz37_2, hcz37_3, hfz37_0⟩ := qc4_ BK118) | ((with_reducible refine gate_builtin (b := .append) (xs := #[.tmp 37, .tmp 39]) rfl ?_); (try (refine gate_guard (by rfl) ?_; dsimp only)); at_builtin; refine Kd.S_append k37 (w0 := w) w.heap.size rfl (.tmp 37) (.tmp 39) 24 37 (.agg #[(.bool false), (.string ⟨#[]⟩), (.string ⟨#[]⟩), (.slice none 0 0)]) 64 rfl Tryd.underlying24 info37 rfl (by decide) (by omega) u4 x4_1 (⟨(t105.toList == ([78, 79, 84] : List UInt8)), t112, t113, t114⟩ : S37) [.bool (t105.toList == ([78, 79, 84] : List UInt8)), .string t112, .string t113, .slice Ao33 t114.length co33] (fun k_ => (w.heap.size ≤ k_) ∧ k_ ≠ gb118) (fun k_ => some k_ = (.slice Ao33 t114.length co33 : Value).ownBlock) rfl rfl ?aP (fun k_ hk_ => ((Kd.R_mono (ok' := fun k_ => ((fun k_ => (w.heap.size ≤ k_) ∧ k_ ≠ gb118)) k_ ∧ some k_ ≠ (u4 : Value).ownBlock) (Kd.R_types (Kd.R_apart' (HO116.out) (Kd.S_typed HO_4.out) (by decide)) BK118.out (by decide)) (fun k_ hk => ⟨⟨hk.1.1, hk.2⟩, hk.1.2⟩))).1 k_ hk_.symm) ?aF ?aO ?aB ?aS ?aL ?_; (case aP => exact k37_mkM _ _ _ (⟨(t105.toList == ([78, 79, 84] : List UInt8)), t112, t113, t114⟩ : S37) (Kd.R_mono (Kd.R_tight rfl (Kd.R_mono (ok' := fun k_ => ((fun k_ => (w.heap.size ≤ k_) ∧ k_ ≠ gb118)) k_ ∧ some k_ ≠ (u4 : Value).ownBlock) (Kd.R_types (Kd.R_apart' (HO116.out) (Kd.S_typed HO_4.out) (by decide)) BK118.out (by decide)) (fun k_ hk => ⟨⟨hk.1.1, hk.2⟩, hk.1.2⟩))) (fun _ h_ => h_))); (case aB => exact qBHB); (case aF => exact (fun k_ hk => ⟨(Nat.le_trans (below_size qBHB) hk), Kd.freshB (qk_ BK118) k_ hk⟩)); (case aO => exact (by (with_reducible repeat (first | apply Kd.S_alloc | apply Kd.S_drewN | apply Kd.S_drew)); exact Kd.S_mono HO_4.out (fun k_ hk => ⟨⟨hk.1, hk.2.2⟩, fun e_ => hk.2.1 e_⟩))); (case aS => exact (below_size qBHB)); (case aL => have := LMc26.out; omega); intro v120 w38 ho hb hg hat; rw [← Ny119.out] at ho; replace HO_0 := Aside0.mk (Kd.V_afterv (ok := (fun k_ => (P0_ k_ ∨ w.heap.size ≤ k_) ∧ some k_ ≠ (.slice Ao33 t114.length co33 : Value).ownBlock ∧ k_ ≠ gb118)) (by (with_reducible repeat (first | apply Kd.V_alloc | apply Kd.V_drewN | apply Kd.V_drew)); exact Kd.V_mono HO_0.out (fun _ hk => ⟨⟨hk.1, ⟨hk.2.2.1, hk.2.2.2⟩⟩, hk.2.1⟩)) hg hat); replace BK118 := Aside0.mk (blk_grown (qk_ BK118) hg (Kd.S_away HO_4.out (fun _ hk => hk.2.2))); replace HB := Aside0.mk (hb); have HO121 := Aside0.mk (ho); clear HO_4 HO116; clear ho hb hg hat; have q39 : (t117 : Int) ≤ ((x0_6.length : Int) : Int) := qd_; obtain ⟨i039, hi039, _, hsz39, _⟩ := info_parts info9; have hroom39 : x0_6.length ≤ co29 := (Kd.V_reads' HO_0.out).2.1; have hC39 : Kd.F Kd.string _ _ Ao29 x0_6.length x0_6 := (Kd.V_at (base := w.heap.size) HO_0.out).2.2; have q039 : (0 : Int) ≤ (t117 : Int) := qd_; have hcut39 := cut_from (P := Tryd.prog) 22 9 .i64 Tryd.underlying22 hi039 1 hsz39 Ao29 x0_6.length co29 t117 q039 q39; have hr39 := Kd.F_cut (m := (t117 : Int).toNat) (c := co29) hC39 (by omega) hroom39; obtain ⟨A39, hA39⟩ : ∃ A1, A1 = (if co29 = (t117 : Int).toNat then Ao29 else (Ao29 : Option Addr).map (·.add ((t117 : Int).toNat * 1))) := ⟨_, rfl⟩; obtain ⟨c39, hc39⟩ : ∃ c1, c1 = co29 - (t117 : Int).toNat := ⟨_, rfl⟩; have hy39 : y122.length = x0_6.length - (t117 : Int).toNat := (by rw [Ny122.out, List.length_drop] <;> omega); rw [show (x0_6).drop (t117 : Int).toNat = y122 from Ny122.out.symm] at hr39; replace hr39 : Kd.F Kd.string _ _ A39 y122.length y122 := (by rw [hA39]; exact hr39); rw [← hy39, ← hA39, ← hc39] at hcut39; have HO126 := Aside0.mk (show Kd.V Kd.string 9 _ w.heap.size _ (.slice A39 y122.length c39) y122 from Kd.V_mk (by rw [hy39, hc39]; exact Nat.sub_le_sub_right hroom39 _) hr39); have HC126 := Aside0.mk (show y122.length ≤ c39 from by rw [hy39, hc39]; exact Nat.sub_le_sub_right hroom39 _); clear hr39 hC39 hroom39 hi039 hsz39 hc39; have KY39 := Aside0.mk hy39; have KA39 := Aside0.mk hA39; clear hy39 hA39; replace q39 := eq_true q39))
              go_roundg kj12
              case measure => have := HK1.out; have := HJ6.out; have := HJ12.out; omega
              case rel => exact ⟨(y122), (y119), H', ⟨by have := HK1.out; have := HJ6.out; have := HJ12.out; omega⟩, ⟨by (with_reducible repeat (first | apply Kd.V_alloc | apply Kd.V_drewN | apply Kd.V_drew)); exact Kd.V_mono HO126.out (fun _ hk => ⟨hk.1.1, hk.2⟩)⟩, ⟨by (with_reducible repeat (first | apply Kd.S_alloc | apply Kd.S_drewN | apply Kd.S_drew)); exact Kd.S_mono HO121.out (fun _ hk => hk.1)⟩, ⟨qBHB⟩⟩
             ·rw [if_neg c28] at H
              exact absurd H (by simp)
            ·rw [if_neg c27] at H
             exact absurd H (by simp)
           ·rw [if_neg c26] at H
            exact absurd H (by simp)
    ·rw [if_neg c5] at H
     exact absurd H (by simp)
   ·rw [if_neg c4] at H
    have c4b0 : decide (0 < (x0_1.length : Int)) = false := decide_eq_false c4; have c4b1 : decide (0 < x0_1.length) = false := decide_eq_false (by omega); clear c4; simp only [Option.some.injEq, Prod.mk.injEq] at H; obtain ⟨rfl, rfl⟩ := H; obtain ⟨Ao40, co40, eo40⟩ := Kd.V_slice HO_0.out; subst eo40; obtain ⟨Ao41, co41, eo41⟩ := Kd.S_slice HO_4.out; subst eo41
    go_wp2
    go_ret2
    exact ⟨_, qee_, by (with_reducible repeat (first | apply Kd.S_alloc | apply Kd.S_drewN | apply Kd.S_drew)); exact HO_4.out, qBHB⟩


/-! ### impl_ReadSearch: function 7 -/
def impl_ReadSearch.f (k : Nat) (l0 : List ByteArray) : Option ((List (S37)) × Int) := if (l0.length : Int) > 4096 then (some (([] : List (S37)), 2)) else ((impl_readSearch.f k l0).bind fun bt101 => (if bt101.2 = true then (some (bt101.1, 0)) else (some (([] : List (S37)), 3))))
theorem impl_ReadSearch.mono : ∀ a0 k, LeO (impl_ReadSearch.f k a0) (impl_ReadSearch.f (k + 1) a0) := by
 intro a0 k
 unfold impl_ReadSearch.f
 repeat' first
   | (with_reducible exact impl_readSearch.mono _ _)
   | (with_reducible exact LeO.refl _)
   | (with_reducible exact LeO.none _)
   | (with_reducible refine LeO.ite ?_ ?_)
   | (with_reducible refine LeO.bind ?_ (fun _ => ?_))
   | exact impl_readSearch.mono _ _
   | exact LeO.none _
   | refine LeO.ite ?_ ?_
   | refine LeO.bind ?_ (fun _ => ?_)
set_option maxHeartbeats 8000000 in
set_option maxRecDepth 100000 in
theorem impl_ReadSearch.calls (k : Nat) (A0 : Option Addr) (c0 : Nat) (l0 : List ByteArray) (r1 : List (S37)) (r2 : Int) (w : World) (hr0 : Kd.C Kd.string w A0 l0.length l0) (hc0 : l0.length ≤ c0) (h : impl_ReadSearch.f k l0 = some (r1, r2)) :
  Calls Tryd.prog 7 #[.slice A0 l0.length c0] w fun e w' => ∃ v0_ : Value, e = .returned (.tuple #[v0_, .int .i64 r2]) ∧ Kd.S k37 37 w' w.heap.size (fun _ => True) v0_ r1 ∧ Below w.heap.size w w' := by
 have HR0 := Aside0.mk hr0
 have HC0 := Aside0.mk hc0
 clear hr0 hc0
 have HB := Aside0.mk (Below.refl w.heap.size w)
 have H : (if (l0.length : Int) > 4096 then (some (([] : List (S37)), 2)) else ((impl_readSearch.f k l0).bind fun bt101 => (if bt101.2 = true then (some (bt101.1, 0)) else (some (([] : List (S37)), 3))))) = some (r1, r2) := h
 clear h
 by_cases c2 : (l0.length : Int) > 4096
 ·rw [if_pos c2] at H
  have c2b0 : decide (4096 < (l0.length : Int)) = true := decide_eq_true c2; have c2b1 : decide (4096 < l0.length) = true := decide_eq_true (by omega); clear c2; simp only [Option.some.injEq, Prod.mk.injEq] at H; obtain ⟨rfl, rfl⟩ := H; go_enter Tryd.func7, Tryd.ntmps7
  go_wp2
  go_ret2
  exact ⟨_, qee_, by first | exact Kd.S_nil _ _ _ _ _ | exact Kd.N_nil _ _ _ _ _ | exact Kd.V_nil _ _ _ _ _ | exact Kd.Q_nil _ _ _ _ _ | exact Kd.R_nil _ _ _ _ _, qBHB⟩
 ·rw [if_neg c2] at H
  have c2b0 : decide (4096 < (l0.length : Int)) = false := decide_eq_false c2; have c2b1 : decide (4096 < l0.length) = false := decide_eq_false (by omega); clear c2; replace H := Option.bind_eq_some_iff.mp H; obtain ⟨⟨t101, t104⟩, A30, H⟩ := H; dsimp only at H; have A3 := Aside0.mk A30; clear A30; by_cases c4 : t104 = true
  ·subst c4
   have H1 : (some (t101, 0)) = some (r1, r2) := by rw [if_pos rfl] at H; exact H
   clear H; have H := H1; clear H1; simp only [Option.some.injEq, Prod.mk.injEq] at H; obtain ⟨rfl, rfl⟩ := H; go_enter Tryd.func7, Tryd.ntmps7
   go_wp2_with (first | ((with_reducible refine gate_callee (f := 14) rfl ?_); refine goesL_ (some 11) rfl rfl Tryd.func14 qK rfl #[.slice A0 l0.length c0] rfl qll_ ?_; (with_reducible refine (impl_readSearch.calls k (fun k_ => k_ < w.heap.size) _ _ l0 t101 true _ ?side1 A3.out).mono ?_); (case side1 => exact Kd.V_mk HC0.out (Kd.F_below (Kd.C_F Kd.heap_string HR0.out) qBHB)); rintro e w5 ⟨v102, rfl, ho0, hb⟩; refine ⟨_, rfl, ?_⟩; have HO103 := Aside0.mk (Kd.S_lower (Kd.S_mono (ok' := fun k_ => True) ho0 (fun _ hk_ => trivial)) (below_size qBHB)); replace HB := Aside0.mk (below_step qBHB hb); (try clear hb); (try clear hb2); (try clear hk); (try clear hi); (try clear ho0)))
   go_ret2
   exact ⟨_, qee_, by (with_reducible repeat (first | apply Kd.S_alloc | apply Kd.S_drewN | apply Kd.S_drew)); exact HO103.out, qBHB⟩
  ·replace c4 := Bool.eq_false_iff.mpr c4
   subst c4
   have H1 : (some (([] : List (S37)), 3)) = some (r1, r2) := by rw [if_neg (show ¬ (false = true) by decide)] at H; exact H
   clear H; have H := H1; clear H1; simp only [Option.some.injEq, Prod.mk.injEq] at H; obtain ⟨rfl, rfl⟩ := H; go_enter Tryd.func7, Tryd.ntmps7
   go_wp2_with (first | ((with_reducible refine gate_callee (f := 14) rfl ?_); refine goesL_ (some 11) rfl rfl Tryd.func14 qK rfl #[.slice A0 l0.length c0] rfl qll_ ?_; (with_reducible refine (impl_readSearch.calls k (fun k_ => k_ < w.heap.size) _ _ l0 t101 false _ ?side1 A3.out).mono ?_); (case side1 => exact Kd.V_mk HC0.out (Kd.F_below (Kd.C_F Kd.heap_string HR0.out) qBHB)); rintro e w6 ⟨v102, rfl, ho0, hb⟩; refine ⟨_, rfl, ?_⟩; have HO103 := Aside0.mk (Kd.S_lower (Kd.S_mono (ok' := fun k_ => True) ho0 (fun _ hk_ => trivial)) (below_size qBHB)); replace HB := Aside0.mk (below_step qBHB hb); (try clear hb); (try clear hb2); (try clear hk); (try clear hi); (try clear ho0)))
   go_ret2
   exact ⟨_, qee_, by first | exact Kd.S_nil _ _ _ _ _ | exact Kd.N_nil _ _ _ _ _ | exact Kd.V_nil _ _ _ _ _ | exact Kd.Q_nil _ _ _ _ _ | exact Kd.R_nil _ _ _ _ _, qBHB⟩


/-! ### laws_eqRange: function 31 -/
def laws_eqRange.f (a0_0 : Int) (a0_1 : Int) (a1_0 : Int) (a1_1 : Int) : Option (Bool) := if a0_0 = a1_0 then (if a0_1 = a1_1 then (some true) else (some false)) else (some false)
set_option maxHeartbeats 8000000 in
set_option maxRecDepth 100000 in
theorem laws_eqRange.calls (a0_0 : Int) (a0_1 : Int) (a1_0 : Int) (a1_1 : Int) (r : Bool) (w : World) (h : laws_eqRange.f a0_0 a0_1 a1_0 a1_1 = some r) :
  Calls Tryd.prog 31 #[.agg #[.int .i64 a0_0, .int .i64 a0_1], .agg #[.int .i64 a1_0, .int .i64 a1_1]] w fun e w' => e = .returned (.bool r) ∧ Below w.heap.size w w' := by
 have hu49 := Tryd.underlying49
 have HB := Aside0.mk (Below.refl w.heap.size w)
 have H : (if a0_0 = a1_0 then (if a0_1 = a1_1 then (some true) else (some false)) else (some false)) = some r := h
 clear h
 by_cases c3 : a0_0 = a1_0
 ·rw [if_pos c3] at H
  have c3b0 : (a0_0 == a1_0) = true := beq_iff_eq.mpr c3; have c3b1 : (a0_0 != a1_0) = false := bne_eq_false_iff_eq.mpr c3; clear c3; by_cases c4 : a0_1 = a1_1
  ·rw [if_pos c4] at H
   have c4b0 : (a0_1 == a1_1) = true := beq_iff_eq.mpr c4; have c4b1 : (a0_1 != a1_1) = false := bne_eq_false_iff_eq.mpr c4; clear c4; obtain rfl := Option.some.inj H; go_enter Tryd.func31, Tryd.ntmps31
   go_wp2_with (first | ((with_reducible refine gate_dst (N := 2) rfl ?_); refine box_event ?Hg (N := 2) ?Hd (cs := #[.int .i64 a0_0, .int .i64 a0_1]) (t := 49) ?Hr ?_; (case Hd => rfl); (case Hg => rfl); (case Hr => first | (go_simp; done) | (go_simp; rfl)); intro gb101 hg w5 hbox hb; have BK101 := Aside0.mk (hbox); have GW101 := Aside0.mk ((by rw [hg]; exact (below_size qBHB) : w.heap.size ≤ gb101)); have GE101 := Aside0.mk ((by rw [hg]; exact (below_size qBHB) : w.heap.size ≤ gb101)); replace HB := Aside0.mk (below_step qBHB hb); clear hb hbox hg) | ((with_reducible refine gate_dst (N := 3) rfl ?_); refine box_event ?Hg (N := 3) ?Hd (cs := #[.int .i64 a1_0, .int .i64 a1_1]) (t := 49) ?Hr ?_; (case Hd => rfl); (case Hg => rfl); (case Hr => first | (go_simp; done) | (go_simp; rfl)); intro gb102 hg w6 hbox hb; have BK102 := Aside0.mk (hbox); have GW102 := Aside0.mk ((by rw [hg]; exact (below_size qBHB) : w.heap.size ≤ gb102)); have GE102 := Aside0.mk ((by rw [hg]; exact (below_size qBHB) : w.heap.size ≤ gb102)); replace HB := Aside0.mk (below_step qBHB hb); have NB101_102 := Aside0.mk ((by rw [hg]; exact Nat.ne_of_lt (blk_lt (qk_ BK101)) : gb101 ≠ gb102)); have NB102_101 := Aside0.mk ((by rw [hg]; exact Nat.ne_of_gt (blk_lt (qk_ BK101)) : gb102 ≠ gb101)); replace BK101 := Aside0.mk (blk_below (qk_ BK101) hb); clear hb hbox hg; have hnb7 := NB101_102.out; have hnc7 := NB102_101.out; obtain ⟨hcz8_0, hcz8_1, hfz8_0⟩ := qc2_ BK101; obtain ⟨hcz9_0, hcz9_1, hfz9_0⟩ := qc2_ BK102))
   go_ret; exact ⟨qee_, qBHB⟩
  ·rw [if_neg c4] at H
   have c4b0 : (a0_1 == a1_1) = false := beq_eq_false_iff_ne.mpr c4; have c4b1 : (a0_1 != a1_1) = true := bne_iff_ne.mpr c4; obtain rfl := Option.some.inj H; go_enter Tryd.func31, Tryd.ntmps31
   go_wp2_with (first | ((with_reducible refine gate_dst (N := 2) rfl ?_); refine box_event ?Hg (N := 2) ?Hd (cs := #[.int .i64 a0_0, .int .i64 a0_1]) (t := 49) ?Hr ?_; (case Hd => rfl); (case Hg => rfl); (case Hr => first | (go_simp; done) | (go_simp; rfl)); intro gb101 hg w10 hbox hb; have BK101 := Aside0.mk (hbox); have GW101 := Aside0.mk ((by rw [hg]; exact (below_size qBHB) : w.heap.size ≤ gb101)); have GE101 := Aside0.mk ((by rw [hg]; exact (below_size qBHB) : w.heap.size ≤ gb101)); replace HB := Aside0.mk (below_step qBHB hb); clear hb hbox hg) | ((with_reducible refine gate_dst (N := 3) rfl ?_); refine box_event ?Hg (N := 3) ?Hd (cs := #[.int .i64 a1_0, .int .i64 a1_1]) (t := 49) ?Hr ?_; (case Hd => rfl); (case Hg => rfl); (case Hr => first | (go_simp; done) | (go_simp; rfl)); intro gb102 hg w11 hbox hb; have BK102 := Aside0.mk (hbox); have GW102 := Aside0.mk ((by rw [hg]; exact (below_size qBHB) : w.heap.size ≤ gb102)); have GE102 := Aside0.mk ((by rw [hg]; exact (below_size qBHB) : w.heap.size ≤ gb102)); replace HB := Aside0.mk (below_step qBHB hb); have NB101_102 := Aside0.mk ((by rw [hg]; exact Nat.ne_of_lt (blk_lt (qk_ BK101)) : gb101 ≠ gb102)); have NB102_101 := Aside0.mk ((by rw [hg]; exact Nat.ne_of_gt (blk_lt (qk_ BK101)) : gb102 ≠ gb101)); replace BK101 := Aside0.mk (blk_below (qk_ BK101) hb); clear hb hbox hg; have hnb12 := NB101_102.out; have hnc12 := NB102_101.out; obtain ⟨hcz13_0, hcz13_1, hfz13_0⟩ := qc2_ BK101; obtain ⟨hcz14_0, hcz14_1, hfz14_0⟩ := qc2_ BK102))
   go_ret; exact ⟨qee_, qBHB⟩
 ·rw [if_neg c3] at H
  have c3b0 : (a0_0 == a1_0) = false := beq_eq_false_iff_ne.mpr c3; have c3b1 : (a0_0 != a1_0) = true := bne_iff_ne.mpr c3; obtain rfl := Option.some.inj H; go_enter Tryd.func31, Tryd.ntmps31
  go_wp2_with (first | ((with_reducible refine gate_dst (N := 2) rfl ?_); refine box_event ?Hg (N := 2) ?Hd (cs := #[.int .i64 a0_0, .int .i64 a0_1]) (t := 49) ?Hr ?_; (case Hd => rfl); (case Hg => rfl); (case Hr => first | (go_simp; done) | (go_simp; rfl)); intro gb101 hg w15 hbox hb; have BK101 := Aside0.mk (hbox); have GW101 := Aside0.mk ((by rw [hg]; exact (below_size qBHB) : w.heap.size ≤ gb101)); have GE101 := Aside0.mk ((by rw [hg]; exact (below_size qBHB) : w.heap.size ≤ gb101)); replace HB := Aside0.mk (below_step qBHB hb); clear hb hbox hg) | ((with_reducible refine gate_dst (N := 3) rfl ?_); refine box_event ?Hg (N := 3) ?Hd (cs := #[.int .i64 a1_0, .int .i64 a1_1]) (t := 49) ?Hr ?_; (case Hd => rfl); (case Hg => rfl); (case Hr => first | (go_simp; done) | (go_simp; rfl)); intro gb102 hg w16 hbox hb; have BK102 := Aside0.mk (hbox); have GW102 := Aside0.mk ((by rw [hg]; exact (below_size qBHB) : w.heap.size ≤ gb102)); have GE102 := Aside0.mk ((by rw [hg]; exact (below_size qBHB) : w.heap.size ≤ gb102)); replace HB := Aside0.mk (below_step qBHB hb); have NB101_102 := Aside0.mk ((by rw [hg]; exact Nat.ne_of_lt (blk_lt (qk_ BK101)) : gb101 ≠ gb102)); have NB102_101 := Aside0.mk ((by rw [hg]; exact Nat.ne_of_gt (blk_lt (qk_ BK101)) : gb102 ≠ gb101)); replace BK101 := Aside0.mk (blk_below (qk_ BK101) hb); clear hb hbox hg; have hnb17 := NB101_102.out; have hnc17 := NB102_101.out; obtain ⟨hcz18_0, hcz18_1, hfz18_0⟩ := qc2_ BK101; obtain ⟨hcz19_0, hcz19_1, hfz19_0⟩ := qc2_ BK102))
  go_ret; exact ⟨qee_, qBHB⟩


/-! ### laws_eqRangeS: function 24 -/
def laws_eqRangeS.l0 : Nat → List (S49) → List (S49) → Int → Option (Bool)
 | 0, _, _, _ => none
 | k + 1, x0, x1, x5 => if x5 < (x0.length : Int) then (if 0 ≤ x5 then (if x5 < (x1.length : Int) then ((laws_eqRange.f ((rd_T49 x0 x5).f0) ((rd_T49 x0 x5).f1) ((rd_T49 x1 x5).f0) ((rd_T49 x1 x5).f1)).bind fun t103 => (if t103 = true then (laws_eqRangeS.l0 k x0 x1 (wrap64 (x5 + 1))) else (some false))) else (none)) else (none)) else (some true)
def laws_eqRangeS.f (k : Nat) (l0 : List (S49)) (l1 : List (S49)) : Option (Bool) := if (l0.length : Int) = (l1.length : Int) then (laws_eqRangeS.l0 k l0 l1 0) else (some false)
theorem laws_eqRangeS.mono_l : ∀ k, (∀ y0 y1 y2, LeO (laws_eqRangeS.l0 k y0 y1 y2) (laws_eqRangeS.l0 (k + 1) y0 y1 y2))
 | 0 => fun _ _ _ r h => by simp [laws_eqRangeS.l0] at h
 | k + 1 => by
  have ih0 := laws_eqRangeS.mono_l k
  ·intro y0 y1 y2
   unfold laws_eqRangeS.l0
   repeat' first
   | (with_reducible exact ih0 _ _ _)
   | (with_reducible exact LeO.refl _)
   | (with_reducible exact LeO.none _)
   | (with_reducible refine LeO.ite ?_ ?_)
   | (with_reducible refine LeO.bind ?_ (fun _ => ?_))
   | exact ih0 _ _ _
   | exact LeO.none _
   | refine LeO.ite ?_ ?_
   | refine LeO.bind ?_ (fun _ => ?_)
theorem laws_eqRangeS.mono : ∀ a0 a1 k, LeO (laws_eqRangeS.f k a0 a1) (laws_eqRangeS.f (k + 1) a0 a1) := by
 intro a0 a1 k
 have ih0 := laws_eqRangeS.mono_l k
 unfold laws_eqRangeS.f
 repeat' first
   | (with_reducible exact ih0 _ _ _)
   | (with_reducible exact LeO.refl _)
   | (with_reducible exact LeO.none _)
   | (with_reducible refine LeO.ite ?_ ?_)
   | (with_reducible refine LeO.bind ?_ (fun _ => ?_))
   | exact ih0 _ _ _
   | exact LeO.none _
   | refine LeO.ite ?_ ?_
   | refine LeO.bind ?_ (fun _ => ?_)
def laws_eqRangeS.T6 : Bool × List (List Nat × List Nat) := (true, [([], []), ([], []), ([0, 1], [0, 1]), ([2], [2]), ([], []), ([], []), ([4, 5], [4, 5]), ([6], [6]), ([3, 7], [3, 7]), ([8], [8])])
def laws_eqRangeS.B6 : List Nat := [0, 0, 3, 7, 0, 0, 48, 112, 255, 511]
theorem laws_eqRangeS.tab6 : rtab .any (opsOf Tryd.f24 6) = laws_eqRangeS.T6 := by kernel_rfl
theorem laws_eqRangeS.bits6 : waitsOk laws_eqRangeS.T6.2 laws_eqRangeS.B6 = true := by kernel_rfl
set_option maxHeartbeats 8000000 in
set_option maxRecDepth 100000 in
theorem laws_eqRangeS.calls (k : Nat) (A0 : Option Addr) (c0 : Nat) (l0 : List (S49)) (A1 : Option Addr) (c1 : Nat) (l1 : List (S49)) (r : Bool) (w : World) (hr0 : Kd.C k49 w A0 l0.length l0) (hc0 : l0.length ≤ c0) (hr1 : Kd.C k49 w A1 l1.length l1) (hc1 : l1.length ≤ c1) (h : laws_eqRangeS.f k l0 l1 = some r) :
  Calls Tryd.prog 24 #[.slice A0 l0.length c0, .slice A1 l1.length c1] w fun e w' => e = .returned (.bool r) ∧ Below w.heap.size w w' := by
 have hu49 := Tryd.underlying49
 have HR0 := Aside0.mk hr0
 have HC0 := Aside0.mk hc0
 clear hr0 hc0
 have HR1 := Aside0.mk hr1
 have HC1 := Aside0.mk hc1
 clear hr1 hc1
 have HB := Aside0.mk (Below.refl w.heap.size w)
 have H : (if (l0.length : Int) = (l1.length : Int) then (laws_eqRangeS.l0 k l0 l1 0) else (some false)) = some r := h
 clear h
 by_cases c3 : (l0.length : Int) = (l1.length : Int)
 ·rw [if_pos c3] at H
  have c3b0 : ((l0.length : Int) == (l1.length : Int)) = true := beq_iff_eq.mpr c3; have c3b1 : ((l0.length : Int) != (l1.length : Int)) = false := bne_eq_false_iff_eq.mpr c3
  have c3b2 : (l0.length == l1.length) = true := by first | simpa using c3 | (simp at c3 ⊢; omega)
  clear c3; have H' := Aside0.mk H; clear H; go_enter Tryd.func24, Tryd.ntmps24
  go_wp2
  go_loopg [5] k (fun kq v5 w' => ∃ (x5_1 : Int), v5 = .int .i64 x5_1 ∧ Aside0 (laws_eqRangeS.l0 kq l0 l1 x5_1 = some r) ∧ Aside0 (kq ≤ k) ∧ Aside0 (Below w.heap.size w w'))
  case atStart => exact ⟨(0), qff_, H', ⟨Nat.le_refl _⟩, ⟨qBHB⟩⟩
  case round =>
   clear H'
   try clear c1
   try clear c2
   try clear p2
   try clear c3
   try clear c3b0
   try clear c3b1
   try clear c3b2
   obtain ⟨x5_1, rfl, HA, HK1, HB⟩ := hrel
   cases gk with
   | zero => exact absurd HA.out (by simp [laws_eqRangeS.l0])
   | succ k1 =>
    have H := HA.out; clear HA; simp only [laws_eqRangeS.l0] at H; by_cases c4 : x5_1 < (l0.length : Int)
    ·rw [if_pos c4] at H
     have c4b0 : decide (x5_1 < (l0.length : Int)) = true := decide_eq_true c4; clear c4; by_cases c5 : 0 ≤ x5_1
     ·rw [if_pos c5] at H
      have c5b0 : decide (0 ≤ x5_1) = true := decide_eq_true c5; clear c5; by_cases c6 : x5_1 < (l1.length : Int)
      ·rw [if_pos c6] at H
       have c6b0 : decide (x5_1 < (l1.length : Int)) = true := decide_eq_true c6; clear c6; replace H := Option.bind_eq_some_iff.mp H; obtain ⟨t103, A70, H⟩ := H; have A7 := Aside0.mk A70; clear A70; by_cases c8 : t103 = true
       ·subst c8
        have H1 : (laws_eqRangeS.l0 k1 l0 l1 (wrap64 (x5_1 + 1))) = some r := by rw [if_pos rfl] at H; exact H
        clear H; have H := H1; clear H1; have H' := Aside0.mk H; clear H
        try go_wp2
        replace HB := Aside0.mk (below_drew1 HB.out); have p101 : 0 ≤ (x5_1 : Int) := qd_; have q101 : x5_1 < (l0.length : Int) := qd_; obtain ⟨ad101, e101, hx101_0, hx101_1⟩ := at_T49 HR0.out x5_1 p101 q101; have hw101_1 := hx101_1; have hw101_0 := hx101_0; cases e101; replace hx101_0 := (HB.out.cell (World.block_lt_of_cell? w _ hx101_0)).trans hx101_0; replace hx101_1 := (HB.out.cell (World.block_lt_of_cell? w _ hx101_1)).trans hx101_1; replace p101 := eq_true p101; replace q101 := eq_true q101; have p102 : 0 ≤ (x5_1 : Int) := qd_; have q102 : x5_1 < (l1.length : Int) := qd_; obtain ⟨ad102, e102, hx102_0, hx102_1⟩ := at_T49 HR1.out x5_1 p102 q102; have hw102_1 := hx102_1; have hw102_0 := hx102_0; cases e102; replace hx102_0 := (HB.out.cell (World.block_lt_of_cell? w _ hx102_0)).trans hx102_0; replace hx102_1 := (HB.out.cell (World.block_lt_of_cell? w _ hx102_1)).trans hx102_1; replace p102 := eq_true p102; replace q102 := eq_true q102
        refine start_ (n := 10) (S := fun w' => w'.cell? (ad101.add ((x5_1).toNat * 2)) = some (.int .i64 ((rd_T49 l0 x5_1).f0)) ∧ w'.cell? ⟨(ad101.add ((x5_1).toNat * 2)).block, (ad101.add ((x5_1).toNat * 2)).off + 1, none⟩ = some (.int .i64 ((rd_T49 l0 x5_1).f1)) ∧ w'.cell? (ad102.add ((x5_1).toNat * 2)) = some (.int .i64 ((rd_T49 l1 x5_1).f0)) ∧ w'.cell? ⟨(ad102.add ((x5_1).toNat * 2)).block, (ad102.add ((x5_1).toNat * 2)).off + 1, none⟩ = some (.int .i64 ((rd_T49 l1 x5_1).f1))) (ds := []) #[qF,qF,qF,qF,qF,qF,qF,qF,qF,qF] qK rfl rfl ⟨((HB.out.cell (World.block_lt_of_cell? w _ hw101_0)).trans hw101_0), ((HB.out.cell (World.block_lt_of_cell? w _ hw101_1)).trans hw101_1), ((HB.out.cell (World.block_lt_of_cell? w _ hw102_0)).trans hw102_0), ((HB.out.cell (World.block_lt_of_cell? w _ hw102_1)).trans hw102_1)⟩ (fun hHeld => ?_); refine with_tabW laws_eqRangeS.tab6 laws_eqRangeS.bits6 (fun HT_ HW_ => ?_)
        generalize wr.drew = w9 at HB hx101_0 hx101_1 hx102_0 hx102_1 hHeld ⊢; refine pure_ (i := 0) (N := some 17) (v := ?_) (a' := ?_) #[qT,qF,qF,qF,qF,qF,qF,qF,qF,qF] rfl rfl (any_of HT_.out qK) (fun _ _ _ h => h) (Or.inl ⟨by rfl, ?_⟩) ?_ ?_; rotate_left
        ·intro w'
         go_simp; with_reducible rfl
        rotate_left
        ·simp only [Act.put, qS_, qW_]
         rfl
        refine pure_ (i := 1) (N := some 18) (v := ?_) (a' := ?_) #[qT,qT,qF,qF,qF,qF,qF,qF,qF,qF] rfl rfl (any_of HT_.out qK) (fun _ _ _ h => h) (Or.inl ⟨by rfl, ?_⟩) ?_ ?_; rotate_left
        ·intro w'
         go_simp; with_reducible rfl
        rotate_left
        ·simp only [Act.put, qS_, qW_]
         rfl
        refine pure_ (i := 2) (N := some 19) (v := ?_) (a' := ?_) #[qT,qT,qT,qF,qF,qF,qF,qF,qF,qF] rfl rfl (any_of HT_.out qK) (fun _ _ _ h => h) (Or.inl ⟨by rfl, ?_⟩) ?_ ?_; rotate_left
        ·intro w'
         go_simp; with_reducible rfl
        rotate_left
        ·simp only [Act.put, qS_, qW_]
         rfl
        refine pure_ (i := 4) (N := some 21) (v := ?_) (a' := ?_) #[qT,qT,qT,qF,qT,qF,qF,qF,qF,qF] rfl rfl (any_of HT_.out qK) (fun _ _ _ h => h) (Or.inl ⟨by rfl, ?_⟩) ?_ ?_; rotate_left
        ·intro w'
         go_simp; with_reducible rfl
        rotate_left
        ·simp only [Act.put, qS_, qW_]
         rfl
        refine pure_ (i := 5) (N := some 22) (v := ?_) (a' := ?_) #[qT,qT,qT,qF,qT,qT,qF,qF,qF,qF] rfl rfl (any_of HT_.out qK) (fun _ _ _ h => h) (Or.inl ⟨by rfl, ?_⟩) ?_ ?_; rotate_left
        ·intro w'
         go_simp; with_reducible rfl
        rotate_left
        ·simp only [Act.put, qS_, qW_]
         rfl
        refine pure_ (i := 6) (N := some 23) (v := ?_) (a' := ?_) #[qT,qT,qT,qF,qT,qT,qT,qF,qF,qF] rfl rfl (any_of HT_.out qK) (fun _ _ _ h => h) (Or.inl ⟨by rfl, ?_⟩) ?_ ?_; rotate_left
        ·intro w'
         go_simp; with_reducible rfl
        rotate_left
        ·simp only [Act.put, qS_, qW_]
         rfl
        refine take_ (i := 3) (N := some 20) (v := ?_) (a' := ?_) #[qT,qT,qT,qT,qT,qT,qT,qF,qF,qF] rfl rfl (take_ofW HT_.out HW_.out qK) (fun _ _ _ h => h) (Or.inl ⟨by rfl, ?_⟩) hHeld ?_ ?_; rotate_left
        ·rintro w' ⟨s0, s1, s2, s3⟩
         go_simp; with_reducible rfl
        rotate_left
        ·simp only [Act.put, qS_, qW_]
         rfl
        refine take_ (i := 7) (N := some 24) (v := ?_) (a' := ?_) #[qT,qT,qT,qT,qT,qT,qT,qT,qF,qF] rfl rfl (take_ofW HT_.out HW_.out qK) (fun _ _ _ h => h) (Or.inl ⟨by rfl, ?_⟩) hHeld ?_ ?_; rotate_left
        ·rintro w' ⟨s0, s1, s2, s3⟩
         go_simp; with_reducible rfl
        rotate_left
        ·simp only [Act.put, qS_, qW_]
         rfl
        refine one_ (i := 8) (N := some 25) #[qT,qT,qT,qT,qT,qT,qT,qT,qT,qF] rfl rfl (one_of HT_.out qK) (by decide) (fun K hK => ?_); refine goes_ Tryd.func31 qK rfl #[.agg #[.int .i64 ((rd_T49 l0 x5_1).f0), .int .i64 ((rd_T49 l0 x5_1).f1)], .agg #[.int .i64 ((rd_T49 l1 x5_1).f0), .int .i64 ((rd_T49 l1 x5_1).f1)]] (by rfl) rfl rfl qll_ ?_
        with_reducible refine (laws_eqRange.calls ((rd_T49 l0 x5_1).f0) ((rd_T49 l0 x5_1).f1) ((rd_T49 l1 x5_1).f0) ((rd_T49 l1 x5_1).f1) true _ A7.out).mono ?_
        rintro e w10 ⟨rfl, hb⟩
        refine ⟨_, rfl, ?_⟩; replace HB := Aside0.mk (below_step qBHB hb)
        (try clear hb)
        (try clear hb2)
        (try clear hk)
        (try clear hi)
        refine hK.out _ _ ⟨((HB.out.cell (World.block_lt_of_cell? w _ hw101_0)).trans hw101_0), ((HB.out.cell (World.block_lt_of_cell? w _ hw101_1)).trans hw101_1), ((HB.out.cell (World.block_lt_of_cell? w _ hw102_0)).trans hw102_0), ((HB.out.cell (World.block_lt_of_cell? w _ hw102_1)).trans hw102_1)⟩ (fun hHeld => ?_); clear hK K; refine norm_ (a' := ?_) ?_ ?_; rotate_left
        ·show Act.put _ (some 25) _ = _
         simp only [Act.put, qS_, qW_]; rfl
        refine pure_ (i := 9) (N := some 26) (v := ?_) (a' := ?_) #[qT,qT,qT,qT,qT,qT,qT,qT,qT,qT] rfl rfl (any_of HT_.out qK) (fun _ _ _ h => h) (Or.inl ⟨by rfl, ?_⟩) ?_ ?_; rotate_left
        ·intro w'
         go_simp; with_reducible rfl
        rotate_left
        ·simp only [Act.put, qS_, qW_]
         rfl
        refine done_ (done_of HT_.out qK) ?_
        try go_wp2
        go_roundg k1
        case measure => have := HK1.out; omega
        case rel => exact ⟨(wrap64 (x5_1 + 1)), qff_, H', ⟨by have := HK1.out; omega⟩, ⟨qBHB⟩⟩
       ·replace c8 := Bool.eq_false_iff.mpr c8
        subst c8
        have H1 : (some false) = some r := by rw [if_neg (show ¬ (false = true) by decide)] at H; exact H
        clear H; have H := H1; clear H1; obtain rfl := Option.some.inj H
        try go_wp2
        replace HB := Aside0.mk (below_drew1 HB.out); have p101 : 0 ≤ (x5_1 : Int) := qd_; have q101 : x5_1 < (l0.length : Int) := qd_; obtain ⟨ad101, e101, hx101_0, hx101_1⟩ := at_T49 HR0.out x5_1 p101 q101; have hw101_1 := hx101_1; have hw101_0 := hx101_0; cases e101; replace hx101_0 := (HB.out.cell (World.block_lt_of_cell? w _ hx101_0)).trans hx101_0; replace hx101_1 := (HB.out.cell (World.block_lt_of_cell? w _ hx101_1)).trans hx101_1; replace p101 := eq_true p101; replace q101 := eq_true q101; have p102 : 0 ≤ (x5_1 : Int) := qd_; have q102 : x5_1 < (l1.length : Int) := qd_; obtain ⟨ad102, e102, hx102_0, hx102_1⟩ := at_T49 HR1.out x5_1 p102 q102; have hw102_1 := hx102_1; have hw102_0 := hx102_0; cases e102; replace hx102_0 := (HB.out.cell (World.block_lt_of_cell? w _ hx102_0)).trans hx102_0; replace hx102_1 := (HB.out.cell (World.block_lt_of_cell? w _ hx102_1)).trans hx102_1; replace p102 := eq_true p102; replace q102 := eq_true q102
        refine start_ (n := 10) (S := fun w' => w'.cell? (ad101.add ((x5_1).toNat * 2)) = some (.int .i64 ((rd_T49 l0 x5_1).f0)) ∧ w'.cell? ⟨(ad101.add ((x5_1).toNat * 2)).block, (ad101.add ((x5_1).toNat * 2)).off + 1, none⟩ = some (.int .i64 ((rd_T49 l0 x5_1).f1)) ∧ w'.cell? (ad102.add ((x5_1).toNat * 2)) = some (.int .i64 ((rd_T49 l1 x5_1).f0)) ∧ w'.cell? ⟨(ad102.add ((x5_1).toNat * 2)).block, (ad102.add ((x5_1).toNat * 2)).off + 1, none⟩ = some (.int .i64 ((rd_T49 l1 x5_1).f1))) (ds := []) #[qF,qF,qF,qF,qF,qF,qF,qF,qF,qF] qK rfl rfl ⟨((HB.out.cell (World.block_lt_of_cell? w _ hw101_0)).trans hw101_0), ((HB.out.cell (World.block_lt_of_cell? w _ hw101_1)).trans hw101_1), ((HB.out.cell (World.block_lt_of_cell? w _ hw102_0)).trans hw102_0), ((HB.out.cell (World.block_lt_of_cell? w _ hw102_1)).trans hw102_1)⟩ (fun hHeld => ?_); refine with_tabW laws_eqRangeS.tab6 laws_eqRangeS.bits6 (fun HT_ HW_ => ?_)
        generalize wr.drew = w11 at HB hx101_0 hx101_1 hx102_0 hx102_1 hHeld ⊢; refine pure_ (i := 0) (N := some 17) (v := ?_) (a' := ?_) #[qT,qF,qF,qF,qF,qF,qF,qF,qF,qF] rfl rfl (any_of HT_.out qK) (fun _ _ _ h => h) (Or.inl ⟨by rfl, ?_⟩) ?_ ?_; rotate_left
        ·intro w'
         go_simp; with_reducible rfl
        rotate_left
        ·simp only [Act.put, qS_, qW_]
         rfl
        refine pure_ (i := 1) (N := some 18) (v := ?_) (a' := ?_) #[qT,qT,qF,qF,qF,qF,qF,qF,qF,qF] rfl rfl (any_of HT_.out qK) (fun _ _ _ h => h) (Or.inl ⟨by rfl, ?_⟩) ?_ ?_; rotate_left
        ·intro w'
         go_simp; with_reducible rfl
        rotate_left
        ·simp only [Act.put, qS_, qW_]
         rfl
        refine pure_ (i := 2) (N := some 19) (v := ?_) (a' := ?_) #[qT,qT,qT,qF,qF,qF,qF,qF,qF,qF] rfl rfl (any_of HT_.out qK) (fun _ _ _ h => h) (Or.inl ⟨by rfl, ?_⟩) ?_ ?_; rotate_left
        ·intro w'
         go_simp; with_reducible rfl
        rotate_left
        ·simp only [Act.put, qS_, qW_]
         rfl
        refine pure_ (i := 4) (N := some 21) (v := ?_) (a' := ?_) #[qT,qT,qT,qF,qT,qF,qF,qF,qF,qF] rfl rfl (any_of HT_.out qK) (fun _ _ _ h => h) (Or.inl ⟨by rfl, ?_⟩) ?_ ?_; rotate_left
        ·intro w'
         go_simp; with_reducible rfl
        rotate_left
        ·simp only [Act.put, qS_, qW_]
         rfl
        refine pure_ (i := 5) (N := some 22) (v := ?_) (a' := ?_) #[qT,qT,qT,qF,qT,qT,qF,qF,qF,qF] rfl rfl (any_of HT_.out qK) (fun _ _ _ h => h) (Or.inl ⟨by rfl, ?_⟩) ?_ ?_; rotate_left
        ·intro w'
         go_simp; with_reducible rfl
        rotate_left
        ·simp only [Act.put, qS_, qW_]
         rfl
        refine pure_ (i := 6) (N := some 23) (v := ?_) (a' := ?_) #[qT,qT,qT,qF,qT,qT,qT,qF,qF,qF] rfl rfl (any_of HT_.out qK) (fun _ _ _ h => h) (Or.inl ⟨by rfl, ?_⟩) ?_ ?_; rotate_left
        ·intro w'
         go_simp; with_reducible rfl
        rotate_left
        ·simp only [Act.put, qS_, qW_]
         rfl
        refine take_ (i := 3) (N := some 20) (v := ?_) (a' := ?_) #[qT,qT,qT,qT,qT,qT,qT,qF,qF,qF] rfl rfl (take_ofW HT_.out HW_.out qK) (fun _ _ _ h => h) (Or.inl ⟨by rfl, ?_⟩) hHeld ?_ ?_; rotate_left
        ·rintro w' ⟨s0, s1, s2, s3⟩
         go_simp; with_reducible rfl
        rotate_left
        ·simp only [Act.put, qS_, qW_]
         rfl
        refine take_ (i := 7) (N := some 24) (v := ?_) (a' := ?_) #[qT,qT,qT,qT,qT,qT,qT,qT,qF,qF] rfl rfl (take_ofW HT_.out HW_.out qK) (fun _ _ _ h => h) (Or.inl ⟨by rfl, ?_⟩) hHeld ?_ ?_; rotate_left
        ·rintro w' ⟨s0, s1, s2, s3⟩
         go_simp; with_reducible rfl
        rotate_left
        ·simp only [Act.put, qS_, qW_]
         rfl
        refine one_ (i := 8) (N := some 25) #[qT,qT,qT,qT,qT,qT,qT,qT,qT,qF] rfl rfl (one_of HT_.out qK) (by decide) (fun K hK => ?_); refine goes_ Tryd.func31 qK rfl #[.agg #[.int .i64 ((rd_T49 l0 x5_1).f0), .int .i64 ((rd_T49 l0 x5_1).f1)], .agg #[.int .i64 ((rd_T49 l1 x5_1).f0), .int .i64 ((rd_T49 l1 x5_1).f1)]] (by rfl) rfl rfl qll_ ?_
        with_reducible refine (laws_eqRange.calls ((rd_T49 l0 x5_1).f0) ((rd_T49 l0 x5_1).f1) ((rd_T49 l1 x5_1).f0) ((rd_T49 l1 x5_1).f1) false _ A7.out).mono ?_
        rintro e w12 ⟨rfl, hb⟩
        refine ⟨_, rfl, ?_⟩; replace HB := Aside0.mk (below_step qBHB hb)
        (try clear hb)
        (try clear hb2)
        (try clear hk)
        (try clear hi)
        refine hK.out _ _ ⟨((HB.out.cell (World.block_lt_of_cell? w _ hw101_0)).trans hw101_0), ((HB.out.cell (World.block_lt_of_cell? w _ hw101_1)).trans hw101_1), ((HB.out.cell (World.block_lt_of_cell? w _ hw102_0)).trans hw102_0), ((HB.out.cell (World.block_lt_of_cell? w _ hw102_1)).trans hw102_1)⟩ (fun hHeld => ?_); clear hK K; refine norm_ (a' := ?_) ?_ ?_; rotate_left
        ·show Act.put _ (some 25) _ = _
         simp only [Act.put, qS_, qW_]; rfl
        refine pure_ (i := 9) (N := some 26) (v := ?_) (a' := ?_) #[qT,qT,qT,qT,qT,qT,qT,qT,qT,qT] rfl rfl (any_of HT_.out qK) (fun _ _ _ h => h) (Or.inl ⟨by rfl, ?_⟩) ?_ ?_; rotate_left
        ·intro w'
         go_simp; with_reducible rfl
        rotate_left
        ·simp only [Act.put, qS_, qW_]
         rfl
        refine done_ (done_of HT_.out qK) ?_
        try go_wp2
        go_ret; exact ⟨qee_, qBHB⟩
      ·rw [if_neg c6] at H
       exact absurd H (by simp)
     ·rw [if_neg c5] at H
      exact absurd H (by simp)
    ·rw [if_neg c4] at H
     have c4b0 : decide (x5_1 < (l0.length : Int)) = false := decide_eq_false c4; clear c4; obtain rfl := Option.some.inj H
     go_wp2
     go_ret; exact ⟨qee_, qBHB⟩
 ·rw [if_neg c3] at H
  have c3b0 : ((l0.length : Int) == (l1.length : Int)) = false := beq_eq_false_iff_ne.mpr c3; have c3b1 : ((l0.length : Int) != (l1.length : Int)) = true := bne_iff_ne.mpr c3
  have c3b2 : (l0.length == l1.length) = false := by first | simpa using c3 | (simp at c3 ⊢; omega)
  obtain rfl := Option.some.inj H; go_enter Tryd.func24, Tryd.ntmps24
  go_wp2
  go_ret; exact ⟨qee_, qBHB⟩

end Go.Proofs.YtoieoimfkimedaaDoor.P
