/- Part 7 of what the law FnExactSameStore stands on; the last part ends with the law's row. No condition of mine. -/
import Derived.Test.YtjaedjcdgeikpaaMFnExactSameStore1
import Derived.Test.YtjaedjcdgeikpaaMFnExactSameStore5
import Derived.Test.YtjaedjcdgeikpaaMFnExactSameStore6
namespace Go.Proofs.Ytjaedjcdgeikpaa.P
open Go.RowKit Go.Proofs.YtjaedjcdgeikpaaW.PrintWords Go.Proofs.YtjaedjcdgeikpaaW.PrintLast Go.Proofs.YtjaedjcdgeikpaaW.PrintMore
attribute [local go_sem] max2_int min2_int max_two min_two max_three min_three max_four min_four   -- for this text's walks alone
set_option linter.unusedVariables false
set_option linter.unusedSimpArgs false

/-! ### spec_StoreOK: function 14 -/
def spec_StoreOK.l0 : Nat → List (S33) → Int → Option (Bool)
 | 0, _, _ => none
 | k + 1, x0, x3 => if x3 < (x0.length : Int) then (if 0 ≤ x3 then ((spec_BoxOK.f k ((rd_T33 x0 x3).f0) ((rd_T33 x0 x3).f1) ((rd_T33 x0 x3).f2) ((rd_T33 x0 x3).f3) ((rd_T33 x0 x3).f4)).bind fun t102 => (if t102 = true then (if ((rd_T33 x0 x3).f1) = (wrap64 (x3 + 1)) then (if x3 ≤ (x0.length : Int) then ((spec_l09Find.f k (x0.take (x3 : Int).toNat) ((rd_T33 x0 x3).f0)).bind fun t109 => (if t109 ≥ 0 then (some false) else (spec_StoreOK.l0 k x0 (wrap64 (x3 + 1))))) else (none)) else (some false)) else (some false))) else (none)) else (some true)
def spec_StoreOK.f (k : Nat) (l0 : List (S33)) : Option (Bool) := if (l0.length : Int) > 4096 then (some false) else (if (l0.length : Int) > 4 then (some false) else (spec_StoreOK.l0 k l0 0))
theorem spec_StoreOK.mono_l : ∀ k, (∀ y0 y1, LeO (spec_StoreOK.l0 k y0 y1) (spec_StoreOK.l0 (k + 1) y0 y1))
 | 0 => fun _ _ r h => by simp [spec_StoreOK.l0] at h
 | k + 1 => by
  have ih0 := spec_StoreOK.mono_l k
  ·intro y0 y1
   unfold spec_StoreOK.l0
   repeat' first
   | (with_reducible exact ih0 _ _)
   | (with_reducible exact spec_BoxOK.mono _ _ _ _ _ _)
   | (with_reducible exact spec_l09Find.mono _ _ _)
   | (with_reducible exact LeO.refl _)
   | (with_reducible exact LeO.none _)
   | (with_reducible refine LeO.ite ?_ ?_)
   | (with_reducible refine LeO.bind ?_ (fun _ => ?_))
   | exact ih0 _ _
   | exact spec_BoxOK.mono _ _ _ _ _ _
   | exact spec_l09Find.mono _ _ _
   | exact LeO.none _
   | refine LeO.ite ?_ ?_
   | refine LeO.bind ?_ (fun _ => ?_)
theorem spec_StoreOK.mono : ∀ a0 k, LeO (spec_StoreOK.f k a0) (spec_StoreOK.f (k + 1) a0) := by
 intro a0 k
 have ih0 := spec_StoreOK.mono_l k
 unfold spec_StoreOK.f
 repeat' first
   | (with_reducible exact ih0 _ _)
   | (with_reducible exact spec_BoxOK.mono _ _ _ _ _ _)
   | (with_reducible exact spec_l09Find.mono _ _ _)
   | (with_reducible exact LeO.refl _)
   | (with_reducible exact LeO.none _)
   | (with_reducible refine LeO.ite ?_ ?_)
   | (with_reducible refine LeO.bind ?_ (fun _ => ?_))
   | exact ih0 _ _
   | exact spec_BoxOK.mono _ _ _ _ _ _
   | exact spec_l09Find.mono _ _ _
   | exact LeO.none _
   | refine LeO.ite ?_ ?_
   | refine LeO.bind ?_ (fun _ => ?_)
def spec_StoreOK.T8 : Bool × List (List Nat × List Nat) := (true, [([], []), ([], []), ([0, 1], [0, 1]), ([2], [2]), ([3], [3]), ([4], [4]), ([5, 4], [5]), ([6], [6]), ([6], [6]), ([7, 8, 6], [6, 7, 8]), ([9, 6], [6, 9]), ([10, 6], [6, 10]), ([6], [6]), ([12, 6], [6, 12]), ([11, 13, 6], [6, 11, 13]), ([6, 14], [6, 14]), ([15, 6], [15]), ([16], [16]), ([16], [16]), ([17, 18, 16], [16, 17, 18]), ([16], [16]), ([16], [16]), ([20, 21, 16], [16, 20, 21]), ([22, 16], [16, 22]), ([23, 16], [16, 23]), ([19, 24, 16, 16], [16, 19, 24]), ([25, 16], [16, 25]), ([16, 26], [16, 26])])
def spec_StoreOK.B8 : List Nat := [0, 0, 3, 7, 15, 31, 63, 127, 127, 511, 1023, 2047, 127, 4223, 16383, 32767, 65535, 131071, 131071, 524287, 131071, 131071, 3276799, 7471103, 15859711, 33554431, 67108863, 134217727]
theorem spec_StoreOK.tab8 : rtab .any (opsOf Try.f14 8) = spec_StoreOK.T8 := by kernel_rfl
theorem spec_StoreOK.bits8 : waitsOk spec_StoreOK.T8.2 spec_StoreOK.B8 = true := by kernel_rfl
set_option maxHeartbeats 8000000 in
set_option maxRecDepth 100000 in
theorem spec_StoreOK.calls (k : Nat) (A0 : Option Addr) (c0 : Nat) (l0 : List (S33)) (r : Bool) (w : World) (hr0 : Kd.C k33 w A0 l0.length l0) (hc0 : l0.length ≤ c0) (h : spec_StoreOK.f k l0 = some r) :
  Calls Try.prog 14 #[.slice A0 l0.length c0] w fun e w' => e = .returned (.bool r) ∧ Below w.heap.size w w' := by
 have hu33 := Try.underlying33
 have HR0 := qM_ hr0
 have HC0 := qM_ hc0
 clear hr0 hc0
 have HB := qM_ (Below.refl w.heap.size w)
 have H : (if (l0.length : Int) > 4096 then (some false) else (if (l0.length : Int) > 4 then (some false) else (spec_StoreOK.l0 k l0 0))) = some r := h
 clear h
 by_cases c2 : (l0.length : Int) > 4096
 ·rw [if_pos c2] at H
  have c2b0 : decide (4096 < (l0.length : Int)) = true := decide_eq_true c2
  have c2b1 : decide (4096 < l0.length) = true := decide_eq_true (by omega)
  clear c2
  obtain rfl := Option.some.inj H
  go_enter Try.func14, Try.ntmps14
  go_wp2
  go_ret
  exact ⟨by first | rfl | (simp [errW_none, errW_some] <;> rfl) | (simp [*, errW_none, errW_some] <;> rfl), by repeat (first | (with_reducible first | exact HB.out | apply qA_ | apply qD_ | apply qE_) | exact HB.out)⟩
 ·rw [if_neg c2] at H
  have c2b0 : decide (4096 < (l0.length : Int)) = false := decide_eq_false c2
  have c2b1 : decide (4096 < l0.length) = false := decide_eq_false (by omega)
  clear c2
  by_cases c3 : (l0.length : Int) > 4
  ·rw [if_pos c3] at H
   have c3b0 : decide (4 < (l0.length : Int)) = true := decide_eq_true c3
   have c3b1 : decide (4 < l0.length) = true := decide_eq_true (by omega)
   clear c3
   obtain rfl := Option.some.inj H
   go_enter Try.func14, Try.ntmps14
   go_wp2
   go_ret
   exact ⟨by first | rfl | (simp [errW_none, errW_some] <;> rfl) | (simp [*, errW_none, errW_some] <;> rfl), by repeat (first | (with_reducible first | exact HB.out | apply qA_ | apply qD_ | apply qE_) | exact HB.out)⟩
  ·rw [if_neg c3] at H
   have c3b0 : decide (4 < (l0.length : Int)) = false := decide_eq_false c3
   have c3b1 : decide (4 < l0.length) = false := decide_eq_false (by omega)
   clear c3
   have H' := qM_ H
   clear H
   go_enter Try.func14, Try.ntmps14
   go_wp2
   go_loopg [3] k (fun kq v3 w' => ∃ (x3_1 : Int), v3 = .int .i64 x3_1 ∧ Aside0 (spec_StoreOK.l0 kq l0 x3_1 = some r) ∧ Aside0 (kq ≤ k) ∧ Aside0 (Below w.heap.size w w'))
   case atStart => exact ⟨(0), (by first | rfl | (simp; done) | (simp [*]; done)), H', ⟨Nat.le_refl _⟩, ⟨by repeat (first | (with_reducible first | exact HB.out | apply qA_ | apply qD_ | apply qE_) | exact HB.out)⟩⟩
   case round =>
    clear H'
    try clear c1
    try clear c2
    try clear c2b0
    try clear c2b1
    try clear p2
    try clear c3
    try clear c3b0
    try clear c3b1
    obtain ⟨x3_1, rfl, HA, HK1, HB⟩ := hrel
    cases gk with
    | zero => exact absurd HA.out (by simp [spec_StoreOK.l0])
    | succ k1 =>
     have H := HA.out
     clear HA
     simp only [spec_StoreOK.l0] at H
     by_cases c4 : x3_1 < (l0.length : Int)
     ·rw [if_pos c4] at H
      have c4b0 : decide (x3_1 < (l0.length : Int)) = true := decide_eq_true c4
      clear c4
      by_cases c5 : 0 ≤ x3_1
      ·rw [if_pos c5] at H
       have c5b0 : decide (0 ≤ x3_1) = true := decide_eq_true c5
       clear c5
       replace H := Option.bind_eq_some_iff.mp H
       obtain ⟨t102, A60, H⟩ := H
       replace H : (if t102 = true then (if ((rd_T33 l0 x3_1).f1) = (wrap64 (x3_1 + 1)) then (if x3_1 ≤ (l0.length : Int) then ((spec_l09Find.f k1 (l0.take (x3_1 : Int).toNat) ((rd_T33 l0 x3_1).f0)).bind fun t109 => (if t109 ≥ 0 then (some false) else (spec_StoreOK.l0 k1 l0 (wrap64 (x3_1 + 1))))) else (none)) else (some false)) else (some false)) = some r := H
       have A6 := qM_ A60
       clear A60
       by_cases c7 : t102 = true
       ·subst c7
        have H1 : (if ((rd_T33 l0 x3_1).f1) = (wrap64 (x3_1 + 1)) then (if x3_1 ≤ (l0.length : Int) then ((spec_l09Find.f k1 (l0.take (x3_1 : Int).toNat) ((rd_T33 l0 x3_1).f0)).bind fun t109 => (if t109 ≥ 0 then (some false) else (spec_StoreOK.l0 k1 l0 (wrap64 (x3_1 + 1))))) else (none)) else (some false)) = some r := by rw [if_pos rfl] at H; exact H
        clear H
        have H := H1
        clear H1
        by_cases c8 : ((rd_T33 l0 x3_1).f1) = (wrap64 (x3_1 + 1))
        ·rw [if_pos c8] at H
         have c8b0 : (((rd_T33 l0 x3_1).f1) == (wrap64 (x3_1 + 1))) = true := beq_iff_eq.mpr c8
         have c8b1 : (((rd_T33 l0 x3_1).f1) != (wrap64 (x3_1 + 1))) = false := bne_eq_false_iff_eq.mpr c8
         clear c8
         have c9b0 := eq_true (qT_ (by first | (with_reducible assumption) | assumption) : 0 ≤ x3_1)
         by_cases c10 : x3_1 ≤ (l0.length : Int)
         ·rw [if_pos c10] at H
          have c10b0 := eq_true c10
          have c10b1 : decide (x3_1 ≤ (l0.length : Int)) = true := decide_eq_true c10
          clear c10
          obtain ⟨y104, hy104⟩ : ∃ y_ : List (S33), y_ = (l0.take (x3_1 : Int).toNat) := ⟨_, rfl⟩
          replace H : ((spec_l09Find.f k1 y104 ((rd_T33 l0 x3_1).f0)).bind fun t109 => (if t109 ≥ 0 then (some false) else (spec_StoreOK.l0 k1 l0 (wrap64 (x3_1 + 1))))) = some r := by first | (rw [hy104]; with_reducible exact H) | (have H2_ := (Option.bind_some _ _).symm.trans H; rw [hy104]; with_reducible exact H2_) | (have H2_ := (Option.bind_some _ _).symm.trans H; with_reducible exact H2_) | with_reducible exact H | (rw [hy104]; exact H) | exact H
          have Ny104 := qM_ hy104
          clear hy104
          replace H := Option.bind_eq_some_iff.mp H
          obtain ⟨t109, A110, H⟩ := H
          replace H : (if t109 ≥ 0 then (some false) else (spec_StoreOK.l0 k1 l0 (wrap64 (x3_1 + 1)))) = some r := H
          have A11 := qM_ A110
          clear A110
          by_cases c12 : t109 ≥ 0
          ·rw [if_pos c12] at H
           have c12b0 : decide (0 ≤ t109) = true := decide_eq_true c12
           clear c12
           obtain rfl := Option.some.inj H
           try go_wp2
           have n0_ := qM_ (qE_ HB.out)
           clear HB
           have HB := n0_
           clear n0_
           have p101 : 0 ≤ (x3_1 : Int) := qT_ (by first | (with_reducible assumption) | assumption)
           have q101 : x3_1 < (l0.length : Int) := qT_ (by first | (with_reducible assumption) | assumption)
           obtain ⟨ad101, A101_3, c101_3, A101_4, c101_4, e101, hx101_0, hx101_1, hx101_2, hx101_3, hx101_4, hl101_3, hi101_3, hl101_4, hi101_4⟩ := at_T33 HR0.out x3_1 p101 q101
           have hw101_4 := hx101_4
           have hw101_3 := hx101_3
           have hw101_2 := hx101_2
           have hw101_1 := hx101_1
           have hw101_0 := hx101_0
           cases e101
           replace hx101_0 := (HB.out.cell (qL_ w _ hx101_0)).trans hx101_0
           replace hx101_1 := (HB.out.cell (qL_ w _ hx101_1)).trans hx101_1
           replace hx101_2 := (HB.out.cell (qL_ w _ hx101_2)).trans hx101_2
           replace hx101_3 := (HB.out.cell (qL_ w _ hx101_3)).trans hx101_3
           replace hx101_4 := (HB.out.cell (qL_ w _ hx101_4)).trans hx101_4
           have HR101_3 := qM_ hi101_3
           have HC101_3 := qM_ hl101_3
           clear hi101_3 hl101_3
           have HR101_4 := qM_ hi101_4
           have HC101_4 := qM_ hl101_4
           clear hi101_4 hl101_4
           replace p101 := eq_true p101
           replace q101 := eq_true q101
           have p103 : 0 ≤ (x3_1 : Int) := qT_ (by first | (with_reducible assumption) | assumption)
           have q103 : x3_1 < (l0.length : Int) := qT_ (by first | (with_reducible assumption) | assumption)
           obtain ⟨ad103, A103_3, c103_3, A103_4, c103_4, e103, hx103_0, hx103_1, hx103_2, hx103_3, hx103_4, hl103_3, hi103_3, hl103_4, hi103_4⟩ := at_T33 HR0.out x3_1 p103 q103
           have hw103_4 := hx103_4
           have hw103_3 := hx103_3
           have hw103_2 := hx103_2
           have hw103_1 := hx103_1
           have hw103_0 := hx103_0
           obtain rfl : ad101 = ad103 := (by injection e103)
           replace hx103_0 := (HB.out.cell (qL_ w _ hx103_0)).trans hx103_0
           replace hx103_1 := (HB.out.cell (qL_ w _ hx103_1)).trans hx103_1
           replace hx103_2 := (HB.out.cell (qL_ w _ hx103_2)).trans hx103_2
           replace hx103_3 := (HB.out.cell (qL_ w _ hx103_3)).trans hx103_3
           replace hx103_4 := (HB.out.cell (qL_ w _ hx103_4)).trans hx103_4
           have HR103_3 := qM_ hi103_3
           have HC103_3 := qM_ hl103_3
           clear hi103_3 hl103_3
           have HR103_4 := qM_ hi103_4
           have HC103_4 := qM_ hl103_4
           clear hi103_4 hl103_4
           replace p103 := eq_true p103
           replace q103 := eq_true q103
           have p108 : 0 ≤ (x3_1 : Int) := qT_ (by first | (with_reducible assumption) | assumption)
           have q108 : x3_1 < (l0.length : Int) := qT_ (by first | (with_reducible assumption) | assumption)
           obtain ⟨ad108, A108_3, c108_3, A108_4, c108_4, e108, hx108_0, hx108_1, hx108_2, hx108_3, hx108_4, hl108_3, hi108_3, hl108_4, hi108_4⟩ := at_T33 HR0.out x3_1 p108 q108
           have hw108_4 := hx108_4
           have hw108_3 := hx108_3
           have hw108_2 := hx108_2
           have hw108_1 := hx108_1
           have hw108_0 := hx108_0
           obtain rfl : ad101 = ad108 := (by injection e108)
           replace hx108_0 := (HB.out.cell (qL_ w _ hx108_0)).trans hx108_0
           replace hx108_1 := (HB.out.cell (qL_ w _ hx108_1)).trans hx108_1
           replace hx108_2 := (HB.out.cell (qL_ w _ hx108_2)).trans hx108_2
           replace hx108_3 := (HB.out.cell (qL_ w _ hx108_3)).trans hx108_3
           replace hx108_4 := (HB.out.cell (qL_ w _ hx108_4)).trans hx108_4
           have HR108_3 := qM_ hi108_3
           have HC108_3 := qM_ hl108_3
           clear hi108_3 hl108_3
           have HR108_4 := qM_ hi108_4
           have HC108_4 := qM_ hl108_4
           clear hi108_4 hl108_4
           replace p108 := eq_true p108
           replace q108 := eq_true q108
           have ea_ := Option.some.inj (hx103_3.symm.trans hx108_3)
           injection ea_ with ea_ en_ ec_
           subst ea_
           subst ec_
           clear en_
           have ea_ := Option.some.inj (hx103_4.symm.trans hx108_4)
           injection ea_ with ea_ en_ ec_
           subst ea_
           subst ec_
           clear en_
           refine start_ (n := 28) (S := fun w' => w'.cell? (ad101.add ((x3_1).toNat * 5)) = some (.string ((rd_T33 l0 x3_1).f0)) ∧ w'.cell? ⟨(ad101.add ((x3_1).toNat * 5)).block, (ad101.add ((x3_1).toNat * 5)).off + 1, none⟩ = some (.int .i64 ((rd_T33 l0 x3_1).f1)) ∧ w'.cell? ⟨(ad101.add ((x3_1).toNat * 5)).block, (ad101.add ((x3_1).toNat * 5)).off + 2, none⟩ = some (.int .i64 ((rd_T33 l0 x3_1).f2)) ∧ w'.cell? ⟨(ad101.add ((x3_1).toNat * 5)).block, (ad101.add ((x3_1).toNat * 5)).off + 3, none⟩ = some (.slice A101_3 ((rd_T33 l0 x3_1).f3).length c101_3) ∧ w'.cell? ⟨(ad101.add ((x3_1).toNat * 5)).block, (ad101.add ((x3_1).toNat * 5)).off + 4, none⟩ = some (.slice A101_4 ((rd_T33 l0 x3_1).f4).length c101_4) ∧ w'.cell? (ad101.add ((x3_1).toNat * 5)) = some (.string ((rd_T33 l0 x3_1).f0)) ∧ w'.cell? ⟨(ad101.add ((x3_1).toNat * 5)).block, (ad101.add ((x3_1).toNat * 5)).off + 1, none⟩ = some (.int .i64 ((rd_T33 l0 x3_1).f1)) ∧ w'.cell? ⟨(ad101.add ((x3_1).toNat * 5)).block, (ad101.add ((x3_1).toNat * 5)).off + 2, none⟩ = some (.int .i64 ((rd_T33 l0 x3_1).f2)) ∧ w'.cell? ⟨(ad101.add ((x3_1).toNat * 5)).block, (ad101.add ((x3_1).toNat * 5)).off + 3, none⟩ = some (.slice A103_3 ((rd_T33 l0 x3_1).f3).length c103_3) ∧ w'.cell? ⟨(ad101.add ((x3_1).toNat * 5)).block, (ad101.add ((x3_1).toNat * 5)).off + 4, none⟩ = some (.slice A103_4 ((rd_T33 l0 x3_1).f4).length c103_4) ∧ w'.cell? (ad101.add ((x3_1).toNat * 5)) = some (.string ((rd_T33 l0 x3_1).f0)) ∧ w'.cell? ⟨(ad101.add ((x3_1).toNat * 5)).block, (ad101.add ((x3_1).toNat * 5)).off + 1, none⟩ = some (.int .i64 ((rd_T33 l0 x3_1).f1)) ∧ w'.cell? ⟨(ad101.add ((x3_1).toNat * 5)).block, (ad101.add ((x3_1).toNat * 5)).off + 2, none⟩ = some (.int .i64 ((rd_T33 l0 x3_1).f2)) ∧ w'.cell? ⟨(ad101.add ((x3_1).toNat * 5)).block, (ad101.add ((x3_1).toNat * 5)).off + 3, none⟩ = some (.slice A103_3 ((rd_T33 l0 x3_1).f3).length c103_3) ∧ w'.cell? ⟨(ad101.add ((x3_1).toNat * 5)).block, (ad101.add ((x3_1).toNat * 5)).off + 4, none⟩ = some (.slice A103_4 ((rd_T33 l0 x3_1).f4).length c103_4)) (ds := []) #[false, false, false, false, false, false, false, false, false, false, false, false, false, false, false, false, false, false, false, false, false, false, false, false, false, false, false, false] (by kernel_rfl) rfl rfl ⟨((HB.out.cell (qL_ w _ hw101_0)).trans hw101_0), ((HB.out.cell (qL_ w _ hw101_1)).trans hw101_1), ((HB.out.cell (qL_ w _ hw101_2)).trans hw101_2), ((HB.out.cell (qL_ w _ hw101_3)).trans hw101_3), ((HB.out.cell (qL_ w _ hw101_4)).trans hw101_4), ((HB.out.cell (qL_ w _ hw103_0)).trans hw103_0), ((HB.out.cell (qL_ w _ hw103_1)).trans hw103_1), ((HB.out.cell (qL_ w _ hw103_2)).trans hw103_2), ((HB.out.cell (qL_ w _ hw103_3)).trans hw103_3), ((HB.out.cell (qL_ w _ hw103_4)).trans hw103_4), ((HB.out.cell (qL_ w _ hw108_0)).trans hw108_0), ((HB.out.cell (qL_ w _ hw108_1)).trans hw108_1), ((HB.out.cell (qL_ w _ hw108_2)).trans hw108_2), ((HB.out.cell (qL_ w _ hw108_3)).trans hw108_3), ((HB.out.cell (qL_ w _ hw108_4)).trans hw108_4)⟩ (fun hHeld => ?_); refine with_tabW spec_StoreOK.tab8 spec_StoreOK.bits8 (fun HT_ HW_ => ?_)
           generalize wr.drew = w13 at HB HR101_3 HR101_4 HR103_3 HR103_4 HR108_3 HR108_4 hx101_0 hx101_1 hx101_2 hx101_3 hx101_4 hx103_0 hx103_1 hx103_2 hx103_3 hx103_4 hx108_0 hx108_1 hx108_2 hx108_3 hx108_4 hHeld ⊢
           refine pure_ (i := 0) (N := some 16) (v := ?_) (a' := ?_) #[true, false, false, false, false, false, false, false, false, false, false, false, false, false, false, false, false, false, false, false, false, false, false, false, false, false, false, false] rfl rfl (any_of HT_.out (by kernel_rfl)) (fun _ _ _ h => h) (Or.inl ⟨by rfl, ?_⟩) ?_ ?_
           rotate_left
           ·intro w'
            go_simp
            with_reducible rfl
           rotate_left
           ·simp only [Act.put, List.setIfInBounds_toArray, List.set_cons_zero, List.set_cons_succ, i64_w, i32_w]
            rfl
           refine pure_ (i := 1) (N := some 17) (v := ?_) (a' := ?_) #[true, true, false, false, false, false, false, false, false, false, false, false, false, false, false, false, false, false, false, false, false, false, false, false, false, false, false, false] rfl rfl (any_of HT_.out (by kernel_rfl)) (fun _ _ _ h => h) (Or.inl ⟨by rfl, ?_⟩) ?_ ?_
           rotate_left
           ·intro w'
            go_simp
            with_reducible rfl
           rotate_left
           ·simp only [Act.put, List.setIfInBounds_toArray, List.set_cons_zero, List.set_cons_succ, i64_w, i32_w]
            rfl
           refine pure_ (i := 2) (N := some 18) (v := ?_) (a' := ?_) #[true, true, true, false, false, false, false, false, false, false, false, false, false, false, false, false, false, false, false, false, false, false, false, false, false, false, false, false] rfl rfl (any_of HT_.out (by kernel_rfl)) (fun _ _ _ h => h) (Or.inl ⟨by rfl, ?_⟩) ?_ ?_
           rotate_left
           ·intro w'
            go_simp
            with_reducible rfl
           rotate_left
           ·simp only [Act.put, List.setIfInBounds_toArray, List.set_cons_zero, List.set_cons_succ, i64_w, i32_w]
            rfl
           refine take_ (i := 3) (N := some 19) (v := ?_) (a' := ?_) #[true, true, true, true, false, false, false, false, false, false, false, false, false, false, false, false, false, false, false, false, false, false, false, false, false, false, false, false] rfl rfl (take_ofW HT_.out HW_.out (by kernel_rfl)) (fun _ _ _ h => h) (Or.inl ⟨by rfl, ?_⟩) hHeld ?_ ?_
           rotate_left
           ·rintro w' ⟨s0, s1, s2, s3, s4, s5, s6, s7, s8, s9, s10, s11, s12, s13, s14⟩
            go_simp
            with_reducible rfl
           rotate_left
           ·simp only [Act.put, List.setIfInBounds_toArray, List.set_cons_zero, List.set_cons_succ, i64_w, i32_w]
            rfl
           refine one_ (i := 4) (N := some 20) #[true, true, true, true, true, false, false, false, false, false, false, false, false, false, false, false, false, false, false, false, false, false, false, false, false, false, false, false] rfl rfl (one_of HT_.out (by kernel_rfl)) (by decide) (fun K hK => ?_)
           refine goes_ Try.func27 (by kernel_rfl) rfl #[.agg #[.string ((rd_T33 l0 x3_1).f0), .int .i64 ((rd_T33 l0 x3_1).f1), .int .i64 ((rd_T33 l0 x3_1).f2), .slice A101_3 ((rd_T33 l0 x3_1).f3).length c101_3, .slice A101_4 ((rd_T33 l0 x3_1).f4).length c101_4]] (by rfl) rfl rfl (by (try simp only [List.map_toArray, List.map_cons, List.map_nil]); first | done | rfl | (simp only [List.length_drop, List.length_take]; rfl)) ?_
           with_reducible refine (spec_BoxOK.calls k1 ((rd_T33 l0 x3_1).f0) ((rd_T33 l0 x3_1).f1) ((rd_T33 l0 x3_1).f2) _ _ ((rd_T33 l0 x3_1).f3) _ _ ((rd_T33 l0 x3_1).f4) true _ ?side1 ?side2 ?side3 ?side4 A6.out).mono ?_
           (case side1 => repeat (first | exact (Kd.C_below HR101_3.out HB.out) | (with_reducible refine Kd.C_alloc ?_ _) | (with_reducible refine Kd.C_drewN ?_ _) | (with_reducible refine Kd.C_drew ?_)))
           (case side2 => exact HC101_3.out)
           (case side3 => repeat (first | exact (Kd.C_below HR101_4.out HB.out) | (with_reducible refine Kd.C_alloc ?_ _) | (with_reducible refine Kd.C_drewN ?_ _) | (with_reducible refine Kd.C_drew ?_)))
           (case side4 => exact HC101_4.out)
           rintro e w14 ⟨rfl, hb⟩
           refine ⟨_, rfl, ?_⟩
           have n0_ := qM_ (below_step (by repeat (first | (with_reducible first | exact HB.out | apply qA_ | apply qD_ | apply qE_) | exact HB.out)) hb)
           clear HB
           have HB := n0_
           clear n0_
           (try clear hb)
           (try clear hb2)
           (try clear hk)
           (try clear hi)
           have q15 : (x3_1 : Int) ≤ ((l0.length : Int) : Int) := qT_ (by first | (with_reducible assumption) | assumption)
           obtain ⟨i015, hi015, _, hsz15, _⟩ := info_parts info33
           have hroom15 : l0.length ≤ c0 := HC0.out
           have hC15 : Kd.C k33 _ (some ad101) l0.length l0 := HR0.out
           have hcut15 := cut_to (P := Try.prog) 41 33 .i64 Try.underlying41 hi015 (some ad101) l0.length c0 x3_1 (qT_ (by first | (with_reducible assumption) | assumption)) q15 hroom15
           have hr15 := Kd.C_take (m := (x3_1 : Int).toNat) hC15 (by omega)
           have hy15 : y104.length = (x3_1 : Int).toNat := (by rw [Ny104.out, List.length_take]; omega)
           rw [← Ny104.out] at hr15
           rw [← hy15] at hcut15
           have HR107 := qM_ hr15
           have HC107 := qM_ (show y104.length ≤ c0 from by omega)
           clear hr15 hC15 hroom15 hi015 hsz15
           have KY15 := qM_ hy15
           clear hy15
           replace q15 := eq_true q15
           refine hK.out _ _ ⟨((HB.out.cell (qL_ w _ hw101_0)).trans hw101_0), ((HB.out.cell (qL_ w _ hw101_1)).trans hw101_1), ((HB.out.cell (qL_ w _ hw101_2)).trans hw101_2), ((HB.out.cell (qL_ w _ hw101_3)).trans hw101_3), ((HB.out.cell (qL_ w _ hw101_4)).trans hw101_4), ((HB.out.cell (qL_ w _ hw103_0)).trans hw103_0), ((HB.out.cell (qL_ w _ hw103_1)).trans hw103_1), ((HB.out.cell (qL_ w _ hw103_2)).trans hw103_2), ((HB.out.cell (qL_ w _ hw103_3)).trans hw103_3), ((HB.out.cell (qL_ w _ hw103_4)).trans hw103_4), ((HB.out.cell (qL_ w _ hw108_0)).trans hw108_0), ((HB.out.cell (qL_ w _ hw108_1)).trans hw108_1), ((HB.out.cell (qL_ w _ hw108_2)).trans hw108_2), ((HB.out.cell (qL_ w _ hw108_3)).trans hw108_3), ((HB.out.cell (qL_ w _ hw108_4)).trans hw108_4)⟩ (fun hHeld => ?_)
           clear hK K
           refine norm_ (a' := ?_) ?_ ?_
           rotate_left
           ·show Act.put _ (some 20) _ = _
            simp only [Act.put, List.setIfInBounds_toArray, List.set_cons_zero, List.set_cons_succ, i64_w, i32_w]
            rfl
           refine pure_ (i := 5) (N := some 21) (v := ?_) (a' := ?_) #[true, true, true, true, true, true, false, false, false, false, false, false, false, false, false, false, false, false, false, false, false, false, false, false, false, false, false, false] rfl rfl (any_of HT_.out (by kernel_rfl)) (fun _ _ _ h => h) (Or.inl ⟨by rfl, ?_⟩) ?_ ?_
           rotate_left
           ·intro w'
            go_simp
            with_reducible rfl
           rotate_left
           ·simp only [Act.put, List.setIfInBounds_toArray, List.set_cons_zero, List.set_cons_succ, i64_w, i32_w]
            rfl
           refine pure_ (i := 6) (N := some 22) (v := ?_) (a' := ?_) #[true, true, true, true, true, true, true, false, false, false, false, false, false, false, false, false, false, false, false, false, false, false, false, false, false, false, false, false] rfl rfl (any_of HT_.out (by kernel_rfl)) (fun _ _ _ h => h) (Or.inl ⟨by rfl, ?_⟩) ?_ ?_
           rotate_left
           ·intro w'
            go_simp
            with_reducible rfl
           rotate_left
           ·simp only [Act.put, List.setIfInBounds_toArray, List.set_cons_zero, List.set_cons_succ, i64_w, i32_w]
            rfl
           refine pure_ (i := 7) (N := some 23) (v := ?_) (a' := ?_) #[true, true, true, true, true, true, true, true, false, false, false, false, false, false, false, false, false, false, false, false, false, false, false, false, false, false, false, false] rfl rfl (any_of HT_.out (by kernel_rfl)) (fun _ _ _ h => h) (Or.inl ⟨by rfl, ?_⟩) ?_ ?_
           rotate_left
           ·intro w'
            go_simp
            with_reducible rfl
           rotate_left
           ·simp only [Act.put, List.setIfInBounds_toArray, List.set_cons_zero, List.set_cons_succ, i64_w, i32_w]
            rfl
           refine pure_ (i := 8) (N := some 24) (v := ?_) (a' := ?_) #[true, true, true, true, true, true, true, true, true, false, false, false, false, false, false, false, false, false, false, false, false, false, false, false, false, false, false, false] rfl rfl (any_of HT_.out (by kernel_rfl)) (fun _ _ _ h => h) (Or.inl ⟨by rfl, ?_⟩) ?_ ?_
           rotate_left
           ·intro w'
            go_simp
            with_reducible rfl
           rotate_left
           ·simp only [Act.put, List.setIfInBounds_toArray, List.set_cons_zero, List.set_cons_succ, i64_w, i32_w]
            rfl
           refine pure_ (i := 9) (N := some 25) (v := ?_) (a' := ?_) #[true, true, true, true, true, true, true, true, true, true, false, false, false, false, false, false, false, false, false, false, false, false, false, false, false, false, false, false] rfl rfl (any_of HT_.out (by kernel_rfl)) (fun _ _ _ h => h) (Or.inl ⟨by rfl, ?_⟩) ?_ ?_
           rotate_left
           ·intro w'
            go_simp
            with_reducible rfl
           rotate_left
           ·simp only [Act.put, List.setIfInBounds_toArray, List.set_cons_zero, List.set_cons_succ, i64_w, i32_w]
            rfl
           refine pure_ (i := 10) (N := some 26) (v := ?_) (a' := ?_) #[true, true, true, true, true, true, true, true, true, true, true, false, false, false, false, false, false, false, false, false, false, false, false, false, false, false, false, false] rfl rfl (any_of HT_.out (by kernel_rfl)) (fun _ _ _ h => h) (Or.inl ⟨by rfl, ?_⟩) ?_ ?_
           rotate_left
           ·intro w'
            go_simp
            with_reducible rfl
           rotate_left
           ·simp only [Act.put, List.setIfInBounds_toArray, List.set_cons_zero, List.set_cons_succ, i64_w, i32_w]
            rfl
           refine pure_ (i := 12) (N := some 28) (v := ?_) (a' := ?_) #[true, true, true, true, true, true, true, true, true, true, true, false, true, false, false, false, false, false, false, false, false, false, false, false, false, false, false, false] rfl rfl (any_of HT_.out (by kernel_rfl)) (fun _ _ _ h => h) (Or.inl ⟨by rfl, ?_⟩) ?_ ?_
           rotate_left
           ·intro w'
            go_simp
            with_reducible rfl
           rotate_left
           ·simp only [Act.put, List.setIfInBounds_toArray, List.set_cons_zero, List.set_cons_succ, i64_w, i32_w]
            rfl
           refine pure_ (i := 13) (N := some 29) (v := ?_) (a' := ?_) #[true, true, true, true, true, true, true, true, true, true, true, false, true, true, false, false, false, false, false, false, false, false, false, false, false, false, false, false] rfl rfl (any_of HT_.out (by kernel_rfl)) (fun _ _ _ h => h) (Or.inl ⟨by rfl, ?_⟩) ?_ ?_
           rotate_left
           ·intro w'
            go_simp
            with_reducible rfl
           rotate_left
           ·simp only [Act.put, List.setIfInBounds_toArray, List.set_cons_zero, List.set_cons_succ, i64_w, i32_w]
            rfl
           refine take_ (i := 11) (N := some 27) (v := ?_) (a' := ?_) #[true, true, true, true, true, true, true, true, true, true, true, true, true, true, false, false, false, false, false, false, false, false, false, false, false, false, false, false] rfl rfl (take_ofW HT_.out HW_.out (by kernel_rfl)) (fun _ _ _ h => h) (Or.inl ⟨by rfl, ?_⟩) hHeld ?_ ?_
           rotate_left
           ·rintro w' ⟨s0, s1, s2, s3, s4, s5, s6, s7, s8, s9, s10, s11, s12, s13, s14⟩
            go_simp
            with_reducible rfl
           rotate_left
           ·simp only [Act.put, List.setIfInBounds_toArray, List.set_cons_zero, List.set_cons_succ, i64_w, i32_w]
            rfl
           refine pure_ (i := 14) (N := some 30) (v := ?_) (a' := ?_) #[true, true, true, true, true, true, true, true, true, true, true, true, true, true, true, false, false, false, false, false, false, false, false, false, false, false, false, false] rfl rfl (any_of HT_.out (by kernel_rfl)) (fun _ _ _ h => h) (Or.inl ⟨by rfl, ?_⟩) ?_ ?_
           rotate_left
           ·intro w'
            go_simp
            with_reducible rfl
           rotate_left
           ·simp only [Act.put, List.setIfInBounds_toArray, List.set_cons_zero, List.set_cons_succ, i64_w, i32_w]
            rfl
           refine pure_ (i := 15) (N := some 31) (v := ?_) (a' := ?_) #[true, true, true, true, true, true, true, true, true, true, true, true, true, true, true, true, false, false, false, false, false, false, false, false, false, false, false, false] rfl rfl (any_of HT_.out (by kernel_rfl)) (fun _ _ _ h => h) (Or.inl ⟨by rfl, ?_⟩) ?_ ?_
           rotate_left
           ·intro w'
            go_simp
            with_reducible rfl
           rotate_left
           ·simp only [Act.put, List.setIfInBounds_toArray, List.set_cons_zero, List.set_cons_succ, i64_w, i32_w]
            rfl
           refine pure_ (i := 16) (N := some 32) (v := ?_) (a' := ?_) #[true, true, true, true, true, true, true, true, true, true, true, true, true, true, true, true, true, false, false, false, false, false, false, false, false, false, false, false] rfl rfl (any_of HT_.out (by kernel_rfl)) (fun _ _ _ h => h) (Or.inl ⟨by rfl, ?_⟩) ?_ ?_
           rotate_left
           ·intro w'
            go_simp
            with_reducible rfl
           rotate_left
           ·simp only [Act.put, List.setIfInBounds_toArray, List.set_cons_zero, List.set_cons_succ, i64_w, i32_w]
            rfl
           refine pure_ (i := 17) (N := some 33) (v := ?_) (a' := ?_) #[true, true, true, true, true, true, true, true, true, true, true, true, true, true, true, true, true, true, false, false, false, false, false, false, false, false, false, false] rfl rfl (any_of HT_.out (by kernel_rfl)) (fun _ _ _ h => h) (Or.inl ⟨by rfl, ?_⟩) ?_ ?_
           rotate_left
           ·intro w'
            go_simp
            with_reducible rfl
           rotate_left
           ·simp only [Act.put, List.setIfInBounds_toArray, List.set_cons_zero, List.set_cons_succ, i64_w, i32_w]
            rfl
           refine pure_ (i := 18) (N := some 34) (v := ?_) (a' := ?_) #[true, true, true, true, true, true, true, true, true, true, true, true, true, true, true, true, true, true, true, false, false, false, false, false, false, false, false, false] rfl rfl (any_of HT_.out (by kernel_rfl)) (fun _ _ _ h => h) (Or.inl ⟨by rfl, ?_⟩) ?_ ?_
           rotate_left
           ·intro w'
            go_simp
            with_reducible rfl
           rotate_left
           ·simp only [Act.put, List.setIfInBounds_toArray, List.set_cons_zero, List.set_cons_succ, i64_w, i32_w]
            rfl
           refine pure_ (i := 19) (N := some 35) (v := ?_) (a' := ?_) #[true, true, true, true, true, true, true, true, true, true, true, true, true, true, true, true, true, true, true, true, false, false, false, false, false, false, false, false] rfl rfl (any_of HT_.out (by kernel_rfl)) (fun _ _ _ h => h) (Or.inl ⟨by rfl, ?_⟩) ?_ ?_
           rotate_left
           ·intro w'
            go_simp
            with_reducible rfl
           rotate_left
           ·simp only [Act.put, List.setIfInBounds_toArray, List.set_cons_zero, List.set_cons_succ, i64_w, i32_w]
            rfl
           refine pure_ (i := 20) (N := some 36) (v := ?_) (a' := ?_) #[true, true, true, true, true, true, true, true, true, true, true, true, true, true, true, true, true, true, true, true, true, false, false, false, false, false, false, false] rfl rfl (any_of HT_.out (by kernel_rfl)) (fun _ _ _ h => h) (Or.inl ⟨by rfl, ?_⟩) ?_ ?_
           rotate_left
           ·intro w'
            go_simp
            with_reducible rfl
           rotate_left
           ·simp only [Act.put, List.setIfInBounds_toArray, List.set_cons_zero, List.set_cons_succ, i64_w, i32_w]
            rfl
           refine pure_ (i := 21) (N := some 37) (v := ?_) (a' := ?_) #[true, true, true, true, true, true, true, true, true, true, true, true, true, true, true, true, true, true, true, true, true, true, false, false, false, false, false, false] rfl rfl (any_of HT_.out (by kernel_rfl)) (fun _ _ _ h => h) (Or.inl ⟨by rfl, ?_⟩) ?_ ?_
           rotate_left
           ·intro w'
            go_simp
            with_reducible rfl
           rotate_left
           ·simp only [Act.put, List.setIfInBounds_toArray, List.set_cons_zero, List.set_cons_succ, i64_w, i32_w]
            rfl
           refine pure_ (i := 22) (N := some 38) (v := ?_) (a' := ?_) #[true, true, true, true, true, true, true, true, true, true, true, true, true, true, true, true, true, true, true, true, true, true, true, false, false, false, false, false] rfl rfl (any_of HT_.out (by kernel_rfl)) (fun _ _ _ h => h) (Or.inl ⟨by rfl, ?_⟩) ?_ ?_
           rotate_left
           ·intro w'
            go_simp
            with_reducible rfl
           rotate_left
           ·simp only [Act.put, List.setIfInBounds_toArray, List.set_cons_zero, List.set_cons_succ, i64_w, i32_w]
            rfl
           refine pure_ (i := 23) (N := some 39) (v := ?_) (a' := ?_) #[true, true, true, true, true, true, true, true, true, true, true, true, true, true, true, true, true, true, true, true, true, true, true, true, false, false, false, false] rfl rfl (any_of HT_.out (by kernel_rfl)) (fun _ _ _ h => h) (Or.inl ⟨by rfl, ?_⟩) ?_ ?_
           rotate_left
           ·intro w'
            go_simp
            with_reducible rfl
           rotate_left
           ·simp only [Act.put, List.setIfInBounds_toArray, List.set_cons_zero, List.set_cons_succ, i64_w, i32_w]
            rfl
           refine take_ (i := 24) (N := some 40) (v := ?_) (a' := ?_) #[true, true, true, true, true, true, true, true, true, true, true, true, true, true, true, true, true, true, true, true, true, true, true, true, true, false, false, false] rfl rfl (take_ofW HT_.out HW_.out (by kernel_rfl)) (fun _ _ _ h => h) (Or.inl ⟨by rfl, ?_⟩) hHeld ?_ ?_
           rotate_left
           ·rintro w' ⟨s0, s1, s2, s3, s4, s5, s6, s7, s8, s9, s10, s11, s12, s13, s14⟩
            go_simp
            with_reducible rfl
           rotate_left
           ·simp only [Act.put, List.setIfInBounds_toArray, List.set_cons_zero, List.set_cons_succ, i64_w, i32_w]
            rfl
           refine one_ (i := 25) (N := some 41) #[true, true, true, true, true, true, true, true, true, true, true, true, true, true, true, true, true, true, true, true, true, true, true, true, true, true, false, false] rfl rfl (one_of HT_.out (by kernel_rfl)) (by decide) (fun K hK => ?_)
           refine goes_ Try.func35 (by kernel_rfl) rfl #[.slice (some ad101) y104.length c0, .string ((rd_T33 l0 x3_1).f0)] (by rfl) rfl rfl (by (try simp only [List.map_toArray, List.map_cons, List.map_nil]); first | done | rfl | (simp only [List.length_drop, List.length_take]; rfl)) ?_
           with_reducible refine (spec_l09Find.calls k1 _ _ y104 ((rd_T33 l0 x3_1).f0) t109 _ ?side1 ?side2 A11.out).mono ?_
           (case side1 => repeat (first | exact (Kd.C_below HR107.out HB.out) | (with_reducible refine Kd.C_alloc ?_ _) | (with_reducible refine Kd.C_drewN ?_ _) | (with_reducible refine Kd.C_drew ?_)))
           (case side2 => exact HC107.out)
           rintro e w' ⟨rfl, ⟨nd, rfl⟩⟩
           refine ⟨_, rfl, ?_⟩
           refine hK.out _ _ ⟨((HB.out.cell (qL_ w _ hw101_0)).trans hw101_0), ((HB.out.cell (qL_ w _ hw101_1)).trans hw101_1), ((HB.out.cell (qL_ w _ hw101_2)).trans hw101_2), ((HB.out.cell (qL_ w _ hw101_3)).trans hw101_3), ((HB.out.cell (qL_ w _ hw101_4)).trans hw101_4), ((HB.out.cell (qL_ w _ hw103_0)).trans hw103_0), ((HB.out.cell (qL_ w _ hw103_1)).trans hw103_1), ((HB.out.cell (qL_ w _ hw103_2)).trans hw103_2), ((HB.out.cell (qL_ w _ hw103_3)).trans hw103_3), ((HB.out.cell (qL_ w _ hw103_4)).trans hw103_4), ((HB.out.cell (qL_ w _ hw108_0)).trans hw108_0), ((HB.out.cell (qL_ w _ hw108_1)).trans hw108_1), ((HB.out.cell (qL_ w _ hw108_2)).trans hw108_2), ((HB.out.cell (qL_ w _ hw108_3)).trans hw108_3), ((HB.out.cell (qL_ w _ hw108_4)).trans hw108_4)⟩ (fun hHeld => ?_)
           clear hK K
           refine norm_ (a' := ?_) ?_ ?_
           rotate_left
           ·show Act.put _ (some 41) _ = _
            simp only [Act.put, List.setIfInBounds_toArray, List.set_cons_zero, List.set_cons_succ, i64_w, i32_w]
            rfl
           refine pure_ (i := 26) (N := some 42) (v := ?_) (a' := ?_) #[true, true, true, true, true, true, true, true, true, true, true, true, true, true, true, true, true, true, true, true, true, true, true, true, true, true, true, false] rfl rfl (any_of HT_.out (by kernel_rfl)) (fun _ _ _ h => h) (Or.inl ⟨by rfl, ?_⟩) ?_ ?_
           rotate_left
           ·intro w'
            go_simp
            with_reducible rfl
           rotate_left
           ·simp only [Act.put, List.setIfInBounds_toArray, List.set_cons_zero, List.set_cons_succ, i64_w, i32_w]
            rfl
           refine pure_ (i := 27) (N := some 43) (v := ?_) (a' := ?_) #[true, true, true, true, true, true, true, true, true, true, true, true, true, true, true, true, true, true, true, true, true, true, true, true, true, true, true, true] rfl rfl (any_of HT_.out (by kernel_rfl)) (fun _ _ _ h => h) (Or.inl ⟨by rfl, ?_⟩) ?_ ?_
           rotate_left
           ·intro w'
            go_simp
            with_reducible rfl
           rotate_left
           ·simp only [Act.put, List.setIfInBounds_toArray, List.set_cons_zero, List.set_cons_succ, i64_w, i32_w]
            rfl
           refine done_ (done_of HT_.out (by kernel_rfl)) ?_
           try go_wp2
           go_ret
           exact ⟨by first | rfl | (simp [errW_none, errW_some] <;> rfl) | (simp [*, errW_none, errW_some] <;> rfl), by repeat (first | (with_reducible first | exact HB.out | apply qA_ | apply qD_ | apply qE_) | exact HB.out)⟩
          ·rw [if_neg c12] at H
           have c12b0 : decide (0 ≤ t109) = false := decide_eq_false c12
           clear c12
           have H' := qM_ H
           clear H
           try go_wp2
           have n0_ := qM_ (qE_ HB.out)
           clear HB
           have HB := n0_
           clear n0_
           have p101 : 0 ≤ (x3_1 : Int) := qT_ (by first | (with_reducible assumption) | assumption)
           have q101 : x3_1 < (l0.length : Int) := qT_ (by first | (with_reducible assumption) | assumption)
           obtain ⟨ad101, A101_3, c101_3, A101_4, c101_4, e101, hx101_0, hx101_1, hx101_2, hx101_3, hx101_4, hl101_3, hi101_3, hl101_4, hi101_4⟩ := at_T33 HR0.out x3_1 p101 q101
           have hw101_4 := hx101_4
           have hw101_3 := hx101_3
           have hw101_2 := hx101_2
           have hw101_1 := hx101_1
           have hw101_0 := hx101_0
           cases e101
           replace hx101_0 := (HB.out.cell (qL_ w _ hx101_0)).trans hx101_0
           replace hx101_1 := (HB.out.cell (qL_ w _ hx101_1)).trans hx101_1
           replace hx101_2 := (HB.out.cell (qL_ w _ hx101_2)).trans hx101_2
           replace hx101_3 := (HB.out.cell (qL_ w _ hx101_3)).trans hx101_3
           replace hx101_4 := (HB.out.cell (qL_ w _ hx101_4)).trans hx101_4
           have HR101_3 := qM_ hi101_3
           have HC101_3 := qM_ hl101_3
           clear hi101_3 hl101_3
           have HR101_4 := qM_ hi101_4
           have HC101_4 := qM_ hl101_4
           clear hi101_4 hl101_4
           replace p101 := eq_true p101
           replace q101 := eq_true q101
           have p103 : 0 ≤ (x3_1 : Int) := qT_ (by first | (with_reducible assumption) | assumption)
           have q103 : x3_1 < (l0.length : Int) := qT_ (by first | (with_reducible assumption) | assumption)
           obtain ⟨ad103, A103_3, c103_3, A103_4, c103_4, e103, hx103_0, hx103_1, hx103_2, hx103_3, hx103_4, hl103_3, hi103_3, hl103_4, hi103_4⟩ := at_T33 HR0.out x3_1 p103 q103
           have hw103_4 := hx103_4
           have hw103_3 := hx103_3
           have hw103_2 := hx103_2
           have hw103_1 := hx103_1
           have hw103_0 := hx103_0
           obtain rfl : ad101 = ad103 := (by injection e103)
           replace hx103_0 := (HB.out.cell (qL_ w _ hx103_0)).trans hx103_0
           replace hx103_1 := (HB.out.cell (qL_ w _ hx103_1)).trans hx103_1
           replace hx103_2 := (HB.out.cell (qL_ w _ hx103_2)).trans hx103_2
           replace hx103_3 := (HB.out.cell (qL_ w _ hx103_3)).trans hx103_3
           replace hx103_4 := (HB.out.cell (qL_ w _ hx103_4)).trans hx103_4
           have HR103_3 := qM_ hi103_3
           have HC103_3 := qM_ hl103_3
           clear hi103_3 hl103_3
           have HR103_4 := qM_ hi103_4
           have HC103_4 := qM_ hl103_4
           clear hi103_4 hl103_4
           replace p103 := eq_true p103
           replace q103 := eq_true q103
           have p108 : 0 ≤ (x3_1 : Int) := qT_ (by first | (with_reducible assumption) | assumption)
           have q108 : x3_1 < (l0.length : Int) := qT_ (by first | (with_reducible assumption) | assumption)
           obtain ⟨ad108, A108_3, c108_3, A108_4, c108_4, e108, hx108_0, hx108_1, hx108_2, hx108_3, hx108_4, hl108_3, hi108_3, hl108_4, hi108_4⟩ := at_T33 HR0.out x3_1 p108 q108
           have hw108_4 := hx108_4
           have hw108_3 := hx108_3
           have hw108_2 := hx108_2
           have hw108_1 := hx108_1
           have hw108_0 := hx108_0
           obtain rfl : ad101 = ad108 := (by injection e108)
           replace hx108_0 := (HB.out.cell (qL_ w _ hx108_0)).trans hx108_0
           replace hx108_1 := (HB.out.cell (qL_ w _ hx108_1)).trans hx108_1
           replace hx108_2 := (HB.out.cell (qL_ w _ hx108_2)).trans hx108_2
           replace hx108_3 := (HB.out.cell (qL_ w _ hx108_3)).trans hx108_3
           replace hx108_4 := (HB.out.cell (qL_ w _ hx108_4)).trans hx108_4
           have HR108_3 := qM_ hi108_3
           have HC108_3 := qM_ hl108_3
           clear hi108_3 hl108_3
           have HR108_4 := qM_ hi108_4
           have HC108_4 := qM_ hl108_4
           clear hi108_4 hl108_4
           replace p108 := eq_true p108
           replace q108 := eq_true q108
           have ea_ := Option.some.inj (hx103_3.symm.trans hx108_3)
           injection ea_ with ea_ en_ ec_
           subst ea_
           subst ec_
           clear en_
           have ea_ := Option.some.inj (hx103_4.symm.trans hx108_4)
           injection ea_ with ea_ en_ ec_
           subst ea_
           subst ec_
           clear en_
           refine start_ (n := 28) (S := fun w' => w'.cell? (ad101.add ((x3_1).toNat * 5)) = some (.string ((rd_T33 l0 x3_1).f0)) ∧ w'.cell? ⟨(ad101.add ((x3_1).toNat * 5)).block, (ad101.add ((x3_1).toNat * 5)).off + 1, none⟩ = some (.int .i64 ((rd_T33 l0 x3_1).f1)) ∧ w'.cell? ⟨(ad101.add ((x3_1).toNat * 5)).block, (ad101.add ((x3_1).toNat * 5)).off + 2, none⟩ = some (.int .i64 ((rd_T33 l0 x3_1).f2)) ∧ w'.cell? ⟨(ad101.add ((x3_1).toNat * 5)).block, (ad101.add ((x3_1).toNat * 5)).off + 3, none⟩ = some (.slice A101_3 ((rd_T33 l0 x3_1).f3).length c101_3) ∧ w'.cell? ⟨(ad101.add ((x3_1).toNat * 5)).block, (ad101.add ((x3_1).toNat * 5)).off + 4, none⟩ = some (.slice A101_4 ((rd_T33 l0 x3_1).f4).length c101_4) ∧ w'.cell? (ad101.add ((x3_1).toNat * 5)) = some (.string ((rd_T33 l0 x3_1).f0)) ∧ w'.cell? ⟨(ad101.add ((x3_1).toNat * 5)).block, (ad101.add ((x3_1).toNat * 5)).off + 1, none⟩ = some (.int .i64 ((rd_T33 l0 x3_1).f1)) ∧ w'.cell? ⟨(ad101.add ((x3_1).toNat * 5)).block, (ad101.add ((x3_1).toNat * 5)).off + 2, none⟩ = some (.int .i64 ((rd_T33 l0 x3_1).f2)) ∧ w'.cell? ⟨(ad101.add ((x3_1).toNat * 5)).block, (ad101.add ((x3_1).toNat * 5)).off + 3, none⟩ = some (.slice A103_3 ((rd_T33 l0 x3_1).f3).length c103_3) ∧ w'.cell? ⟨(ad101.add ((x3_1).toNat * 5)).block, (ad101.add ((x3_1).toNat * 5)).off + 4, none⟩ = some (.slice A103_4 ((rd_T33 l0 x3_1).f4).length c103_4) ∧ w'.cell? (ad101.add ((x3_1).toNat * 5)) = some (.string ((rd_T33 l0 x3_1).f0)) ∧ w'.cell? ⟨(ad101.add ((x3_1).toNat * 5)).block, (ad101.add ((x3_1).toNat * 5)).off + 1, none⟩ = some (.int .i64 ((rd_T33 l0 x3_1).f1)) ∧ w'.cell? ⟨(ad101.add ((x3_1).toNat * 5)).block, (ad101.add ((x3_1).toNat * 5)).off + 2, none⟩ = some (.int .i64 ((rd_T33 l0 x3_1).f2)) ∧ w'.cell? ⟨(ad101.add ((x3_1).toNat * 5)).block, (ad101.add ((x3_1).toNat * 5)).off + 3, none⟩ = some (.slice A103_3 ((rd_T33 l0 x3_1).f3).length c103_3) ∧ w'.cell? ⟨(ad101.add ((x3_1).toNat * 5)).block, (ad101.add ((x3_1).toNat * 5)).off + 4, none⟩ = some (.slice A103_4 ((rd_T33 l0 x3_1).f4).length c103_4)) (ds := []) #[false, false, false, false, false, false, false, false, false, false, false, false, false, false, false, false, false, false, false, false, false, false, false, false, false, false, false, false] (by kernel_rfl) rfl rfl ⟨((HB.out.cell (qL_ w _ hw101_0)).trans hw101_0), ((HB.out.cell (qL_ w _ hw101_1)).trans hw101_1), ((HB.out.cell (qL_ w _ hw101_2)).trans hw101_2), ((HB.out.cell (qL_ w _ hw101_3)).trans hw101_3), ((HB.out.cell (qL_ w _ hw101_4)).trans hw101_4), ((HB.out.cell (qL_ w _ hw103_0)).trans hw103_0), ((HB.out.cell (qL_ w _ hw103_1)).trans hw103_1), ((HB.out.cell (qL_ w _ hw103_2)).trans hw103_2), ((HB.out.cell (qL_ w _ hw103_3)).trans hw103_3), ((HB.out.cell (qL_ w _ hw103_4)).trans hw103_4), ((HB.out.cell (qL_ w _ hw108_0)).trans hw108_0), ((HB.out.cell (qL_ w _ hw108_1)).trans hw108_1), ((HB.out.cell (qL_ w _ hw108_2)).trans hw108_2), ((HB.out.cell (qL_ w _ hw108_3)).trans hw108_3), ((HB.out.cell (qL_ w _ hw108_4)).trans hw108_4)⟩ (fun hHeld => ?_); refine with_tabW spec_StoreOK.tab8 spec_StoreOK.bits8 (fun HT_ HW_ => ?_)
           generalize wr.drew = w16 at HB HR101_3 HR101_4 HR103_3 HR103_4 HR108_3 HR108_4 hx101_0 hx101_1 hx101_2 hx101_3 hx101_4 hx103_0 hx103_1 hx103_2 hx103_3 hx103_4 hx108_0 hx108_1 hx108_2 hx108_3 hx108_4 hHeld ⊢
           refine pure_ (i := 0) (N := some 16) (v := ?_) (a' := ?_) #[true, false, false, false, false, false, false, false, false, false, false, false, false, false, false, false, false, false, false, false, false, false, false, false, false, false, false, false] rfl rfl (any_of HT_.out (by kernel_rfl)) (fun _ _ _ h => h) (Or.inl ⟨by rfl, ?_⟩) ?_ ?_
           rotate_left
           ·intro w'
            go_simp
            with_reducible rfl
           rotate_left
           ·simp only [Act.put, List.setIfInBounds_toArray, List.set_cons_zero, List.set_cons_succ, i64_w, i32_w]
            rfl
           refine pure_ (i := 1) (N := some 17) (v := ?_) (a' := ?_) #[true, true, false, false, false, false, false, false, false, false, false, false, false, false, false, false, false, false, false, false, false, false, false, false, false, false, false, false] rfl rfl (any_of HT_.out (by kernel_rfl)) (fun _ _ _ h => h) (Or.inl ⟨by rfl, ?_⟩) ?_ ?_
           rotate_left
           ·intro w'
            go_simp
            with_reducible rfl
           rotate_left
           ·simp only [Act.put, List.setIfInBounds_toArray, List.set_cons_zero, List.set_cons_succ, i64_w, i32_w]
            rfl
           refine pure_ (i := 2) (N := some 18) (v := ?_) (a' := ?_) #[true, true, true, false, false, false, false, false, false, false, false, false, false, false, false, false, false, false, false, false, false, false, false, false, false, false, false, false] rfl rfl (any_of HT_.out (by kernel_rfl)) (fun _ _ _ h => h) (Or.inl ⟨by rfl, ?_⟩) ?_ ?_
           rotate_left
           ·intro w'
            go_simp
            with_reducible rfl
           rotate_left
           ·simp only [Act.put, List.setIfInBounds_toArray, List.set_cons_zero, List.set_cons_succ, i64_w, i32_w]
            rfl
           refine take_ (i := 3) (N := some 19) (v := ?_) (a' := ?_) #[true, true, true, true, false, false, false, false, false, false, false, false, false, false, false, false, false, false, false, false, false, false, false, false, false, false, false, false] rfl rfl (take_ofW HT_.out HW_.out (by kernel_rfl)) (fun _ _ _ h => h) (Or.inl ⟨by rfl, ?_⟩) hHeld ?_ ?_
           rotate_left
           ·rintro w' ⟨s0, s1, s2, s3, s4, s5, s6, s7, s8, s9, s10, s11, s12, s13, s14⟩
            go_simp
            with_reducible rfl
           rotate_left
           ·simp only [Act.put, List.setIfInBounds_toArray, List.set_cons_zero, List.set_cons_succ, i64_w, i32_w]
            rfl
           refine one_ (i := 4) (N := some 20) #[true, true, true, true, true, false, false, false, false, false, false, false, false, false, false, false, false, false, false, false, false, false, false, false, false, false, false, false] rfl rfl (one_of HT_.out (by kernel_rfl)) (by decide) (fun K hK => ?_)
           refine goes_ Try.func27 (by kernel_rfl) rfl #[.agg #[.string ((rd_T33 l0 x3_1).f0), .int .i64 ((rd_T33 l0 x3_1).f1), .int .i64 ((rd_T33 l0 x3_1).f2), .slice A101_3 ((rd_T33 l0 x3_1).f3).length c101_3, .slice A101_4 ((rd_T33 l0 x3_1).f4).length c101_4]] (by rfl) rfl rfl (by (try simp only [List.map_toArray, List.map_cons, List.map_nil]); first | done | rfl | (simp only [List.length_drop, List.length_take]; rfl)) ?_
           with_reducible refine (spec_BoxOK.calls k1 ((rd_T33 l0 x3_1).f0) ((rd_T33 l0 x3_1).f1) ((rd_T33 l0 x3_1).f2) _ _ ((rd_T33 l0 x3_1).f3) _ _ ((rd_T33 l0 x3_1).f4) true _ ?side1 ?side2 ?side3 ?side4 A6.out).mono ?_
           (case side1 => repeat (first | exact (Kd.C_below HR101_3.out HB.out) | (with_reducible refine Kd.C_alloc ?_ _) | (with_reducible refine Kd.C_drewN ?_ _) | (with_reducible refine Kd.C_drew ?_)))
           (case side2 => exact HC101_3.out)
           (case side3 => repeat (first | exact (Kd.C_below HR101_4.out HB.out) | (with_reducible refine Kd.C_alloc ?_ _) | (with_reducible refine Kd.C_drewN ?_ _) | (with_reducible refine Kd.C_drew ?_)))
           (case side4 => exact HC101_4.out)
           rintro e w17 ⟨rfl, hb⟩
           refine ⟨_, rfl, ?_⟩
           have n0_ := qM_ (below_step (by repeat (first | (with_reducible first | exact HB.out | apply qA_ | apply qD_ | apply qE_) | exact HB.out)) hb)
           clear HB
           have HB := n0_
           clear n0_
           (try clear hb)
           (try clear hb2)
           (try clear hk)
           (try clear hi)
           have q18 : (x3_1 : Int) ≤ ((l0.length : Int) : Int) := qT_ (by first | (with_reducible assumption) | assumption)
           obtain ⟨i018, hi018, _, hsz18, _⟩ := info_parts info33
           have hroom18 : l0.length ≤ c0 := HC0.out
           have hC18 : Kd.C k33 _ (some ad101) l0.length l0 := HR0.out
           have hcut18 := cut_to (P := Try.prog) 41 33 .i64 Try.underlying41 hi018 (some ad101) l0.length c0 x3_1 (qT_ (by first | (with_reducible assumption) | assumption)) q18 hroom18
           have hr18 := Kd.C_take (m := (x3_1 : Int).toNat) hC18 (by omega)
           have hy18 : y104.length = (x3_1 : Int).toNat := (by rw [Ny104.out, List.length_take]; omega)
           rw [← Ny104.out] at hr18
           rw [← hy18] at hcut18
           have HR107 := qM_ hr18
           have HC107 := qM_ (show y104.length ≤ c0 from by omega)
           clear hr18 hC18 hroom18 hi018 hsz18
           have KY18 := qM_ hy18
           clear hy18
           replace q18 := eq_true q18
           refine hK.out _ _ ⟨((HB.out.cell (qL_ w _ hw101_0)).trans hw101_0), ((HB.out.cell (qL_ w _ hw101_1)).trans hw101_1), ((HB.out.cell (qL_ w _ hw101_2)).trans hw101_2), ((HB.out.cell (qL_ w _ hw101_3)).trans hw101_3), ((HB.out.cell (qL_ w _ hw101_4)).trans hw101_4), ((HB.out.cell (qL_ w _ hw103_0)).trans hw103_0), ((HB.out.cell (qL_ w _ hw103_1)).trans hw103_1), ((HB.out.cell (qL_ w _ hw103_2)).trans hw103_2), ((HB.out.cell (qL_ w _ hw103_3)).trans hw103_3), ((HB.out.cell (qL_ w _ hw103_4)).trans hw103_4), ((HB.out.cell (qL_ w _ hw108_0)).trans hw108_0), ((HB.out.cell (qL_ w _ hw108_1)).trans hw108_1), ((HB.out.cell (qL_ w _ hw108_2)).trans hw108_2), ((HB.out.cell (qL_ w _ hw108_3)).trans hw108_3), ((HB.out.cell (qL_ w _ hw108_4)).trans hw108_4)⟩ (fun hHeld => ?_)
           clear hK K
           refine norm_ (a' := ?_) ?_ ?_
           rotate_left
           ·show Act.put _ (some 20) _ = _
            simp only [Act.put, List.setIfInBounds_toArray, List.set_cons_zero, List.set_cons_succ, i64_w, i32_w]
            rfl
           refine pure_ (i := 5) (N := some 21) (v := ?_) (a' := ?_) #[true, true, true, true, true, true, false, false, false, false, false, false, false, false, false, false, false, false, false, false, false, false, false, false, false, false, false, false] rfl rfl (any_of HT_.out (by kernel_rfl)) (fun _ _ _ h => h) (Or.inl ⟨by rfl, ?_⟩) ?_ ?_
           rotate_left
           ·intro w'
            go_simp
            with_reducible rfl
           rotate_left
           ·simp only [Act.put, List.setIfInBounds_toArray, List.set_cons_zero, List.set_cons_succ, i64_w, i32_w]
            rfl
           refine pure_ (i := 6) (N := some 22) (v := ?_) (a' := ?_) #[true, true, true, true, true, true, true, false, false, false, false, false, false, false, false, false, false, false, false, false, false, false, false, false, false, false, false, false] rfl rfl (any_of HT_.out (by kernel_rfl)) (fun _ _ _ h => h) (Or.inl ⟨by rfl, ?_⟩) ?_ ?_
           rotate_left
           ·intro w'
            go_simp
            with_reducible rfl
           rotate_left
           ·simp only [Act.put, List.setIfInBounds_toArray, List.set_cons_zero, List.set_cons_succ, i64_w, i32_w]
            rfl
           refine pure_ (i := 7) (N := some 23) (v := ?_) (a' := ?_) #[true, true, true, true, true, true, true, true, false, false, false, false, false, false, false, false, false, false, false, false, false, false, false, false, false, false, false, false] rfl rfl (any_of HT_.out (by kernel_rfl)) (fun _ _ _ h => h) (Or.inl ⟨by rfl, ?_⟩) ?_ ?_
           rotate_left
           ·intro w'
            go_simp
            with_reducible rfl
           rotate_left
           ·simp only [Act.put, List.setIfInBounds_toArray, List.set_cons_zero, List.set_cons_succ, i64_w, i32_w]
            rfl
           refine pure_ (i := 8) (N := some 24) (v := ?_) (a' := ?_) #[true, true, true, true, true, true, true, true, true, false, false, false, false, false, false, false, false, false, false, false, false, false, false, false, false, false, false, false] rfl rfl (any_of HT_.out (by kernel_rfl)) (fun _ _ _ h => h) (Or.inl ⟨by rfl, ?_⟩) ?_ ?_
           rotate_left
           ·intro w'
            go_simp
            with_reducible rfl
           rotate_left
           ·simp only [Act.put, List.setIfInBounds_toArray, List.set_cons_zero, List.set_cons_succ, i64_w, i32_w]
            rfl
           refine pure_ (i := 9) (N := some 25) (v := ?_) (a' := ?_) #[true, true, true, true, true, true, true, true, true, true, false, false, false, false, false, false, false, false, false, false, false, false, false, false, false, false, false, false] rfl rfl (any_of HT_.out (by kernel_rfl)) (fun _ _ _ h => h) (Or.inl ⟨by rfl, ?_⟩) ?_ ?_
           rotate_left
           ·intro w'
            go_simp
            with_reducible rfl
           rotate_left
           ·simp only [Act.put, List.setIfInBounds_toArray, List.set_cons_zero, List.set_cons_succ, i64_w, i32_w]
            rfl
           refine pure_ (i := 10) (N := some 26) (v := ?_) (a' := ?_) #[true, true, true, true, true, true, true, true, true, true, true, false, false, false, false, false, false, false, false, false, false, false, false, false, false, false, false, false] rfl rfl (any_of HT_.out (by kernel_rfl)) (fun _ _ _ h => h) (Or.inl ⟨by rfl, ?_⟩) ?_ ?_
           rotate_left
           ·intro w'
            go_simp
            with_reducible rfl
           rotate_left
           ·simp only [Act.put, List.setIfInBounds_toArray, List.set_cons_zero, List.set_cons_succ, i64_w, i32_w]
            rfl
           refine pure_ (i := 12) (N := some 28) (v := ?_) (a' := ?_) #[true, true, true, true, true, true, true, true, true, true, true, false, true, false, false, false, false, false, false, false, false, false, false, false, false, false, false, false] rfl rfl (any_of HT_.out (by kernel_rfl)) (fun _ _ _ h => h) (Or.inl ⟨by rfl, ?_⟩) ?_ ?_
           rotate_left
           ·intro w'
            go_simp
            with_reducible rfl
           rotate_left
           ·simp only [Act.put, List.setIfInBounds_toArray, List.set_cons_zero, List.set_cons_succ, i64_w, i32_w]
            rfl
           refine pure_ (i := 13) (N := some 29) (v := ?_) (a' := ?_) #[true, true, true, true, true, true, true, true, true, true, true, false, true, true, false, false, false, false, false, false, false, false, false, false, false, false, false, false] rfl rfl (any_of HT_.out (by kernel_rfl)) (fun _ _ _ h => h) (Or.inl ⟨by rfl, ?_⟩) ?_ ?_
           rotate_left
           ·intro w'
            go_simp
            with_reducible rfl
           rotate_left
           ·simp only [Act.put, List.setIfInBounds_toArray, List.set_cons_zero, List.set_cons_succ, i64_w, i32_w]
            rfl
           refine take_ (i := 11) (N := some 27) (v := ?_) (a' := ?_) #[true, true, true, true, true, true, true, true, true, true, true, true, true, true, false, false, false, false, false, false, false, false, false, false, false, false, false, false] rfl rfl (take_ofW HT_.out HW_.out (by kernel_rfl)) (fun _ _ _ h => h) (Or.inl ⟨by rfl, ?_⟩) hHeld ?_ ?_
           rotate_left
           ·rintro w' ⟨s0, s1, s2, s3, s4, s5, s6, s7, s8, s9, s10, s11, s12, s13, s14⟩
            go_simp
            with_reducible rfl
           rotate_left
           ·simp only [Act.put, List.setIfInBounds_toArray, List.set_cons_zero, List.set_cons_succ, i64_w, i32_w]
            rfl
           refine pure_ (i := 14) (N := some 30) (v := ?_) (a' := ?_) #[true, true, true, true, true, true, true, true, true, true, true, true, true, true, true, false, false, false, false, false, false, false, false, false, false, false, false, false] rfl rfl (any_of HT_.out (by kernel_rfl)) (fun _ _ _ h => h) (Or.inl ⟨by rfl, ?_⟩) ?_ ?_
           rotate_left
           ·intro w'
            go_simp
            with_reducible rfl
           rotate_left
           ·simp only [Act.put, List.setIfInBounds_toArray, List.set_cons_zero, List.set_cons_succ, i64_w, i32_w]
            rfl
           refine pure_ (i := 15) (N := some 31) (v := ?_) (a' := ?_) #[true, true, true, true, true, true, true, true, true, true, true, true, true, true, true, true, false, false, false, false, false, false, false, false, false, false, false, false] rfl rfl (any_of HT_.out (by kernel_rfl)) (fun _ _ _ h => h) (Or.inl ⟨by rfl, ?_⟩) ?_ ?_
           rotate_left
           ·intro w'
            go_simp
            with_reducible rfl
           rotate_left
           ·simp only [Act.put, List.setIfInBounds_toArray, List.set_cons_zero, List.set_cons_succ, i64_w, i32_w]
            rfl
           refine pure_ (i := 16) (N := some 32) (v := ?_) (a' := ?_) #[true, true, true, true, true, true, true, true, true, true, true, true, true, true, true, true, true, false, false, false, false, false, false, false, false, false, false, false] rfl rfl (any_of HT_.out (by kernel_rfl)) (fun _ _ _ h => h) (Or.inl ⟨by rfl, ?_⟩) ?_ ?_
           rotate_left
           ·intro w'
            go_simp
            with_reducible rfl
           rotate_left
           ·simp only [Act.put, List.setIfInBounds_toArray, List.set_cons_zero, List.set_cons_succ, i64_w, i32_w]
            rfl
           refine pure_ (i := 17) (N := some 33) (v := ?_) (a' := ?_) #[true, true, true, true, true, true, true, true, true, true, true, true, true, true, true, true, true, true, false, false, false, false, false, false, false, false, false, false] rfl rfl (any_of HT_.out (by kernel_rfl)) (fun _ _ _ h => h) (Or.inl ⟨by rfl, ?_⟩) ?_ ?_
           rotate_left
           ·intro w'
            go_simp
            with_reducible rfl
           rotate_left
           ·simp only [Act.put, List.setIfInBounds_toArray, List.set_cons_zero, List.set_cons_succ, i64_w, i32_w]
            rfl
           refine pure_ (i := 18) (N := some 34) (v := ?_) (a' := ?_) #[true, true, true, true, true, true, true, true, true, true, true, true, true, true, true, true, true, true, true, false, false, false, false, false, false, false, false, false] rfl rfl (any_of HT_.out (by kernel_rfl)) (fun _ _ _ h => h) (Or.inl ⟨by rfl, ?_⟩) ?_ ?_
           rotate_left
           ·intro w'
            go_simp
            with_reducible rfl
           rotate_left
           ·simp only [Act.put, List.setIfInBounds_toArray, List.set_cons_zero, List.set_cons_succ, i64_w, i32_w]
            rfl
           refine pure_ (i := 19) (N := some 35) (v := ?_) (a' := ?_) #[true, true, true, true, true, true, true, true, true, true, true, true, true, true, true, true, true, true, true, true, false, false, false, false, false, false, false, false] rfl rfl (any_of HT_.out (by kernel_rfl)) (fun _ _ _ h => h) (Or.inl ⟨by rfl, ?_⟩) ?_ ?_
           rotate_left
           ·intro w'
            go_simp
            with_reducible rfl
           rotate_left
           ·simp only [Act.put, List.setIfInBounds_toArray, List.set_cons_zero, List.set_cons_succ, i64_w, i32_w]
            rfl
           refine pure_ (i := 20) (N := some 36) (v := ?_) (a' := ?_) #[true, true, true, true, true, true, true, true, true, true, true, true, true, true, true, true, true, true, true, true, true, false, false, false, false, false, false, false] rfl rfl (any_of HT_.out (by kernel_rfl)) (fun _ _ _ h => h) (Or.inl ⟨by rfl, ?_⟩) ?_ ?_
           rotate_left
           ·intro w'
            go_simp
            with_reducible rfl
           rotate_left
           ·simp only [Act.put, List.setIfInBounds_toArray, List.set_cons_zero, List.set_cons_succ, i64_w, i32_w]
            rfl
           refine pure_ (i := 21) (N := some 37) (v := ?_) (a' := ?_) #[true, true, true, true, true, true, true, true, true, true, true, true, true, true, true, true, true, true, true, true, true, true, false, false, false, false, false, false] rfl rfl (any_of HT_.out (by kernel_rfl)) (fun _ _ _ h => h) (Or.inl ⟨by rfl, ?_⟩) ?_ ?_
           rotate_left
           ·intro w'
            go_simp
            with_reducible rfl
           rotate_left
           ·simp only [Act.put, List.setIfInBounds_toArray, List.set_cons_zero, List.set_cons_succ, i64_w, i32_w]
            rfl
           refine pure_ (i := 22) (N := some 38) (v := ?_) (a' := ?_) #[true, true, true, true, true, true, true, true, true, true, true, true, true, true, true, true, true, true, true, true, true, true, true, false, false, false, false, false] rfl rfl (any_of HT_.out (by kernel_rfl)) (fun _ _ _ h => h) (Or.inl ⟨by rfl, ?_⟩) ?_ ?_
           rotate_left
           ·intro w'
            go_simp
            with_reducible rfl
           rotate_left
           ·simp only [Act.put, List.setIfInBounds_toArray, List.set_cons_zero, List.set_cons_succ, i64_w, i32_w]
            rfl
           refine pure_ (i := 23) (N := some 39) (v := ?_) (a' := ?_) #[true, true, true, true, true, true, true, true, true, true, true, true, true, true, true, true, true, true, true, true, true, true, true, true, false, false, false, false] rfl rfl (any_of HT_.out (by kernel_rfl)) (fun _ _ _ h => h) (Or.inl ⟨by rfl, ?_⟩) ?_ ?_
           rotate_left
           ·intro w'
            go_simp
            with_reducible rfl
           rotate_left
           ·simp only [Act.put, List.setIfInBounds_toArray, List.set_cons_zero, List.set_cons_succ, i64_w, i32_w]
            rfl
           refine take_ (i := 24) (N := some 40) (v := ?_) (a' := ?_) #[true, true, true, true, true, true, true, true, true, true, true, true, true, true, true, true, true, true, true, true, true, true, true, true, true, false, false, false] rfl rfl (take_ofW HT_.out HW_.out (by kernel_rfl)) (fun _ _ _ h => h) (Or.inl ⟨by rfl, ?_⟩) hHeld ?_ ?_
           rotate_left
           ·rintro w' ⟨s0, s1, s2, s3, s4, s5, s6, s7, s8, s9, s10, s11, s12, s13, s14⟩
            go_simp
            with_reducible rfl
           rotate_left
           ·simp only [Act.put, List.setIfInBounds_toArray, List.set_cons_zero, List.set_cons_succ, i64_w, i32_w]
            rfl
           refine one_ (i := 25) (N := some 41) #[true, true, true, true, true, true, true, true, true, true, true, true, true, true, true, true, true, true, true, true, true, true, true, true, true, true, false, false] rfl rfl (one_of HT_.out (by kernel_rfl)) (by decide) (fun K hK => ?_)
           refine goes_ Try.func35 (by kernel_rfl) rfl #[.slice (some ad101) y104.length c0, .string ((rd_T33 l0 x3_1).f0)] (by rfl) rfl rfl (by (try simp only [List.map_toArray, List.map_cons, List.map_nil]); first | done | rfl | (simp only [List.length_drop, List.length_take]; rfl)) ?_
           with_reducible refine (spec_l09Find.calls k1 _ _ y104 ((rd_T33 l0 x3_1).f0) t109 _ ?side1 ?side2 A11.out).mono ?_
           (case side1 => repeat (first | exact (Kd.C_below HR107.out HB.out) | (with_reducible refine Kd.C_alloc ?_ _) | (with_reducible refine Kd.C_drewN ?_ _) | (with_reducible refine Kd.C_drew ?_)))
           (case side2 => exact HC107.out)
           rintro e w' ⟨rfl, ⟨nd, rfl⟩⟩
           refine ⟨_, rfl, ?_⟩
           refine hK.out _ _ ⟨((HB.out.cell (qL_ w _ hw101_0)).trans hw101_0), ((HB.out.cell (qL_ w _ hw101_1)).trans hw101_1), ((HB.out.cell (qL_ w _ hw101_2)).trans hw101_2), ((HB.out.cell (qL_ w _ hw101_3)).trans hw101_3), ((HB.out.cell (qL_ w _ hw101_4)).trans hw101_4), ((HB.out.cell (qL_ w _ hw103_0)).trans hw103_0), ((HB.out.cell (qL_ w _ hw103_1)).trans hw103_1), ((HB.out.cell (qL_ w _ hw103_2)).trans hw103_2), ((HB.out.cell (qL_ w _ hw103_3)).trans hw103_3), ((HB.out.cell (qL_ w _ hw103_4)).trans hw103_4), ((HB.out.cell (qL_ w _ hw108_0)).trans hw108_0), ((HB.out.cell (qL_ w _ hw108_1)).trans hw108_1), ((HB.out.cell (qL_ w _ hw108_2)).trans hw108_2), ((HB.out.cell (qL_ w _ hw108_3)).trans hw108_3), ((HB.out.cell (qL_ w _ hw108_4)).trans hw108_4)⟩ (fun hHeld => ?_)
           clear hK K
           refine norm_ (a' := ?_) ?_ ?_
           rotate_left
           ·show Act.put _ (some 41) _ = _
            simp only [Act.put, List.setIfInBounds_toArray, List.set_cons_zero, List.set_cons_succ, i64_w, i32_w]
            rfl
           refine pure_ (i := 26) (N := some 42) (v := ?_) (a' := ?_) #[true, true, true, true, true, true, true, true, true, true, true, true, true, true, true, true, true, true, true, true, true, true, true, true, true, true, true, false] rfl rfl (any_of HT_.out (by kernel_rfl)) (fun _ _ _ h => h) (Or.inl ⟨by rfl, ?_⟩) ?_ ?_
           rotate_left
           ·intro w'
            go_simp
            with_reducible rfl
           rotate_left
           ·simp only [Act.put, List.setIfInBounds_toArray, List.set_cons_zero, List.set_cons_succ, i64_w, i32_w]
            rfl
           refine pure_ (i := 27) (N := some 43) (v := ?_) (a' := ?_) #[true, true, true, true, true, true, true, true, true, true, true, true, true, true, true, true, true, true, true, true, true, true, true, true, true, true, true, true] rfl rfl (any_of HT_.out (by kernel_rfl)) (fun _ _ _ h => h) (Or.inl ⟨by rfl, ?_⟩) ?_ ?_
           rotate_left
           ·intro w'
            go_simp
            with_reducible rfl
           rotate_left
           ·simp only [Act.put, List.setIfInBounds_toArray, List.set_cons_zero, List.set_cons_succ, i64_w, i32_w]
            rfl
           refine done_ (done_of HT_.out (by kernel_rfl)) ?_
           try go_wp2
           go_roundg k1
           case measure => have := HK1.out; omega
           case rel => exact ⟨(wrap64 (x3_1 + 1)), (by first | rfl | (simp; done) | (simp [*]; done)), H', ⟨by have := HK1.out; omega⟩, ⟨by repeat (first | (with_reducible first | exact HB.out | apply qA_ | apply qD_ | apply qE_) | exact HB.out)⟩⟩
         ·rw [if_neg c10] at H
          exact absurd H (by simp)
        ·rw [if_neg c8] at H
         have c8b0 : (((rd_T33 l0 x3_1).f1) == (wrap64 (x3_1 + 1))) = false := beq_eq_false_iff_ne.mpr c8
         have c8b1 : (((rd_T33 l0 x3_1).f1) != (wrap64 (x3_1 + 1))) = true := bne_iff_ne.mpr c8
         obtain rfl := Option.some.inj H
         try go_wp2
         have n0_ := qM_ (qE_ HB.out)
         clear HB
         have HB := n0_
         clear n0_
         have p101 : 0 ≤ (x3_1 : Int) := qT_ (by first | (with_reducible assumption) | assumption)
         have q101 : x3_1 < (l0.length : Int) := qT_ (by first | (with_reducible assumption) | assumption)
         obtain ⟨ad101, A101_3, c101_3, A101_4, c101_4, e101, hx101_0, hx101_1, hx101_2, hx101_3, hx101_4, hl101_3, hi101_3, hl101_4, hi101_4⟩ := at_T33 HR0.out x3_1 p101 q101
         have hw101_4 := hx101_4
         have hw101_3 := hx101_3
         have hw101_2 := hx101_2
         have hw101_1 := hx101_1
         have hw101_0 := hx101_0
         cases e101
         replace hx101_0 := (HB.out.cell (qL_ w _ hx101_0)).trans hx101_0
         replace hx101_1 := (HB.out.cell (qL_ w _ hx101_1)).trans hx101_1
         replace hx101_2 := (HB.out.cell (qL_ w _ hx101_2)).trans hx101_2
         replace hx101_3 := (HB.out.cell (qL_ w _ hx101_3)).trans hx101_3
         replace hx101_4 := (HB.out.cell (qL_ w _ hx101_4)).trans hx101_4
         have HR101_3 := qM_ hi101_3
         have HC101_3 := qM_ hl101_3
         clear hi101_3 hl101_3
         have HR101_4 := qM_ hi101_4
         have HC101_4 := qM_ hl101_4
         clear hi101_4 hl101_4
         replace p101 := eq_true p101
         replace q101 := eq_true q101
         have p103 : 0 ≤ (x3_1 : Int) := qT_ (by first | (with_reducible assumption) | assumption)
         have q103 : x3_1 < (l0.length : Int) := qT_ (by first | (with_reducible assumption) | assumption)
         obtain ⟨ad103, A103_3, c103_3, A103_4, c103_4, e103, hx103_0, hx103_1, hx103_2, hx103_3, hx103_4, hl103_3, hi103_3, hl103_4, hi103_4⟩ := at_T33 HR0.out x3_1 p103 q103
         have hw103_4 := hx103_4
         have hw103_3 := hx103_3
         have hw103_2 := hx103_2
         have hw103_1 := hx103_1
         have hw103_0 := hx103_0
         obtain rfl : ad101 = ad103 := (by injection e103)
         replace hx103_0 := (HB.out.cell (qL_ w _ hx103_0)).trans hx103_0
         replace hx103_1 := (HB.out.cell (qL_ w _ hx103_1)).trans hx103_1
         replace hx103_2 := (HB.out.cell (qL_ w _ hx103_2)).trans hx103_2
         replace hx103_3 := (HB.out.cell (qL_ w _ hx103_3)).trans hx103_3
         replace hx103_4 := (HB.out.cell (qL_ w _ hx103_4)).trans hx103_4
         have HR103_3 := qM_ hi103_3
         have HC103_3 := qM_ hl103_3
         clear hi103_3 hl103_3
         have HR103_4 := qM_ hi103_4
         have HC103_4 := qM_ hl103_4
         clear hi103_4 hl103_4
         replace p103 := eq_true p103
         replace q103 := eq_true q103
         refine start_ (n := 28) (S := fun w' => w'.cell? (ad101.add ((x3_1).toNat * 5)) = some (.string ((rd_T33 l0 x3_1).f0)) ∧ w'.cell? ⟨(ad101.add ((x3_1).toNat * 5)).block, (ad101.add ((x3_1).toNat * 5)).off + 1, none⟩ = some (.int .i64 ((rd_T33 l0 x3_1).f1)) ∧ w'.cell? ⟨(ad101.add ((x3_1).toNat * 5)).block, (ad101.add ((x3_1).toNat * 5)).off + 2, none⟩ = some (.int .i64 ((rd_T33 l0 x3_1).f2)) ∧ w'.cell? ⟨(ad101.add ((x3_1).toNat * 5)).block, (ad101.add ((x3_1).toNat * 5)).off + 3, none⟩ = some (.slice A101_3 ((rd_T33 l0 x3_1).f3).length c101_3) ∧ w'.cell? ⟨(ad101.add ((x3_1).toNat * 5)).block, (ad101.add ((x3_1).toNat * 5)).off + 4, none⟩ = some (.slice A101_4 ((rd_T33 l0 x3_1).f4).length c101_4) ∧ w'.cell? (ad101.add ((x3_1).toNat * 5)) = some (.string ((rd_T33 l0 x3_1).f0)) ∧ w'.cell? ⟨(ad101.add ((x3_1).toNat * 5)).block, (ad101.add ((x3_1).toNat * 5)).off + 1, none⟩ = some (.int .i64 ((rd_T33 l0 x3_1).f1)) ∧ w'.cell? ⟨(ad101.add ((x3_1).toNat * 5)).block, (ad101.add ((x3_1).toNat * 5)).off + 2, none⟩ = some (.int .i64 ((rd_T33 l0 x3_1).f2)) ∧ w'.cell? ⟨(ad101.add ((x3_1).toNat * 5)).block, (ad101.add ((x3_1).toNat * 5)).off + 3, none⟩ = some (.slice A103_3 ((rd_T33 l0 x3_1).f3).length c103_3) ∧ w'.cell? ⟨(ad101.add ((x3_1).toNat * 5)).block, (ad101.add ((x3_1).toNat * 5)).off + 4, none⟩ = some (.slice A103_4 ((rd_T33 l0 x3_1).f4).length c103_4)) (ds := []) #[false, false, false, false, false, false, false, false, false, false, false, false, false, false, false, false, false, false, false, false, false, false, false, false, false, false, false, false] (by kernel_rfl) rfl rfl ⟨((HB.out.cell (qL_ w _ hw101_0)).trans hw101_0), ((HB.out.cell (qL_ w _ hw101_1)).trans hw101_1), ((HB.out.cell (qL_ w _ hw101_2)).trans hw101_2), ((HB.out.cell (qL_ w _ hw101_3)).trans hw101_3), ((HB.out.cell (qL_ w _ hw101_4)).trans hw101_4), ((HB.out.cell (qL_ w _ hw103_0)).trans hw103_0), ((HB.out.cell (qL_ w _ hw103_1)).trans hw103_1), ((HB.out.cell (qL_ w _ hw103_2)).trans hw103_2), ((HB.out.cell (qL_ w _ hw103_3)).trans hw103_3), ((HB.out.cell (qL_ w _ hw103_4)).trans hw103_4)⟩ (fun hHeld => ?_); refine with_tabW spec_StoreOK.tab8 spec_StoreOK.bits8 (fun HT_ HW_ => ?_)
         generalize wr.drew = w19 at HB HR101_3 HR101_4 HR103_3 HR103_4 hx101_0 hx101_1 hx101_2 hx101_3 hx101_4 hx103_0 hx103_1 hx103_2 hx103_3 hx103_4 hHeld ⊢
         refine pure_ (i := 0) (N := some 16) (v := ?_) (a' := ?_) #[true, false, false, false, false, false, false, false, false, false, false, false, false, false, false, false, false, false, false, false, false, false, false, false, false, false, false, false] rfl rfl (any_of HT_.out (by kernel_rfl)) (fun _ _ _ h => h) (Or.inl ⟨by rfl, ?_⟩) ?_ ?_
         rotate_left
         ·intro w'
          go_simp
          with_reducible rfl
         rotate_left
         ·simp only [Act.put, List.setIfInBounds_toArray, List.set_cons_zero, List.set_cons_succ, i64_w, i32_w]
          rfl
         refine pure_ (i := 1) (N := some 17) (v := ?_) (a' := ?_) #[true, true, false, false, false, false, false, false, false, false, false, false, false, false, false, false, false, false, false, false, false, false, false, false, false, false, false, false] rfl rfl (any_of HT_.out (by kernel_rfl)) (fun _ _ _ h => h) (Or.inl ⟨by rfl, ?_⟩) ?_ ?_
         rotate_left
         ·intro w'
          go_simp
          with_reducible rfl
         rotate_left
         ·simp only [Act.put, List.setIfInBounds_toArray, List.set_cons_zero, List.set_cons_succ, i64_w, i32_w]
          rfl
         refine pure_ (i := 2) (N := some 18) (v := ?_) (a' := ?_) #[true, true, true, false, false, false, false, false, false, false, false, false, false, false, false, false, false, false, false, false, false, false, false, false, false, false, false, false] rfl rfl (any_of HT_.out (by kernel_rfl)) (fun _ _ _ h => h) (Or.inl ⟨by rfl, ?_⟩) ?_ ?_
         rotate_left
         ·intro w'
          go_simp
          with_reducible rfl
         rotate_left
         ·simp only [Act.put, List.setIfInBounds_toArray, List.set_cons_zero, List.set_cons_succ, i64_w, i32_w]
          rfl
         refine take_ (i := 3) (N := some 19) (v := ?_) (a' := ?_) #[true, true, true, true, false, false, false, false, false, false, false, false, false, false, false, false, false, false, false, false, false, false, false, false, false, false, false, false] rfl rfl (take_ofW HT_.out HW_.out (by kernel_rfl)) (fun _ _ _ h => h) (Or.inl ⟨by rfl, ?_⟩) hHeld ?_ ?_
         rotate_left
         ·rintro w' ⟨s0, s1, s2, s3, s4, s5, s6, s7, s8, s9⟩
          go_simp
          with_reducible rfl
         rotate_left
         ·simp only [Act.put, List.setIfInBounds_toArray, List.set_cons_zero, List.set_cons_succ, i64_w, i32_w]
          rfl
         refine one_ (i := 4) (N := some 20) #[true, true, true, true, true, false, false, false, false, false, false, false, false, false, false, false, false, false, false, false, false, false, false, false, false, false, false, false] rfl rfl (one_of HT_.out (by kernel_rfl)) (by decide) (fun K hK => ?_)
         refine goes_ Try.func27 (by kernel_rfl) rfl #[.agg #[.string ((rd_T33 l0 x3_1).f0), .int .i64 ((rd_T33 l0 x3_1).f1), .int .i64 ((rd_T33 l0 x3_1).f2), .slice A101_3 ((rd_T33 l0 x3_1).f3).length c101_3, .slice A101_4 ((rd_T33 l0 x3_1).f4).length c101_4]] (by rfl) rfl rfl (by (try simp only [List.map_toArray, List.map_cons, List.map_nil]); first | done | rfl | (simp only [List.length_drop, List.length_take]; rfl)) ?_
         with_reducible refine (spec_BoxOK.calls k1 ((rd_T33 l0 x3_1).f0) ((rd_T33 l0 x3_1).f1) ((rd_T33 l0 x3_1).f2) _ _ ((rd_T33 l0 x3_1).f3) _ _ ((rd_T33 l0 x3_1).f4) true _ ?side1 ?side2 ?side3 ?side4 A6.out).mono ?_
         (case side1 => repeat (first | exact (Kd.C_below HR101_3.out HB.out) | (with_reducible refine Kd.C_alloc ?_ _) | (with_reducible refine Kd.C_drewN ?_ _) | (with_reducible refine Kd.C_drew ?_)))
         (case side2 => exact HC101_3.out)
         (case side3 => repeat (first | exact (Kd.C_below HR101_4.out HB.out) | (with_reducible refine Kd.C_alloc ?_ _) | (with_reducible refine Kd.C_drewN ?_ _) | (with_reducible refine Kd.C_drew ?_)))
         (case side4 => exact HC101_4.out)
         rintro e w20 ⟨rfl, hb⟩
         refine ⟨_, rfl, ?_⟩
         have n0_ := qM_ (below_step (by repeat (first | (with_reducible first | exact HB.out | apply qA_ | apply qD_ | apply qE_) | exact HB.out)) hb)
         clear HB
         have HB := n0_
         clear n0_
         (try clear hb)
         (try clear hb2)
         (try clear hk)
         (try clear hi)
         refine hK.out _ _ ⟨((HB.out.cell (qL_ w _ hw101_0)).trans hw101_0), ((HB.out.cell (qL_ w _ hw101_1)).trans hw101_1), ((HB.out.cell (qL_ w _ hw101_2)).trans hw101_2), ((HB.out.cell (qL_ w _ hw101_3)).trans hw101_3), ((HB.out.cell (qL_ w _ hw101_4)).trans hw101_4), ((HB.out.cell (qL_ w _ hw103_0)).trans hw103_0), ((HB.out.cell (qL_ w _ hw103_1)).trans hw103_1), ((HB.out.cell (qL_ w _ hw103_2)).trans hw103_2), ((HB.out.cell (qL_ w _ hw103_3)).trans hw103_3), ((HB.out.cell (qL_ w _ hw103_4)).trans hw103_4)⟩ (fun hHeld => ?_)
         clear hK K
         refine norm_ (a' := ?_) ?_ ?_
         rotate_left
         ·show Act.put _ (some 20) _ = _
          simp only [Act.put, List.setIfInBounds_toArray, List.set_cons_zero, List.set_cons_succ, i64_w, i32_w]
          rfl
         refine pure_ (i := 5) (N := some 21) (v := ?_) (a' := ?_) #[true, true, true, true, true, true, false, false, false, false, false, false, false, false, false, false, false, false, false, false, false, false, false, false, false, false, false, false] rfl rfl (any_of HT_.out (by kernel_rfl)) (fun _ _ _ h => h) (Or.inl ⟨by rfl, ?_⟩) ?_ ?_
         rotate_left
         ·intro w'
          go_simp
          with_reducible rfl
         rotate_left
         ·simp only [Act.put, List.setIfInBounds_toArray, List.set_cons_zero, List.set_cons_succ, i64_w, i32_w]
          rfl
         refine pure_ (i := 6) (N := some 22) (v := ?_) (a' := ?_) #[true, true, true, true, true, true, true, false, false, false, false, false, false, false, false, false, false, false, false, false, false, false, false, false, false, false, false, false] rfl rfl (any_of HT_.out (by kernel_rfl)) (fun _ _ _ h => h) (Or.inl ⟨by rfl, ?_⟩) ?_ ?_
         rotate_left
         ·intro w'
          go_simp
          with_reducible rfl
         rotate_left
         ·simp only [Act.put, List.setIfInBounds_toArray, List.set_cons_zero, List.set_cons_succ, i64_w, i32_w]
          rfl
         refine pure_ (i := 7) (N := some 23) (v := ?_) (a' := ?_) #[true, true, true, true, true, true, true, true, false, false, false, false, false, false, false, false, false, false, false, false, false, false, false, false, false, false, false, false] rfl rfl (any_of HT_.out (by kernel_rfl)) (fun _ _ _ h => h) (Or.inl ⟨by rfl, ?_⟩) ?_ ?_
         rotate_left
         ·intro w'
          go_simp
          with_reducible rfl
         rotate_left
         ·simp only [Act.put, List.setIfInBounds_toArray, List.set_cons_zero, List.set_cons_succ, i64_w, i32_w]
          rfl
         refine pure_ (i := 8) (N := some 24) (v := ?_) (a' := ?_) #[true, true, true, true, true, true, true, true, true, false, false, false, false, false, false, false, false, false, false, false, false, false, false, false, false, false, false, false] rfl rfl (any_of HT_.out (by kernel_rfl)) (fun _ _ _ h => h) (Or.inl ⟨by rfl, ?_⟩) ?_ ?_
         rotate_left
         ·intro w'
          go_simp
          with_reducible rfl
         rotate_left
         ·simp only [Act.put, List.setIfInBounds_toArray, List.set_cons_zero, List.set_cons_succ, i64_w, i32_w]
          rfl
         refine pure_ (i := 9) (N := some 25) (v := ?_) (a' := ?_) #[true, true, true, true, true, true, true, true, true, true, false, false, false, false, false, false, false, false, false, false, false, false, false, false, false, false, false, false] rfl rfl (any_of HT_.out (by kernel_rfl)) (fun _ _ _ h => h) (Or.inl ⟨by rfl, ?_⟩) ?_ ?_
         rotate_left
         ·intro w'
          go_simp
          with_reducible rfl
         rotate_left
         ·simp only [Act.put, List.setIfInBounds_toArray, List.set_cons_zero, List.set_cons_succ, i64_w, i32_w]
          rfl
         refine pure_ (i := 10) (N := some 26) (v := ?_) (a' := ?_) #[true, true, true, true, true, true, true, true, true, true, true, false, false, false, false, false, false, false, false, false, false, false, false, false, false, false, false, false] rfl rfl (any_of HT_.out (by kernel_rfl)) (fun _ _ _ h => h) (Or.inl ⟨by rfl, ?_⟩) ?_ ?_
         rotate_left
         ·intro w'
          go_simp
          with_reducible rfl
         rotate_left
         ·simp only [Act.put, List.setIfInBounds_toArray, List.set_cons_zero, List.set_cons_succ, i64_w, i32_w]
          rfl
         refine pure_ (i := 12) (N := some 28) (v := ?_) (a' := ?_) #[true, true, true, true, true, true, true, true, true, true, true, false, true, false, false, false, false, false, false, false, false, false, false, false, false, false, false, false] rfl rfl (any_of HT_.out (by kernel_rfl)) (fun _ _ _ h => h) (Or.inl ⟨by rfl, ?_⟩) ?_ ?_
         rotate_left
         ·intro w'
          go_simp
          with_reducible rfl
         rotate_left
         ·simp only [Act.put, List.setIfInBounds_toArray, List.set_cons_zero, List.set_cons_succ, i64_w, i32_w]
          rfl
         refine pure_ (i := 13) (N := some 29) (v := ?_) (a' := ?_) #[true, true, true, true, true, true, true, true, true, true, true, false, true, true, false, false, false, false, false, false, false, false, false, false, false, false, false, false] rfl rfl (any_of HT_.out (by kernel_rfl)) (fun _ _ _ h => h) (Or.inl ⟨by rfl, ?_⟩) ?_ ?_
         rotate_left
         ·intro w'
          go_simp
          with_reducible rfl
         rotate_left
         ·simp only [Act.put, List.setIfInBounds_toArray, List.set_cons_zero, List.set_cons_succ, i64_w, i32_w]
          rfl
         refine take_ (i := 11) (N := some 27) (v := ?_) (a' := ?_) #[true, true, true, true, true, true, true, true, true, true, true, true, true, true, false, false, false, false, false, false, false, false, false, false, false, false, false, false] rfl rfl (take_ofW HT_.out HW_.out (by kernel_rfl)) (fun _ _ _ h => h) (Or.inl ⟨by rfl, ?_⟩) hHeld ?_ ?_
         rotate_left
         ·rintro w' ⟨s0, s1, s2, s3, s4, s5, s6, s7, s8, s9⟩
          go_simp
          with_reducible rfl
         rotate_left
         ·simp only [Act.put, List.setIfInBounds_toArray, List.set_cons_zero, List.set_cons_succ, i64_w, i32_w]
          rfl
         refine pure_ (i := 14) (N := some 30) (v := ?_) (a' := ?_) #[true, true, true, true, true, true, true, true, true, true, true, true, true, true, true, false, false, false, false, false, false, false, false, false, false, false, false, false] rfl rfl (any_of HT_.out (by kernel_rfl)) (fun _ _ _ h => h) (Or.inl ⟨by rfl, ?_⟩) ?_ ?_
         rotate_left
         ·intro w'
          go_simp
          with_reducible rfl
         rotate_left
         ·simp only [Act.put, List.setIfInBounds_toArray, List.set_cons_zero, List.set_cons_succ, i64_w, i32_w]
          rfl
         refine pure_ (i := 15) (N := some 31) (v := ?_) (a' := ?_) #[true, true, true, true, true, true, true, true, true, true, true, true, true, true, true, true, false, false, false, false, false, false, false, false, false, false, false, false] rfl rfl (any_of HT_.out (by kernel_rfl)) (fun _ _ _ h => h) (Or.inl ⟨by rfl, ?_⟩) ?_ ?_
         rotate_left
         ·intro w'
          go_simp
          with_reducible rfl
         rotate_left
         ·simp only [Act.put, List.setIfInBounds_toArray, List.set_cons_zero, List.set_cons_succ, i64_w, i32_w]
          rfl
         refine pure_ (i := 16) (N := some 32) (v := ?_) (a' := ?_) #[true, true, true, true, true, true, true, true, true, true, true, true, true, true, true, true, true, false, false, false, false, false, false, false, false, false, false, false] rfl rfl (any_of HT_.out (by kernel_rfl)) (fun _ _ _ h => h) (Or.inl ⟨by rfl, ?_⟩) ?_ ?_
         rotate_left
         ·intro w'
          go_simp
          with_reducible rfl
         rotate_left
         ·simp only [Act.put, List.setIfInBounds_toArray, List.set_cons_zero, List.set_cons_succ, i64_w, i32_w]
          rfl
         refine pure_ (i := 17) (N := some 33) (v := undef) (a' := ?_) #[true, true, true, true, true, true, true, true, true, true, true, true, true, true, true, true, true, true, false, false, false, false, false, false, false, false, false, false] rfl rfl (any_of HT_.out (by kernel_rfl)) (fun _ _ _ h => h) (Or.inr ⟨by rfl, rfl⟩) ?_ ?_
         rotate_left
         ·simp only [Act.put, List.setIfInBounds_toArray, List.set_cons_zero, List.set_cons_succ, i64_w, i32_w]
          rfl
         refine pure_ (i := 18) (N := some 34) (v := undef) (a' := ?_) #[true, true, true, true, true, true, true, true, true, true, true, true, true, true, true, true, true, true, true, false, false, false, false, false, false, false, false, false] rfl rfl (any_of HT_.out (by kernel_rfl)) (fun _ _ _ h => h) (Or.inr ⟨by rfl, rfl⟩) ?_ ?_
         rotate_left
         ·simp only [Act.put, List.setIfInBounds_toArray, List.set_cons_zero, List.set_cons_succ, i64_w, i32_w]
          rfl
         refine pure_ (i := 19) (N := some 35) (v := undef) (a' := ?_) #[true, true, true, true, true, true, true, true, true, true, true, true, true, true, true, true, true, true, true, true, false, false, false, false, false, false, false, false] rfl rfl (any_of HT_.out (by kernel_rfl)) (fun _ _ _ h => h) (Or.inr ⟨by rfl, rfl⟩) ?_ ?_
         rotate_left
         ·simp only [Act.put, List.setIfInBounds_toArray, List.set_cons_zero, List.set_cons_succ, i64_w, i32_w]
          rfl
         refine pure_ (i := 20) (N := some 36) (v := undef) (a' := ?_) #[true, true, true, true, true, true, true, true, true, true, true, true, true, true, true, true, true, true, true, true, true, false, false, false, false, false, false, false] rfl rfl (any_of HT_.out (by kernel_rfl)) (fun _ _ _ h => h) (Or.inr ⟨by rfl, rfl⟩) ?_ ?_
         rotate_left
         ·simp only [Act.put, List.setIfInBounds_toArray, List.set_cons_zero, List.set_cons_succ, i64_w, i32_w]
          rfl
         refine pure_ (i := 21) (N := some 37) (v := undef) (a' := ?_) #[true, true, true, true, true, true, true, true, true, true, true, true, true, true, true, true, true, true, true, true, true, true, false, false, false, false, false, false] rfl rfl (any_of HT_.out (by kernel_rfl)) (fun _ _ _ h => h) (Or.inr ⟨by rfl, rfl⟩) ?_ ?_
         rotate_left
         ·simp only [Act.put, List.setIfInBounds_toArray, List.set_cons_zero, List.set_cons_succ, i64_w, i32_w]
          rfl
         refine pure_ (i := 22) (N := some 38) (v := undef) (a' := ?_) #[true, true, true, true, true, true, true, true, true, true, true, true, true, true, true, true, true, true, true, true, true, true, true, false, false, false, false, false] rfl rfl (any_of HT_.out (by kernel_rfl)) (fun _ _ _ h => h) (Or.inr ⟨by rfl, rfl⟩) ?_ ?_
         rotate_left
         ·simp only [Act.put, List.setIfInBounds_toArray, List.set_cons_zero, List.set_cons_succ, i64_w, i32_w]
          rfl
         refine pure_ (i := 23) (N := some 39) (v := undef) (a' := ?_) #[true, true, true, true, true, true, true, true, true, true, true, true, true, true, true, true, true, true, true, true, true, true, true, true, false, false, false, false] rfl rfl (any_of HT_.out (by kernel_rfl)) (fun _ _ _ h => h) (Or.inr ⟨by rfl, rfl⟩) ?_ ?_
         rotate_left
         ·simp only [Act.put, List.setIfInBounds_toArray, List.set_cons_zero, List.set_cons_succ, i64_w, i32_w]
          rfl
         refine pure_ (i := 24) (N := some 40) (v := undef) (a' := ?_) #[true, true, true, true, true, true, true, true, true, true, true, true, true, true, true, true, true, true, true, true, true, true, true, true, true, false, false, false] rfl rfl (any_of HT_.out (by kernel_rfl)) (fun _ _ _ h => h) (Or.inr ⟨by rfl, rfl⟩) ?_ ?_
         rotate_left
         ·simp only [Act.put, List.setIfInBounds_toArray, List.set_cons_zero, List.set_cons_succ, i64_w, i32_w]
          rfl
         refine pure_ (i := 25) (N := some 41) (v := undef) (a' := ?_) #[true, true, true, true, true, true, true, true, true, true, true, true, true, true, true, true, true, true, true, true, true, true, true, true, true, true, false, false] rfl rfl (any_of HT_.out (by kernel_rfl)) (fun _ _ _ h => h) (Or.inr ⟨by rfl, rfl⟩) ?_ ?_
         rotate_left
         ·simp only [Act.put, List.setIfInBounds_toArray, List.set_cons_zero, List.set_cons_succ, i64_w, i32_w]
          rfl
         refine pure_ (i := 26) (N := some 42) (v := undef) (a' := ?_) #[true, true, true, true, true, true, true, true, true, true, true, true, true, true, true, true, true, true, true, true, true, true, true, true, true, true, true, false] rfl rfl (any_of HT_.out (by kernel_rfl)) (fun _ _ _ h => h) (Or.inr ⟨by rfl, rfl⟩) ?_ ?_
         rotate_left
         ·simp only [Act.put, List.setIfInBounds_toArray, List.set_cons_zero, List.set_cons_succ, i64_w, i32_w]
          rfl
         refine pure_ (i := 27) (N := some 43) (v := ?_) (a' := ?_) #[true, true, true, true, true, true, true, true, true, true, true, true, true, true, true, true, true, true, true, true, true, true, true, true, true, true, true, true] rfl rfl (any_of HT_.out (by kernel_rfl)) (fun _ _ _ h => h) (Or.inl ⟨by rfl, ?_⟩) ?_ ?_
         rotate_left
         ·intro w'
          go_simp
          with_reducible rfl
         rotate_left
         ·simp only [Act.put, List.setIfInBounds_toArray, List.set_cons_zero, List.set_cons_succ, i64_w, i32_w]
          rfl
         refine done_ (done_of HT_.out (by kernel_rfl)) ?_
         try go_wp2
         go_ret
         exact ⟨by first | rfl | (simp [errW_none, errW_some] <;> rfl) | (simp [*, errW_none, errW_some] <;> rfl), by repeat (first | (with_reducible first | exact HB.out | apply qA_ | apply qD_ | apply qE_) | exact HB.out)⟩
       ·replace c7 := Bool.eq_false_iff.mpr c7
        subst c7
        have H1 : (some false) = some r := by rw [if_neg (show ¬ (false = true) by decide)] at H; exact H
        clear H
        have H := H1
        clear H1
        obtain rfl := Option.some.inj H
        try go_wp2
        have n0_ := qM_ (qE_ HB.out)
        clear HB
        have HB := n0_
        clear n0_
        have p101 : 0 ≤ (x3_1 : Int) := qT_ (by first | (with_reducible assumption) | assumption)
        have q101 : x3_1 < (l0.length : Int) := qT_ (by first | (with_reducible assumption) | assumption)
        obtain ⟨ad101, A101_3, c101_3, A101_4, c101_4, e101, hx101_0, hx101_1, hx101_2, hx101_3, hx101_4, hl101_3, hi101_3, hl101_4, hi101_4⟩ := at_T33 HR0.out x3_1 p101 q101
        have hw101_4 := hx101_4
        have hw101_3 := hx101_3
        have hw101_2 := hx101_2
        have hw101_1 := hx101_1
        have hw101_0 := hx101_0
        cases e101
        replace hx101_0 := (HB.out.cell (qL_ w _ hx101_0)).trans hx101_0
        replace hx101_1 := (HB.out.cell (qL_ w _ hx101_1)).trans hx101_1
        replace hx101_2 := (HB.out.cell (qL_ w _ hx101_2)).trans hx101_2
        replace hx101_3 := (HB.out.cell (qL_ w _ hx101_3)).trans hx101_3
        replace hx101_4 := (HB.out.cell (qL_ w _ hx101_4)).trans hx101_4
        have HR101_3 := qM_ hi101_3
        have HC101_3 := qM_ hl101_3
        clear hi101_3 hl101_3
        have HR101_4 := qM_ hi101_4
        have HC101_4 := qM_ hl101_4
        clear hi101_4 hl101_4
        replace p101 := eq_true p101
        replace q101 := eq_true q101
        refine start_ (n := 28) (S := fun w' => w'.cell? (ad101.add ((x3_1).toNat * 5)) = some (.string ((rd_T33 l0 x3_1).f0)) ∧ w'.cell? ⟨(ad101.add ((x3_1).toNat * 5)).block, (ad101.add ((x3_1).toNat * 5)).off + 1, none⟩ = some (.int .i64 ((rd_T33 l0 x3_1).f1)) ∧ w'.cell? ⟨(ad101.add ((x3_1).toNat * 5)).block, (ad101.add ((x3_1).toNat * 5)).off + 2, none⟩ = some (.int .i64 ((rd_T33 l0 x3_1).f2)) ∧ w'.cell? ⟨(ad101.add ((x3_1).toNat * 5)).block, (ad101.add ((x3_1).toNat * 5)).off + 3, none⟩ = some (.slice A101_3 ((rd_T33 l0 x3_1).f3).length c101_3) ∧ w'.cell? ⟨(ad101.add ((x3_1).toNat * 5)).block, (ad101.add ((x3_1).toNat * 5)).off + 4, none⟩ = some (.slice A101_4 ((rd_T33 l0 x3_1).f4).length c101_4)) (ds := []) #[false, false, false, false, false, false, false, false, false, false, false, false, false, false, false, false, false, false, false, false, false, false, false, false, false, false, false, false] (by kernel_rfl) rfl rfl ⟨((HB.out.cell (qL_ w _ hw101_0)).trans hw101_0), ((HB.out.cell (qL_ w _ hw101_1)).trans hw101_1), ((HB.out.cell (qL_ w _ hw101_2)).trans hw101_2), ((HB.out.cell (qL_ w _ hw101_3)).trans hw101_3), ((HB.out.cell (qL_ w _ hw101_4)).trans hw101_4)⟩ (fun hHeld => ?_); refine with_tabW spec_StoreOK.tab8 spec_StoreOK.bits8 (fun HT_ HW_ => ?_)
        generalize wr.drew = w21 at HB HR101_3 HR101_4 hx101_0 hx101_1 hx101_2 hx101_3 hx101_4 hHeld ⊢
        refine pure_ (i := 0) (N := some 16) (v := ?_) (a' := ?_) #[true, false, false, false, false, false, false, false, false, false, false, false, false, false, false, false, false, false, false, false, false, false, false, false, false, false, false, false] rfl rfl (any_of HT_.out (by kernel_rfl)) (fun _ _ _ h => h) (Or.inl ⟨by rfl, ?_⟩) ?_ ?_
        rotate_left
        ·intro w'
         go_simp
         with_reducible rfl
        rotate_left
        ·simp only [Act.put, List.setIfInBounds_toArray, List.set_cons_zero, List.set_cons_succ, i64_w, i32_w]
         rfl
        refine pure_ (i := 1) (N := some 17) (v := ?_) (a' := ?_) #[true, true, false, false, false, false, false, false, false, false, false, false, false, false, false, false, false, false, false, false, false, false, false, false, false, false, false, false] rfl rfl (any_of HT_.out (by kernel_rfl)) (fun _ _ _ h => h) (Or.inl ⟨by rfl, ?_⟩) ?_ ?_
        rotate_left
        ·intro w'
         go_simp
         with_reducible rfl
        rotate_left
        ·simp only [Act.put, List.setIfInBounds_toArray, List.set_cons_zero, List.set_cons_succ, i64_w, i32_w]
         rfl
        refine pure_ (i := 2) (N := some 18) (v := ?_) (a' := ?_) #[true, true, true, false, false, false, false, false, false, false, false, false, false, false, false, false, false, false, false, false, false, false, false, false, false, false, false, false] rfl rfl (any_of HT_.out (by kernel_rfl)) (fun _ _ _ h => h) (Or.inl ⟨by rfl, ?_⟩) ?_ ?_
        rotate_left
        ·intro w'
         go_simp
         with_reducible rfl
        rotate_left
        ·simp only [Act.put, List.setIfInBounds_toArray, List.set_cons_zero, List.set_cons_succ, i64_w, i32_w]
         rfl
        refine take_ (i := 3) (N := some 19) (v := ?_) (a' := ?_) #[true, true, true, true, false, false, false, false, false, false, false, false, false, false, false, false, false, false, false, false, false, false, false, false, false, false, false, false] rfl rfl (take_ofW HT_.out HW_.out (by kernel_rfl)) (fun _ _ _ h => h) (Or.inl ⟨by rfl, ?_⟩) hHeld ?_ ?_
        rotate_left
        ·rintro w' ⟨s0, s1, s2, s3, s4⟩
         go_simp
         with_reducible rfl
        rotate_left
        ·simp only [Act.put, List.setIfInBounds_toArray, List.set_cons_zero, List.set_cons_succ, i64_w, i32_w]
         rfl
        refine one_ (i := 4) (N := some 20) #[true, true, true, true, true, false, false, false, false, false, false, false, false, false, false, false, false, false, false, false, false, false, false, false, false, false, false, false] rfl rfl (one_of HT_.out (by kernel_rfl)) (by decide) (fun K hK => ?_)
        refine goes_ Try.func27 (by kernel_rfl) rfl #[.agg #[.string ((rd_T33 l0 x3_1).f0), .int .i64 ((rd_T33 l0 x3_1).f1), .int .i64 ((rd_T33 l0 x3_1).f2), .slice A101_3 ((rd_T33 l0 x3_1).f3).length c101_3, .slice A101_4 ((rd_T33 l0 x3_1).f4).length c101_4]] (by rfl) rfl rfl (by (try simp only [List.map_toArray, List.map_cons, List.map_nil]); first | done | rfl | (simp only [List.length_drop, List.length_take]; rfl)) ?_
        with_reducible refine (spec_BoxOK.calls k1 ((rd_T33 l0 x3_1).f0) ((rd_T33 l0 x3_1).f1) ((rd_T33 l0 x3_1).f2) _ _ ((rd_T33 l0 x3_1).f3) _ _ ((rd_T33 l0 x3_1).f4) false _ ?side1 ?side2 ?side3 ?side4 A6.out).mono ?_
        (case side1 => repeat (first | exact (Kd.C_below HR101_3.out HB.out) | (with_reducible refine Kd.C_alloc ?_ _) | (with_reducible refine Kd.C_drewN ?_ _) | (with_reducible refine Kd.C_drew ?_)))
        (case side2 => exact HC101_3.out)
        (case side3 => repeat (first | exact (Kd.C_below HR101_4.out HB.out) | (with_reducible refine Kd.C_alloc ?_ _) | (with_reducible refine Kd.C_drewN ?_ _) | (with_reducible refine Kd.C_drew ?_)))
        (case side4 => exact HC101_4.out)
        rintro e w22 ⟨rfl, hb⟩
        refine ⟨_, rfl, ?_⟩
        have n0_ := qM_ (below_step (by repeat (first | (with_reducible first | exact HB.out | apply qA_ | apply qD_ | apply qE_) | exact HB.out)) hb)
        clear HB
        have HB := n0_
        clear n0_
        (try clear hb)
        (try clear hb2)
        (try clear hk)
        (try clear hi)
        refine hK.out _ _ ⟨((HB.out.cell (qL_ w _ hw101_0)).trans hw101_0), ((HB.out.cell (qL_ w _ hw101_1)).trans hw101_1), ((HB.out.cell (qL_ w _ hw101_2)).trans hw101_2), ((HB.out.cell (qL_ w _ hw101_3)).trans hw101_3), ((HB.out.cell (qL_ w _ hw101_4)).trans hw101_4)⟩ (fun hHeld => ?_)
        clear hK K
        refine norm_ (a' := ?_) ?_ ?_
        rotate_left
        ·show Act.put _ (some 20) _ = _
         simp only [Act.put, List.setIfInBounds_toArray, List.set_cons_zero, List.set_cons_succ, i64_w, i32_w]
         rfl
        refine pure_ (i := 5) (N := some 21) (v := ?_) (a' := ?_) #[true, true, true, true, true, true, false, false, false, false, false, false, false, false, false, false, false, false, false, false, false, false, false, false, false, false, false, false] rfl rfl (any_of HT_.out (by kernel_rfl)) (fun _ _ _ h => h) (Or.inl ⟨by rfl, ?_⟩) ?_ ?_
        rotate_left
        ·intro w'
         go_simp
         with_reducible rfl
        rotate_left
        ·simp only [Act.put, List.setIfInBounds_toArray, List.set_cons_zero, List.set_cons_succ, i64_w, i32_w]
         rfl
        refine pure_ (i := 6) (N := some 22) (v := ?_) (a' := ?_) #[true, true, true, true, true, true, true, false, false, false, false, false, false, false, false, false, false, false, false, false, false, false, false, false, false, false, false, false] rfl rfl (any_of HT_.out (by kernel_rfl)) (fun _ _ _ h => h) (Or.inl ⟨by rfl, ?_⟩) ?_ ?_
        rotate_left
        ·intro w'
         go_simp
         with_reducible rfl
        rotate_left
        ·simp only [Act.put, List.setIfInBounds_toArray, List.set_cons_zero, List.set_cons_succ, i64_w, i32_w]
         rfl
        refine pure_ (i := 7) (N := some 23) (v := undef) (a' := ?_) #[true, true, true, true, true, true, true, true, false, false, false, false, false, false, false, false, false, false, false, false, false, false, false, false, false, false, false, false] rfl rfl (any_of HT_.out (by kernel_rfl)) (fun _ _ _ h => h) (Or.inr ⟨by rfl, rfl⟩) ?_ ?_
        rotate_left
        ·simp only [Act.put, List.setIfInBounds_toArray, List.set_cons_zero, List.set_cons_succ, i64_w, i32_w]
         rfl
        refine pure_ (i := 8) (N := some 24) (v := undef) (a' := ?_) #[true, true, true, true, true, true, true, true, true, false, false, false, false, false, false, false, false, false, false, false, false, false, false, false, false, false, false, false] rfl rfl (any_of HT_.out (by kernel_rfl)) (fun _ _ _ h => h) (Or.inr ⟨by rfl, rfl⟩) ?_ ?_
        rotate_left
        ·simp only [Act.put, List.setIfInBounds_toArray, List.set_cons_zero, List.set_cons_succ, i64_w, i32_w]
         rfl
        refine pure_ (i := 9) (N := some 25) (v := undef) (a' := ?_) #[true, true, true, true, true, true, true, true, true, true, false, false, false, false, false, false, false, false, false, false, false, false, false, false, false, false, false, false] rfl rfl (any_of HT_.out (by kernel_rfl)) (fun _ _ _ h => h) (Or.inr ⟨by rfl, rfl⟩) ?_ ?_
        rotate_left
        ·simp only [Act.put, List.setIfInBounds_toArray, List.set_cons_zero, List.set_cons_succ, i64_w, i32_w]
         rfl
        refine pure_ (i := 10) (N := some 26) (v := undef) (a' := ?_) #[true, true, true, true, true, true, true, true, true, true, true, false, false, false, false, false, false, false, false, false, false, false, false, false, false, false, false, false] rfl rfl (any_of HT_.out (by kernel_rfl)) (fun _ _ _ h => h) (Or.inr ⟨by rfl, rfl⟩) ?_ ?_
        rotate_left
        ·simp only [Act.put, List.setIfInBounds_toArray, List.set_cons_zero, List.set_cons_succ, i64_w, i32_w]
         rfl
        refine pure_ (i := 11) (N := some 27) (v := undef) (a' := ?_) #[true, true, true, true, true, true, true, true, true, true, true, true, false, false, false, false, false, false, false, false, false, false, false, false, false, false, false, false] rfl rfl (any_of HT_.out (by kernel_rfl)) (fun _ _ _ h => h) (Or.inr ⟨by rfl, rfl⟩) ?_ ?_
        rotate_left
        ·simp only [Act.put, List.setIfInBounds_toArray, List.set_cons_zero, List.set_cons_succ, i64_w, i32_w]
         rfl
        refine pure_ (i := 12) (N := some 28) (v := undef) (a' := ?_) #[true, true, true, true, true, true, true, true, true, true, true, true, true, false, false, false, false, false, false, false, false, false, false, false, false, false, false, false] rfl rfl (any_of HT_.out (by kernel_rfl)) (fun _ _ _ h => h) (Or.inr ⟨by rfl, rfl⟩) ?_ ?_
        rotate_left
        ·simp only [Act.put, List.setIfInBounds_toArray, List.set_cons_zero, List.set_cons_succ, i64_w, i32_w]
         rfl
        refine pure_ (i := 13) (N := some 29) (v := undef) (a' := ?_) #[true, true, true, true, true, true, true, true, true, true, true, true, true, true, false, false, false, false, false, false, false, false, false, false, false, false, false, false] rfl rfl (any_of HT_.out (by kernel_rfl)) (fun _ _ _ h => h) (Or.inr ⟨by rfl, rfl⟩) ?_ ?_
        rotate_left
        ·simp only [Act.put, List.setIfInBounds_toArray, List.set_cons_zero, List.set_cons_succ, i64_w, i32_w]
         rfl
        refine pure_ (i := 14) (N := some 30) (v := undef) (a' := ?_) #[true, true, true, true, true, true, true, true, true, true, true, true, true, true, true, false, false, false, false, false, false, false, false, false, false, false, false, false] rfl rfl (any_of HT_.out (by kernel_rfl)) (fun _ _ _ h => h) (Or.inr ⟨by rfl, rfl⟩) ?_ ?_
        rotate_left
        ·simp only [Act.put, List.setIfInBounds_toArray, List.set_cons_zero, List.set_cons_succ, i64_w, i32_w]
         rfl
        refine pure_ (i := 15) (N := some 31) (v := ?_) (a' := ?_) #[true, true, true, true, true, true, true, true, true, true, true, true, true, true, true, true, false, false, false, false, false, false, false, false, false, false, false, false] rfl rfl (any_of HT_.out (by kernel_rfl)) (fun _ _ _ h => h) (Or.inl ⟨by rfl, ?_⟩) ?_ ?_
        rotate_left
        ·intro w'
         go_simp
         with_reducible rfl
        rotate_left
        ·simp only [Act.put, List.setIfInBounds_toArray, List.set_cons_zero, List.set_cons_succ, i64_w, i32_w]
         rfl
        refine pure_ (i := 16) (N := some 32) (v := ?_) (a' := ?_) #[true, true, true, true, true, true, true, true, true, true, true, true, true, true, true, true, true, false, false, false, false, false, false, false, false, false, false, false] rfl rfl (any_of HT_.out (by kernel_rfl)) (fun _ _ _ h => h) (Or.inl ⟨by rfl, ?_⟩) ?_ ?_
        rotate_left
        ·intro w'
         go_simp
         with_reducible rfl
        rotate_left
        ·simp only [Act.put, List.setIfInBounds_toArray, List.set_cons_zero, List.set_cons_succ, i64_w, i32_w]
         rfl
        refine pure_ (i := 17) (N := some 33) (v := undef) (a' := ?_) #[true, true, true, true, true, true, true, true, true, true, true, true, true, true, true, true, true, true, false, false, false, false, false, false, false, false, false, false] rfl rfl (any_of HT_.out (by kernel_rfl)) (fun _ _ _ h => h) (Or.inr ⟨by rfl, rfl⟩) ?_ ?_
        rotate_left
        ·simp only [Act.put, List.setIfInBounds_toArray, List.set_cons_zero, List.set_cons_succ, i64_w, i32_w]
         rfl
        refine pure_ (i := 18) (N := some 34) (v := undef) (a' := ?_) #[true, true, true, true, true, true, true, true, true, true, true, true, true, true, true, true, true, true, true, false, false, false, false, false, false, false, false, false] rfl rfl (any_of HT_.out (by kernel_rfl)) (fun _ _ _ h => h) (Or.inr ⟨by rfl, rfl⟩) ?_ ?_
        rotate_left
        ·simp only [Act.put, List.setIfInBounds_toArray, List.set_cons_zero, List.set_cons_succ, i64_w, i32_w]
         rfl
        refine pure_ (i := 19) (N := some 35) (v := undef) (a' := ?_) #[true, true, true, true, true, true, true, true, true, true, true, true, true, true, true, true, true, true, true, true, false, false, false, false, false, false, false, false] rfl rfl (any_of HT_.out (by kernel_rfl)) (fun _ _ _ h => h) (Or.inr ⟨by rfl, rfl⟩) ?_ ?_
        rotate_left
        ·simp only [Act.put, List.setIfInBounds_toArray, List.set_cons_zero, List.set_cons_succ, i64_w, i32_w]
         rfl
        refine pure_ (i := 20) (N := some 36) (v := undef) (a' := ?_) #[true, true, true, true, true, true, true, true, true, true, true, true, true, true, true, true, true, true, true, true, true, false, false, false, false, false, false, false] rfl rfl (any_of HT_.out (by kernel_rfl)) (fun _ _ _ h => h) (Or.inr ⟨by rfl, rfl⟩) ?_ ?_
        rotate_left
        ·simp only [Act.put, List.setIfInBounds_toArray, List.set_cons_zero, List.set_cons_succ, i64_w, i32_w]
         rfl
        refine pure_ (i := 21) (N := some 37) (v := undef) (a' := ?_) #[true, true, true, true, true, true, true, true, true, true, true, true, true, true, true, true, true, true, true, true, true, true, false, false, false, false, false, false] rfl rfl (any_of HT_.out (by kernel_rfl)) (fun _ _ _ h => h) (Or.inr ⟨by rfl, rfl⟩) ?_ ?_
        rotate_left
        ·simp only [Act.put, List.setIfInBounds_toArray, List.set_cons_zero, List.set_cons_succ, i64_w, i32_w]
         rfl
        refine pure_ (i := 22) (N := some 38) (v := undef) (a' := ?_) #[true, true, true, true, true, true, true, true, true, true, true, true, true, true, true, true, true, true, true, true, true, true, true, false, false, false, false, false] rfl rfl (any_of HT_.out (by kernel_rfl)) (fun _ _ _ h => h) (Or.inr ⟨by rfl, rfl⟩) ?_ ?_
        rotate_left
        ·simp only [Act.put, List.setIfInBounds_toArray, List.set_cons_zero, List.set_cons_succ, i64_w, i32_w]
         rfl
        refine pure_ (i := 23) (N := some 39) (v := undef) (a' := ?_) #[true, true, true, true, true, true, true, true, true, true, true, true, true, true, true, true, true, true, true, true, true, true, true, true, false, false, false, false] rfl rfl (any_of HT_.out (by kernel_rfl)) (fun _ _ _ h => h) (Or.inr ⟨by rfl, rfl⟩) ?_ ?_
        rotate_left
        ·simp only [Act.put, List.setIfInBounds_toArray, List.set_cons_zero, List.set_cons_succ, i64_w, i32_w]
         rfl
        refine pure_ (i := 24) (N := some 40) (v := undef) (a' := ?_) #[true, true, true, true, true, true, true, true, true, true, true, true, true, true, true, true, true, true, true, true, true, true, true, true, true, false, false, false] rfl rfl (any_of HT_.out (by kernel_rfl)) (fun _ _ _ h => h) (Or.inr ⟨by rfl, rfl⟩) ?_ ?_
        rotate_left
        ·simp only [Act.put, List.setIfInBounds_toArray, List.set_cons_zero, List.set_cons_succ, i64_w, i32_w]
         rfl
        refine pure_ (i := 25) (N := some 41) (v := undef) (a' := ?_) #[true, true, true, true, true, true, true, true, true, true, true, true, true, true, true, true, true, true, true, true, true, true, true, true, true, true, false, false] rfl rfl (any_of HT_.out (by kernel_rfl)) (fun _ _ _ h => h) (Or.inr ⟨by rfl, rfl⟩) ?_ ?_
        rotate_left
        ·simp only [Act.put, List.setIfInBounds_toArray, List.set_cons_zero, List.set_cons_succ, i64_w, i32_w]
         rfl
        refine pure_ (i := 26) (N := some 42) (v := undef) (a' := ?_) #[true, true, true, true, true, true, true, true, true, true, true, true, true, true, true, true, true, true, true, true, true, true, true, true, true, true, true, false] rfl rfl (any_of HT_.out (by kernel_rfl)) (fun _ _ _ h => h) (Or.inr ⟨by rfl, rfl⟩) ?_ ?_
        rotate_left
        ·simp only [Act.put, List.setIfInBounds_toArray, List.set_cons_zero, List.set_cons_succ, i64_w, i32_w]
         rfl
        refine pure_ (i := 27) (N := some 43) (v := ?_) (a' := ?_) #[true, true, true, true, true, true, true, true, true, true, true, true, true, true, true, true, true, true, true, true, true, true, true, true, true, true, true, true] rfl rfl (any_of HT_.out (by kernel_rfl)) (fun _ _ _ h => h) (Or.inl ⟨by rfl, ?_⟩) ?_ ?_
        rotate_left
        ·intro w'
         go_simp
         with_reducible rfl
        rotate_left
        ·simp only [Act.put, List.setIfInBounds_toArray, List.set_cons_zero, List.set_cons_succ, i64_w, i32_w]
         rfl
        refine done_ (done_of HT_.out (by kernel_rfl)) ?_
        try go_wp2
        go_ret
        exact ⟨by first | rfl | (simp [errW_none, errW_some] <;> rfl) | (simp [*, errW_none, errW_some] <;> rfl), by repeat (first | (with_reducible first | exact HB.out | apply qA_ | apply qD_ | apply qE_) | exact HB.out)⟩
      ·rw [if_neg c5] at H
       exact absurd H (by simp)
     ·rw [if_neg c4] at H
      have c4b0 : decide (x3_1 < (l0.length : Int)) = false := decide_eq_false c4
      clear c4
      obtain rfl := Option.some.inj H
      go_wp2
      go_ret
      exact ⟨by first | rfl | (simp [errW_none, errW_some] <;> rfl) | (simp [*, errW_none, errW_some] <;> rfl), by repeat (first | (with_reducible first | exact HB.out | apply qA_ | apply qD_ | apply qE_) | exact HB.out)⟩

end Go.Proofs.Ytjaedjcdgeikpaa.P
