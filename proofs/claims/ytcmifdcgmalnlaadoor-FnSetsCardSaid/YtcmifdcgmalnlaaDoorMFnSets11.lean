/- Part 11 of what the law FnSets stands on; the last part ends with the law's row. No condition of mine. -/
import Derived.Test.YtcmifdcgmalnlaaDoorMFnSets1
import Derived.Test.YtcmifdcgmalnlaaDoorMFnSets10
import Derived.Test.YtcmifdcgmalnlaaDoorMFnSets7
import Derived.Test.YtcmifdcgmalnlaaDoorMFnSets2
import Derived.Test.YtcmifdcgmalnlaaDoorMFnSets9
import Derived.Test.YtcmifdcgmalnlaaDoorMFnSets5
namespace Go.Proofs.YtcmifdcgmalnlaaDoor.P
open Go.RowKit Go.Proofs.YtcmifdcgmalnlaaDoorW.PrintWords Go.Proofs.YtcmifdcgmalnlaaDoorW.PrintLast Go.Proofs.YtcmifdcgmalnlaaDoorW.PrintMore
attribute [local go_sem] max2_int min2_int max_two min_two max_three min_three max_four min_four   -- for this text's walks alone
set_option linter.unusedVariables false
set_option linter.unusedSimpArgs false

/-! ### spec_l00Digits: function 92 -/
def spec_l00Digits.f : Nat → Int → Option (ByteArray)
 | 0, _ => none
 | k + 1, a0 => if a0 = (-9223372036854775808) then (some (⟨#[45, 57, 50, 50, 51, 51, 55, 50, 48, 51, 54, 56, 53, 52, 55, 55, 53, 56, 48, 56]⟩ : ByteArray)) else (if a0 < 0 then ((spec_l00Digits.f k (wrap64 (-a0))).bind fun t101 => (if 1 + t101.size ≤ 9223372036854775807 then (some ((⟨#[45]⟩ : ByteArray) ++ t101)) else (none))) else (if a0 < 10 then (some (strOfNums (([(wrap64 (48 + a0)) % 256] : List Int)))) else ((spec_l00Digits.f k (wrap64 (Int.tdiv a0 10))).bind fun t105 => ((some (([(wrap64 (48 + (Int.tmod a0 10))) % 256] : List Int) : List Int)).bind fun y106 => (if t105.size + (strOfNums y106).size ≤ 9223372036854775807 then (some (t105 ++ (strOfNums y106))) else (none))))))
theorem spec_l00Digits.mono_l : ∀ k, (∀ y0, LeO (spec_l00Digits.f k y0) (spec_l00Digits.f (k + 1) y0))
 | 0 => fun _ r h => by simp [spec_l00Digits.f] at h
 | k + 1 => by
  have ih0 := spec_l00Digits.mono_l k
  ·intro y0
   unfold spec_l00Digits.f
   repeat' first
   | (with_reducible exact ih0 _)
   | (with_reducible exact LeO.refl _)
   | (with_reducible exact LeO.none _)
   | (with_reducible refine LeO.ite ?_ ?_)
   | (with_reducible refine LeO.bind ?_ (fun _ => ?_))
   | exact ih0 _
   | exact LeO.none _
   | refine LeO.ite ?_ ?_
   | refine LeO.bind ?_ (fun _ => ?_)
theorem spec_l00Digits.mono : ∀ a0 k, LeO (spec_l00Digits.f k a0) (spec_l00Digits.f (k + 1) a0) := by
 intro a0 k
 have ih0 := spec_l00Digits.mono_l k
 exact ih0 a0
def spec_l00Digits.T7 : Bool × List (List Nat × List Nat) := (true, [([], []), ([0], [0]), ([1], [1]), ([], []), ([3], [3]), ([4], [4]), ([5], [5]), ([6], [6]), ([7], [7]), ([2, 8], [2, 8]), ([9, 2, 0, 1, 2, 3, 4, 5, 6, 7, 8, 9], [9])])
def spec_l00Digits.B7 : List Nat := [0, 1, 3, 0, 8, 24, 56, 120, 248, 511, 1023]
theorem spec_l00Digits.tab7 : rtab .any (opsOf Tryd.f92 7) = spec_l00Digits.T7 := by kernel_rfl
theorem spec_l00Digits.bits7 : waitsOk spec_l00Digits.T7.2 spec_l00Digits.B7 = true := by kernel_rfl
set_option maxHeartbeats 8000000 in
set_option maxRecDepth 100000 in
theorem spec_l00Digits.calls (k : Nat) : ∀ (a0 : Int) (r : ByteArray) (w : World) (h : spec_l00Digits.f k a0 = some r),
  Calls Tryd.prog 92 #[.int .i64 a0] w fun e w' => e = .returned (.string r) ∧ Below w.heap.size w w' := by
 induction k using Nat.strongRecOn with
 | _ k ih =>
 intro a0 r w h
 cases k with
 | zero => exact absurd h (by simp [spec_l00Digits.f])
 | succ k =>
 simp only [spec_l00Digits.f] at h
 have HB := Aside0.mk (Below.refl w.heap.size w)
 have H : (if a0 = (-9223372036854775808) then (some (⟨#[45, 57, 50, 50, 51, 51, 55, 50, 48, 51, 54, 56, 53, 52, 55, 55, 53, 56, 48, 56]⟩ : ByteArray)) else (if a0 < 0 then ((spec_l00Digits.f k (wrap64 (-a0))).bind fun t101 => (if 1 + t101.size ≤ 9223372036854775807 then (some ((⟨#[45]⟩ : ByteArray) ++ t101)) else (none))) else (if a0 < 10 then (some (strOfNums (([(wrap64 (48 + a0)) % 256] : List Int)))) else ((spec_l00Digits.f k (wrap64 (Int.tdiv a0 10))).bind fun t105 => ((some (([(wrap64 (48 + (Int.tmod a0 10))) % 256] : List Int) : List Int)).bind fun y106 => (if t105.size + (strOfNums y106).size ≤ 9223372036854775807 then (some (t105 ++ (strOfNums y106))) else (none))))))) = some r := h
 clear h
 by_cases c2 : a0 = (-9223372036854775808)
 ·rw [if_pos c2] at H
  have c2b0 : (a0 == (-9223372036854775808)) = true := beq_iff_eq.mpr c2
  have c2b1 : (a0 != (-9223372036854775808)) = false := bne_eq_false_iff_eq.mpr c2
  clear c2
  obtain rfl := Option.some.inj H
  go_enter Tryd.func92, Tryd.ntmps92
  go_wp2
  go_ret
  exact ⟨by first | rfl | (simp [errW_none, errW_some] <;> rfl) | (simp [*, errW_none, errW_some] <;> rfl), by repeat (first | (with_reducible first | exact HB.out | apply below_alloc | apply pw_below_drewN | apply below_drew1) | exact HB.out)⟩
 ·rw [if_neg c2] at H
  have c2b0 : (a0 == (-9223372036854775808)) = false := beq_eq_false_iff_ne.mpr c2
  have c2b1 : (a0 != (-9223372036854775808)) = true := bne_iff_ne.mpr c2
  by_cases c3 : a0 < 0
  ·rw [if_pos c3] at H
   have c3b0 : decide (a0 < 0) = true := decide_eq_true c3
   clear c3
   replace H := Option.bind_eq_some_iff.mp H
   obtain ⟨t101, A40, H⟩ := H
   replace H : (if 1 + t101.size ≤ 9223372036854775807 then (some ((⟨#[45]⟩ : ByteArray) ++ t101)) else (none)) = some r := H
   have A4 := Aside0.mk A40
   clear A40
   by_cases c5 : 1 + t101.size ≤ 9223372036854775807
   ·rw [if_pos c5] at H
    have c5b0 := eq_true c5
    have c5b1 : decide (1 + t101.size ≤ 9223372036854775807) = true := decide_eq_true c5
    try have c5b2 : (9223372036854775807 < 1 + t101.size) = False := eq_false (Nat.not_lt.2 c5)
    obtain rfl := Option.some.inj H
    go_enter Tryd.func92, Tryd.ntmps92
    go_wp2_with (first | ((with_reducible refine gate_callee (f := 92) rfl ?_); refine goesL_ (some 9) rfl rfl Tryd.func92 (by kernel_rfl) rfl #[.int .i64 (wrap64 (-a0))] rfl (by (try simp only [List.map_toArray, List.map_cons, List.map_nil]); first | done | rfl | (simp only [List.length_drop, List.length_take]; rfl)) ?_; (with_reducible refine (ih k (by omega) (wrap64 (-a0)) t101 _ A4.out).mono ?_); rintro e w6 ⟨rfl, hb⟩; refine ⟨_, rfl, ?_⟩; have n0_ := Aside0.mk (below_step (by repeat (first | (with_reducible first | exact HB.out | apply below_alloc | apply pw_below_drewN | apply below_drew1) | exact HB.out)) hb); clear HB; have HB := n0_; clear n0_; (try clear hb); (try clear hb2); (try clear hk); (try clear hi)))
    go_ret
    exact ⟨by first | rfl | (simp [errW_none, errW_some] <;> rfl) | (simp [*, errW_none, errW_some] <;> rfl), by repeat (first | (with_reducible first | exact HB.out | apply below_alloc | apply pw_below_drewN | apply below_drew1) | exact HB.out)⟩
   ·rw [if_neg c5] at H
    exact absurd H (by simp)
  ·rw [if_neg c3] at H
   have c3b0 : decide (a0 < 0) = false := decide_eq_false c3
   clear c3
   by_cases c7 : a0 < 10
   ·rw [if_pos c7] at H
    have c7b0 : decide (a0 < 10) = true := decide_eq_true c7
    clear c7
    obtain ⟨y102, hy102⟩ : ∃ y_ : List Int, y_ = (([(wrap64 (48 + a0)) % 256] : List Int)) := ⟨_, rfl⟩
    replace H : (some (strOfNums y102)) = some r := by first | (rw [hy102]; with_reducible exact H) | (have H2_ := (Option.bind_some _ _).symm.trans H; rw [hy102]; with_reducible exact H2_) | (have H2_ := (Option.bind_some _ _).symm.trans H; with_reducible exact H2_) | with_reducible exact H | (rw [hy102]; exact H) | exact H
    have Ny102 := Aside0.mk hy102
    clear hy102
    obtain rfl := Option.some.inj H
    go_enter Tryd.func92, Tryd.ntmps92
    go_wp2_with (first | ((with_reducible refine gate_dst (N := 16) rfl ?_); refine Kd.R_lit (Kd.int .u8) _ 5 ?hg (N := 16) ?hd (xs := ([(wrap64 (48 + a0)) % 256] : List Int)) (inner := [.int .u8 ((wrap64 (48 + a0)) % 256)]) (ok := fun _ => True) (okp := fun _ => True) ?hr ?hp (fun _ hk => hk) trivial (Below.refl _ _) (Nat.le_refl _) (by simp) ?_; (case hd => rfl); (case hg => rfl); (case hr => first | (go_simp; done) | (go_simp; rfl)); (case hp => exact (Reps.one (show Kd.M (Kd.int .u8) _ _ _ ((wrap64 (48 + a0)) % 256) [.int .u8 ((wrap64 (48 + a0)) % 256)] from rfl) (Reps.none _ _))); intro v103 w8 ho9 hb hg_ hnew_; clear hg_ hnew_; (first | rw [← Ny102.out] at ho9 | (simp only [Int.reduceToNat] at ho9; rw [← Ny102.out] at ho9)); have n0_ := Aside0.mk (Kd.R_lower ho9 (below_size (by repeat (first | (with_reducible first | exact HB.out | apply below_alloc | apply pw_below_drewN | apply below_drew1) | exact HB.out)))); have n1_ := Aside0.mk (below_step (by repeat (first | (with_reducible first | exact HB.out | apply below_alloc | apply pw_below_drewN | apply below_drew1) | exact HB.out)) hb); clear HB; have HO104 := n0_; have HB := n1_; clear n0_ n1_; clear hb ho9; have hcv10 := own_string (P := Tryd.prog) Tryd.underlying38 Tryd.underlying5 Tryd.underlying9 (Kd.own_of_R HO104.out)))
    go_ret
    exact ⟨by first | rfl | (simp [errW_none, errW_some] <;> rfl) | (simp [*, errW_none, errW_some] <;> rfl), by repeat (first | (with_reducible first | exact HB.out | apply below_alloc | apply pw_below_drewN | apply below_drew1) | exact HB.out)⟩
   ·rw [if_neg c7] at H
    have c7b0 : decide (a0 < 10) = false := decide_eq_false c7
    clear c7
    replace H := Option.bind_eq_some_iff.mp H
    obtain ⟨t105, A110, H⟩ := H
    replace H : ((some (([(wrap64 (48 + (Int.tmod a0 10))) % 256] : List Int) : List Int)).bind fun y106 => (if t105.size + (strOfNums y106).size ≤ 9223372036854775807 then (some (t105 ++ (strOfNums y106))) else (none))) = some r := H
    have A11 := Aside0.mk A110
    clear A110
    obtain ⟨y106, hy106⟩ : ∃ y_ : List Int, y_ = (([(wrap64 (48 + (Int.tmod a0 10))) % 256] : List Int)) := ⟨_, rfl⟩
    replace H : (if t105.size + (strOfNums y106).size ≤ 9223372036854775807 then (some (t105 ++ (strOfNums y106))) else (none)) = some r := by first | (rw [hy106]; with_reducible exact H) | (have H2_ := (Option.bind_some _ _).symm.trans H; rw [hy106]; with_reducible exact H2_) | (have H2_ := (Option.bind_some _ _).symm.trans H; with_reducible exact H2_) | with_reducible exact H | (rw [hy106]; exact H) | exact H
    have Ny106 := Aside0.mk hy106
    clear hy106
    by_cases c12 : t105.size + (strOfNums y106).size ≤ 9223372036854775807
    ·rw [if_pos c12] at H
     have c12b0 := eq_true c12
     have c12b1 : decide (t105.size + (strOfNums y106).size ≤ 9223372036854775807) = true := decide_eq_true c12
     try have c12b2 : (9223372036854775807 < t105.size + (strOfNums y106).size) = False := eq_false (Nat.not_lt.2 c12)
     obtain rfl := Option.some.inj H
     go_enter Tryd.func92, Tryd.ntmps92
     try go_wp2
     have n0_ := Aside0.mk (below_drew1 HB.out)
     clear HB
     have HB := n0_
     clear n0_
     refine start_ (n := 11) (S := fun w' => True) (ds := []) #[false, false, false, false, false, false, false, false, false, false, false] (by kernel_rfl) rfl rfl trivial (fun hHeld => ?_); refine with_tabW spec_l00Digits.tab7 spec_l00Digits.bits7 (fun HT_ HW_ => ?_)
     generalize w.drew = w13 at HB hHeld ⊢
     refine pure_ (i := 0) (N := some 18) (v := ?_) (a' := ?_) #[true, false, false, false, false, false, false, false, false, false, false] rfl rfl (any_of HT_.out (by kernel_rfl)) (fun _ _ _ h => h) (Or.inl ⟨by rfl, ?_⟩) ?_ ?_
     rotate_left
     ·intro w'
      go_simp
      with_reducible rfl
     rotate_left
     ·simp only [Act.put, List.setIfInBounds_toArray, List.set_cons_zero, List.set_cons_succ, i64_w, i32_w]
      rfl
     refine pure_ (i := 1) (N := some 19) (v := ?_) (a' := ?_) #[true, true, false, false, false, false, false, false, false, false, false] rfl rfl (any_of HT_.out (by kernel_rfl)) (fun _ _ _ h => h) (Or.inl ⟨by rfl, ?_⟩) ?_ ?_
     rotate_left
     ·intro w'
      go_simp
      with_reducible rfl
     rotate_left
     ·simp only [Act.put, List.setIfInBounds_toArray, List.set_cons_zero, List.set_cons_succ, i64_w, i32_w]
      rfl
     refine pure_ (i := 3) (N := some 21) (v := ?_) (a' := ?_) #[true, true, false, true, false, false, false, false, false, false, false] rfl rfl (any_of HT_.out (by kernel_rfl)) (fun _ _ _ h => h) (Or.inl ⟨by rfl, ?_⟩) ?_ ?_
     rotate_left
     ·intro w'
      go_simp
      with_reducible rfl
     rotate_left
     ·simp only [Act.put, List.setIfInBounds_toArray, List.set_cons_zero, List.set_cons_succ, i64_w, i32_w]
      rfl
     refine pure_ (i := 4) (N := some 22) (v := ?_) (a' := ?_) #[true, true, false, true, true, false, false, false, false, false, false] rfl rfl (any_of HT_.out (by kernel_rfl)) (fun _ _ _ h => h) (Or.inl ⟨by rfl, ?_⟩) ?_ ?_
     rotate_left
     ·intro w'
      go_simp
      with_reducible rfl
     rotate_left
     ·simp only [Act.put, List.setIfInBounds_toArray, List.set_cons_zero, List.set_cons_succ, i64_w, i32_w]
      rfl
     refine pure_ (i := 5) (N := some 23) (v := ?_) (a' := ?_) #[true, true, false, true, true, true, false, false, false, false, false] rfl rfl (any_of HT_.out (by kernel_rfl)) (fun _ _ _ h => h) (Or.inl ⟨by rfl, ?_⟩) ?_ ?_
     rotate_left
     ·intro w'
      go_simp
      with_reducible rfl
     rotate_left
     ·simp only [Act.put, List.setIfInBounds_toArray, List.set_cons_zero, List.set_cons_succ, i64_w, i32_w]
      rfl
     refine pure_ (i := 6) (N := some 24) (v := ?_) (a' := ?_) #[true, true, false, true, true, true, true, false, false, false, false] rfl rfl (any_of HT_.out (by kernel_rfl)) (fun _ _ _ h => h) (Or.inl ⟨by rfl, ?_⟩) ?_ ?_
     rotate_left
     ·intro w'
      go_simp
      with_reducible rfl
     rotate_left
     ·simp only [Act.put, List.setIfInBounds_toArray, List.set_cons_zero, List.set_cons_succ, i64_w, i32_w]
      rfl
     refine join_ (σ := Value) 2 #[true, true, true, true, true, true, true, true, true, false, false] (fun s_ => [(20, .string t105), (25, s_), (26, .string (strOfNums y106))]) (fun s_ w' => (Kd.R (Kd.int .u8) 5 w' w.heap.size (fun _ => True) s_ y106) ∧ (Below w.heap.size w w')) ?_ ?_
     rotate_left
     ·intro hCont
      refine two_ (i := 2) (j := 7) (Ni := some 20) (Nj := some 25) #[true, true, true, true, true, true, true, false, false, false, false] #[true, true, false, true, true, true, true, true, false, false, false] rfl rfl rfl rfl (two_of HT_.out (by kernel_rfl)) (by decide) (by decide) (fun K hK => ?_) (fun K hK => ?_)
      ·skip
       refine goes_ Tryd.func92 (by kernel_rfl) rfl #[.int .i64 (wrap64 (Int.tdiv a0 10))] (by rfl) rfl rfl (by (try simp only [List.map_toArray, List.map_cons, List.map_nil]); first | done | rfl | (simp only [List.length_drop, List.length_take]; rfl)) ?_
       with_reducible refine (ih k (by omega) (wrap64 (Int.tdiv a0 10)) t105 _ A11.out).mono ?_
       rintro e w14 ⟨rfl, hb⟩
       refine ⟨_, rfl, ?_⟩
       have n0_ := Aside0.mk (below_step (by repeat (first | (with_reducible first | exact HB.out | apply below_alloc | apply pw_below_drewN | apply below_drew1) | exact HB.out)) hb)
       clear HB
       have HB := n0_
       clear n0_
       (try clear hb)
       (try clear hb2)
       (try clear hk)
       (try clear hi)
       refine hK.out _ _ trivial (fun hHeld => ?_)
       clear hK K
       refine norm_ (a' := ?_) ?_ ?_
       rotate_left
       ·show Act.put _ (some 20) _ = _
        simp only [Act.put, List.setIfInBounds_toArray, List.set_cons_zero, List.set_cons_succ, i64_w, i32_w]
        rfl
       refine one_ (i := 7) (N := some 25) #[true, true, true, true, true, true, true, true, false, false, false] rfl rfl (one_of HT_.out (by kernel_rfl)) (by decide) (fun K hK => ?_)
       refine Kd.R_lit_step (Kd.int .u8) _ 5 ?hg (N := 25) ?hd (xs := ([(wrap64 (48 + (Int.tmod a0 10))) % 256] : List Int)) (inner := [.int .u8 ((wrap64 (48 + (Int.tmod a0 10))) % 256)]) (ok := fun _ => True) (okp := fun _ => True) ?hr ?hp (fun _ hk => hk) trivial (Below.refl _ _) (Nat.le_refl _) (by simp) ?_; (case hd => rfl); (case hg => rfl); (case hr => first | (go_simp; done) | (go_simp; rfl)); (case hp => exact (Reps.one (show Kd.M (Kd.int .u8) _ _ _ ((wrap64 (48 + (Int.tmod a0 10))) % 256) [.int .u8 ((wrap64 (48 + (Int.tmod a0 10))) % 256)] from rfl) (Reps.none _ _)))
       intro v107 w15 ho16 hb hg_ hnew_
       clear hg_ hnew_
       (first | rw [← Ny106.out] at ho16 | (simp only [Int.reduceToNat] at ho16; rw [← Ny106.out] at ho16))
       have n0_ := Aside0.mk (Kd.R_lower ho16 (below_size (by repeat (first | (with_reducible first | exact HB.out | apply below_alloc | apply pw_below_drewN | apply below_drew1) | exact HB.out))))
       have n1_ := Aside0.mk (below_step (by repeat (first | (with_reducible first | exact HB.out | apply below_alloc | apply pw_below_drewN | apply below_drew1) | exact HB.out)) hb)
       clear HB
       have HO108 := n0_
       have HB := n1_
       clear n0_ n1_
       clear hb ho16
       refine hK.out _ _ trivial (fun hHeld => ?_)
       clear hK K
       refine norm_ (a' := ?_) ?_ ?_
       rotate_left
       ·show Act.put _ (some 25) _ = _
        simp only [Act.put, List.setIfInBounds_toArray, List.set_cons_zero, List.set_cons_succ, i64_w, i32_w]
        rfl
       refine one_ (i := 8) (N := some 26) #[true, true, true, true, true, true, true, true, true, false, false] rfl rfl (one_of HT_.out (by kernel_rfl)) (by decide) (fun K hK => ?_)
       have hcv17 := own_string (P := Tryd.prog) Tryd.underlying38 Tryd.underlying5 Tryd.underlying9 (Kd.own_of_R HO108.out)
       refine value_ (w1 := ?_) (v := ?_) (by rfl) rfl ?_ ?_
       rotate_left 2
       ·go_simp
        constructor
        ·rfl
        ·rfl
       clear hcv17
       refine hK.out _ _ trivial (fun hHeld => ?_)
       clear hK K
       refine norm_ (a' := ?_) ?_ ?_
       rotate_left
       ·show Act.put _ (some 26) _ = _
        simp only [Act.put, List.setIfInBounds_toArray, List.set_cons_zero, List.set_cons_succ, i64_w, i32_w]
        rfl
       exact norm_ (by simp only [putAll, Act.put, List.setIfInBounds_toArray, List.set_cons_zero, List.set_cons_succ]) (hCont (v107) _ ⟨(by (with_reducible repeat (first | apply Kd.R_alloc | apply Kd.R_drewN | apply Kd.R_drew)); exact HO108.out), (by repeat (first | (with_reducible first | exact HB.out | apply below_alloc | apply pw_below_drewN | apply below_drew1) | exact HB.out))⟩)
      ·skip
       refine Kd.R_lit_step (Kd.int .u8) _ 5 ?hg (N := 25) ?hd (xs := ([(wrap64 (48 + (Int.tmod a0 10))) % 256] : List Int)) (inner := [.int .u8 ((wrap64 (48 + (Int.tmod a0 10))) % 256)]) (ok := fun _ => True) (okp := fun _ => True) ?hr ?hp (fun _ hk => hk) trivial (Below.refl _ _) (Nat.le_refl _) (by simp) ?_; (case hd => rfl); (case hg => rfl); (case hr => first | (go_simp; done) | (go_simp; rfl)); (case hp => exact (Reps.one (show Kd.M (Kd.int .u8) _ _ _ ((wrap64 (48 + (Int.tmod a0 10))) % 256) [.int .u8 ((wrap64 (48 + (Int.tmod a0 10))) % 256)] from rfl) (Reps.none _ _)))
       intro v107 w14 ho15 hb hg_ hnew_
       clear hg_ hnew_
       (first | rw [← Ny106.out] at ho15 | (simp only [Int.reduceToNat] at ho15; rw [← Ny106.out] at ho15))
       have n0_ := Aside0.mk (Kd.R_lower ho15 (below_size (by repeat (first | (with_reducible first | exact HB.out | apply below_alloc | apply pw_below_drewN | apply below_drew1) | exact HB.out))))
       have n1_ := Aside0.mk (below_step (by repeat (first | (with_reducible first | exact HB.out | apply below_alloc | apply pw_below_drewN | apply below_drew1) | exact HB.out)) hb)
       clear HB
       have HO108 := n0_
       have HB := n1_
       clear n0_ n1_
       clear hb ho15
       refine hK.out _ _ trivial (fun hHeld => ?_)
       clear hK K
       refine norm_ (a' := ?_) ?_ ?_
       rotate_left
       ·show Act.put _ (some 25) _ = _
        simp only [Act.put, List.setIfInBounds_toArray, List.set_cons_zero, List.set_cons_succ, i64_w, i32_w]
        rfl
       refine two_ (i := 2) (j := 8) (Ni := some 20) (Nj := some 26) #[true, true, true, true, true, true, true, true, false, false, false] #[true, true, false, true, true, true, true, true, true, false, false] rfl rfl rfl rfl (two_of HT_.out (by kernel_rfl)) (by decide) (by decide) (fun K hK => ?_) (fun K hK => ?_)
       ·skip
        refine goes_ Tryd.func92 (by kernel_rfl) rfl #[.int .i64 (wrap64 (Int.tdiv a0 10))] (by rfl) rfl rfl (by (try simp only [List.map_toArray, List.map_cons, List.map_nil]); first | done | rfl | (simp only [List.length_drop, List.length_take]; rfl)) ?_
        with_reducible refine (ih k (by omega) (wrap64 (Int.tdiv a0 10)) t105 _ A11.out).mono ?_
        rintro e w16 ⟨rfl, hb⟩
        refine ⟨_, rfl, ?_⟩
        have n0_ := Aside0.mk (Kd.R_below (by (with_reducible repeat (first | apply Kd.R_alloc | apply Kd.R_drewN | apply Kd.R_drew)); exact HO108.out) hb)
        have n1_ := Aside0.mk (below_step (by repeat (first | (with_reducible first | exact HB.out | apply below_alloc | apply pw_below_drewN | apply below_drew1) | exact HB.out)) hb)
        clear HO108
        clear HB
        have HO108 := n0_
        have HB := n1_
        clear n0_ n1_
        (try clear hb)
        (try clear hb2)
        (try clear hk)
        (try clear hi)
        refine hK.out _ _ trivial (fun hHeld => ?_)
        clear hK K
        refine norm_ (a' := ?_) ?_ ?_
        rotate_left
        ·show Act.put _ (some 20) _ = _
         simp only [Act.put, List.setIfInBounds_toArray, List.set_cons_zero, List.set_cons_succ, i64_w, i32_w]
         rfl
        refine one_ (i := 8) (N := some 26) #[true, true, true, true, true, true, true, true, true, false, false] rfl rfl (one_of HT_.out (by kernel_rfl)) (by decide) (fun K hK => ?_)
        have hcv17 := own_string (P := Tryd.prog) Tryd.underlying38 Tryd.underlying5 Tryd.underlying9 (Kd.own_of_R HO108.out)
        refine value_ (w1 := ?_) (v := ?_) (by rfl) rfl ?_ ?_
        rotate_left 2
        ·go_simp
         constructor
         ·rfl
         ·rfl
        clear hcv17
        refine hK.out _ _ trivial (fun hHeld => ?_)
        clear hK K
        refine norm_ (a' := ?_) ?_ ?_
        rotate_left
        ·show Act.put _ (some 26) _ = _
         simp only [Act.put, List.setIfInBounds_toArray, List.set_cons_zero, List.set_cons_succ, i64_w, i32_w]
         rfl
        exact norm_ (by simp only [putAll, Act.put, List.setIfInBounds_toArray, List.set_cons_zero, List.set_cons_succ]) (hCont (v107) _ ⟨(by (with_reducible repeat (first | apply Kd.R_alloc | apply Kd.R_drewN | apply Kd.R_drew)); exact HO108.out), (by repeat (first | (with_reducible first | exact HB.out | apply below_alloc | apply pw_below_drewN | apply below_drew1) | exact HB.out))⟩)
       ·skip
        have hcv16 := own_string (P := Tryd.prog) Tryd.underlying38 Tryd.underlying5 Tryd.underlying9 (Kd.own_of_R HO108.out)
        refine value_ (w1 := ?_) (v := ?_) (by rfl) rfl ?_ ?_
        rotate_left 2
        ·go_simp
         constructor
         ·rfl
         ·rfl
        clear hcv16
        refine hK.out _ _ trivial (fun hHeld => ?_)
        clear hK K
        refine norm_ (a' := ?_) ?_ ?_
        rotate_left
        ·show Act.put _ (some 26) _ = _
         simp only [Act.put, List.setIfInBounds_toArray, List.set_cons_zero, List.set_cons_succ, i64_w, i32_w]
         rfl
        refine one_ (i := 2) (N := some 20) #[true, true, true, true, true, true, true, true, true, false, false] rfl rfl (one_of HT_.out (by kernel_rfl)) (by decide) (fun K hK => ?_)
        refine goes_ Tryd.func92 (by kernel_rfl) rfl #[.int .i64 (wrap64 (Int.tdiv a0 10))] (by rfl) rfl rfl (by (try simp only [List.map_toArray, List.map_cons, List.map_nil]); first | done | rfl | (simp only [List.length_drop, List.length_take]; rfl)) ?_
        with_reducible refine (ih k (by omega) (wrap64 (Int.tdiv a0 10)) t105 _ A11.out).mono ?_
        rintro e w17 ⟨rfl, hb⟩
        refine ⟨_, rfl, ?_⟩
        have n0_ := Aside0.mk (Kd.R_below (by (with_reducible repeat (first | apply Kd.R_alloc | apply Kd.R_drewN | apply Kd.R_drew)); exact HO108.out) hb)
        have n1_ := Aside0.mk (below_step (by repeat (first | (with_reducible first | exact HB.out | apply below_alloc | apply pw_below_drewN | apply below_drew1) | exact HB.out)) hb)
        clear HO108
        clear HB
        have HO108 := n0_
        have HB := n1_
        clear n0_ n1_
        (try clear hb)
        (try clear hb2)
        (try clear hk)
        (try clear hi)
        refine hK.out _ _ trivial (fun hHeld => ?_)
        clear hK K
        refine norm_ (a' := ?_) ?_ ?_
        rotate_left
        ·show Act.put _ (some 20) _ = _
         simp only [Act.put, List.setIfInBounds_toArray, List.set_cons_zero, List.set_cons_succ, i64_w, i32_w]
         rfl
        exact norm_ (by simp only [putAll, Act.put, List.setIfInBounds_toArray, List.set_cons_zero, List.set_cons_succ]) (hCont (v107) _ ⟨(by (with_reducible repeat (first | apply Kd.R_alloc | apply Kd.R_drewN | apply Kd.R_drew)); exact HO108.out), (by repeat (first | (with_reducible first | exact HB.out | apply below_alloc | apply pw_below_drewN | apply below_drew1) | exact HB.out))⟩)
     rintro v107 w18 ⟨h0_, h1_⟩
     have n0_ : Aside0 (Kd.R (Kd.int .u8) 5 w18 w.heap.size (fun _ => True) v107 y106) := ⟨h0_⟩
     have n1_ : Aside0 (Below w.heap.size w w18) := ⟨h1_⟩
     clear HB
     clear h0_ h1_
     have HO108 := n0_
     have HB := n1_
     clear n0_ n1_
     have hHeld := trivial
     refine norm_ (a' := ?_) ?_ ?_
     rotate_left
     ·simp only [putAll, Act.put, List.setIfInBounds_toArray, List.set_cons_zero, List.set_cons_succ]
      rfl
     refine pure_ (i := 9) (N := some 27) (v := ?_) (a' := ?_) #[true, true, true, true, true, true, true, true, true, true, false] rfl rfl (any_of HT_.out (by kernel_rfl)) (fun _ _ _ h => h) (Or.inl ⟨by rfl, ?_⟩) ?_ ?_
     rotate_left
     ·intro w'
      go_simp
      with_reducible rfl
     rotate_left
     ·simp only [Act.put, List.setIfInBounds_toArray, List.set_cons_zero, List.set_cons_succ, i64_w, i32_w]
      rfl
     refine pure_ (i := 10) (N := some 2) (v := ?_) (a' := ?_) #[true, true, true, true, true, true, true, true, true, true, true] rfl rfl (any_of HT_.out (by kernel_rfl)) (fun _ _ _ h => h) (Or.inl ⟨by rfl, ?_⟩) ?_ ?_
     rotate_left
     ·intro w'
      go_simp
      with_reducible rfl
     rotate_left
     ·simp only [Act.put, List.setIfInBounds_toArray, List.set_cons_zero, List.set_cons_succ, i64_w, i32_w]
      rfl
     refine done_ (done_of HT_.out (by kernel_rfl)) ?_
     try go_wp2
     go_ret
     exact ⟨by first | rfl | (simp [errW_none, errW_some] <;> rfl) | (simp [*, errW_none, errW_some] <;> rfl), by repeat (first | (with_reducible first | exact HB.out | apply below_alloc | apply pw_below_drewN | apply below_drew1) | exact HB.out)⟩
    ·rw [if_neg c12] at H
     exact absurd H (by simp)


/-! ### spec_l11Name: function 59 -/
def spec_l11Name.f (k : Nat) (a0 : Int) : Option (ByteArray) := if a0 = 0 then (some (⟨#[42]⟩ : ByteArray)) else ((spec_l00Digits.f k a0).bind fun t101 => (some t101))
theorem spec_l11Name.mono : ∀ a0 k, LeO (spec_l11Name.f k a0) (spec_l11Name.f (k + 1) a0) := by
 intro a0 k
 unfold spec_l11Name.f
 repeat' first
   | (with_reducible exact spec_l00Digits.mono _ _)
   | (with_reducible exact LeO.refl _)
   | (with_reducible exact LeO.none _)
   | (with_reducible refine LeO.ite ?_ ?_)
   | (with_reducible refine LeO.bind ?_ (fun _ => ?_))
   | exact spec_l00Digits.mono _ _
   | exact LeO.none _
   | refine LeO.ite ?_ ?_
   | refine LeO.bind ?_ (fun _ => ?_)
set_option maxHeartbeats 8000000 in
set_option maxRecDepth 100000 in
theorem spec_l11Name.calls (k : Nat) (a0 : Int) (r : ByteArray) (w : World) (h : spec_l11Name.f k a0 = some r) :
  Calls Tryd.prog 59 #[.int .i64 a0] w fun e w' => e = .returned (.string r) ∧ Below w.heap.size w w' := by
 have HB := Aside0.mk (Below.refl w.heap.size w)
 have H : (if a0 = 0 then (some (⟨#[42]⟩ : ByteArray)) else ((spec_l00Digits.f k a0).bind fun t101 => (some t101))) = some r := h
 clear h
 by_cases c2 : a0 = 0
 ·rw [if_pos c2] at H
  have c2b0 : (a0 == 0) = true := beq_iff_eq.mpr c2
  have c2b1 : (a0 != 0) = false := bne_eq_false_iff_eq.mpr c2
  clear c2
  obtain rfl := Option.some.inj H
  go_enter Tryd.func59, Tryd.ntmps59
  go_wp2
  go_ret
  exact ⟨by first | rfl | (simp [errW_none, errW_some] <;> rfl) | (simp [*, errW_none, errW_some] <;> rfl), by repeat (first | (with_reducible first | exact HB.out | apply below_alloc | apply pw_below_drewN | apply below_drew1) | exact HB.out)⟩
 ·rw [if_neg c2] at H
  have c2b0 : (a0 == 0) = false := beq_eq_false_iff_ne.mpr c2
  have c2b1 : (a0 != 0) = true := bne_iff_ne.mpr c2
  replace H := Option.bind_eq_some_iff.mp H
  obtain ⟨t101, A30, H⟩ := H
  replace H : (some t101) = some r := H
  have A3 := Aside0.mk A30
  clear A30
  obtain rfl := Option.some.inj H
  go_enter Tryd.func59, Tryd.ntmps59
  go_wp2_with (first | ((with_reducible refine gate_callee (f := 92) rfl ?_); refine goesL_ (some 6) rfl rfl Tryd.func92 (by kernel_rfl) rfl #[.int .i64 a0] rfl (by (try simp only [List.map_toArray, List.map_cons, List.map_nil]); first | done | rfl | (simp only [List.length_drop, List.length_take]; rfl)) ?_; (with_reducible refine (spec_l00Digits.calls k a0 t101 _ A3.out).mono ?_); rintro e w4 ⟨rfl, hb⟩; refine ⟨_, rfl, ?_⟩; have n0_ := Aside0.mk (below_step (by repeat (first | (with_reducible first | exact HB.out | apply below_alloc | apply pw_below_drewN | apply below_drew1) | exact HB.out)) hb); clear HB; have HB := n0_; clear n0_; (try clear hb); (try clear hb2); (try clear hk); (try clear hi)))
  go_ret
  exact ⟨by first | rfl | (simp [errW_none, errW_some] <;> rfl) | (simp [*, errW_none, errW_some] <;> rfl), by repeat (first | (with_reducible first | exact HB.out | apply below_alloc | apply pw_below_drewN | apply below_drew1) | exact HB.out)⟩


/-! ### spec_SetText: function 21 -/
mutual
def spec_SetText.l0 : Nat → List (S54) → ByteArray → Int → Option (ByteArray × Int)
 | 0, _, _, _ => none
 | k + 1, x0, x4, x5 => if x5 < (x0.length : Int) then (if x5 > 0 then (if x4.size + 1 ≤ 9223372036854775807 then (spec_SetText.j1 k x0 (x4 ++ (⟨#[44]⟩ : ByteArray)) x5) else (none)) else (spec_SetText.j1 k x0 x4 x5)) else (some (x4, 0))
def spec_SetText.j1 : Nat → List (S54) → ByteArray → Int → Option (ByteArray × Int)
 | 0, _, _, _ => none
 | k + 1, x0, x4, x5 => if 0 ≤ x5 then (if x5 < (x0.length : Int) then ((spec_l11Name.f k ((rd_T54 x0 x5).f0)).bind fun t103 => (if x4.size + t103.size ≤ 9223372036854775807 then (if ((rd_T54 x0 x5).f1) = ((rd_T54 x0 x5).f0) then (spec_SetText.l0 k x0 (x4 ++ t103) (wrap64 (x5 + 1))) else ((spec_l11Name.f k ((rd_T54 x0 x5).f1)).bind fun t107 => (if 1 + t107.size ≤ 9223372036854775807 then (if (x4 ++ t103).size + ((⟨#[58]⟩ : ByteArray) ++ t107).size ≤ 9223372036854775807 then (spec_SetText.l0 k x0 ((x4 ++ t103) ++ ((⟨#[58]⟩ : ByteArray) ++ t107)) (wrap64 (x5 + 1))) else (none)) else (none)))) else (none))) else (none)) else (none)
end
def spec_SetText.f (k : Nat) (l0 : List (S54)) : Option (ByteArray × Int) := if (l0.length : Int) > 4096 then (some ((⟨#[]⟩ : ByteArray), 2)) else ((spec_l11SetOK.f k l0).bind fun t101 => (if t101 = true then (spec_SetText.l0 k l0 (⟨#[]⟩ : ByteArray) 0) else (some ((⟨#[]⟩ : ByteArray), 1))))
theorem spec_SetText.mono_l : ∀ k, (∀ y0 y1 y2, LeO (spec_SetText.l0 k y0 y1 y2) (spec_SetText.l0 (k + 1) y0 y1 y2)) ∧ (∀ y0 y1 y2, LeO (spec_SetText.j1 k y0 y1 y2) (spec_SetText.j1 (k + 1) y0 y1 y2))
 | 0 => ⟨fun _ _ _ r h => by simp [spec_SetText.l0] at h, fun _ _ _ r h => by simp [spec_SetText.j1] at h⟩
 | k + 1 => by
  obtain ⟨ih0, ih1⟩ := spec_SetText.mono_l k
  refine ⟨?_, ?_⟩
  ·intro y0 y1 y2
   unfold spec_SetText.l0
   repeat' first
   | (with_reducible exact ih0 _ _ _)
   | (with_reducible exact ih1 _ _ _)
   | (with_reducible exact spec_l11Name.mono _ _)
   | (with_reducible exact spec_l11SetOK.mono _ _)
   | (with_reducible exact LeO.refl _)
   | (with_reducible exact LeO.none _)
   | (with_reducible refine LeO.ite ?_ ?_)
   | (with_reducible refine LeO.bind ?_ (fun _ => ?_))
   | exact ih0 _ _ _
   | exact ih1 _ _ _
   | exact spec_l11Name.mono _ _
   | exact spec_l11SetOK.mono _ _
   | exact LeO.none _
   | refine LeO.ite ?_ ?_
   | refine LeO.bind ?_ (fun _ => ?_)
  ·intro y0 y1 y2
   unfold spec_SetText.j1
   repeat' first
   | (with_reducible exact ih0 _ _ _)
   | (with_reducible exact ih1 _ _ _)
   | (with_reducible exact spec_l11Name.mono _ _)
   | (with_reducible exact spec_l11SetOK.mono _ _)
   | (with_reducible exact LeO.refl _)
   | (with_reducible exact LeO.none _)
   | (with_reducible refine LeO.ite ?_ ?_)
   | (with_reducible refine LeO.bind ?_ (fun _ => ?_))
   | exact ih0 _ _ _
   | exact ih1 _ _ _
   | exact spec_l11Name.mono _ _
   | exact spec_l11SetOK.mono _ _
   | exact LeO.none _
   | refine LeO.ite ?_ ?_
   | refine LeO.bind ?_ (fun _ => ?_)
theorem spec_SetText.mono : ∀ a0 k, LeO (spec_SetText.f k a0) (spec_SetText.f (k + 1) a0) := by
 intro a0 k
 obtain ⟨ih0, ih1⟩ := spec_SetText.mono_l k
 unfold spec_SetText.f
 repeat' first
   | (with_reducible exact ih0 _ _ _)
   | (with_reducible exact ih1 _ _ _)
   | (with_reducible exact spec_l11Name.mono _ _)
   | (with_reducible exact spec_l11SetOK.mono _ _)
   | (with_reducible exact LeO.refl _)
   | (with_reducible exact LeO.none _)
   | (with_reducible refine LeO.ite ?_ ?_)
   | (with_reducible refine LeO.bind ?_ (fun _ => ?_))
   | exact ih0 _ _ _
   | exact ih1 _ _ _
   | exact spec_l11Name.mono _ _
   | exact spec_l11SetOK.mono _ _
   | exact LeO.none _
   | refine LeO.ite ?_ ?_
   | refine LeO.bind ?_ (fun _ => ?_)
set_option maxHeartbeats 8000000 in
set_option maxRecDepth 100000 in
theorem spec_SetText.calls (k : Nat) (A0 : Option Addr) (c0 : Nat) (l0 : List (S54)) (r1 : ByteArray) (r2 : Int) (w : World) (hr0 : Kd.C k54 w A0 l0.length l0) (hc0 : l0.length ≤ c0) (h : spec_SetText.f k l0 = some (r1, r2)) :
  Calls Tryd.prog 21 #[.slice A0 l0.length c0] w fun e w' => e = .returned (.tuple #[.string r1, .int .i64 r2]) ∧ Below w.heap.size w w' := by
 have HR0 := Aside0.mk hr0
 have HC0 := Aside0.mk hc0
 clear hr0 hc0
 have HB := Aside0.mk (Below.refl w.heap.size w)
 have H : (if (l0.length : Int) > 4096 then (some ((⟨#[]⟩ : ByteArray), 2)) else ((spec_l11SetOK.f k l0).bind fun t101 => (if t101 = true then (spec_SetText.l0 k l0 (⟨#[]⟩ : ByteArray) 0) else (some ((⟨#[]⟩ : ByteArray), 1))))) = some (r1, r2) := h
 clear h
 by_cases c2 : (l0.length : Int) > 4096
 ·rw [if_pos c2] at H
  have c2b0 : decide (4096 < (l0.length : Int)) = true := decide_eq_true c2
  have c2b1 : decide (4096 < l0.length) = true := decide_eq_true (by omega)
  clear c2
  simp only [Option.some.injEq, Prod.mk.injEq] at H
  obtain ⟨rfl, rfl⟩ := H
  go_enter Tryd.func21, Tryd.ntmps21
  go_wp2
  repeat (go_quiet (fail); try go_wp2)
  go_ret2
  exact ⟨by first | rfl | (simp [errW_none, errW_some] <;> rfl) | (simp [*, errW_none, errW_some] <;> rfl), by repeat (first | (with_reducible first | exact HB.out | apply below_alloc | apply pw_below_drewN | apply below_drew1) | exact HB.out)⟩
 ·rw [if_neg c2] at H
  have c2b0 : decide (4096 < (l0.length : Int)) = false := decide_eq_false c2
  have c2b1 : decide (4096 < l0.length) = false := decide_eq_false (by omega)
  clear c2
  replace H := Option.bind_eq_some_iff.mp H
  obtain ⟨t101, A30, H⟩ := H
  replace H : (if t101 = true then (spec_SetText.l0 k l0 (⟨#[]⟩ : ByteArray) 0) else (some ((⟨#[]⟩ : ByteArray), 1))) = some (r1, r2) := H
  have A3 := Aside0.mk A30
  clear A30
  by_cases c4 : t101 = true
  ·subst c4
   have H1 : (spec_SetText.l0 k l0 (⟨#[]⟩ : ByteArray) 0) = some (r1, r2) := by rw [if_pos rfl] at H; exact H
   clear H
   have H := H1
   clear H1
   have H' := Aside0.mk H
   clear H
   go_enter Tryd.func21, Tryd.ntmps21
   go_wp2_with (first | (go_at_call 58; (with_reducible refine (spec_l11SetOK.calls k _ _ l0 true _ ?side1 ?side2 A3.out).mono ?_); (case side1 => repeat (first | exact HR0.out | (with_reducible refine Kd.C_alloc ?_ _) | (with_reducible refine Kd.C_drewN ?_ _) | (with_reducible refine Kd.C_drew ?_))); (case side2 => exact HC0.out); rintro e w' ⟨rfl, ⟨nd, rfl⟩⟩; (try first | exact ⟨rfl, _, World.drewN_drewN _ _ _⟩ | exact ⟨rfl, _, Eq.trans (World.drewN_drewN _ _ _) (congrArg (World.drewN _) (Nat.add_assoc _ _ _))⟩)))
   repeat (go_quiet (first | (go_at_call 58; (with_reducible refine (spec_l11SetOK.calls k _ _ l0 true _ ?side1 ?side2 A3.out).mono ?_); (case side1 => repeat (first | exact HR0.out | (with_reducible refine Kd.C_alloc ?_ _) | (with_reducible refine Kd.C_drewN ?_ _) | (with_reducible refine Kd.C_drew ?_))); (case side2 => exact HC0.out); rintro e w' ⟨rfl, ⟨nd, rfl⟩⟩; (try first | exact ⟨rfl, _, World.drewN_drewN _ _ _⟩ | exact ⟨rfl, _, Eq.trans (World.drewN_drewN _ _ _) (congrArg (World.drewN _) (Nat.add_assoc _ _ _))⟩))); try go_wp2_with (first | (go_at_call 58; (with_reducible refine (spec_l11SetOK.calls k _ _ l0 true _ ?side1 ?side2 A3.out).mono ?_); (case side1 => repeat (first | exact HR0.out | (with_reducible refine Kd.C_alloc ?_ _) | (with_reducible refine Kd.C_drewN ?_ _) | (with_reducible refine Kd.C_drew ?_))); (case side2 => exact HC0.out); rintro e w' ⟨rfl, ⟨nd, rfl⟩⟩; (try first | exact ⟨rfl, _, World.drewN_drewN _ _ _⟩ | exact ⟨rfl, _, Eq.trans (World.drewN_drewN _ _ _) (congrArg (World.drewN _) (Nat.add_assoc _ _ _))⟩))))
   go_loopg [4, 5] k (fun kq v4 v5 w' => ∃ (x4_1 : ByteArray) (x5_1 : Int), v4 = .string x4_1 ∧ v5 = .int .i64 x5_1 ∧ Aside0 (spec_SetText.l0 kq l0 x4_1 x5_1 = some (r1, r2)) ∧ Aside0 (kq ≤ k) ∧ Aside0 (Below w.heap.size w w'))
   case atStart => exact ⟨((⟨#[]⟩ : ByteArray)), (0), (by first | rfl | (simp; done) | (simp [*]; done)), (by first | rfl | (simp; done) | (simp [*]; done)), H', ⟨Nat.le_refl _⟩, ⟨by repeat (first | (with_reducible first | exact HB.out | apply below_alloc | apply pw_below_drewN | apply below_drew1) | exact HB.out)⟩⟩
   case round =>
    clear H'
    try clear c2
    try clear c2b0
    try clear c2b1
    try clear p2
    try clear c4
    obtain ⟨x4_1, x5_1, rfl, rfl, HA, HK1, HB⟩ := hrel
    cases gk with
    | zero => exact absurd HA.out (by simp [spec_SetText.l0])
    | succ k1 =>
     have H := HA.out
     clear HA
     simp only [spec_SetText.l0] at H
     by_cases c5 : x5_1 < (l0.length : Int)
     ·rw [if_pos c5] at H
      have c5b0 : decide (x5_1 < (l0.length : Int)) = true := decide_eq_true c5
      clear c5
      have HC6 := Aside0.mk H
      clear H
      go_upto_if 19 with (fail)
      repeat (go_quiet (fail); go_upto_if 19 with (fail))
      go_cut [4] (fun v4 wc => ∃ (kq : Nat) (x4_5 : ByteArray), v4 = .string x4_5 ∧ Aside0 (spec_SetText.j1 kq l0 x4_5 x5_1 = some (r1, r2)) ∧ Aside0 (kq ≤ k1) ∧ Aside0 (Below w.heap.size w wc))
      case first =>
       have H := HC6.out
       clear HC6
       by_cases c7 : x5_1 > 0
       ·rw [if_pos c7] at H
        have c7b0 : decide (0 < x5_1) = true := decide_eq_true c7
        clear c7
        (first | rw [c7b0] | (simp only [i64_w, i32_w]; rw [c7b0]) | skip)
        by_cases c8 : x4_1.size + 1 ≤ 9223372036854775807
        ·rw [if_pos c8] at H
         have c8b0 := eq_true c8
         have c8b1 : decide (x4_1.size + 1 ≤ 9223372036854775807) = true := decide_eq_true c8
         try have c8b2 : (9223372036854775807 < x4_1.size + 1) = False := eq_false (Nat.not_lt.2 c8)
         have H' := Aside0.mk H
         clear H
         go_wp2
         repeat (go_quiet (fail); try go_wp2)
         go_meet
         case rel => exact ⟨_, (x4_1 ++ (⟨#[44]⟩ : ByteArray)), (by first | rfl | (simp; done) | (simp [*]; done)), H', ⟨by have := HK1.out; first | omega | exact Nat.le_refl _⟩, ⟨by repeat (first | (with_reducible first | exact HB.out | apply below_alloc | apply pw_below_drewN | apply below_drew1) | exact HB.out)⟩⟩
        ·rw [if_neg c8] at H
         exact absurd H (by simp)
       ·rw [if_neg c7] at H
        have c7b0 : decide (0 < x5_1) = false := decide_eq_false c7
        clear c7
        (first | rw [c7b0] | (simp only [i64_w, i32_w]; rw [c7b0]) | skip)
        have H' := Aside0.mk H
        clear H
        go_wp2
        repeat (go_quiet (fail); try go_wp2)
        go_meet
        case rel => exact ⟨_, (x4_1), (by first | rfl | (simp; done) | (simp [*]; done)), H', ⟨by have := HK1.out; first | omega | exact Nat.le_refl _⟩, ⟨by repeat (first | (with_reducible first | exact HB.out | apply below_alloc | apply pw_below_drewN | apply below_drew1) | exact HB.out)⟩⟩
      case rest =>
       clear HC6
       try clear c2
       try clear c2b0
       try clear c2b1
       try clear p2
       try clear c4
       try clear c5
       try clear c5b0
       try clear c7
       try clear c7b0
       try clear c8
       try clear c8b0
       try clear c8b1
       try clear c8b2
       try clear p2
       obtain ⟨kq, x4_5, rfl, HA, HJ5, HB⟩ := hcut
       cases kq with
       | zero => exact absurd HA.out (by simp [spec_SetText.j1])
       | succ kj5 =>
        have H := HA.out
        clear HA
        simp only [spec_SetText.j1] at H
        by_cases c9 : 0 ≤ x5_1
        ·rw [if_pos c9] at H
         have c9b0 : decide (0 ≤ x5_1) = true := decide_eq_true c9
         clear c9
         by_cases c10 : x5_1 < (l0.length : Int)
         ·rw [if_pos c10] at H
          have c10b0 : decide (x5_1 < (l0.length : Int)) = true := decide_eq_true c10
          clear c10
          replace H := Option.bind_eq_some_iff.mp H
          obtain ⟨t103, A110, H⟩ := H
          replace H : (if x4_5.size + t103.size ≤ 9223372036854775807 then (if ((rd_T54 l0 x5_1).f1) = ((rd_T54 l0 x5_1).f0) then (spec_SetText.l0 kj5 l0 (x4_5 ++ t103) (wrap64 (x5_1 + 1))) else ((spec_l11Name.f kj5 ((rd_T54 l0 x5_1).f1)).bind fun t107 => (if 1 + t107.size ≤ 9223372036854775807 then (if (x4_5 ++ t103).size + ((⟨#[58]⟩ : ByteArray) ++ t107).size ≤ 9223372036854775807 then (spec_SetText.l0 kj5 l0 ((x4_5 ++ t103) ++ ((⟨#[58]⟩ : ByteArray) ++ t107)) (wrap64 (x5_1 + 1))) else (none)) else (none)))) else (none)) = some (r1, r2) := H
          have A11 := Aside0.mk A110
          clear A110
          by_cases c12 : x4_5.size + t103.size ≤ 9223372036854775807
          ·rw [if_pos c12] at H
           have c12b0 := eq_true c12
           have c12b1 : decide (x4_5.size + t103.size ≤ 9223372036854775807) = true := decide_eq_true c12
           try have c12b2 : (9223372036854775807 < x4_5.size + t103.size) = False := eq_false (Nat.not_lt.2 c12)
           by_cases c13 : ((rd_T54 l0 x5_1).f1) = ((rd_T54 l0 x5_1).f0)
           ·rw [if_pos c13] at H
            have c13b0 : (((rd_T54 l0 x5_1).f1) == ((rd_T54 l0 x5_1).f0)) = true := beq_iff_eq.mpr c13
            have c13b1 : (((rd_T54 l0 x5_1).f1) != ((rd_T54 l0 x5_1).f0)) = false := bne_eq_false_iff_eq.mpr c13
            clear c13
            have H' := Aside0.mk H
            clear H
            have p102 : 0 ≤ (x5_1 : Int) := of_decide_eq_true (by first | (with_reducible assumption) | assumption)
            have q102 : x5_1 < (l0.length : Int) := of_decide_eq_true (by first | (with_reducible assumption) | assumption)
            obtain ⟨ad102, e102, hx102_0, hx102_1⟩ := at_T54 HR0.out x5_1 p102 q102
            cases e102
            replace hx102_0 := (HB.out.cell (World.block_lt_of_cell? w _ hx102_0)).trans hx102_0
            replace hx102_1 := (HB.out.cell (World.block_lt_of_cell? w _ hx102_1)).trans hx102_1
            replace p102 := eq_true p102
            replace q102 := eq_true q102
            go_wp2_with (first | (go_at_call 59; (with_reducible refine (spec_l11Name.calls kj5 ((rd_T54 l0 x5_1).f0) t103 _ A11.out).mono ?_); rintro e w14 ⟨rfl, hb⟩; have n0_ := Aside0.mk (below_step (by repeat (first | (with_reducible first | exact HB.out | apply below_alloc | apply pw_below_drewN | apply below_drew1) | exact HB.out)) hb); clear HB; have HB := n0_; clear n0_; (try clear hb); (try clear hb2); (try clear hk); (try clear hi); have p104 : 0 ≤ (x5_1 : Int) := of_decide_eq_true (by first | (with_reducible assumption) | assumption); have q104 : x5_1 < (l0.length : Int) := of_decide_eq_true (by first | (with_reducible assumption) | assumption); obtain ⟨ad104, e104, hx104_0, hx104_1⟩ := at_T54 HR0.out x5_1 p104 q104; obtain rfl : ad102 = ad104 := (by injection e104); replace hx104_0 := (HB.out.cell (World.block_lt_of_cell? w _ hx104_0)).trans hx104_0; replace hx104_1 := (HB.out.cell (World.block_lt_of_cell? w _ hx104_1)).trans hx104_1; replace p104 := eq_true p104; replace q104 := eq_true q104; have p105 : 0 ≤ (x5_1 : Int) := of_decide_eq_true (by first | (with_reducible assumption) | assumption); have q105 : x5_1 < (l0.length : Int) := of_decide_eq_true (by first | (with_reducible assumption) | assumption); obtain ⟨ad105, e105, hx105_0, hx105_1⟩ := at_T54 HR0.out x5_1 p105 q105; obtain rfl : ad102 = ad105 := (by injection e105); replace hx105_0 := (HB.out.cell (World.block_lt_of_cell? w _ hx105_0)).trans hx105_0; replace hx105_1 := (HB.out.cell (World.block_lt_of_cell? w _ hx105_1)).trans hx105_1; replace p105 := eq_true p105; replace q105 := eq_true q105))
            repeat (go_quiet (first | (go_at_call 59; (with_reducible refine (spec_l11Name.calls kj5 ((rd_T54 l0 x5_1).f0) t103 _ A11.out).mono ?_); rintro e w14 ⟨rfl, hb⟩; have n0_ := Aside0.mk (below_step (by repeat (first | (with_reducible first | exact HB.out | apply below_alloc | apply pw_below_drewN | apply below_drew1) | exact HB.out)) hb); clear HB; have HB := n0_; clear n0_; (try clear hb); (try clear hb2); (try clear hk); (try clear hi); have p104 : 0 ≤ (x5_1 : Int) := of_decide_eq_true (by first | (with_reducible assumption) | assumption); have q104 : x5_1 < (l0.length : Int) := of_decide_eq_true (by first | (with_reducible assumption) | assumption); obtain ⟨ad104, e104, hx104_0, hx104_1⟩ := at_T54 HR0.out x5_1 p104 q104; obtain rfl : ad102 = ad104 := (by injection e104); replace hx104_0 := (HB.out.cell (World.block_lt_of_cell? w _ hx104_0)).trans hx104_0; replace hx104_1 := (HB.out.cell (World.block_lt_of_cell? w _ hx104_1)).trans hx104_1; replace p104 := eq_true p104; replace q104 := eq_true q104; have p105 : 0 ≤ (x5_1 : Int) := of_decide_eq_true (by first | (with_reducible assumption) | assumption); have q105 : x5_1 < (l0.length : Int) := of_decide_eq_true (by first | (with_reducible assumption) | assumption); obtain ⟨ad105, e105, hx105_0, hx105_1⟩ := at_T54 HR0.out x5_1 p105 q105; obtain rfl : ad102 = ad105 := (by injection e105); replace hx105_0 := (HB.out.cell (World.block_lt_of_cell? w _ hx105_0)).trans hx105_0; replace hx105_1 := (HB.out.cell (World.block_lt_of_cell? w _ hx105_1)).trans hx105_1; replace p105 := eq_true p105; replace q105 := eq_true q105)); try go_wp2_with (first | (go_at_call 59; (with_reducible refine (spec_l11Name.calls kj5 ((rd_T54 l0 x5_1).f0) t103 _ A11.out).mono ?_); rintro e w14 ⟨rfl, hb⟩; have n0_ := Aside0.mk (below_step (by repeat (first | (with_reducible first | exact HB.out | apply below_alloc | apply pw_below_drewN | apply below_drew1) | exact HB.out)) hb); clear HB; have HB := n0_; clear n0_; (try clear hb); (try clear hb2); (try clear hk); (try clear hi); have p104 : 0 ≤ (x5_1 : Int) := of_decide_eq_true (by first | (with_reducible assumption) | assumption); have q104 : x5_1 < (l0.length : Int) := of_decide_eq_true (by first | (with_reducible assumption) | assumption); obtain ⟨ad104, e104, hx104_0, hx104_1⟩ := at_T54 HR0.out x5_1 p104 q104; obtain rfl : ad102 = ad104 := (by injection e104); replace hx104_0 := (HB.out.cell (World.block_lt_of_cell? w _ hx104_0)).trans hx104_0; replace hx104_1 := (HB.out.cell (World.block_lt_of_cell? w _ hx104_1)).trans hx104_1; replace p104 := eq_true p104; replace q104 := eq_true q104; have p105 : 0 ≤ (x5_1 : Int) := of_decide_eq_true (by first | (with_reducible assumption) | assumption); have q105 : x5_1 < (l0.length : Int) := of_decide_eq_true (by first | (with_reducible assumption) | assumption); obtain ⟨ad105, e105, hx105_0, hx105_1⟩ := at_T54 HR0.out x5_1 p105 q105; obtain rfl : ad102 = ad105 := (by injection e105); replace hx105_0 := (HB.out.cell (World.block_lt_of_cell? w _ hx105_0)).trans hx105_0; replace hx105_1 := (HB.out.cell (World.block_lt_of_cell? w _ hx105_1)).trans hx105_1; replace p105 := eq_true p105; replace q105 := eq_true q105)))
            go_roundg kj5
            case measure => have := HK1.out; have := HJ5.out; omega
            case rel => exact ⟨(x4_5 ++ t103), (wrap64 (x5_1 + 1)), (by first | rfl | (simp; done) | (simp [*]; done)), (by first | rfl | (simp; done) | (simp [*]; done)), H', ⟨by have := HK1.out; have := HJ5.out; omega⟩, ⟨by repeat (first | (with_reducible first | exact HB.out | apply below_alloc | apply pw_below_drewN | apply below_drew1) | exact HB.out)⟩⟩
           ·rw [if_neg c13] at H
            have c13b0 : (((rd_T54 l0 x5_1).f1) == ((rd_T54 l0 x5_1).f0)) = false := beq_eq_false_iff_ne.mpr c13
            have c13b1 : (((rd_T54 l0 x5_1).f1) != ((rd_T54 l0 x5_1).f0)) = true := bne_iff_ne.mpr c13
            replace H := Option.bind_eq_some_iff.mp H
            obtain ⟨t107, A150, H⟩ := H
            replace H : (if 1 + t107.size ≤ 9223372036854775807 then (if (x4_5 ++ t103).size + ((⟨#[58]⟩ : ByteArray) ++ t107).size ≤ 9223372036854775807 then (spec_SetText.l0 kj5 l0 ((x4_5 ++ t103) ++ ((⟨#[58]⟩ : ByteArray) ++ t107)) (wrap64 (x5_1 + 1))) else (none)) else (none)) = some (r1, r2) := H
            have A15 := Aside0.mk A150
            clear A150
            by_cases c16 : 1 + t107.size ≤ 9223372036854775807
            ·rw [if_pos c16] at H
             have c16b0 := eq_true c16
             have c16b1 : decide (1 + t107.size ≤ 9223372036854775807) = true := decide_eq_true c16
             try have c16b2 : (9223372036854775807 < 1 + t107.size) = False := eq_false (Nat.not_lt.2 c16)
             by_cases c17 : (x4_5 ++ t103).size + ((⟨#[58]⟩ : ByteArray) ++ t107).size ≤ 9223372036854775807
             ·rw [if_pos c17] at H
              have c17b0 := eq_true c17
              have c17b1 : decide ((x4_5 ++ t103).size + ((⟨#[58]⟩ : ByteArray) ++ t107).size ≤ 9223372036854775807) = true := decide_eq_true c17
              try have c17b2 : (9223372036854775807 < (x4_5 ++ t103).size + ((⟨#[58]⟩ : ByteArray) ++ t107).size) = False := eq_false (Nat.not_lt.2 c17)
              try (have hz_ := c17; have ez_ : (x4_5 ++ t103).size + ((⟨#[58]⟩ : ByteArray) ++ t107).size = x4_5.size + t103.size + (1 + t107.size) := (by simp only [ByteArray.size_append] <;> rfl); rw [ez_] at hz_; clear ez_; have c17z0 := eq_false (Nat.not_lt.2 hz_); have c17z1 := eq_true hz_; clear hz_)
              have H' := Aside0.mk H
              clear H
              have p102 : 0 ≤ (x5_1 : Int) := of_decide_eq_true (by first | (with_reducible assumption) | assumption)
              have q102 : x5_1 < (l0.length : Int) := of_decide_eq_true (by first | (with_reducible assumption) | assumption)
              obtain ⟨ad102, e102, hx102_0, hx102_1⟩ := at_T54 HR0.out x5_1 p102 q102
              cases e102
              replace hx102_0 := (HB.out.cell (World.block_lt_of_cell? w _ hx102_0)).trans hx102_0
              replace hx102_1 := (HB.out.cell (World.block_lt_of_cell? w _ hx102_1)).trans hx102_1
              replace p102 := eq_true p102
              replace q102 := eq_true q102
              go_wp2_with (first | (go_at_call 59; (with_reducible refine (spec_l11Name.calls kj5 ((rd_T54 l0 x5_1).f0) t103 _ A11.out).mono ?_); rintro e w18 ⟨rfl, hb⟩; have n0_ := Aside0.mk (below_step (by repeat (first | (with_reducible first | exact HB.out | apply below_alloc | apply pw_below_drewN | apply below_drew1) | exact HB.out)) hb); clear HB; have HB := n0_; clear n0_; (try clear hb); (try clear hb2); (try clear hk); (try clear hi); have p104 : 0 ≤ (x5_1 : Int) := of_decide_eq_true (by first | (with_reducible assumption) | assumption); have q104 : x5_1 < (l0.length : Int) := of_decide_eq_true (by first | (with_reducible assumption) | assumption); obtain ⟨ad104, e104, hx104_0, hx104_1⟩ := at_T54 HR0.out x5_1 p104 q104; obtain rfl : ad102 = ad104 := (by injection e104); replace hx104_0 := (HB.out.cell (World.block_lt_of_cell? w _ hx104_0)).trans hx104_0; replace hx104_1 := (HB.out.cell (World.block_lt_of_cell? w _ hx104_1)).trans hx104_1; replace p104 := eq_true p104; replace q104 := eq_true q104; have p105 : 0 ≤ (x5_1 : Int) := of_decide_eq_true (by first | (with_reducible assumption) | assumption); have q105 : x5_1 < (l0.length : Int) := of_decide_eq_true (by first | (with_reducible assumption) | assumption); obtain ⟨ad105, e105, hx105_0, hx105_1⟩ := at_T54 HR0.out x5_1 p105 q105; obtain rfl : ad102 = ad105 := (by injection e105); replace hx105_0 := (HB.out.cell (World.block_lt_of_cell? w _ hx105_0)).trans hx105_0; replace hx105_1 := (HB.out.cell (World.block_lt_of_cell? w _ hx105_1)).trans hx105_1; replace p105 := eq_true p105; replace q105 := eq_true q105; have p106 : 0 ≤ (x5_1 : Int) := of_decide_eq_true (by first | (with_reducible assumption) | assumption); have q106 : x5_1 < (l0.length : Int) := of_decide_eq_true (by first | (with_reducible assumption) | assumption); obtain ⟨ad106, e106, hx106_0, hx106_1⟩ := at_T54 HR0.out x5_1 p106 q106; obtain rfl : ad102 = ad106 := (by injection e106); replace hx106_0 := (HB.out.cell (World.block_lt_of_cell? w _ hx106_0)).trans hx106_0; replace hx106_1 := (HB.out.cell (World.block_lt_of_cell? w _ hx106_1)).trans hx106_1; replace p106 := eq_true p106; replace q106 := eq_true q106) | (go_at_call 59; (with_reducible refine (spec_l11Name.calls kj5 ((rd_T54 l0 x5_1).f1) t107 _ A15.out).mono ?_); rintro e w19 ⟨rfl, hb⟩; have n0_ := Aside0.mk (below_step (by repeat (first | (with_reducible first | exact HB.out | apply below_alloc | apply pw_below_drewN | apply below_drew1) | exact HB.out)) hb); clear HB; have HB := n0_; clear n0_; (try clear hb); (try clear hb2); (try clear hk); (try clear hi)))
              repeat (go_quiet (first | (go_at_call 59; (with_reducible refine (spec_l11Name.calls kj5 ((rd_T54 l0 x5_1).f0) t103 _ A11.out).mono ?_); rintro e w18 ⟨rfl, hb⟩; have n0_ := Aside0.mk (below_step (by repeat (first | (with_reducible first | exact HB.out | apply below_alloc | apply pw_below_drewN | apply below_drew1) | exact HB.out)) hb); clear HB; have HB := n0_; clear n0_; (try clear hb); (try clear hb2); (try clear hk); (try clear hi); have p104 : 0 ≤ (x5_1 : Int) := of_decide_eq_true (by first | (with_reducible assumption) | assumption); have q104 : x5_1 < (l0.length : Int) := of_decide_eq_true (by first | (with_reducible assumption) | assumption); obtain ⟨ad104, e104, hx104_0, hx104_1⟩ := at_T54 HR0.out x5_1 p104 q104; obtain rfl : ad102 = ad104 := (by injection e104); replace hx104_0 := (HB.out.cell (World.block_lt_of_cell? w _ hx104_0)).trans hx104_0; replace hx104_1 := (HB.out.cell (World.block_lt_of_cell? w _ hx104_1)).trans hx104_1; replace p104 := eq_true p104; replace q104 := eq_true q104; have p105 : 0 ≤ (x5_1 : Int) := of_decide_eq_true (by first | (with_reducible assumption) | assumption); have q105 : x5_1 < (l0.length : Int) := of_decide_eq_true (by first | (with_reducible assumption) | assumption); obtain ⟨ad105, e105, hx105_0, hx105_1⟩ := at_T54 HR0.out x5_1 p105 q105; obtain rfl : ad102 = ad105 := (by injection e105); replace hx105_0 := (HB.out.cell (World.block_lt_of_cell? w _ hx105_0)).trans hx105_0; replace hx105_1 := (HB.out.cell (World.block_lt_of_cell? w _ hx105_1)).trans hx105_1; replace p105 := eq_true p105; replace q105 := eq_true q105; have p106 : 0 ≤ (x5_1 : Int) := of_decide_eq_true (by first | (with_reducible assumption) | assumption); have q106 : x5_1 < (l0.length : Int) := of_decide_eq_true (by first | (with_reducible assumption) | assumption); obtain ⟨ad106, e106, hx106_0, hx106_1⟩ := at_T54 HR0.out x5_1 p106 q106; obtain rfl : ad102 = ad106 := (by injection e106); replace hx106_0 := (HB.out.cell (World.block_lt_of_cell? w _ hx106_0)).trans hx106_0; replace hx106_1 := (HB.out.cell (World.block_lt_of_cell? w _ hx106_1)).trans hx106_1; replace p106 := eq_true p106; replace q106 := eq_true q106) | (go_at_call 59; (with_reducible refine (spec_l11Name.calls kj5 ((rd_T54 l0 x5_1).f1) t107 _ A15.out).mono ?_); rintro e w19 ⟨rfl, hb⟩; have n0_ := Aside0.mk (below_step (by repeat (first | (with_reducible first | exact HB.out | apply below_alloc | apply pw_below_drewN | apply below_drew1) | exact HB.out)) hb); clear HB; have HB := n0_; clear n0_; (try clear hb); (try clear hb2); (try clear hk); (try clear hi))); try go_wp2_with (first | (go_at_call 59; (with_reducible refine (spec_l11Name.calls kj5 ((rd_T54 l0 x5_1).f0) t103 _ A11.out).mono ?_); rintro e w18 ⟨rfl, hb⟩; have n0_ := Aside0.mk (below_step (by repeat (first | (with_reducible first | exact HB.out | apply below_alloc | apply pw_below_drewN | apply below_drew1) | exact HB.out)) hb); clear HB; have HB := n0_; clear n0_; (try clear hb); (try clear hb2); (try clear hk); (try clear hi); have p104 : 0 ≤ (x5_1 : Int) := of_decide_eq_true (by first | (with_reducible assumption) | assumption); have q104 : x5_1 < (l0.length : Int) := of_decide_eq_true (by first | (with_reducible assumption) | assumption); obtain ⟨ad104, e104, hx104_0, hx104_1⟩ := at_T54 HR0.out x5_1 p104 q104; obtain rfl : ad102 = ad104 := (by injection e104); replace hx104_0 := (HB.out.cell (World.block_lt_of_cell? w _ hx104_0)).trans hx104_0; replace hx104_1 := (HB.out.cell (World.block_lt_of_cell? w _ hx104_1)).trans hx104_1; replace p104 := eq_true p104; replace q104 := eq_true q104; have p105 : 0 ≤ (x5_1 : Int) := of_decide_eq_true (by first | (with_reducible assumption) | assumption); have q105 : x5_1 < (l0.length : Int) := of_decide_eq_true (by first | (with_reducible assumption) | assumption); obtain ⟨ad105, e105, hx105_0, hx105_1⟩ := at_T54 HR0.out x5_1 p105 q105; obtain rfl : ad102 = ad105 := (by injection e105); replace hx105_0 := (HB.out.cell (World.block_lt_of_cell? w _ hx105_0)).trans hx105_0; replace hx105_1 := (HB.out.cell (World.block_lt_of_cell? w _ hx105_1)).trans hx105_1; replace p105 := eq_true p105; replace q105 := eq_true q105; have p106 : 0 ≤ (x5_1 : Int) := of_decide_eq_true (by first | (with_reducible assumption) | assumption); have q106 : x5_1 < (l0.length : Int) := of_decide_eq_true (by first | (with_reducible assumption) | assumption); obtain ⟨ad106, e106, hx106_0, hx106_1⟩ := at_T54 HR0.out x5_1 p106 q106; obtain rfl : ad102 = ad106 := (by injection e106); replace hx106_0 := (HB.out.cell (World.block_lt_of_cell? w _ hx106_0)).trans hx106_0; replace hx106_1 := (HB.out.cell (World.block_lt_of_cell? w _ hx106_1)).trans hx106_1; replace p106 := eq_true p106; replace q106 := eq_true q106) | (go_at_call 59; (with_reducible refine (spec_l11Name.calls kj5 ((rd_T54 l0 x5_1).f1) t107 _ A15.out).mono ?_); rintro e w19 ⟨rfl, hb⟩; have n0_ := Aside0.mk (below_step (by repeat (first | (with_reducible first | exact HB.out | apply below_alloc | apply pw_below_drewN | apply below_drew1) | exact HB.out)) hb); clear HB; have HB := n0_; clear n0_; (try clear hb); (try clear hb2); (try clear hk); (try clear hi))))
              go_roundg kj5
              case measure => have := HK1.out; have := HJ5.out; omega
              case rel => exact ⟨((x4_5 ++ t103) ++ ((⟨#[58]⟩ : ByteArray) ++ t107)), (wrap64 (x5_1 + 1)), (by first | rfl | (simp; done) | (simp [*]; done)), (by first | rfl | (simp; done) | (simp [*]; done)), H', ⟨by have := HK1.out; have := HJ5.out; omega⟩, ⟨by repeat (first | (with_reducible first | exact HB.out | apply below_alloc | apply pw_below_drewN | apply below_drew1) | exact HB.out)⟩⟩
             ·rw [if_neg c17] at H
              exact absurd H (by simp)
            ·rw [if_neg c16] at H
             exact absurd H (by simp)
          ·rw [if_neg c12] at H
           exact absurd H (by simp)
         ·rw [if_neg c10] at H
          exact absurd H (by simp)
        ·rw [if_neg c9] at H
         exact absurd H (by simp)
     ·rw [if_neg c5] at H
      have c5b0 : decide (x5_1 < (l0.length : Int)) = false := decide_eq_false c5
      clear c5
      simp only [Option.some.injEq, Prod.mk.injEq] at H
      obtain ⟨rfl, rfl⟩ := H
      go_wp2
      repeat (go_quiet (fail); try go_wp2)
      go_ret2
      exact ⟨by first | rfl | (simp [errW_none, errW_some] <;> rfl) | (simp [*, errW_none, errW_some] <;> rfl), by repeat (first | (with_reducible first | exact HB.out | apply below_alloc | apply pw_below_drewN | apply below_drew1) | exact HB.out)⟩
  ·replace c4 := Bool.eq_false_iff.mpr c4
   subst c4
   have H1 : (some ((⟨#[]⟩ : ByteArray), 1)) = some (r1, r2) := by rw [if_neg (show ¬ (false = true) by decide)] at H; exact H
   clear H
   have H := H1
   clear H1
   simp only [Option.some.injEq, Prod.mk.injEq] at H
   obtain ⟨rfl, rfl⟩ := H
   go_enter Tryd.func21, Tryd.ntmps21
   go_wp2_with (first | (go_at_call 58; (with_reducible refine (spec_l11SetOK.calls k _ _ l0 false _ ?side1 ?side2 A3.out).mono ?_); (case side1 => repeat (first | exact HR0.out | (with_reducible refine Kd.C_alloc ?_ _) | (with_reducible refine Kd.C_drewN ?_ _) | (with_reducible refine Kd.C_drew ?_))); (case side2 => exact HC0.out); rintro e w' ⟨rfl, ⟨nd, rfl⟩⟩; (try first | exact ⟨rfl, _, World.drewN_drewN _ _ _⟩ | exact ⟨rfl, _, Eq.trans (World.drewN_drewN _ _ _) (congrArg (World.drewN _) (Nat.add_assoc _ _ _))⟩)))
   repeat (go_quiet (first | (go_at_call 58; (with_reducible refine (spec_l11SetOK.calls k _ _ l0 false _ ?side1 ?side2 A3.out).mono ?_); (case side1 => repeat (first | exact HR0.out | (with_reducible refine Kd.C_alloc ?_ _) | (with_reducible refine Kd.C_drewN ?_ _) | (with_reducible refine Kd.C_drew ?_))); (case side2 => exact HC0.out); rintro e w' ⟨rfl, ⟨nd, rfl⟩⟩; (try first | exact ⟨rfl, _, World.drewN_drewN _ _ _⟩ | exact ⟨rfl, _, Eq.trans (World.drewN_drewN _ _ _) (congrArg (World.drewN _) (Nat.add_assoc _ _ _))⟩))); try go_wp2_with (first | (go_at_call 58; (with_reducible refine (spec_l11SetOK.calls k _ _ l0 false _ ?side1 ?side2 A3.out).mono ?_); (case side1 => repeat (first | exact HR0.out | (with_reducible refine Kd.C_alloc ?_ _) | (with_reducible refine Kd.C_drewN ?_ _) | (with_reducible refine Kd.C_drew ?_))); (case side2 => exact HC0.out); rintro e w' ⟨rfl, ⟨nd, rfl⟩⟩; (try first | exact ⟨rfl, _, World.drewN_drewN _ _ _⟩ | exact ⟨rfl, _, Eq.trans (World.drewN_drewN _ _ _) (congrArg (World.drewN _) (Nat.add_assoc _ _ _))⟩))))
   go_ret2
   exact ⟨by first | rfl | (simp [errW_none, errW_some] <;> rfl) | (simp [*, errW_none, errW_some] <;> rfl), by repeat (first | (with_reducible first | exact HB.out | apply below_alloc | apply pw_below_drewN | apply below_drew1) | exact HB.out)⟩

end Go.Proofs.YtcmifdcgmalnlaaDoor.P
/- Lemmas of mine: a set's text: the two SetText tell the same. Plain. -/
set_option linter.unusedVariables false
set_option linter.unusedSimpArgs false
namespace Go.Proofs.YtcmifdcgmalnlaaDoor.P
open Go.RowKit Go.Proofs.YtcmifdcgmalnlaaDoorW.PrintWords
def mkT (l : List UInt8) : ByteArray := ⟨l.toArray⟩
theorem bl_mkT (l : List UInt8) : bl (mkT l) = l := bl_mk l
theorem mkT_app (a b : List UInt8) : mkT a ++ mkT b = mkT (a ++ b) := bl_inj (by rw [bl_append, bl_mkT, bl_mkT, bl_mkT])
theorem mkT_size (l : List UInt8) : (mkT l).size = l.length := by rw [bl_size, bl_mkT]
theorem decDigits_len : ∀ (n : Nat), (Lib.decDigits n).length ≤ n + 1 := by
 intro n
 induction n using Nat.strongRecOn with
 | _ n ih =>
  unfold Lib.decDigits
  split
  ·simp
  ·rename_i h
   have := ih (n / 10) (by omega)
   rw [List.length_append]
   simp only [List.length_cons, List.length_nil]
   omega
theorem dig1 (d : Nat) (h : d < 10) : strOfNums ([(wrap64 (48 + (d : Int))) % 256] : List Int) = mkT [UInt8.ofNat (48 + d)] := by
 have e : (wrap64 (48 + (d : Int))) % 256 = ((48 + d : Nat) : Int) := by rw [w64 (by omega) (by omega)]; omega
 have e2 : ([((48 + d : Nat) : Int)] : List Int) = nb [UInt8.ofNat (48 + d)] := by
  show _ = [((UInt8.ofNat (48 + d)).toNat : Int)]
  rw [UInt8.toNat_ofNat_of_lt' (by show 48 + d < 256; omega)]
 rw [e, e2, strOf_nb]
 rfl
theorem digits_ev : ∀ (n : Nat), n ≤ 4611686018427387904 → Ev (fun k => spec_l00Digits.f k (n : Int)) (mkT (Lib.decDigits n)) := by
 intro n
 induction n using Nat.strongRecOn with
 | _ n ih =>
  intro hn
  by_cases h : n < 10
  ·refine Ev.step (f := fun _ => some _) (fun k => ?_) (Ev.now _)
   unfold Lib.decDigits
   simp only [spec_l00Digits.f]
   rw [if_neg (by omega), if_neg (by omega), if_pos (by omega), dig1 n h, dif_pos h]
  ·obtain ⟨K, hK⟩ := ih (n / 10) (by omega) (by omega)
   refine ⟨K + 1, fun k hk => ?_⟩
   obtain ⟨m, rfl⟩ : ∃ m, k = m + 1 := ⟨k - 1, by omega⟩
   have e := hK m (by omega)
   simp only at e ⊢
   have e1 : Aside0 (wrap64 (Int.tdiv (n : Int) 10) = ((n / 10 : Nat) : Int)) := ⟨by
    rw [Int.tdiv_eq_ediv_of_nonneg (by omega), w64 (by omega) (by omega)]; omega⟩
   have e2 : Aside0 (Int.tmod (n : Int) 10 = ((n % 10 : Nat) : Int)) := ⟨by
    rw [Int.tmod_eq_emod_of_nonneg (by omega)]; omega⟩
   have hd := dig1 (n % 10) (by omega)
   have hlen := decDigits_len (n / 10)
   simp only [spec_l00Digits.f]
   rw [if_neg (by omega), if_neg (by omega), if_neg (by omega), e1.out, e2.out, e, bS, bS, hd, mkT_size, mkT_size]
   simp only [List.length_cons, List.length_nil]
   rw [if_pos (by omega), mkT_app]
   congr 2
   conv => rhs; unfold Lib.decDigits
   rw [dif_neg h]
/-- An end's text. -/
def endT (n : Int) : List UInt8 := if n = 0 then [42] else Lib.decDigits n.toNat
theorem endT_len (n : Int) (h : 0 ≤ n ∧ n ≤ 4294967295) : (endT n).length ≤ 4294967297 := by
 unfold endT
 split
 ·simp
 ·have := decDigits_len n.toNat
  omega
theorem specName_ev (n : Int) (h : 0 ≤ n ∧ n ≤ 4294967295) : Ev (fun k => spec_l11Name.f k n) (mkT (endT n)) := by
 unfold endT
 by_cases h0 : n = 0
 ·rw [if_pos h0]
  exact ⟨0, fun k _ => by simp only [spec_l11Name.f]; rw [if_pos h0]; rfl⟩
 ·rw [if_neg h0]
  obtain ⟨K, hK⟩ := digits_ev n.toNat (by omega)
  rw [Int.toNat_of_nonneg h.1] at hK
  refine ⟨K, fun k hk => ?_⟩
  have e := hK k hk
  simp only at e
  simp only [spec_l11Name.f, e, bS]
  rw [if_neg h0]
theorem implEndT (n : Int) (h : 0 ≤ n ∧ n ≤ 4294967295) : impl_endText.f n = some (mkT (endT n)) := by
 simp only [impl_endText.f]
 unfold endT
 by_cases h0 : n = 0
 ·rw [if_pos h0, if_pos h0]; rfl
 ·rw [if_neg h0, if_neg h0]
  unfold strconv_Itoa_95.f
  rw [if_pos ⟨by omega, by omega⟩, bS]
  unfold Lib.itoa
  rw [if_neg (by omega)]
  rfl
/-- A range's text. -/
def rngT (x : S54) : List UInt8 := if x.f1 = x.f0 then endT x.f0 else endT x.f0 ++ 58 :: endT x.f1
def okRg (x : S54) : Prop := (0 ≤ x.f0 ∧ x.f0 ≤ 4294967295) ∧ (0 ≤ x.f1 ∧ x.f1 ≤ 4294967295)
theorem rngT_len (x : S54) (h : okRg x) : (rngT x).length ≤ 8589934595 := by
 have h0 := endT_len x.f0 h.1
 have h1 := endT_len x.f1 h.2
 unfold rngT
 split
 ·omega
 ·rw [List.length_append, List.length_cons]; omega
/-- Put together with commas. -/
def jn : List (List UInt8) → List UInt8
 | [] => []
 | [x] => x
 | x :: y :: r => x ++ 44 :: jn (y :: r)
theorem jn_join : ∀ l : List (List UInt8), Lib.join l [44] = jn l
 | [] => rfl
 | [x] => by simp [Lib.join, jn, List.intercalate, List.intersperse]
 | x :: y :: r => by
  have h := jn_join (y :: r)
  unfold Lib.join at h ⊢
  rw [jn, ← h]
  simp [List.intercalate, List.intersperse]
theorem jn_snoc : ∀ (l : List (List UInt8)) (x : List UInt8), jn (l ++ [x]) = if l = [] then x else jn l ++ 44 :: x
 | [], x => rfl
 | [a], x => by simp [jn]
 | a :: b :: r, x => by
  have h := jn_snoc (b :: r) x
  rw [if_neg (by simp)] at h
  rw [if_neg (by simp), List.cons_append, List.cons_append, jn, ← List.cons_append, h, jn]
  simp
theorem jn_len (B : Nat) : ∀ (l : List (List UInt8)), (∀ x ∈ l, x.length ≤ B) → (jn l).length ≤ l.length * (B + 1)
 | [], _ => Nat.zero_le _
 | [x], h => by
  have := h x (List.mem_cons_self ..)
  show x.length ≤ 1 * (B + 1)
  omega
 | x :: y :: r, h => by
  have h1 := h x (List.mem_cons_self ..)
  have h2 := jn_len B (y :: r) (fun z hz => h z (List.mem_cons_of_mem _ hz))
  rw [jn, List.length_append, List.length_cons, List.length_cons, Nat.add_mul]
  omega
theorem jn_bound (l : List S54) (h : ∀ x ∈ l, okRg x) (hl : l.length ≤ 50) : (jn (l.map rngT)).length ≤ 429496729800 := by
 have := jn_len 8589934595 (l.map rngT) (fun y hy => by
  obtain ⟨x, hx, rfl⟩ := List.mem_map.1 hy
  exact rngT_len x (h x hx))
 rw [List.length_map] at this
 have h2 : l.length * (8589934595 + 1) ≤ 50 * (8589934595 + 1) := Nat.mul_le_mul_right _ hl
 omega
theorem rdR_nat (l : List S54) (i : Nat) (h : i < l.length) : rd_T54 l (i : Int) = l[i]'h := by
 simp only [rd_T54, Int.toNat_natCast, List.getD_eq_getElem?_getD]
 rw [List.getElem?_eq_getElem h]; rfl
theorem take_jn (l : List S54) (i : Nat) (h : i < l.length) : jn ((l.take (i + 1)).map rngT) = if i = 0 then rngT (l[i]'h) else jn ((l.take i).map rngT) ++ 44 :: rngT (l[i]'h) := by
 have ht : l.take (i + 1) = l.take i ++ [l[i]'h] := by rw [List.take_add_one, List.getElem?_eq_getElem h]; rfl
 rw [ht, List.map_append, List.map_cons, List.map_nil, jn_snoc]
 by_cases h0 : i = 0
 ·subst h0
  rw [if_pos (by simp), if_pos rfl]
 ·rw [if_neg h0, if_neg]
  intro e
  have := congrArg List.length e
  rw [List.length_map, List.length_take, List.length_nil] at this
  omega
theorem specText_j1 (l : List S54) (hl : l.length ≤ 50) (i : Nat) (hi : i < l.length) (hx : okRg (l[i]'hi)) (o : List UInt8) (ho : o.length ≤ 429496729900) (r : ByteArray × Int) (hr : Ev (fun k => spec_SetText.l0 k l (mkT (o ++ rngT (l[i]'hi))) ((i + 1 : Nat) : Int)) r) : Ev (fun k => spec_SetText.j1 k l (mkT o) (i : Int)) r := by
 obtain ⟨K0, h0⟩ := specName_ev (l[i]'hi).f0 hx.1
 obtain ⟨K1, h1⟩ := specName_ev (l[i]'hi).f1 hx.2
 obtain ⟨K2, h2⟩ := hr
 have b0 := endT_len _ hx.1
 have b1 := endT_len _ hx.2
 refine ⟨K0 + K1 + K2 + 1, fun k hk => ?_⟩
 obtain ⟨m, rfl⟩ : ∃ m, k = m + 1 := ⟨k - 1, by omega⟩
 have e0 := h0 m (by omega)
 have e1 := h1 m (by omega)
 have e2 := h2 m (by omega)
 simp only at e0 e1 e2 ⊢
 have hone : (⟨#[58]⟩ : ByteArray) = mkT [58] := rfl
 simp only [spec_SetText.j1, rdR_nat l i hi, e0, e1, bS, hone, mkT_app, mkT_size]
 rw [if_pos (by omega), if_pos (by omega), if_pos (by omega), w64s i (by omega)]
 unfold rngT at e2
 by_cases hq : (l[i]'hi).f1 = (l[i]'hi).f0
 ·rw [if_pos hq]
  rw [if_pos hq] at e2
  exact e2
 ·rw [if_neg hq, if_pos (by omega), if_pos (by rw [List.length_append, List.length_append]; simp only [List.length_cons, List.length_nil]; omega)]
  rw [if_neg hq] at e2
  rw [List.append_assoc]
  exact e2
theorem specText_l0 (l : List S54) (hl : l.length ≤ 50) (hok : ∀ x ∈ l, okRg x) : ∀ (d i : Nat), i + d = l.length → Ev (fun k => spec_SetText.l0 k l (mkT (jn ((l.take i).map rngT))) (i : Int)) (mkT (jn (l.map rngT)), 0) := by
 intro d
 induction d with
 | zero =>
  intro i hi
  rw [List.take_of_length_le (by omega)]
  refine Ev.step (f := fun _ => some _) (fun k => ?_) (Ev.now _)
  simp only [spec_SetText.l0]
  rw [if_neg (by omega)]
 | succ d ih =>
  intro i hi
  have hlt : i < l.length := by omega
  have hx := hok _ (List.getElem_mem hlt)
  have hb := jn_bound (l.take i) (fun x hx => hok x (List.mem_of_mem_take hx)) (by rw [List.length_take]; omega)
  have h := ih (i + 1) (by omega)
  rw [take_jn l i hlt] at h
  have hone : (⟨#[44]⟩ : ByteArray) = mkT [44] := rfl
  by_cases h0 : i = 0
  ·subst h0
   rw [if_pos rfl] at h
   refine Ev.step (fun k => ?_) (specText_j1 l hl 0 hlt hx [] (by simp) _ h)
   simp only [spec_SetText.l0]
   rw [if_pos (by omega), if_neg (by omega)]
   rfl
  ·rw [if_neg h0] at h
   have e : jn ((l.take i).map rngT) ++ 44 :: rngT (l[i]'hlt) = (jn ((l.take i).map rngT) ++ [44]) ++ rngT (l[i]'hlt) := by simp
   rw [e] at h
   refine Ev.step (fun k => ?_) (specText_j1 l hl i hlt hx (jn ((l.take i).map rngT) ++ [44]) (by rw [List.length_append]; simp only [List.length_cons, List.length_nil]; omega) _ h)
   simp only [spec_SetText.l0, hone, mkT_app, mkT_size]
   rw [if_pos (by omega), if_pos (by omega), if_pos (by omega)]
theorem implText_l0 (l : List S54) (hl : l.length ≤ 50) (hok : ∀ x ∈ l, okRg x) : ∀ (d i : Nat) (a : List ByteArray), i + d = l.length → a.length = l.length → a.take i = (l.take i).map (fun x => mkT (rngT x)) → Ev (fun k => impl_SetText.l0 k a l (l.length : Int) (i : Int)) (mkT (jn (l.map rngT)), 0) := by
 intro d
 induction d with
 | zero =>
  intro i a hi ha ht
  rw [List.take_of_length_le (by omega), List.take_of_length_le (by omega)] at ht
  subst ht
  have hb := jn_bound l hok hl
  have hj : joinB (l.map fun x => mkT (rngT x)) (⟨#[44]⟩ : ByteArray) = jn (l.map rngT) := by
   unfold joinB
   rw [List.map_map]
   have e : (fun x : ByteArray => x.data.toList) ∘ (fun x => mkT (rngT x)) = rngT := funext fun x => bl_mkT _
   rw [e]
   exact jn_join _
  refine Ev.step (f := fun _ => some _) (fun k => ?_) (Ev.now _)
  simp only [impl_SetText.l0, strings_Join.f, hj]
  rw [if_neg (by omega), if_pos ⟨by rw [List.length_map]; omega, by omega⟩, bS]
  rfl
 | succ d ih =>
  intro i a hi ha ht
  have hlt : i < l.length := by omega
  have hx := hok _ (List.getElem_mem hlt)
  have b0 := endT_len _ hx.1
  have b1 := endT_len _ hx.2
  have hnext : ∀ b : ByteArray, b = mkT (rngT (l[i]'hlt)) → (a.set i b).take (i + 1) = (l.take (i + 1)).map (fun x => mkT (rngT x)) := by
   intro b hb
   rw [List.take_set, List.take_add_one, List.getElem?_eq_getElem (by omega), List.take_add_one, List.getElem?_eq_getElem hlt]
   have hl2 : (a.take i).length = i := by rw [List.length_take]; omega
   rw [List.set_append_right _ _ (by omega), hl2, Nat.sub_self, ht]
   simp only [hb, Option.toList_some, List.set_cons_zero, List.map_append, List.map_cons, List.map_nil]
  have hone : (⟨#[58]⟩ : ByteArray) = mkT [58] := rfl
  by_cases hq : (l[i]'hlt).f1 = (l[i]'hlt).f0
  ·have h := ih (i + 1) (a.set i (mkT (endT (l[i]'hlt).f0))) (by omega) (by rw [List.length_set]; exact ha) (hnext _ (by unfold rngT; rw [if_pos hq]))
   refine Ev.step (fun k => ?_) h
   simp only [impl_SetText.l0, rdR_nat l i hlt, implEndT _ hx.1, bS, Int.toNat_natCast]
   rw [if_pos (by omega), if_pos (by omega), if_pos (by omega), if_pos (by omega), if_pos hq, w64s i (by omega)]
  ·have h := ih (i + 1) (a.set i (mkT (rngT (l[i]'hlt)))) (by omega) (by rw [List.length_set]; exact ha) (hnext _ rfl)
   refine Ev.step (fun k => ?_) h
   have hrd : rdOf ByteArray.empty (a.set i (mkT (endT (l[i]'hlt).f0))) (i : Int) = mkT (endT (l[i]'hlt).f0) := by
    unfold rdOf
    rw [Int.toNat_natCast, List.getD_eq_getElem?_getD, List.getElem?_set_self (by omega)]; rfl
   have hrt : mkT (rngT (l[i]'hlt)) = mkT (endT (l[i]'hlt).f0 ++ ([58] ++ endT (l[i]'hlt).f1)) := by unfold rngT; rw [if_neg hq]; rfl
   rw [hrt]
   simp only [impl_SetText.l0, rdR_nat l i hlt, implEndT _ hx.1, implEndT _ hx.2, bS, Int.toNat_natCast, hrd, hone, mkT_app, mkT_size, List.set_set]
   rw [if_pos (by omega), if_pos (by omega), if_pos (by omega), if_pos (by omega), if_neg hq, if_pos (by omega), if_pos (by rw [List.length_append]; simp only [List.length_cons, List.length_nil]; omega), w64s i (by omega)]
theorem setR_ok {l : List S54} (h : setR l = true) : (1 ≤ l.length ∧ l.length ≤ 50) ∧ ∀ x ∈ l, okRg x := by
 unfold setR at h
 rw [Bool.and_eq_true, decide_eq_true_eq] at h
 exact ⟨h.1, fun x hx => by
  have := List.all_eq_true.1 h.2 x hx
  unfold rangeR at this
  unfold okRg
  exact of_decide_eq_true this⟩
theorem setText_both (l : List S54) : ∃ r, Ev (fun k => spec_SetText.f k l) r ∧ Ev (fun k => impl_SetText.f k l) r := by
 by_cases h : l.length > 4096
 ·refine ⟨((⟨#[]⟩ : ByteArray), 2), ⟨0, fun k _ => ?_⟩, ⟨0, fun k _ => ?_⟩⟩
  ·simp only [spec_SetText.f]; rw [if_pos (by omega)]
  ·simp only [impl_SetText.f]; rw [if_pos (by omega)]
 ·obtain ⟨K0, h0⟩ := specSetOK_ev l
  cases hs : setR l with
  | false =>
   rw [hs] at h0
   refine ⟨((⟨#[]⟩ : ByteArray), 1), ⟨K0, fun k hk => ?_⟩, ⟨0, fun k _ => ?_⟩⟩
   ·have e := h0 k hk
    simp only at e
    simp only [spec_SetText.f, e, bS]; rw [if_neg (by omega), if_neg (by decide)]
   ·simp only [impl_SetText.f, implSetOK_eq, hs, bS]; rw [if_neg (by omega), if_neg (by decide)]
  | true =>
   rw [hs] at h0
   obtain ⟨hl, hok⟩ := setR_ok hs
   obtain ⟨K1, h1⟩ := specText_l0 l hl.2 hok l.length 0 (by omega)
   obtain ⟨K2, h2⟩ := implText_l0 l hl.2 hok l.length 0 (List.replicate l.length (⟨#[]⟩ : ByteArray)) (by omega) (by simp) (by simp)
   refine ⟨(mkT (jn (l.map rngT)), 0), ⟨K0 + K1, fun k hk => ?_⟩, ⟨K2, fun k hk => ?_⟩⟩
   ·have e := h0 k (by omega)
    have e1 := h1 k (by omega)
    simp only at e e1
    simp only [spec_SetText.f, e, bS]; rw [if_neg (by omega), if_pos trivial]
    exact e1
   ·have e2 := h2 k hk
    simp only at e2
    simp only [impl_SetText.f, implSetOK_eq, hs, bS, Int.toNat_natCast]
    rw [if_neg (by omega), if_pos trivial, if_pos (by omega), if_pos (by omega)]
    exact e2
end Go.Proofs.YtcmifdcgmalnlaaDoor.P
namespace Go.Proofs.YtcmifdcgmalnlaaDoor.P
open Go.RowKit Go.Proofs.YtcmifdcgmalnlaaDoorW.PrintWords Go.Proofs.YtcmifdcgmalnlaaDoorW.PrintLast Go.Proofs.YtcmifdcgmalnlaaDoorW.PrintMore
attribute [local go_sem] max2_int min2_int max_two min_two max_three min_three max_four min_four   -- for this text's walks alone
set_option linter.unusedVariables false
set_option linter.unusedSimpArgs false

/-! ### impl_TakeCommand: function 31 -/
def impl_TakeCommand.f (k : Nat) (a0 : ByteArray) : Option (ByteArray × ByteArray × Int) := if (a0.size : Int) > 65536 then (some ((⟨#[]⟩ : ByteArray), (⟨#[]⟩ : ByteArray), 2)) else ((impl_takeCommand.f k a0).bind fun bt101 => (if bt101.2 = 0 then (if 0 ≤ bt101.1 then (if bt101.1 ≤ (a0.size : Int) then (if 0 ≤ (wrap64 (bt101.1 + 2)) then (if (wrap64 (bt101.1 + 2)) ≤ (a0.size : Int) then (some (a0.extract 0 (bt101.1 : Int).toNat, a0.extract ((wrap64 (bt101.1 + 2)) : Int).toNat a0.size, 0)) else (none)) else (none)) else (none)) else (none)) else (some ((⟨#[]⟩ : ByteArray), a0, bt101.2))))
theorem impl_TakeCommand.mono : ∀ a0 k, LeO (impl_TakeCommand.f k a0) (impl_TakeCommand.f (k + 1) a0) := by
 intro a0 k
 unfold impl_TakeCommand.f
 repeat' first
   | (with_reducible exact impl_takeCommand.mono _ _)
   | (with_reducible exact LeO.refl _)
   | (with_reducible exact LeO.none _)
   | (with_reducible refine LeO.ite ?_ ?_)
   | (with_reducible refine LeO.bind ?_ (fun _ => ?_))
   | exact impl_takeCommand.mono _ _
   | exact LeO.none _
   | refine LeO.ite ?_ ?_
   | refine LeO.bind ?_ (fun _ => ?_)
set_option maxHeartbeats 8000000 in
set_option maxRecDepth 100000 in
theorem impl_TakeCommand.calls (k : Nat) (a0 : ByteArray) (r1 : ByteArray) (r2 : ByteArray) (r3 : Int) (w : World) (hGWm : GWm w) (h : impl_TakeCommand.f k a0 = some (r1, r2, r3)) :
  Calls Tryd.prog 31 #[.string a0] w fun e w' => e = .returned (.tuple #[.string r1, .string r2, .int .i64 r3]) ∧ Below w.heap.size w w' := by
 have HGWm := Aside0.mk hGWm
 clear hGWm
 have HB := Aside0.mk (Below.refl w.heap.size w)
 have H : (if (a0.size : Int) > 65536 then (some ((⟨#[]⟩ : ByteArray), (⟨#[]⟩ : ByteArray), 2)) else ((impl_takeCommand.f k a0).bind fun bt101 => (if bt101.2 = 0 then (if 0 ≤ bt101.1 then (if bt101.1 ≤ (a0.size : Int) then (if 0 ≤ (wrap64 (bt101.1 + 2)) then (if (wrap64 (bt101.1 + 2)) ≤ (a0.size : Int) then (some (a0.extract 0 (bt101.1 : Int).toNat, a0.extract ((wrap64 (bt101.1 + 2)) : Int).toNat a0.size, 0)) else (none)) else (none)) else (none)) else (none)) else (some ((⟨#[]⟩ : ByteArray), a0, bt101.2))))) = some (r1, r2, r3) := h
 clear h
 by_cases c2 : (a0.size : Int) > 65536
 ·rw [if_pos c2] at H
  have c2b0 : decide (65536 < (a0.size : Int)) = true := decide_eq_true c2
  have c2b1 : decide (65536 < a0.size) = true := decide_eq_true (by omega)
  clear c2
  simp only [Option.some.injEq, Prod.mk.injEq] at H
  obtain ⟨rfl, rfl, rfl⟩ := H
  go_enter Tryd.func31, Tryd.ntmps31
  go_wp2
  repeat (go_quiet (fail); try go_wp2)
  go_ret3
  exact ⟨by first | rfl | (simp [errW_none, errW_some] <;> rfl) | (simp [*, errW_none, errW_some] <;> rfl), by repeat (first | (with_reducible first | exact HB.out | apply below_alloc | apply pw_below_drewN | apply below_drew1) | exact HB.out)⟩
 ·rw [if_neg c2] at H
  have c2b0 : decide (65536 < (a0.size : Int)) = false := decide_eq_false c2
  have c2b1 : decide (65536 < a0.size) = false := decide_eq_false (by omega)
  clear c2
  replace H := Option.bind_eq_some_iff.mp H
  obtain ⟨⟨t101, t102⟩, A30, H⟩ := H
  replace H : (if t102 = 0 then (if 0 ≤ t101 then (if t101 ≤ (a0.size : Int) then (if 0 ≤ (wrap64 (t101 + 2)) then (if (wrap64 (t101 + 2)) ≤ (a0.size : Int) then (some (a0.extract 0 (t101 : Int).toNat, a0.extract ((wrap64 (t101 + 2)) : Int).toNat a0.size, 0)) else (none)) else (none)) else (none)) else (none)) else (some ((⟨#[]⟩ : ByteArray), a0, t102))) = some (r1, r2, r3) := H
  have A3 := Aside0.mk A30
  clear A30
  by_cases c4 : t102 = 0
  ·rw [if_pos c4] at H
   have c4b0 : (t102 == 0) = true := beq_iff_eq.mpr c4
   have c4b1 : (t102 != 0) = false := bne_eq_false_iff_eq.mpr c4
   clear c4
   by_cases c5 : 0 ≤ t101
   ·rw [if_pos c5] at H
    have c5b0 := eq_true c5
    have c5b1 : decide (0 ≤ t101) = true := decide_eq_true c5
    clear c5
    by_cases c6 : t101 ≤ (a0.size : Int)
    ·rw [if_pos c6] at H
     have c6b0 := eq_true c6
     have c6b1 : decide (t101 ≤ (a0.size : Int)) = true := decide_eq_true c6
     clear c6
     obtain ⟨ji7, hji7⟩ : ∃ j_ : Int, (wrap64 (t101 + 2)) = j_ := ⟨_, rfl⟩
     replace H : (if 0 ≤ (ji7) then (if (ji7) ≤ (a0.size : Int) then (some (a0.extract 0 (t101 : Int).toNat, a0.extract ((ji7) : Int).toNat a0.size, 0)) else (none)) else (none)) = some (r1, r2, r3) := by first | (rw [hji7] at H; exact H) | (simp only [hji7] at H ⊢; exact H)
     (try rw [hji7] at A3)
     have hji7w : (IntKind.i64.wrap (t101 + 2)) = ji7 := (i64_w _).trans hji7
     by_cases c8 : 0 ≤ (ji7)
     ·rw [if_pos c8] at H
      have c8b0 := eq_true c8
      have c8b1 : decide (0 ≤ (ji7)) = true := decide_eq_true c8
      clear c8
      by_cases c9 : (ji7) ≤ (a0.size : Int)
      ·rw [if_pos c9] at H
       have c9b0 := eq_true c9
       have c9b1 : decide ((ji7) ≤ (a0.size : Int)) = true := decide_eq_true c9
       clear c9
       simp only [Option.some.injEq, Prod.mk.injEq] at H
       obtain ⟨rfl, rfl, rfl⟩ := H
       go_enter Tryd.func31, Tryd.ntmps31
       go_wp2_with (first | (go_at_call 72; (with_reducible refine (impl_takeCommand.calls k a0 t101 t102 _ (GWm.below HGWm.out (by repeat (first | (with_reducible first | exact HB.out | apply below_alloc | apply pw_below_drewN | apply below_drew1) | exact HB.out))) A3.out).mono ?_); rintro e w10 ⟨rfl, hb⟩; have n0_ := Aside0.mk (below_step (by repeat (first | (with_reducible first | exact HB.out | apply below_alloc | apply pw_below_drewN | apply below_drew1) | exact HB.out)) hb); clear HB; have HB := n0_; clear n0_; (try clear hb); (try clear hb2); (try clear hk); (try clear hi)))
       repeat (go_quiet (first | (go_at_call 72; (with_reducible refine (impl_takeCommand.calls k a0 t101 t102 _ (GWm.below HGWm.out (by repeat (first | (with_reducible first | exact HB.out | apply below_alloc | apply pw_below_drewN | apply below_drew1) | exact HB.out))) A3.out).mono ?_); rintro e w10 ⟨rfl, hb⟩; have n0_ := Aside0.mk (below_step (by repeat (first | (with_reducible first | exact HB.out | apply below_alloc | apply pw_below_drewN | apply below_drew1) | exact HB.out)) hb); clear HB; have HB := n0_; clear n0_; (try clear hb); (try clear hb2); (try clear hk); (try clear hi))); try go_wp2_with (first | (go_at_call 72; (with_reducible refine (impl_takeCommand.calls k a0 t101 t102 _ (GWm.below HGWm.out (by repeat (first | (with_reducible first | exact HB.out | apply below_alloc | apply pw_below_drewN | apply below_drew1) | exact HB.out))) A3.out).mono ?_); rintro e w10 ⟨rfl, hb⟩; have n0_ := Aside0.mk (below_step (by repeat (first | (with_reducible first | exact HB.out | apply below_alloc | apply pw_below_drewN | apply below_drew1) | exact HB.out)) hb); clear HB; have HB := n0_; clear n0_; (try clear hb); (try clear hb2); (try clear hk); (try clear hi))))
       go_ret3
       exact ⟨by first | rfl | (simp [errW_none, errW_some] <;> rfl) | (simp only [← hji7]; first | rfl | (simp [errW_none, errW_some] <;> rfl)) | (simp [*, errW_none, errW_some] <;> rfl), by repeat (first | (with_reducible first | exact HB.out | apply below_alloc | apply pw_below_drewN | apply below_drew1) | exact HB.out)⟩
      ·rw [if_neg c9] at H
       exact absurd H (by simp)
     ·rw [if_neg c8] at H
      exact absurd H (by simp)
    ·rw [if_neg c6] at H
     exact absurd H (by simp)
   ·rw [if_neg c5] at H
    exact absurd H (by simp)
  ·rw [if_neg c4] at H
   have c4b0 : (t102 == 0) = false := beq_eq_false_iff_ne.mpr c4
   have c4b1 : (t102 != 0) = true := bne_iff_ne.mpr c4
   simp only [Option.some.injEq, Prod.mk.injEq] at H
   obtain ⟨rfl, rfl, rfl⟩ := H
   go_enter Tryd.func31, Tryd.ntmps31
   go_wp2_with (first | (go_at_call 72; (with_reducible refine (impl_takeCommand.calls k a0 t101 t102 _ (GWm.below HGWm.out (by repeat (first | (with_reducible first | exact HB.out | apply below_alloc | apply pw_below_drewN | apply below_drew1) | exact HB.out))) A3.out).mono ?_); rintro e w11 ⟨rfl, hb⟩; have n0_ := Aside0.mk (below_step (by repeat (first | (with_reducible first | exact HB.out | apply below_alloc | apply pw_below_drewN | apply below_drew1) | exact HB.out)) hb); clear HB; have HB := n0_; clear n0_; (try clear hb); (try clear hb2); (try clear hk); (try clear hi)))
   repeat (go_quiet (first | (go_at_call 72; (with_reducible refine (impl_takeCommand.calls k a0 t101 t102 _ (GWm.below HGWm.out (by repeat (first | (with_reducible first | exact HB.out | apply below_alloc | apply pw_below_drewN | apply below_drew1) | exact HB.out))) A3.out).mono ?_); rintro e w11 ⟨rfl, hb⟩; have n0_ := Aside0.mk (below_step (by repeat (first | (with_reducible first | exact HB.out | apply below_alloc | apply pw_below_drewN | apply below_drew1) | exact HB.out)) hb); clear HB; have HB := n0_; clear n0_; (try clear hb); (try clear hb2); (try clear hk); (try clear hi))); try go_wp2_with (first | (go_at_call 72; (with_reducible refine (impl_takeCommand.calls k a0 t101 t102 _ (GWm.below HGWm.out (by repeat (first | (with_reducible first | exact HB.out | apply below_alloc | apply pw_below_drewN | apply below_drew1) | exact HB.out))) A3.out).mono ?_); rintro e w11 ⟨rfl, hb⟩; have n0_ := Aside0.mk (below_step (by repeat (first | (with_reducible first | exact HB.out | apply below_alloc | apply pw_below_drewN | apply below_drew1) | exact HB.out)) hb); clear HB; have HB := n0_; clear n0_; (try clear hb); (try clear hb2); (try clear hk); (try clear hi))))
   go_ret3
   exact ⟨by first | rfl | (simp [errW_none, errW_some] <;> rfl) | (simp [*, errW_none, errW_some] <;> rfl), by repeat (first | (with_reducible first | exact HB.out | apply below_alloc | apply pw_below_drewN | apply below_drew1) | exact HB.out)⟩

end Go.Proofs.YtcmifdcgmalnlaaDoor.P
/- Lemmas of mine: what is taken off lines that come in pieces. Plain. -/
set_option linter.unusedVariables false
set_option linter.unusedSimpArgs false
namespace Go.Proofs.YtcmifdcgmalnlaaDoor.P
open Go.RowKit Go.Proofs.YtcmifdcgmalnlaaDoorW.PrintWords
/-- Lines, each with its end. -/
def flatL : List (List UInt8) → List UInt8
 | [] => []
 | l :: r => l ++ 13 :: 10 :: flatL r
theorem flatL_app : ∀ (a b : List (List UInt8)), flatL (a ++ b) = flatL a ++ flatL b
 | [], b => rfl
 | l :: r, b => by
  show l ++ 13 :: 10 :: flatL (r ++ b) = (l ++ 13 :: 10 :: flatL r) ++ flatL b
  rw [flatL_app r b]
  simp
/-- A line without an end in it and without a length. -/
def lineOk (l : List UInt8) : Prop := l.length ≤ 300 ∧ ∀ b ∈ l, b ≠ 13 ∧ b ≠ 123
theorem no_crlf_short (l R b a : List UInt8) (hl : ∀ x ∈ l, x ≠ 13 ∧ x ≠ 123) (e : b ++ a = l ++ 13 :: 10 :: R) (h : b.length < l.length + 2) : ∀ j, ¬ crlf b j := by
 intro j hc
 have h1 := crlf_lt hc
 have e0 : b[j]? = (l ++ 13 :: 10 :: R)[j]? := by rw [← e, List.getElem?_append_left (by omega)]
 have hj : j < l.length := by omega
 rw [List.getElem?_append_left hj] at e0
 have := hc.1
 rw [e0, List.getElem?_eq_getElem hj] at this
 exact (hl _ (List.getElem_mem hj)).1 (Option.some.inj this)
theorem long_line (l R b a : List UInt8) (e : b ++ a = l ++ 13 :: 10 :: R) (h : l.length + 2 ≤ b.length) : ∃ b', b = l ++ 13 :: 10 :: b' ∧ b' ++ a = R := by
 have e' : b ++ a = (l ++ [13, 10]) ++ R := by rw [e]; simp
 rcases List.append_eq_append_iff.1 e' with ⟨us, h1, h2⟩ | ⟨bs, h1, h2⟩
 ·have hlen := congrArg List.length h1
  rw [List.length_append, List.length_append] at hlen
  simp only [List.length_cons, List.length_nil] at hlen
  have : us = [] := List.length_eq_zero_iff.1 (by omega)
  subst this
  rw [List.append_nil] at h1
  exact ⟨[], by rw [← h1], by simpa using h2⟩
 ·exact ⟨bs, by rw [h1]; simp, h2.symm⟩
theorem index_at (l b : List UInt8) (hl : ∀ x ∈ l, x ≠ 13 ∧ x ≠ 123) : Lib.index (l ++ 13 :: 10 :: b) [13, 10] = (l.length : Int) := by
 have hc : crlf (l ++ 13 :: 10 :: b) l.length := by
  unfold crlf
  refine ⟨?_, ?_⟩
  ·rw [List.getElem?_append_right (Nat.le_refl _), Nat.sub_self]; rfl
  ·rw [List.getElem?_append_right (by omega), show l.length + 1 - l.length = 1 by omega]; rfl
 rcases index_crlf (l ++ 13 :: 10 :: b) with ⟨_, hn⟩ | ⟨e, h1, h2, h3⟩
 ·exact absurd hc (hn _)
 ·rw [h1]
  congr 1
  by_cases hlt : l.length < e
  ·exact absurd hc (h3 _ hlt)
  ·by_cases hlt2 : e < l.length
   ·have := h2.1
    rw [List.getElem?_append_left hlt2, List.getElem?_eq_getElem hlt2] at this
    exact absurd (Option.some.inj this) (hl _ (List.getElem_mem hlt2)).1
   ·omega
theorem lit_no (s : ByteArray) (hs : s.size ≤ 4611686018427387904) (h : ∀ b ∈ bl s, b ≠ 123) : Ev (fun k => impl_literal.f k s) (0, false) := by
 have hsz := bl_size s
 have hlast := lastB_ev s hs
 rcases lastI_facts (bl s) s.size with ⟨hl, _⟩ | ⟨t, _, _, ht, _⟩
 ·rw [hl] at hlast
  exact Ev.congr (fun k => rfl) (Ev.bind hlast (Ev.congr (fun k => if_pos (by decide)) (Ev.now _)))
 ·exact absurd rfl (h 123 (List.mem_of_getElem? ht))
theorem take_more (s : ByteArray) (hs : s.size ≤ 4002) (h : ∀ j, ¬ crlf (bl s) j) : Ev (fun k => impl_TakeCommand.f k s) ((⟨#[]⟩ : ByteArray), s, 18) := by
 have hsz := bl_size s
 have hrest : bl (s.extract (0 : Int).toNat s.size) = bl s := by
  rw [show (0 : Int).toNat = 0 from rfl, bl_extract]; exact List.take_of_length_le (by rw [List.length_drop]; omega)
 have hidx : strings_Index_2.f (s.extract (0 : Int).toNat s.size) (⟨#[13, 10]⟩ : ByteArray) = some (-1) := by
  unfold strings_Index_2.f
  rw [if_pos (by have := bl_size (s.extract (0 : Int).toNat s.size); rw [hrest] at this; omega)]
  show some (Lib.index (bl (s.extract (0 : Int).toNat s.size)) [13, 10]) = _
  rw [hrest]
  rcases index_crlf (bl s) with ⟨h1, _⟩ | ⟨e, _, h2, _⟩
  ·rw [h1]
  ·exact absurd h2 (h e)
 have hl : Ev (fun k => impl_takeCommand.l0 k s 0) (0, 18) := by
  refine Ev.step (f := fun _ => some _) (fun k => ?_) (Ev.now _)
  simp only [impl_takeCommand.l0, hidx, bS]
  rw [if_pos (by omega), if_pos (by omega), if_pos (by decide), if_neg (by omega)]
 refine Ev.congr (fun k => by simp only [impl_TakeCommand.f]; exact if_neg (by omega)) (Ev.bind hl (Ev.congr (f := fun _ => some _) (fun k => ?_) (Ev.now _)))
 exact if_neg (by decide)
theorem take_done (s : ByteArray) (l b : List UInt8) (hs : s.size ≤ 65536) (e : bl s = l ++ 13 :: 10 :: b) (hl : lineOk l) : Ev (fun k => impl_TakeCommand.f k s) (mkT l, mkT b, 0) := by
 obtain ⟨hl1, hl2⟩ := hl
 have hsz := bl_size s
 have hlen := congrArg List.length e
 rw [List.length_append] at hlen
 simp only [List.length_cons] at hlen
 have hrest : bl (s.extract (0 : Int).toNat s.size) = bl s := by
  rw [show (0 : Int).toNat = 0 from rfl, bl_extract]; exact List.take_of_length_le (by rw [List.length_drop]; omega)
 have hidx : strings_Index_2.f (s.extract (0 : Int).toNat s.size) (⟨#[13, 10]⟩ : ByteArray) = some (l.length : Int) := by
  unfold strings_Index_2.f
  rw [if_pos (by have := bl_size (s.extract (0 : Int).toNat s.size); rw [hrest] at this; omega)]
  show some (Lib.index (bl (s.extract (0 : Int).toNat s.size)) [13, 10]) = _
  rw [hrest, e, index_at l b hl2]
 have hcut : bl (s.extract (0 : Int).toNat ((l.length : Nat) : Int).toNat) = l := by
  rw [Int.toNat_natCast, show (0 : Int).toNat = 0 from rfl, bl_extract, e, List.drop_zero, Nat.sub_zero, List.take_left']
  rfl
 have hcut2 : s.extract 0 l.length = mkT l := bl_inj (by rw [bl_extract, e, List.drop_zero, Nat.sub_zero, List.take_left' rfl, bl_mkT])
 have hcut3 : s.extract (l.length + 2) s.size = mkT b := bl_inj (by
  rw [bl_extract, e, bl_mkT, show l ++ 13 :: 10 :: b = (l ++ [13, 10]) ++ b by simp, List.drop_left' (by simp)]
  exact List.take_of_length_le (by omega))
 have hlit := lit_no (s.extract (0 : Int).toNat ((l.length : Nat) : Int).toNat) (by rw [bl_size, hcut]; omega) (by rw [hcut]; exact fun x hx => (hl2 x hx).2)
 have hadd : Aside0 (wrap64 ((0 : Int) + ((l.length : Nat) : Int)) = ((l.length : Nat) : Int)) := ⟨by rw [Int.zero_add]; exact w64 (by omega) (by omega)⟩
 have e2 : Aside0 (wrap64 ((l.length : Int) + 2) = ((l.length + 2 : Nat) : Int)) := ⟨by rw [w64 (by omega) (by omega)]; rfl⟩
 have hl : Ev (fun k => impl_takeCommand.l0 k s 0) ((l.length : Int), 0) := by
  refine Ev.step (fun k => ?_) (Ev.bind (f := fun k q => bodyI s l.length k q) hlit (Ev.congr (f := fun _ => some ((l.length : Int), 0)) (fun k => ?_) (Ev.now _)))
  ·simp only [impl_takeCommand.l0, hidx, bS]
   rw [if_pos (by omega), if_pos (by omega), if_neg (by omega), hadd.out, if_neg (by omega), if_pos (by omega), if_pos (by omega), e2.out]
   rfl
  ·unfold bodyI
   rw [if_neg (by decide)]
 refine Ev.congr (fun k => by simp only [impl_TakeCommand.f]; exact if_neg (by omega)) (Ev.bind hl (Ev.congr (f := fun _ => some _) (fun k => ?_) (Ev.now _)))
 rw [if_pos rfl, if_pos (by omega), if_pos (by omega), e2.out, if_pos (by omega), if_pos (by omega), Int.toNat_natCast, Int.toNat_natCast, hcut2, hcut3]
end Go.Proofs.YtcmifdcgmalnlaaDoor.P
/- Lemmas of mine: a source of choices always gives one, within its bounds. Plain. -/
set_option linter.unusedVariables false
set_option linter.unusedSimpArgs false
namespace Go.Proofs.YtcmifdcgmalnlaaDoor.P
open Go.RowKit Go.Proofs.YtcmifdcgmalnlaaDoorW.PrintWords
/-- A source: its bytes, its place (at most B), its seed. -/
def Src (l : List Int) (a s B : Int) : Prop := (∀ y ∈ l, 0 ≤ y ∧ y ≤ 255) ∧ (0 ≤ a ∧ a ≤ B) ∧ (0 ≤ s ∧ s < 2147483648)
theorem Src.grow {l : List Int} {a s B C : Int} (h : Src l a s B) (hc : B ≤ C) : Src l a s C := ⟨h.1, ⟨h.2.1.1, by have := h.2.1.2; omega⟩, h.2.2⟩
theorem rd_mem (l : List Int) (i : Int) (h0 : 0 ≤ i) (h1 : i < (l.length : Int)) : rd l i ∈ l := by
 have h : i.toNat < l.length := by omega
 unfold rd
 rw [List.getD_eq_getElem?_getD, List.getElem?_eq_getElem h]
 exact List.getElem_mem h
theorem byte_ok {l : List Int} {a s B : Int} (h : Src l a s B) (hB : B ≤ 4611686018427387904) : ∃ r a' s', spec_l00Src_byte.f l a s = some (r, a', s') ∧ Src l a' s' (B + 1) ∧ 0 ≤ r ∧ r ≤ 255 := by
 obtain ⟨hl, ⟨h0, h1⟩, h2, h3⟩ := h
 unfold spec_l00Src_byte.f
 rw [if_pos ⟨h0, by omega, h2, h3⟩]
 by_cases c1 : a + 1 ≤ (l.length : Int)
 ·have hm := hl _ (rd_mem l a h0 (by omega))
  rw [if_pos c1, if_pos hm]
  exact ⟨_, _, _, rfl, ⟨hl, ⟨by omega, by omega⟩, by omega, by omega⟩, hm.1, hm.2⟩
 ·rw [if_neg c1]
  by_cases c2 : a + 1 > 3000
  ·rw [if_pos c2]
   exact ⟨_, _, _, rfl, ⟨hl, ⟨by omega, by omega⟩, h2, h3⟩, by omega, by omega⟩
  ·rw [if_neg c2]
   exact ⟨_, _, _, rfl, ⟨hl, ⟨by omega, by omega⟩, by omega, by omega⟩, by omega, by omega⟩
theorem tmod_in (n m : Int) (h0 : 0 ≤ n) (h1 : 0 < m) : 0 ≤ Int.tmod n m ∧ Int.tmod n m < m := ⟨Int.tmod_nonneg m h0, Int.tmod_lt_of_pos n h1⟩
theorem next_ok {l : List Int} {a s B : Int} (n : Int) (h : Src l a s B) (hB : B ≤ 4611686018427387900) : ∃ r a' s', spec_l00Src_next.f l a s n = some (r, a', s') ∧ Src l a' s' (B + 3) ∧ 0 ≤ r ∧ (1 ≤ n → r < n) := by
 unfold spec_l00Src_next.f
 by_cases c1 : n ≤ 1
 ·rw [if_pos c1]
  exact ⟨_, _, _, rfl, h.grow (by omega), by omega, fun _ => by omega⟩
 ·rw [if_neg c1]
  obtain ⟨r1, a1, s1, e1, h1, b1, d1⟩ := byte_ok h (by omega)
  by_cases c2 : n ≤ 256
  ·rw [if_pos c2, e1]
   simp only [Option.bind_some]
   rw [if_neg (by omega)]
   obtain ⟨t1, t2⟩ := tmod_in r1 n b1 (by omega)
   exact ⟨_, _, _, rfl, h1.grow (by omega), t1, fun _ => t2⟩
  ·rw [if_neg c2, e1]
   simp only [Option.bind_some]
   obtain ⟨r2, a2, s2, e2, h2, b2, d2⟩ := byte_ok h1 (by omega)
   rw [e2]
   simp only [Option.bind_some]
   obtain ⟨r3, a3, s3, e3, h3, b3, d3⟩ := byte_ok h2 (by omega)
   rw [e3]
   simp only [Option.bind_some]
   rw [if_neg (by omega), w64 (n := r1 * 65536) (by omega) (by omega), w64 (n := r2 * 256) (by omega) (by omega), w64 (n := r1 * 65536 + r2 * 256) (by omega) (by omega), w64 (n := r1 * 65536 + r2 * 256 + r3) (by omega) (by omega)]
   obtain ⟨t1, t2⟩ := tmod_in (r1 * 65536 + r2 * 256 + r3) n (by omega) (by omega)
   exact ⟨_, _, _, rfl, h3.grow (by omega), t1, fun _ => t2⟩
theorem pick_ok {l : List Int} {a s B : Int} (xs : List ByteArray) (h : Src l a s B) (hB : B ≤ 4611686018427387900) : ∃ r a' s', spec_l00Src_pick.f l a s xs = some (r, a', s') ∧ Src l a' s' (B + 3) ∧ (r ∈ xs ∨ (xs = [] ∧ r = (⟨#[]⟩ : ByteArray))) := by
 unfold spec_l00Src_pick.f
 by_cases c1 : (xs.length : Int) = 0
 ·rw [if_pos c1]
  exact ⟨_, _, _, rfl, h.grow (by omega), .inr ⟨List.length_eq_zero_iff.mp (by omega), rfl⟩⟩
 ·rw [if_neg c1]
  obtain ⟨r, a', s', e, h', b1, b2⟩ := next_ok (xs.length : Int) h hB
  rw [e]
  simp only [Option.bind_some]
  rw [if_pos b1, if_pos (b2 (by omega))]
  refine ⟨_, _, _, rfl, h', .inl ?_⟩
  have hlt : r.toNat < xs.length := by have := b2 (by omega); omega
  unfold rdOf
  rw [List.getD_eq_getElem?_getD, List.getElem?_eq_getElem hlt]
  exact List.getElem_mem hlt
theorem source_ok (l : List Int) (h : ∀ y ∈ l, 0 ≤ y ∧ y ≤ 255) : ∃ s, spec_l00Source.f l = some (l, 0, s) ∧ Src l 0 s 0 := by
 refine ⟨_, rfl, h, ⟨by omega, by omega⟩, by omega, by omega⟩
theorem u8_of_wf {y : Int} (h : (Lit.int .u8 y).wf = true) : 0 ≤ y ∧ y ≤ 255 := by
 have : IntKind.u8.min ≤ y ∧ y ≤ IntKind.u8.max := by simpa [Lit.wf] using h
 have e1 : IntKind.u8.min = 0 := by decide
 have e2 : IntKind.u8.max = 255 := by decide
 rw [e1, e2] at this
 exact this
end Go.Proofs.YtcmifdcgmalnlaaDoor.P
