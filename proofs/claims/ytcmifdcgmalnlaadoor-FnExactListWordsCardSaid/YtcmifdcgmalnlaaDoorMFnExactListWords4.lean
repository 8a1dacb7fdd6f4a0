/- Part 4 of what the law FnExactListWords stands on; the last part ends with the law's row. No condition of mine. -/
import Derived.Test.YtcmifdcgmalnlaaDoorMFnExactListWords1
import Derived.Test.YtcmifdcgmalnlaaDoorMFnExactListWords3
import Derived.Test.YtcmifdcgmalnlaaDoorMFnExactListWords2
import Derived.Lib.Strings
import Derived.Lib.IndexBytes
import Derived.Laws.BitsLemmas
import Derived.IntWalk
namespace Go.Proofs.YtcmifdcgmalnlaaDoor.P
open Go.RowKit Go.Proofs.YtcmifdcgmalnlaaDoorW.PrintWords Go.Proofs.YtcmifdcgmalnlaaDoorW.PrintLast Go.Proofs.YtcmifdcgmalnlaaDoorW.PrintMore
attribute [local go_sem] max2_int min2_int max_two min_two max_three min_three max_four min_four   -- for this text's walks alone
set_option linter.unusedVariables false
set_option linter.unusedSimpArgs false

/-! ### laws_heldStringS: function 19 -/
def laws_heldStringS.l0 : Nat → List ByteArray → Int → Int → Option (Int)
 | 0, _, _, _ => none
 | k + 1, x0, x1, x5 => if x5 < (x0.length : Int) then (if 0 ≤ x5 then ((laws_markText.f k x1).bind fun t102 => (if (rdOf ByteArray.empty x0 x5).toList = t102.toList then (laws_heldStringS.l0 k x0 (wrap64 (x1 + 1)) (wrap64 (x5 + 1))) else (some (-1)))) else (none)) else (some x1)
def laws_heldStringS.f (k : Nat) (l0 : List ByteArray) (a1 : Int) : Option (Int) := laws_heldStringS.l0 k l0 a1 0
theorem laws_heldStringS.mono_l : ∀ k, (∀ y0 y1 y2, LeO (laws_heldStringS.l0 k y0 y1 y2) (laws_heldStringS.l0 (k + 1) y0 y1 y2))
 | 0 => fun _ _ _ r h => by simp [laws_heldStringS.l0] at h
 | k + 1 => by
  have ih0 := laws_heldStringS.mono_l k
  ·intro y0 y1 y2
   unfold laws_heldStringS.l0
   repeat' first
   | (with_reducible exact ih0 _ _ _)
   | (with_reducible exact laws_markText.mono _ _)
   | (with_reducible exact LeO.refl _)
   | (with_reducible exact LeO.none _)
   | (with_reducible refine LeO.ite ?_ ?_)
   | (with_reducible refine LeO.bind ?_ (fun _ => ?_))
   | exact ih0 _ _ _
   | exact laws_markText.mono _ _
   | exact LeO.none _
   | refine LeO.ite ?_ ?_
   | refine LeO.bind ?_ (fun _ => ?_)
theorem laws_heldStringS.mono : ∀ a0 a1 k, LeO (laws_heldStringS.f k a0 a1) (laws_heldStringS.f (k + 1) a0 a1) := by
 intro a0 a1 k
 have ih0 := laws_heldStringS.mono_l k
 unfold laws_heldStringS.f
 repeat' first
   | (with_reducible exact ih0 _ _ _)
   | (with_reducible exact laws_markText.mono _ _)
   | (with_reducible exact LeO.refl _)
   | (with_reducible exact LeO.none _)
   | (with_reducible refine LeO.ite ?_ ?_)
   | (with_reducible refine LeO.bind ?_ (fun _ => ?_))
   | exact ih0 _ _ _
   | exact laws_markText.mono _ _
   | exact LeO.none _
   | refine LeO.ite ?_ ?_
   | refine LeO.bind ?_ (fun _ => ?_)
set_option maxHeartbeats 8000000 in
set_option maxRecDepth 100000 in
theorem laws_heldStringS.calls (k : Nat) (A0 : Option Addr) (c0 : Nat) (l0 : List ByteArray) (a1 : Int) (r : Int) (w : World) (hr0 : Kd.C Kd.string w A0 l0.length l0) (hc0 : l0.length ≤ c0) (h : laws_heldStringS.f k l0 a1 = some r) :
  Calls Tryd.prog 19 #[.slice A0 l0.length c0, .int .i64 a1] w fun e w' => e = .returned (.int .i64 r) ∧ Below w.heap.size w w' := by
 have HR0 := Aside0.mk hr0
 have HC0 := Aside0.mk hc0
 clear hr0 hc0
 have HB := Aside0.mk (Below.refl w.heap.size w)
 have H : (laws_heldStringS.l0 k l0 a1 0) = some r := h
 clear h
 have H' := Aside0.mk H
 clear H
 go_enter Tryd.func19, Tryd.ntmps19
 go_wp2
 go_loopg [1, 5] k (fun kq v1 v5 w' => ∃ (x1_1 : Int) (x5_1 : Int), v1 = .int .i64 x1_1 ∧ v5 = .int .i64 x5_1 ∧ Aside0 (laws_heldStringS.l0 kq l0 x1_1 x5_1 = some r) ∧ Aside0 (kq ≤ k) ∧ Aside0 (Below w.heap.size w w'))
 case atStart => exact ⟨(a1), (0), (by first | rfl | (simp; done) | (simp [*]; done)), (by first | rfl | (simp; done) | (simp [*]; done)), H', ⟨Nat.le_refl _⟩, ⟨by repeat (first | (with_reducible first | exact HB.out | apply below_alloc | apply pw_below_drewN | apply below_drew1) | exact HB.out)⟩⟩
 case round =>
  clear H'
  try clear c1
  try clear p2
  obtain ⟨x1_1, x5_1, rfl, rfl, HA, HK1, HB⟩ := hrel
  cases gk with
  | zero => exact absurd HA.out (by simp [laws_heldStringS.l0])
  | succ k1 =>
   have H := HA.out
   clear HA
   simp only [laws_heldStringS.l0] at H
   by_cases c3 : x5_1 < (l0.length : Int)
   ·rw [if_pos c3] at H
    have c3b0 : decide (x5_1 < (l0.length : Int)) = true := decide_eq_true c3
    clear c3
    by_cases c4 : 0 ≤ x5_1
    ·rw [if_pos c4] at H
     have c4b0 : decide (0 ≤ x5_1) = true := decide_eq_true c4
     clear c4
     replace H := Option.bind_eq_some_iff.mp H
     obtain ⟨t102, A50, H⟩ := H
     replace H : (if (rdOf ByteArray.empty l0 x5_1).toList = t102.toList then (laws_heldStringS.l0 k1 l0 (wrap64 (x1_1 + 1)) (wrap64 (x5_1 + 1))) else (some (-1))) = some r := H
     have A5 := Aside0.mk A50
     clear A50
     by_cases c6 : (rdOf ByteArray.empty l0 x5_1).toList = t102.toList
     ·rw [if_pos c6] at H
      have c6b0 : ((rdOf ByteArray.empty l0 x5_1).toList == t102.toList) = true := beq_iff_eq.mpr c6
      have c6b1 : ((rdOf ByteArray.empty l0 x5_1).toList != t102.toList) = false := bne_eq_false_iff_eq.mpr c6
      clear c6
      have H' := Aside0.mk H
      clear H
      try go_wp2
      have n0_ := Aside0.mk (below_drew1 HB.out)
      clear HB
      have HB := n0_
      clear n0_
      have p101 : 0 ≤ (x5_1 : Int) := of_decide_eq_true (by first | (with_reducible assumption) | assumption)
      have q101 : x5_1 < (l0.length : Int) := of_decide_eq_true (by first | (with_reducible assumption) | assumption)
      obtain ⟨ad101, e101, hx101_0⟩ := Kd.at_string HR0.out x5_1 p101 q101
      have hw101_0 := hx101_0
      cases e101
      replace hx101_0 := (HB.out.cell (World.block_lt_of_cell? w _ hx101_0)).trans hx101_0
      replace p101 := eq_true p101
      replace q101 := eq_true q101
      refine start_ (n := 7) (S := fun w' => w'.cell? (ad101.add (x5_1).toNat) = some (.string (rdOf ByteArray.empty l0 x5_1))) (ds := []) #[false, false, false, false, false, false, false] (by kernel_rfl) rfl rfl (((HB.out.cell (World.block_lt_of_cell? w _ hw101_0)).trans hw101_0)) (fun hHeld => ?_)
      generalize wr.drew = w7 at HB hx101_0 hHeld ⊢
      refine pure_ (i := 0) (N := some 12) (v := ?_) (a' := ?_) #[true, false, false, false, false, false, false] rfl rfl (by kernel_rfl) (fun _ _ _ h => h) (Or.inl ⟨by rfl, ?_⟩) ?_ ?_
      rotate_left
      ·intro w'
       go_simp
       with_reducible rfl
      rotate_left
      ·simp only [Act.put, List.setIfInBounds_toArray, List.set_cons_zero, List.set_cons_succ, i64_w, i32_w]
       rfl
      refine pure_ (i := 1) (N := some 13) (v := ?_) (a' := ?_) #[true, true, false, false, false, false, false] rfl rfl (by kernel_rfl) (fun _ _ _ h => h) (Or.inl ⟨by rfl, ?_⟩) ?_ ?_
      rotate_left
      ·intro w'
       go_simp
       with_reducible rfl
      rotate_left
      ·simp only [Act.put, List.setIfInBounds_toArray, List.set_cons_zero, List.set_cons_succ, i64_w, i32_w]
       rfl
      refine pure_ (i := 2) (N := some 14) (v := ?_) (a' := ?_) #[true, true, true, false, false, false, false] rfl rfl (by kernel_rfl) (fun _ _ _ h => h) (Or.inl ⟨by rfl, ?_⟩) ?_ ?_
      rotate_left
      ·intro w'
       go_simp
       with_reducible rfl
      rotate_left
      ·simp only [Act.put, List.setIfInBounds_toArray, List.set_cons_zero, List.set_cons_succ, i64_w, i32_w]
       rfl
      refine pure_ (i := 4) (N := some 16) (v := ?_) (a' := ?_) #[true, true, true, false, true, false, false] rfl rfl (by kernel_rfl) (fun _ _ _ h => h) (Or.inl ⟨by rfl, ?_⟩) ?_ ?_
      rotate_left
      ·intro w'
       go_simp
       with_reducible rfl
      rotate_left
      ·simp only [Act.put, List.setIfInBounds_toArray, List.set_cons_zero, List.set_cons_succ, i64_w, i32_w]
       rfl
      refine take_ (i := 3) (N := some 15) (v := ?_) (a' := ?_) #[true, true, true, true, true, false, false] rfl rfl (by kernel_rfl) (fun _ _ _ h => h) (Or.inl ⟨by rfl, ?_⟩) hHeld ?_ ?_
      rotate_left
      ·intro w' s0
       go_simp
       with_reducible rfl
      rotate_left
      ·simp only [Act.put, List.setIfInBounds_toArray, List.set_cons_zero, List.set_cons_succ, i64_w, i32_w]
       rfl
      refine one_ (i := 5) (N := some 17) #[true, true, true, true, true, true, false] rfl rfl (by kernel_rfl) (by decide) (fun K hK => ?_)
      refine goes_ Tryd.func57 (by kernel_rfl) rfl #[.int .i64 x1_1] (by rfl) rfl rfl (by (try simp only [List.map_toArray, List.map_cons, List.map_nil]); first | done | rfl | (simp only [List.length_drop, List.length_take]; rfl)) ?_
      with_reducible refine (laws_markText.calls k1 x1_1 t102 _ A5.out).mono ?_
      rintro e w8 ⟨rfl, hb⟩
      refine ⟨_, rfl, ?_⟩
      have n0_ := Aside0.mk (below_step (by repeat (first | (with_reducible first | exact HB.out | apply below_alloc | apply pw_below_drewN | apply below_drew1) | exact HB.out)) hb)
      clear HB
      have HB := n0_
      clear n0_
      (try clear hb)
      (try clear hb2)
      (try clear hk)
      (try clear hi)
      refine hK.out _ _ (((HB.out.cell (World.block_lt_of_cell? w _ hw101_0)).trans hw101_0)) (fun hHeld => ?_)
      clear hK K
      refine norm_ (a' := ?_) ?_ ?_
      rotate_left
      ·show Act.put _ (some 17) _ = _
       simp only [Act.put, List.setIfInBounds_toArray, List.set_cons_zero, List.set_cons_succ, i64_w, i32_w]
       rfl
      refine pure_ (i := 6) (N := some 18) (v := ?_) (a' := ?_) #[true, true, true, true, true, true, true] rfl rfl (by kernel_rfl) (fun _ _ _ h => h) (Or.inl ⟨by rfl, ?_⟩) ?_ ?_
      rotate_left
      ·intro w'
       go_simp
       with_reducible rfl
      rotate_left
      ·simp only [Act.put, List.setIfInBounds_toArray, List.set_cons_zero, List.set_cons_succ, i64_w, i32_w]
       rfl
      refine done_ (by kernel_rfl) ?_
      try go_wp2
      go_roundg k1
      case measure => have := HK1.out; omega
      case rel => exact ⟨(wrap64 (x1_1 + 1)), (wrap64 (x5_1 + 1)), (by first | rfl | (simp; done) | (simp [*]; done)), (by first | rfl | (simp; done) | (simp [*]; done)), H', ⟨by have := HK1.out; omega⟩, ⟨by repeat (first | (with_reducible first | exact HB.out | apply below_alloc | apply pw_below_drewN | apply below_drew1) | exact HB.out)⟩⟩
     ·rw [if_neg c6] at H
      have c6b0 : ((rdOf ByteArray.empty l0 x5_1).toList == t102.toList) = false := beq_eq_false_iff_ne.mpr c6
      have c6b1 : ((rdOf ByteArray.empty l0 x5_1).toList != t102.toList) = true := bne_iff_ne.mpr c6
      obtain rfl := Option.some.inj H
      try go_wp2
      have n0_ := Aside0.mk (below_drew1 HB.out)
      clear HB
      have HB := n0_
      clear n0_
      have p101 : 0 ≤ (x5_1 : Int) := of_decide_eq_true (by first | (with_reducible assumption) | assumption)
      have q101 : x5_1 < (l0.length : Int) := of_decide_eq_true (by first | (with_reducible assumption) | assumption)
      obtain ⟨ad101, e101, hx101_0⟩ := Kd.at_string HR0.out x5_1 p101 q101
      have hw101_0 := hx101_0
      cases e101
      replace hx101_0 := (HB.out.cell (World.block_lt_of_cell? w _ hx101_0)).trans hx101_0
      replace p101 := eq_true p101
      replace q101 := eq_true q101
      refine start_ (n := 7) (S := fun w' => w'.cell? (ad101.add (x5_1).toNat) = some (.string (rdOf ByteArray.empty l0 x5_1))) (ds := []) #[false, false, false, false, false, false, false] (by kernel_rfl) rfl rfl (((HB.out.cell (World.block_lt_of_cell? w _ hw101_0)).trans hw101_0)) (fun hHeld => ?_)
      generalize wr.drew = w9 at HB hx101_0 hHeld ⊢
      refine pure_ (i := 0) (N := some 12) (v := ?_) (a' := ?_) #[true, false, false, false, false, false, false] rfl rfl (by kernel_rfl) (fun _ _ _ h => h) (Or.inl ⟨by rfl, ?_⟩) ?_ ?_
      rotate_left
      ·intro w'
       go_simp
       with_reducible rfl
      rotate_left
      ·simp only [Act.put, List.setIfInBounds_toArray, List.set_cons_zero, List.set_cons_succ, i64_w, i32_w]
       rfl
      refine pure_ (i := 1) (N := some 13) (v := ?_) (a' := ?_) #[true, true, false, false, false, false, false] rfl rfl (by kernel_rfl) (fun _ _ _ h => h) (Or.inl ⟨by rfl, ?_⟩) ?_ ?_
      rotate_left
      ·intro w'
       go_simp
       with_reducible rfl
      rotate_left
      ·simp only [Act.put, List.setIfInBounds_toArray, List.set_cons_zero, List.set_cons_succ, i64_w, i32_w]
       rfl
      refine pure_ (i := 2) (N := some 14) (v := ?_) (a' := ?_) #[true, true, true, false, false, false, false] rfl rfl (by kernel_rfl) (fun _ _ _ h => h) (Or.inl ⟨by rfl, ?_⟩) ?_ ?_
      rotate_left
      ·intro w'
       go_simp
       with_reducible rfl
      rotate_left
      ·simp only [Act.put, List.setIfInBounds_toArray, List.set_cons_zero, List.set_cons_succ, i64_w, i32_w]
       rfl
      refine pure_ (i := 4) (N := some 16) (v := ?_) (a' := ?_) #[true, true, true, false, true, false, false] rfl rfl (by kernel_rfl) (fun _ _ _ h => h) (Or.inl ⟨by rfl, ?_⟩) ?_ ?_
      rotate_left
      ·intro w'
       go_simp
       with_reducible rfl
      rotate_left
      ·simp only [Act.put, List.setIfInBounds_toArray, List.set_cons_zero, List.set_cons_succ, i64_w, i32_w]
       rfl
      refine take_ (i := 3) (N := some 15) (v := ?_) (a' := ?_) #[true, true, true, true, true, false, false] rfl rfl (by kernel_rfl) (fun _ _ _ h => h) (Or.inl ⟨by rfl, ?_⟩) hHeld ?_ ?_
      rotate_left
      ·intro w' s0
       go_simp
       with_reducible rfl
      rotate_left
      ·simp only [Act.put, List.setIfInBounds_toArray, List.set_cons_zero, List.set_cons_succ, i64_w, i32_w]
       rfl
      refine one_ (i := 5) (N := some 17) #[true, true, true, true, true, true, false] rfl rfl (by kernel_rfl) (by decide) (fun K hK => ?_)
      refine goes_ Tryd.func57 (by kernel_rfl) rfl #[.int .i64 x1_1] (by rfl) rfl rfl (by (try simp only [List.map_toArray, List.map_cons, List.map_nil]); first | done | rfl | (simp only [List.length_drop, List.length_take]; rfl)) ?_
      with_reducible refine (laws_markText.calls k1 x1_1 t102 _ A5.out).mono ?_
      rintro e w10 ⟨rfl, hb⟩
      refine ⟨_, rfl, ?_⟩
      have n0_ := Aside0.mk (below_step (by repeat (first | (with_reducible first | exact HB.out | apply below_alloc | apply pw_below_drewN | apply below_drew1) | exact HB.out)) hb)
      clear HB
      have HB := n0_
      clear n0_
      (try clear hb)
      (try clear hb2)
      (try clear hk)
      (try clear hi)
      refine hK.out _ _ (((HB.out.cell (World.block_lt_of_cell? w _ hw101_0)).trans hw101_0)) (fun hHeld => ?_)
      clear hK K
      refine norm_ (a' := ?_) ?_ ?_
      rotate_left
      ·show Act.put _ (some 17) _ = _
       simp only [Act.put, List.setIfInBounds_toArray, List.set_cons_zero, List.set_cons_succ, i64_w, i32_w]
       rfl
      refine pure_ (i := 6) (N := some 18) (v := ?_) (a' := ?_) #[true, true, true, true, true, true, true] rfl rfl (by kernel_rfl) (fun _ _ _ h => h) (Or.inl ⟨by rfl, ?_⟩) ?_ ?_
      rotate_left
      ·intro w'
       go_simp
       with_reducible rfl
      rotate_left
      ·simp only [Act.put, List.setIfInBounds_toArray, List.set_cons_zero, List.set_cons_succ, i64_w, i32_w]
       rfl
      refine done_ (by kernel_rfl) ?_
      try go_wp2
      go_ret
      exact ⟨by first | rfl | (simp [errW_none, errW_some] <;> rfl) | (simp [*, errW_none, errW_some] <;> rfl), by repeat (first | (with_reducible first | exact HB.out | apply below_alloc | apply pw_below_drewN | apply below_drew1) | exact HB.out)⟩
    ·rw [if_neg c4] at H
     exact absurd H (by simp)
   ·rw [if_neg c3] at H
    have c3b0 : decide (x5_1 < (l0.length : Int)) = false := decide_eq_false c3
    clear c3
    obtain rfl := Option.some.inj H
    go_wp2
    go_ret
    exact ⟨by first | rfl | (simp [errW_none, errW_some] <;> rfl) | (simp [*, errW_none, errW_some] <;> rfl), by repeat (first | (with_reducible first | exact HB.out | apply below_alloc | apply pw_below_drewN | apply below_drew1) | exact HB.out)⟩


/-! ### laws_FnExactListWords: function 4 -/
mutual
def laws_FnExactListWords.j0 : Nat → ByteArray → List ByteArray → Int → List ByteArray → Bool → Option (Bool)
 | 0, _, _, _, _, _ => none
 | k + 1, x0, x3, x4, x5, x32 => if x32 = true then (some false) else ((laws_markStringS.f k x5 1).bind fun bt110 => ((laws_heldStringS.f k bt110.2 1).bind fun t112 => (if t112 < 0 then (some false) else (if t112 = bt110.1 then ((impl_ListWords.f k x0).bind fun bt113 => ((laws_eqStringS.f k bt113.1 x3).bind fun t117 => (if t117 = true then (laws_FnExactListWords.j1 k bt110.2 bt110.1 (bt113.2 != x4)) else (laws_FnExactListWords.j1 k bt110.2 bt110.1 true)))) else (some false)))))
def laws_FnExactListWords.j1 : Nat → List ByteArray → Int → Bool → Option (Bool)
 | 0, _, _, _ => none
 | k + 1, x5, x7, x57 => if x57 = true then (some false) else ((laws_heldStringS.f k x5 1).bind fun t118 => (if t118 < 0 then (some false) else (if t118 = x7 then (some true) else (some false))))
end
def laws_FnExactListWords.f (k : Nat) (a0 : ByteArray) : Option (Bool) := if (a0.size : Int) > 1048576 then (some true) else ((spec_ListWords.f k a0).bind fun bt101 => ((impl_ListWords.f k a0).bind fun bt105 => ((laws_eqStringS.f k bt105.1 bt101.1).bind fun t109 => (if t109 = true then (laws_FnExactListWords.j0 k a0 bt101.1 bt101.2 bt105.1 (bt105.2 != bt101.2)) else (laws_FnExactListWords.j0 k a0 bt101.1 bt101.2 bt105.1 true)))))
theorem laws_FnExactListWords.mono_l : ∀ k, (∀ y0 y1 y2 y3 y4, LeO (laws_FnExactListWords.j0 k y0 y1 y2 y3 y4) (laws_FnExactListWords.j0 (k + 1) y0 y1 y2 y3 y4)) ∧ (∀ y0 y1 y2, LeO (laws_FnExactListWords.j1 k y0 y1 y2) (laws_FnExactListWords.j1 (k + 1) y0 y1 y2))
 | 0 => ⟨fun _ _ _ _ _ r h => by simp [laws_FnExactListWords.j0] at h, fun _ _ _ r h => by simp [laws_FnExactListWords.j1] at h⟩
 | k + 1 => by
  obtain ⟨ih0, ih1⟩ := laws_FnExactListWords.mono_l k
  refine ⟨?_, ?_⟩
  ·intro y0 y1 y2 y3 y4
   unfold laws_FnExactListWords.j0
   repeat' first
   | (with_reducible exact ih0 _ _ _ _ _)
   | (with_reducible exact ih1 _ _ _)
   | (with_reducible exact impl_ListWords.mono _ _)
   | (with_reducible exact laws_eqStringS.mono _ _ _)
   | (with_reducible exact laws_heldStringS.mono _ _ _)
   | (with_reducible exact laws_markStringS.mono _ _ _)
   | (with_reducible exact spec_ListWords.mono _ _)
   | (with_reducible exact LeO.refl _)
   | (with_reducible exact LeO.none _)
   | (with_reducible refine LeO.ite ?_ ?_)
   | (with_reducible refine LeO.bind ?_ (fun _ => ?_))
   | exact ih0 _ _ _ _ _
   | exact ih1 _ _ _
   | exact impl_ListWords.mono _ _
   | exact laws_eqStringS.mono _ _ _
   | exact laws_heldStringS.mono _ _ _
   | exact laws_markStringS.mono _ _ _
   | exact spec_ListWords.mono _ _
   | exact LeO.none _
   | refine LeO.ite ?_ ?_
   | refine LeO.bind ?_ (fun _ => ?_)
  ·intro y0 y1 y2
   unfold laws_FnExactListWords.j1
   repeat' first
   | (with_reducible exact ih0 _ _ _ _ _)
   | (with_reducible exact ih1 _ _ _)
   | (with_reducible exact impl_ListWords.mono _ _)
   | (with_reducible exact laws_eqStringS.mono _ _ _)
   | (with_reducible exact laws_heldStringS.mono _ _ _)
   | (with_reducible exact laws_markStringS.mono _ _ _)
   | (with_reducible exact spec_ListWords.mono _ _)
   | (with_reducible exact LeO.refl _)
   | (with_reducible exact LeO.none _)
   | (with_reducible refine LeO.ite ?_ ?_)
   | (with_reducible refine LeO.bind ?_ (fun _ => ?_))
   | exact ih0 _ _ _ _ _
   | exact ih1 _ _ _
   | exact impl_ListWords.mono _ _
   | exact laws_eqStringS.mono _ _ _
   | exact laws_heldStringS.mono _ _ _
   | exact laws_markStringS.mono _ _ _
   | exact spec_ListWords.mono _ _
   | exact LeO.none _
   | refine LeO.ite ?_ ?_
   | refine LeO.bind ?_ (fun _ => ?_)
theorem laws_FnExactListWords.mono : ∀ a0 k, LeO (laws_FnExactListWords.f k a0) (laws_FnExactListWords.f (k + 1) a0) := by
 intro a0 k
 obtain ⟨ih0, ih1⟩ := laws_FnExactListWords.mono_l k
 unfold laws_FnExactListWords.f
 repeat' first
   | (with_reducible exact ih0 _ _ _ _ _)
   | (with_reducible exact ih1 _ _ _)
   | (with_reducible exact impl_ListWords.mono _ _)
   | (with_reducible exact laws_eqStringS.mono _ _ _)
   | (with_reducible exact laws_heldStringS.mono _ _ _)
   | (with_reducible exact laws_markStringS.mono _ _ _)
   | (with_reducible exact spec_ListWords.mono _ _)
   | (with_reducible exact LeO.refl _)
   | (with_reducible exact LeO.none _)
   | (with_reducible refine LeO.ite ?_ ?_)
   | (with_reducible refine LeO.bind ?_ (fun _ => ?_))
   | exact ih0 _ _ _ _ _
   | exact ih1 _ _ _
   | exact impl_ListWords.mono _ _
   | exact laws_eqStringS.mono _ _ _
   | exact laws_heldStringS.mono _ _ _
   | exact laws_markStringS.mono _ _ _
   | exact spec_ListWords.mono _ _
   | exact LeO.none _
   | refine LeO.ite ?_ ?_
   | refine LeO.bind ?_ (fun _ => ?_)
set_option maxHeartbeats 8000000 in
set_option maxRecDepth 100000 in
theorem laws_FnExactListWords.calls (k : Nat) (a0 : ByteArray) (r : Bool) (w : World) (h : laws_FnExactListWords.f k a0 = some r) :
  Calls Tryd.prog 4 #[.string a0] w fun e w' => e = .returned (.bool r) ∧ Below w.heap.size w w' := by
 have HB := Aside0.mk (Below.refl w.heap.size w)
 have H : (if (a0.size : Int) > 1048576 then (some true) else ((spec_ListWords.f k a0).bind fun bt101 => ((impl_ListWords.f k a0).bind fun bt105 => ((laws_eqStringS.f k bt105.1 bt101.1).bind fun t109 => (if t109 = true then (laws_FnExactListWords.j0 k a0 bt101.1 bt101.2 bt105.1 (bt105.2 != bt101.2)) else (laws_FnExactListWords.j0 k a0 bt101.1 bt101.2 bt105.1 true)))))) = some r := h
 clear h
 by_cases c2 : (a0.size : Int) > 1048576
 ·rw [if_pos c2] at H
  have c2b0 : decide (1048576 < (a0.size : Int)) = true := decide_eq_true c2
  have c2b1 : decide (1048576 < a0.size) = true := decide_eq_true (by omega)
  clear c2
  obtain rfl := Option.some.inj H
  go_enter Tryd.func4, Tryd.ntmps4
  go_wp2
  go_ret
  exact ⟨by first | rfl | (simp [errW_none, errW_some] <;> rfl) | (simp [*, errW_none, errW_some] <;> rfl), by repeat (first | (with_reducible first | exact HB.out | apply below_alloc | apply pw_below_drewN | apply below_drew1) | exact HB.out)⟩
 ·rw [if_neg c2] at H
  have c2b0 : decide (1048576 < (a0.size : Int)) = false := decide_eq_false c2
  have c2b1 : decide (1048576 < a0.size) = false := decide_eq_false (by omega)
  clear c2
  replace H := Option.bind_eq_some_iff.mp H
  obtain ⟨⟨t101, t102⟩, A30, H⟩ := H
  replace H : ((impl_ListWords.f k a0).bind fun bt105 => ((laws_eqStringS.f k bt105.1 t101).bind fun t109 => (if t109 = true then (laws_FnExactListWords.j0 k a0 t101 t102 bt105.1 (bt105.2 != t102)) else (laws_FnExactListWords.j0 k a0 t101 t102 bt105.1 true)))) = some r := H
  have A3 := Aside0.mk A30
  clear A30
  replace H := Option.bind_eq_some_iff.mp H
  obtain ⟨⟨t105, t106⟩, A40, H⟩ := H
  replace H : ((laws_eqStringS.f k t105 t101).bind fun t109 => (if t109 = true then (laws_FnExactListWords.j0 k a0 t101 t102 t105 (t106 != t102)) else (laws_FnExactListWords.j0 k a0 t101 t102 t105 true))) = some r := H
  have A4 := Aside0.mk A40
  clear A40
  have HC5 := Aside0.mk H
  clear H
  go_enter Tryd.func4, Tryd.ntmps4
  go_upto_region 5 with (first | ((with_reducible refine gate_callee (f := 15) rfl ?_); refine goesL_ (some 16) rfl rfl Tryd.func15 (by kernel_rfl) rfl #[.string a0] rfl (by (try simp only [List.map_toArray, List.map_cons, List.map_nil]); first | done | rfl | (simp only [List.length_drop, List.length_take]; rfl)) ?_; (with_reducible refine (spec_ListWords.calls k a0 t101 t102 _ A3.out).mono ?_); rintro e w6 ⟨v103, rfl, ho0, hb⟩; refine ⟨_, rfl, ?_⟩; have n0_ := Aside0.mk (Kd.R_lower ho0 (below_size (by repeat (first | (with_reducible first | exact HB.out | apply below_alloc | apply pw_below_drewN | apply below_drew1) | exact HB.out)))); have n1_ := Aside0.mk (below_step (by repeat (first | (with_reducible first | exact HB.out | apply below_alloc | apply pw_below_drewN | apply below_drew1) | exact HB.out)) hb); clear HB; have HO104 := n0_; have HB := n1_; clear n0_ n1_; (try clear hb); (try clear hb2); (try clear hk); (try clear hi); (try clear ho0)) | ((with_reducible refine gate_callee (f := 16) rfl ?_); refine goesL_ (some 21) rfl rfl Tryd.func16 (by kernel_rfl) rfl #[.string a0] rfl (by (try simp only [List.map_toArray, List.map_cons, List.map_nil]); first | done | rfl | (simp only [List.length_drop, List.length_take]; rfl)) ?_; (with_reducible refine (impl_ListWords.calls k a0 t105 t106 _ A4.out).mono ?_); rintro e w7 ⟨v107, rfl, ho0, hb⟩; refine ⟨_, rfl, ?_⟩; have n0_ := Aside0.mk (Kd.R_elder' (by (with_reducible repeat (first | apply Kd.R_alloc | apply Kd.R_drewN | apply Kd.R_drew)); exact HO104.out) (Kd.R_base ho0) hb); have n1_ := Aside0.mk (Kd.R_lower (Kd.R_new' ho0 (Kd.R_lt (by (with_reducible repeat (first | apply Kd.R_alloc | apply Kd.R_drewN | apply Kd.R_drew)); exact HO104.out))) (below_size (by repeat (first | (with_reducible first | exact HB.out | apply below_alloc | apply pw_below_drewN | apply below_drew1) | exact HB.out)))); have n2_ := Aside0.mk (below_step (by repeat (first | (with_reducible first | exact HB.out | apply below_alloc | apply pw_below_drewN | apply below_drew1) | exact HB.out)) hb); clear HO104; clear HB; have HO104 := n0_; have HO108 := n1_; have HB := n2_; clear n0_ n1_ n2_; (try clear hb); (try clear hb2); (try clear hk); (try clear hi); (try clear ho0)))
  (try simp only [Act.put, List.setIfInBounds_toArray, List.set_cons_zero, List.set_cons_succ])
  go_cut [32] (fun v32 wc => ∃ (kq : Nat) (x32_4 : Bool), v32 = .bool x32_4 ∧ Aside0 (laws_FnExactListWords.j0 kq a0 t101 t102 t105 x32_4 = some r) ∧ Aside0 (kq ≤ k) ∧ Aside0 (Kd.R Kd.string 9 wc w.heap.size (fun k_ => some k_ ≠ (v107 : Value).ownBlock) v103 t101) ∧ Aside0 (Kd.R Kd.string 9 wc w.heap.size (fun k_ => some k_ ≠ (v103 : Value).ownBlock) v107 t105) ∧ Aside0 (Below w.heap.size w wc))
  case first =>
   have H := HC5.out
   clear HC5
   replace H := Option.bind_eq_some_iff.mp H
   obtain ⟨t109, A80, H⟩ := H
   replace H : (if t109 = true then (laws_FnExactListWords.j0 k a0 t101 t102 t105 (t106 != t102)) else (laws_FnExactListWords.j0 k a0 t101 t102 t105 true)) = some r := H
   have A8 := Aside0.mk A80
   clear A80
   by_cases c9 : t109 = true
   ·subst c9
    have H1 : (laws_FnExactListWords.j0 k a0 t101 t102 t105 (t106 != t102)) = some r := by rw [if_pos rfl] at H; exact H
    clear H
    have H := H1
    clear H1
    have H' := Aside0.mk H
    clear H
    obtain ⟨Ao10, co10, eo10⟩ := Kd.R_slice HO108.out
    subst eo10
    obtain ⟨Ao11, co11, eo11⟩ := Kd.R_slice HO104.out
    subst eo11
    go_wp2_with (first | ((with_reducible refine gate_callee (f := 17) rfl ?_); refine goesL_ (some 26) rfl rfl Tryd.func17 (by kernel_rfl) rfl #[.slice Ao10 t105.length co10, .slice Ao11 t101.length co11] rfl (by (try simp only [List.map_toArray, List.map_cons, List.map_nil]); first | done | rfl | (simp only [List.length_drop, List.length_take]; rfl)) ?_; (with_reducible refine (laws_eqStringS.calls k _ _ t105 _ _ t101 true _ ?side1 ?side2 ?side3 ?side4 A8.out).mono ?_); (case side1 => repeat (first | exact (Kd.R_reads' HO108.out).2.2 | (with_reducible refine Kd.C_alloc ?_ _) | (with_reducible refine Kd.C_drewN ?_ _) | (with_reducible refine Kd.C_drew ?_))); (case side2 => exact (Kd.R_reads' HO108.out).2.1); (case side3 => repeat (first | exact (Kd.R_reads' HO104.out).2.2 | (with_reducible refine Kd.C_alloc ?_ _) | (with_reducible refine Kd.C_drewN ?_ _) | (with_reducible refine Kd.C_drew ?_))); (case side4 => exact (Kd.R_reads' HO104.out).2.1); rintro e w' ⟨rfl, ⟨nd, rfl⟩⟩; refine ⟨_, rfl, ?_⟩))
    go_meet
    case rel => exact ⟨_, ((t106 != t102)), (by first | rfl | (simp; done) | (simp [*]; done)), H', ⟨by first | omega | exact Nat.le_refl _⟩, ⟨by (with_reducible repeat (first | apply Kd.R_alloc | apply Kd.R_drewN | apply Kd.R_drew)); exact Kd.R_mono HO104.out (fun _ hk => hk.2)⟩, ⟨by (with_reducible repeat (first | apply Kd.R_alloc | apply Kd.R_drewN | apply Kd.R_drew)); exact Kd.R_mono HO108.out (fun _ hk => hk.2)⟩, ⟨by repeat (first | (with_reducible first | exact HB.out | apply below_alloc | apply pw_below_drewN | apply below_drew1) | exact HB.out)⟩⟩
   ·replace c9 := Bool.eq_false_iff.mpr c9
    subst c9
    have H1 : (laws_FnExactListWords.j0 k a0 t101 t102 t105 true) = some r := by rw [if_neg (show ¬ (false = true) by decide)] at H; exact H
    clear H
    have H := H1
    clear H1
    have H' := Aside0.mk H
    clear H
    obtain ⟨Ao12, co12, eo12⟩ := Kd.R_slice HO108.out
    subst eo12
    obtain ⟨Ao13, co13, eo13⟩ := Kd.R_slice HO104.out
    subst eo13
    go_wp2_with (first | ((with_reducible refine gate_callee (f := 17) rfl ?_); refine goesL_ (some 26) rfl rfl Tryd.func17 (by kernel_rfl) rfl #[.slice Ao12 t105.length co12, .slice Ao13 t101.length co13] rfl (by (try simp only [List.map_toArray, List.map_cons, List.map_nil]); first | done | rfl | (simp only [List.length_drop, List.length_take]; rfl)) ?_; (with_reducible refine (laws_eqStringS.calls k _ _ t105 _ _ t101 false _ ?side1 ?side2 ?side3 ?side4 A8.out).mono ?_); (case side1 => repeat (first | exact (Kd.R_reads' HO108.out).2.2 | (with_reducible refine Kd.C_alloc ?_ _) | (with_reducible refine Kd.C_drewN ?_ _) | (with_reducible refine Kd.C_drew ?_))); (case side2 => exact (Kd.R_reads' HO108.out).2.1); (case side3 => repeat (first | exact (Kd.R_reads' HO104.out).2.2 | (with_reducible refine Kd.C_alloc ?_ _) | (with_reducible refine Kd.C_drewN ?_ _) | (with_reducible refine Kd.C_drew ?_))); (case side4 => exact (Kd.R_reads' HO104.out).2.1); rintro e w' ⟨rfl, ⟨nd, rfl⟩⟩; refine ⟨_, rfl, ?_⟩))
    go_meet
    case rel => exact ⟨_, (true), (by first | rfl | (simp; done) | (simp [*]; done)), H', ⟨by first | omega | exact Nat.le_refl _⟩, ⟨by (with_reducible repeat (first | apply Kd.R_alloc | apply Kd.R_drewN | apply Kd.R_drew)); exact Kd.R_mono HO104.out (fun _ hk => hk.2)⟩, ⟨by (with_reducible repeat (first | apply Kd.R_alloc | apply Kd.R_drewN | apply Kd.R_drew)); exact Kd.R_mono HO108.out (fun _ hk => hk.2)⟩, ⟨by repeat (first | (with_reducible first | exact HB.out | apply below_alloc | apply pw_below_drewN | apply below_drew1) | exact HB.out)⟩⟩
  case rest =>
   clear HC5
   try clear c1
   try clear c2
   try clear c2b0
   try clear c2b1
   try clear p2
   try clear c4
   try clear c9
   obtain ⟨kq, x32_4, rfl, HA, HJ4, HO_3, HO_5, HB⟩ := hcut
   cases kq with
   | zero => exact absurd HA.out (by simp [laws_FnExactListWords.j0])
   | succ kj4 =>
    have H := HA.out
    clear HA
    simp only [laws_FnExactListWords.j0] at H
    by_cases c14 : x32_4 = true
    ·subst c14
     have H1 : (some false) = some r := by rw [if_pos rfl] at H; exact H
     clear H
     have H := H1
     clear H1
     obtain rfl := Option.some.inj H
     go_wp2
     go_ret
     exact ⟨by first | rfl | (simp [errW_none, errW_some] <;> rfl) | (simp [*, errW_none, errW_some] <;> rfl), by repeat (first | (with_reducible first | exact HB.out | apply below_alloc | apply pw_below_drewN | apply below_drew1) | exact HB.out)⟩
    ·replace c14 := Bool.eq_false_iff.mpr c14
     subst c14
     have H1 : ((laws_markStringS.f kj4 t105 1).bind fun bt110 => ((laws_heldStringS.f kj4 bt110.2 1).bind fun t112 => (if t112 < 0 then (some false) else (if t112 = bt110.1 then ((impl_ListWords.f kj4 a0).bind fun bt113 => ((laws_eqStringS.f kj4 bt113.1 t101).bind fun t117 => (if t117 = true then (laws_FnExactListWords.j1 kj4 bt110.2 bt110.1 (bt113.2 != t102)) else (laws_FnExactListWords.j1 kj4 bt110.2 bt110.1 true)))) else (some false))))) = some r := by rw [if_neg (show ¬ (false = true) by decide)] at H; exact H
     clear H
     have H := H1
     clear H1
     replace H := Option.bind_eq_some_iff.mp H
     obtain ⟨⟨t110, t111⟩, A150, H⟩ := H
     replace H : ((laws_heldStringS.f kj4 t111 1).bind fun t112 => (if t112 < 0 then (some false) else (if t112 = t110 then ((impl_ListWords.f kj4 a0).bind fun bt113 => ((laws_eqStringS.f kj4 bt113.1 t101).bind fun t117 => (if t117 = true then (laws_FnExactListWords.j1 kj4 t111 t110 (bt113.2 != t102)) else (laws_FnExactListWords.j1 kj4 t111 t110 true)))) else (some false)))) = some r := H
     have A15 := Aside0.mk A150
     clear A150
     replace H := Option.bind_eq_some_iff.mp H
     obtain ⟨t112, A160, H⟩ := H
     replace H : (if t112 < 0 then (some false) else (if t112 = t110 then ((impl_ListWords.f kj4 a0).bind fun bt113 => ((laws_eqStringS.f kj4 bt113.1 t101).bind fun t117 => (if t117 = true then (laws_FnExactListWords.j1 kj4 t111 t110 (bt113.2 != t102)) else (laws_FnExactListWords.j1 kj4 t111 t110 true)))) else (some false))) = some r := H
     have A16 := Aside0.mk A160
     clear A160
     by_cases c17 : t112 < 0
     ·rw [if_pos c17] at H
      have c17b0 : decide (t112 < 0) = true := decide_eq_true c17
      clear c17
      obtain rfl := Option.some.inj H
      obtain ⟨Ao18, co18, eo18⟩ := Kd.R_slice HO_5.out
      subst eo18
      go_wp2_with (first | ((with_reducible refine gate_callee (f := 18) rfl ?_); refine goesL_ (some 35) rfl rfl Tryd.func18 (by kernel_rfl) rfl #[.slice Ao18 t105.length co18, .int .i64 1] rfl (by (try simp only [List.map_toArray, List.map_cons, List.map_nil]); first | done | rfl | (simp only [List.length_drop, List.length_take]; rfl)) ?_; (with_reducible refine (laws_markStringS.calls kj4 (fun k_ => some k_ = (.slice Ao18 t105.length co18 : Value).ownBlock) (.slice Ao18 t105.length co18) t105 1 t110 t111 w _ ?side1 ?side2 A15.out).mono ?_); (case side1 => repeat (first | (with_reducible first | exact HB.out | apply below_alloc | apply pw_below_drewN | apply below_drew1) | exact HB.out)); (case side2 => exact Kd.R_tight rfl HO_5.out); rintro e w19 ⟨rfl, hy0, hb, hkp⟩; refine ⟨_, rfl, ?_⟩; have n0_ := Aside0.mk (Kd.R_mono (ok' := fun k_ => some k_ ≠ (.slice Ao18 t105.length co18 : Value).ownBlock) (Kd.R_keptB (HO_3.out) hkp (fun k_ hk_ hs_ => (hk_) hs_)) (fun k_ hk_ => hk_.1)); have n1_ := Aside0.mk (Kd.R_reok rfl hy0 (fun k_ e_ => HO_5.out.1 k_ e_)); have n2_ := Aside0.mk (hb); clear HO_3; clear HO_5; clear HB; have HO_3 := n0_; have HO_5 := n1_; have HB := n2_; clear n0_ n1_ n2_; (try clear hb); (try clear hkp); (try clear hy0)) | ((with_reducible refine gate_callee (f := 19) rfl ?_); refine goesL_ (some 38) rfl rfl Tryd.func19 (by kernel_rfl) rfl #[.slice Ao18 t111.length co18, .int .i64 1] rfl (by (try simp only [List.map_toArray, List.map_cons, List.map_nil]); first | done | (rw [show t111.length = t105.length from (Kd.R_reads' HO_5.out).1.symm] <;> rfl) | rfl | (simp only [List.length_drop, List.length_take]; rfl)) ?_; (with_reducible refine (laws_heldStringS.calls kj4 _ _ t111 1 t112 _ ?side1 ?side2 A16.out).mono ?_); (case side1 => repeat (first | exact (Kd.R_reads' HO_5.out).2.2 | (with_reducible refine Kd.C_alloc ?_ _) | (with_reducible refine Kd.C_drewN ?_ _) | (with_reducible refine Kd.C_drew ?_))); (case side2 => rw [show t111.length = t105.length from (Kd.R_reads' HO_5.out).1.symm]; exact (Kd.R_reads' HO_5.out).2.1); rintro e w20 ⟨rfl, hb⟩; refine ⟨_, rfl, ?_⟩; have n0_ := Aside0.mk (Kd.R_below (by (with_reducible repeat (first | apply Kd.R_alloc | apply Kd.R_drewN | apply Kd.R_drew)); exact HO_3.out) hb); have n1_ := Aside0.mk (Kd.R_below (by (with_reducible repeat (first | apply Kd.R_alloc | apply Kd.R_drewN | apply Kd.R_drew)); exact HO_5.out) hb); have n2_ := Aside0.mk (below_step (by repeat (first | (with_reducible first | exact HB.out | apply below_alloc | apply pw_below_drewN | apply below_drew1) | exact HB.out)) hb); clear HO_3; clear HO_5; clear HB; have HO_3 := n0_; have HO_5 := n1_; have HB := n2_; clear n0_ n1_ n2_; (try clear hb); (try clear hb2); (try clear hk); (try clear hi)))
      go_ret
      exact ⟨by first | rfl | (simp [errW_none, errW_some] <;> rfl) | (simp [*, errW_none, errW_some] <;> rfl), by repeat (first | (with_reducible first | exact HB.out | apply below_alloc | apply pw_below_drewN | apply below_drew1) | exact HB.out)⟩
     ·rw [if_neg c17] at H
      have c17b0 : decide (t112 < 0) = false := decide_eq_false c17
      clear c17
      by_cases c21 : t112 = t110
      ·rw [if_pos c21] at H
       have c21b0 : (t112 == t110) = true := beq_iff_eq.mpr c21
       have c21b1 : (t112 != t110) = false := bne_eq_false_iff_eq.mpr c21
       clear c21
       replace H := Option.bind_eq_some_iff.mp H
       obtain ⟨⟨t113, t114⟩, A220, H⟩ := H
       replace H : ((laws_eqStringS.f kj4 t113 t101).bind fun t117 => (if t117 = true then (laws_FnExactListWords.j1 kj4 t111 t110 (t114 != t102)) else (laws_FnExactListWords.j1 kj4 t111 t110 true))) = some r := H
       have A22 := Aside0.mk A220
       clear A220
       have HC23 := Aside0.mk H
       clear H
       obtain ⟨Ao24, co24, eo24⟩ := Kd.R_slice HO_5.out
       subst eo24
       go_upto_region 16 with (first | ((with_reducible refine gate_callee (f := 18) rfl ?_); refine goesL_ (some 35) rfl rfl Tryd.func18 (by kernel_rfl) rfl #[.slice Ao24 t105.length co24, .int .i64 1] rfl (by (try simp only [List.map_toArray, List.map_cons, List.map_nil]); first | done | rfl | (simp only [List.length_drop, List.length_take]; rfl)) ?_; (with_reducible refine (laws_markStringS.calls kj4 (fun k_ => some k_ = (.slice Ao24 t105.length co24 : Value).ownBlock) (.slice Ao24 t105.length co24) t105 1 t110 t111 w _ ?side1 ?side2 A15.out).mono ?_); (case side1 => repeat (first | (with_reducible first | exact HB.out | apply below_alloc | apply pw_below_drewN | apply below_drew1) | exact HB.out)); (case side2 => exact Kd.R_tight rfl HO_5.out); rintro e w25 ⟨rfl, hy0, hb, hkp⟩; refine ⟨_, rfl, ?_⟩; have n0_ := Aside0.mk (Kd.R_mono (ok' := fun k_ => some k_ ≠ (.slice Ao24 t105.length co24 : Value).ownBlock) (Kd.R_keptB (HO_3.out) hkp (fun k_ hk_ hs_ => (hk_) hs_)) (fun k_ hk_ => hk_.1)); have n1_ := Aside0.mk (Kd.R_reok rfl hy0 (fun k_ e_ => HO_5.out.1 k_ e_)); have n2_ := Aside0.mk (hb); clear HO_3; clear HO_5; clear HB; have HO_3 := n0_; have HO_5 := n1_; have HB := n2_; clear n0_ n1_ n2_; (try clear hb); (try clear hkp); (try clear hy0)) | ((with_reducible refine gate_callee (f := 19) rfl ?_); refine goesL_ (some 38) rfl rfl Tryd.func19 (by kernel_rfl) rfl #[.slice Ao24 t111.length co24, .int .i64 1] rfl (by (try simp only [List.map_toArray, List.map_cons, List.map_nil]); first | done | (rw [show t111.length = t105.length from (Kd.R_reads' HO_5.out).1.symm] <;> rfl) | rfl | (simp only [List.length_drop, List.length_take]; rfl)) ?_; (with_reducible refine (laws_heldStringS.calls kj4 _ _ t111 1 t112 _ ?side1 ?side2 A16.out).mono ?_); (case side1 => repeat (first | exact (Kd.R_reads' HO_5.out).2.2 | (with_reducible refine Kd.C_alloc ?_ _) | (with_reducible refine Kd.C_drewN ?_ _) | (with_reducible refine Kd.C_drew ?_))); (case side2 => rw [show t111.length = t105.length from (Kd.R_reads' HO_5.out).1.symm]; exact (Kd.R_reads' HO_5.out).2.1); rintro e w26 ⟨rfl, hb⟩; refine ⟨_, rfl, ?_⟩; have n0_ := Aside0.mk (Kd.R_below (by (with_reducible repeat (first | apply Kd.R_alloc | apply Kd.R_drewN | apply Kd.R_drew)); exact HO_3.out) hb); have n1_ := Aside0.mk (Kd.R_below (by (with_reducible repeat (first | apply Kd.R_alloc | apply Kd.R_drewN | apply Kd.R_drew)); exact HO_5.out) hb); have n2_ := Aside0.mk (below_step (by repeat (first | (with_reducible first | exact HB.out | apply below_alloc | apply pw_below_drewN | apply below_drew1) | exact HB.out)) hb); clear HO_3; clear HO_5; clear HB; have HO_3 := n0_; have HO_5 := n1_; have HB := n2_; clear n0_ n1_ n2_; (try clear hb); (try clear hb2); (try clear hk); (try clear hi)) | ((with_reducible refine gate_callee (f := 16) rfl ?_); refine goesL_ (some 46) rfl rfl Tryd.func16 (by kernel_rfl) rfl #[.string a0] rfl (by (try simp only [List.map_toArray, List.map_cons, List.map_nil]); first | done | rfl | (simp only [List.length_drop, List.length_take]; rfl)) ?_; (with_reducible refine (impl_ListWords.calls kj4 a0 t113 t114 _ A22.out).mono ?_); rintro e w27 ⟨v115, rfl, ho0, hb⟩; refine ⟨_, rfl, ?_⟩; have n0_ := Aside0.mk (Kd.R_elder' (by (with_reducible repeat (first | apply Kd.R_alloc | apply Kd.R_drewN | apply Kd.R_drew)); exact HO_3.out) (Kd.R_base ho0) hb); have n1_ := Aside0.mk (Kd.R_elder' (by (with_reducible repeat (first | apply Kd.R_alloc | apply Kd.R_drewN | apply Kd.R_drew)); exact HO_5.out) (Kd.R_base ho0) hb); have n2_ := Aside0.mk (Kd.R_lower (Kd.R_new' (Kd.R_new' ho0 (Kd.R_lt (by (with_reducible repeat (first | apply Kd.R_alloc | apply Kd.R_drewN | apply Kd.R_drew)); exact HO_3.out))) (Kd.R_lt (by (with_reducible repeat (first | apply Kd.R_alloc | apply Kd.R_drewN | apply Kd.R_drew)); exact HO_5.out))) (below_size (by repeat (first | (with_reducible first | exact HB.out | apply below_alloc | apply pw_below_drewN | apply below_drew1) | exact HB.out)))); have n3_ := Aside0.mk (below_step (by repeat (first | (with_reducible first | exact HB.out | apply below_alloc | apply pw_below_drewN | apply below_drew1) | exact HB.out)) hb); clear HO_3; clear HO_5; clear HB; have HO_3 := n0_; have HO_5 := n1_; have HO116 := n2_; have HB := n3_; clear n0_ n1_ n2_ n3_; (try clear hb); (try clear hb2); (try clear hk); (try clear hi); (try clear ho0)))
       (try simp only [Act.put, List.setIfInBounds_toArray, List.set_cons_zero, List.set_cons_succ])
       go_cut [57] (fun v57 wc => ∃ (kq : Nat) (x57_22 : Bool), v57 = .bool x57_22 ∧ Aside0 (laws_FnExactListWords.j1 kq t111 t110 x57_22 = some r) ∧ Aside0 (kq ≤ kj4) ∧ Aside0 (Kd.R Kd.string 9 wc w.heap.size (fun _ => True) (.slice Ao24 t105.length co24) t111) ∧ Aside0 (Below w.heap.size w wc))
       case first =>
        have H := HC23.out
        clear HC23
        replace H := Option.bind_eq_some_iff.mp H
        obtain ⟨t117, A280, H⟩ := H
        replace H : (if t117 = true then (laws_FnExactListWords.j1 kj4 t111 t110 (t114 != t102)) else (laws_FnExactListWords.j1 kj4 t111 t110 true)) = some r := H
        have A28 := Aside0.mk A280
        clear A280
        by_cases c29 : t117 = true
        ·subst c29
         have H1 : (laws_FnExactListWords.j1 kj4 t111 t110 (t114 != t102)) = some r := by rw [if_pos rfl] at H; exact H
         clear H
         have H := H1
         clear H1
         have H' := Aside0.mk H
         clear H
         obtain ⟨Ao30, co30, eo30⟩ := Kd.R_slice HO116.out
         subst eo30
         obtain ⟨Ao31, co31, eo31⟩ := Kd.R_slice HO_3.out
         subst eo31
         go_wp2_with (first | ((with_reducible refine gate_callee (f := 17) rfl ?_); refine goesL_ (some 51) rfl rfl Tryd.func17 (by kernel_rfl) rfl #[.slice Ao30 t113.length co30, .slice Ao31 t101.length co31] rfl (by (try simp only [List.map_toArray, List.map_cons, List.map_nil]); first | done | rfl | (simp only [List.length_drop, List.length_take]; rfl)) ?_; (with_reducible refine (laws_eqStringS.calls kj4 _ _ t113 _ _ t101 true _ ?side1 ?side2 ?side3 ?side4 A28.out).mono ?_); (case side1 => repeat (first | exact (Kd.R_reads' HO116.out).2.2 | (with_reducible refine Kd.C_alloc ?_ _) | (with_reducible refine Kd.C_drewN ?_ _) | (with_reducible refine Kd.C_drew ?_))); (case side2 => exact (Kd.R_reads' HO116.out).2.1); (case side3 => repeat (first | exact (Kd.R_reads' HO_3.out).2.2 | (with_reducible refine Kd.C_alloc ?_ _) | (with_reducible refine Kd.C_drewN ?_ _) | (with_reducible refine Kd.C_drew ?_))); (case side4 => exact (Kd.R_reads' HO_3.out).2.1); rintro e w' ⟨rfl, ⟨nd, rfl⟩⟩; refine ⟨_, rfl, ?_⟩))
         go_meet
         case rel => exact ⟨_, ((t114 != t102)), (by first | rfl | (simp; done) | (simp [*]; done)), H', ⟨by have := HJ4.out; first | omega | exact Nat.le_refl _⟩, ⟨by (with_reducible repeat (first | apply Kd.R_alloc | apply Kd.R_drewN | apply Kd.R_drew)); exact Kd.R_mono HO_5.out (fun _ hk => trivial)⟩, ⟨by repeat (first | (with_reducible first | exact HB.out | apply below_alloc | apply pw_below_drewN | apply below_drew1) | exact HB.out)⟩⟩
        ·replace c29 := Bool.eq_false_iff.mpr c29
         subst c29
         have H1 : (laws_FnExactListWords.j1 kj4 t111 t110 true) = some r := by rw [if_neg (show ¬ (false = true) by decide)] at H; exact H
         clear H
         have H := H1
         clear H1
         have H' := Aside0.mk H
         clear H
         obtain ⟨Ao32, co32, eo32⟩ := Kd.R_slice HO116.out
         subst eo32
         obtain ⟨Ao33, co33, eo33⟩ := Kd.R_slice HO_3.out
         subst eo33
         go_wp2_with (first | ((with_reducible refine gate_callee (f := 17) rfl ?_); refine goesL_ (some 51) rfl rfl Tryd.func17 (by kernel_rfl) rfl #[.slice Ao32 t113.length co32, .slice Ao33 t101.length co33] rfl (by (try simp only [List.map_toArray, List.map_cons, List.map_nil]); first | done | rfl | (simp only [List.length_drop, List.length_take]; rfl)) ?_; (with_reducible refine (laws_eqStringS.calls kj4 _ _ t113 _ _ t101 false _ ?side1 ?side2 ?side3 ?side4 A28.out).mono ?_); (case side1 => repeat (first | exact (Kd.R_reads' HO116.out).2.2 | (with_reducible refine Kd.C_alloc ?_ _) | (with_reducible refine Kd.C_drewN ?_ _) | (with_reducible refine Kd.C_drew ?_))); (case side2 => exact (Kd.R_reads' HO116.out).2.1); (case side3 => repeat (first | exact (Kd.R_reads' HO_3.out).2.2 | (with_reducible refine Kd.C_alloc ?_ _) | (with_reducible refine Kd.C_drewN ?_ _) | (with_reducible refine Kd.C_drew ?_))); (case side4 => exact (Kd.R_reads' HO_3.out).2.1); rintro e w' ⟨rfl, ⟨nd, rfl⟩⟩; refine ⟨_, rfl, ?_⟩))
         go_meet
         case rel => exact ⟨_, (true), (by first | rfl | (simp; done) | (simp [*]; done)), H', ⟨by have := HJ4.out; first | omega | exact Nat.le_refl _⟩, ⟨by (with_reducible repeat (first | apply Kd.R_alloc | apply Kd.R_drewN | apply Kd.R_drew)); exact Kd.R_mono HO_5.out (fun _ hk => trivial)⟩, ⟨by repeat (first | (with_reducible first | exact HB.out | apply below_alloc | apply pw_below_drewN | apply below_drew1) | exact HB.out)⟩⟩
       case rest =>
        clear HC23
        try clear c1
        try clear c2
        try clear c2b0
        try clear c2b1
        try clear p2
        try clear c4
        try clear c9
        try clear c14
        try clear c15
        try clear c16
        try clear c17
        try clear c17b0
        try clear c18
        try clear c19
        try clear c21
        try clear c21b0
        try clear c21b1
        try clear c29
        try clear p2
        obtain ⟨kq, x57_22, rfl, HA, HJ22, HO_5, HB⟩ := hcut
        have hl5_22 := (Kd.R_reads' HO_5.out).1
        rw [hl5_22] at HO_5
        (try simp only [hl5_22])
        cases kq with
        | zero => exact absurd HA.out (by simp [laws_FnExactListWords.j1])
        | succ kj22 =>
         have H := HA.out
         clear HA
         simp only [laws_FnExactListWords.j1] at H
         by_cases c34 : x57_22 = true
         ·subst c34
          have H1 : (some false) = some r := by rw [if_pos rfl] at H; exact H
          clear H
          have H := H1
          clear H1
          obtain rfl := Option.some.inj H
          go_wp2
          go_ret
          exact ⟨by first | rfl | (simp [errW_none, errW_some] <;> rfl) | (simp [*, errW_none, errW_some] <;> rfl), by repeat (first | (with_reducible first | exact HB.out | apply below_alloc | apply pw_below_drewN | apply below_drew1) | exact HB.out)⟩
         ·replace c34 := Bool.eq_false_iff.mpr c34
          subst c34
          have H1 : ((laws_heldStringS.f kj22 t111 1).bind fun t118 => (if t118 < 0 then (some false) else (if t118 = t110 then (some true) else (some false)))) = some r := by rw [if_neg (show ¬ (false = true) by decide)] at H; exact H
          clear H
          have H := H1
          clear H1
          replace H := Option.bind_eq_some_iff.mp H
          obtain ⟨t118, A350, H⟩ := H
          replace H : (if t118 < 0 then (some false) else (if t118 = t110 then (some true) else (some false))) = some r := H
          have A35 := Aside0.mk A350
          clear A350
          by_cases c36 : t118 < 0
          ·rw [if_pos c36] at H
           have c36b0 : decide (t118 < 0) = true := decide_eq_true c36
           clear c36
           obtain rfl := Option.some.inj H
           go_wp2_with (first | ((with_reducible refine gate_callee (f := 19) rfl ?_); refine goesL_ (some 60) rfl rfl Tryd.func19 (by kernel_rfl) rfl #[.slice Ao24 t111.length co24, .int .i64 1] rfl (by (try simp only [List.map_toArray, List.map_cons, List.map_nil]); first | done | rfl | (simp only [List.length_drop, List.length_take]; rfl)) ?_; (with_reducible refine (laws_heldStringS.calls kj22 _ _ t111 1 t118 _ ?side1 ?side2 A35.out).mono ?_); (case side1 => repeat (first | exact (Kd.R_reads' HO_5.out).2.2 | (with_reducible refine Kd.C_alloc ?_ _) | (with_reducible refine Kd.C_drewN ?_ _) | (with_reducible refine Kd.C_drew ?_))); (case side2 => exact (Kd.R_reads' HO_5.out).2.1); rintro e w37 ⟨rfl, hb⟩; refine ⟨_, rfl, ?_⟩; have n0_ := Aside0.mk (Kd.R_below (by (with_reducible repeat (first | apply Kd.R_alloc | apply Kd.R_drewN | apply Kd.R_drew)); exact HO_5.out) hb); have n1_ := Aside0.mk (below_step (by repeat (first | (with_reducible first | exact HB.out | apply below_alloc | apply pw_below_drewN | apply below_drew1) | exact HB.out)) hb); clear HO_5; clear HB; have HO_5 := n0_; have HB := n1_; clear n0_ n1_; (try clear hb); (try clear hb2); (try clear hk); (try clear hi)))
           go_ret
           exact ⟨by first | rfl | (simp [errW_none, errW_some] <;> rfl) | (simp [*, errW_none, errW_some] <;> rfl), by repeat (first | (with_reducible first | exact HB.out | apply below_alloc | apply pw_below_drewN | apply below_drew1) | exact HB.out)⟩
          ·rw [if_neg c36] at H
           have c36b0 : decide (t118 < 0) = false := decide_eq_false c36
           clear c36
           by_cases c38 : t118 = t110
           ·rw [if_pos c38] at H
            have c38b0 : (t118 == t110) = true := beq_iff_eq.mpr c38
            have c38b1 : (t118 != t110) = false := bne_eq_false_iff_eq.mpr c38
            clear c38
            obtain rfl := Option.some.inj H
            go_wp2_with (first | ((with_reducible refine gate_callee (f := 19) rfl ?_); refine goesL_ (some 60) rfl rfl Tryd.func19 (by kernel_rfl) rfl #[.slice Ao24 t111.length co24, .int .i64 1] rfl (by (try simp only [List.map_toArray, List.map_cons, List.map_nil]); first | done | rfl | (simp only [List.length_drop, List.length_take]; rfl)) ?_; (with_reducible refine (laws_heldStringS.calls kj22 _ _ t111 1 t118 _ ?side1 ?side2 A35.out).mono ?_); (case side1 => repeat (first | exact (Kd.R_reads' HO_5.out).2.2 | (with_reducible refine Kd.C_alloc ?_ _) | (with_reducible refine Kd.C_drewN ?_ _) | (with_reducible refine Kd.C_drew ?_))); (case side2 => exact (Kd.R_reads' HO_5.out).2.1); rintro e w39 ⟨rfl, hb⟩; refine ⟨_, rfl, ?_⟩; have n0_ := Aside0.mk (Kd.R_below (by (with_reducible repeat (first | apply Kd.R_alloc | apply Kd.R_drewN | apply Kd.R_drew)); exact HO_5.out) hb); have n1_ := Aside0.mk (below_step (by repeat (first | (with_reducible first | exact HB.out | apply below_alloc | apply pw_below_drewN | apply below_drew1) | exact HB.out)) hb); clear HO_5; clear HB; have HO_5 := n0_; have HB := n1_; clear n0_ n1_; (try clear hb); (try clear hb2); (try clear hk); (try clear hi)))
            go_ret
            exact ⟨by first | rfl | (simp [errW_none, errW_some] <;> rfl) | (simp [*, errW_none, errW_some] <;> rfl), by repeat (first | (with_reducible first | exact HB.out | apply below_alloc | apply pw_below_drewN | apply below_drew1) | exact HB.out)⟩
           ·rw [if_neg c38] at H
            have c38b0 : (t118 == t110) = false := beq_eq_false_iff_ne.mpr c38
            have c38b1 : (t118 != t110) = true := bne_iff_ne.mpr c38
            obtain rfl := Option.some.inj H
            go_wp2_with (first | ((with_reducible refine gate_callee (f := 19) rfl ?_); refine goesL_ (some 60) rfl rfl Tryd.func19 (by kernel_rfl) rfl #[.slice Ao24 t111.length co24, .int .i64 1] rfl (by (try simp only [List.map_toArray, List.map_cons, List.map_nil]); first | done | rfl | (simp only [List.length_drop, List.length_take]; rfl)) ?_; (with_reducible refine (laws_heldStringS.calls kj22 _ _ t111 1 t118 _ ?side1 ?side2 A35.out).mono ?_); (case side1 => repeat (first | exact (Kd.R_reads' HO_5.out).2.2 | (with_reducible refine Kd.C_alloc ?_ _) | (with_reducible refine Kd.C_drewN ?_ _) | (with_reducible refine Kd.C_drew ?_))); (case side2 => exact (Kd.R_reads' HO_5.out).2.1); rintro e w40 ⟨rfl, hb⟩; refine ⟨_, rfl, ?_⟩; have n0_ := Aside0.mk (Kd.R_below (by (with_reducible repeat (first | apply Kd.R_alloc | apply Kd.R_drewN | apply Kd.R_drew)); exact HO_5.out) hb); have n1_ := Aside0.mk (below_step (by repeat (first | (with_reducible first | exact HB.out | apply below_alloc | apply pw_below_drewN | apply below_drew1) | exact HB.out)) hb); clear HO_5; clear HB; have HO_5 := n0_; have HB := n1_; clear n0_ n1_; (try clear hb); (try clear hb2); (try clear hk); (try clear hi)))
            go_ret
            exact ⟨by first | rfl | (simp [errW_none, errW_some] <;> rfl) | (simp [*, errW_none, errW_some] <;> rfl), by repeat (first | (with_reducible first | exact HB.out | apply below_alloc | apply pw_below_drewN | apply below_drew1) | exact HB.out)⟩
      ·rw [if_neg c21] at H
       have c21b0 : (t112 == t110) = false := beq_eq_false_iff_ne.mpr c21
       have c21b1 : (t112 != t110) = true := bne_iff_ne.mpr c21
       obtain rfl := Option.some.inj H
       obtain ⟨Ao41, co41, eo41⟩ := Kd.R_slice HO_5.out
       subst eo41
       go_wp2_with (first | ((with_reducible refine gate_callee (f := 18) rfl ?_); refine goesL_ (some 35) rfl rfl Tryd.func18 (by kernel_rfl) rfl #[.slice Ao41 t105.length co41, .int .i64 1] rfl (by (try simp only [List.map_toArray, List.map_cons, List.map_nil]); first | done | rfl | (simp only [List.length_drop, List.length_take]; rfl)) ?_; (with_reducible refine (laws_markStringS.calls kj4 (fun k_ => some k_ = (.slice Ao41 t105.length co41 : Value).ownBlock) (.slice Ao41 t105.length co41) t105 1 t110 t111 w _ ?side1 ?side2 A15.out).mono ?_); (case side1 => repeat (first | (with_reducible first | exact HB.out | apply below_alloc | apply pw_below_drewN | apply below_drew1) | exact HB.out)); (case side2 => exact Kd.R_tight rfl HO_5.out); rintro e w42 ⟨rfl, hy0, hb, hkp⟩; refine ⟨_, rfl, ?_⟩; have n0_ := Aside0.mk (Kd.R_mono (ok' := fun k_ => some k_ ≠ (.slice Ao41 t105.length co41 : Value).ownBlock) (Kd.R_keptB (HO_3.out) hkp (fun k_ hk_ hs_ => (hk_) hs_)) (fun k_ hk_ => hk_.1)); have n1_ := Aside0.mk (Kd.R_reok rfl hy0 (fun k_ e_ => HO_5.out.1 k_ e_)); have n2_ := Aside0.mk (hb); clear HO_3; clear HO_5; clear HB; have HO_3 := n0_; have HO_5 := n1_; have HB := n2_; clear n0_ n1_ n2_; (try clear hb); (try clear hkp); (try clear hy0)) | ((with_reducible refine gate_callee (f := 19) rfl ?_); refine goesL_ (some 38) rfl rfl Tryd.func19 (by kernel_rfl) rfl #[.slice Ao41 t111.length co41, .int .i64 1] rfl (by (try simp only [List.map_toArray, List.map_cons, List.map_nil]); first | done | (rw [show t111.length = t105.length from (Kd.R_reads' HO_5.out).1.symm] <;> rfl) | rfl | (simp only [List.length_drop, List.length_take]; rfl)) ?_; (with_reducible refine (laws_heldStringS.calls kj4 _ _ t111 1 t112 _ ?side1 ?side2 A16.out).mono ?_); (case side1 => repeat (first | exact (Kd.R_reads' HO_5.out).2.2 | (with_reducible refine Kd.C_alloc ?_ _) | (with_reducible refine Kd.C_drewN ?_ _) | (with_reducible refine Kd.C_drew ?_))); (case side2 => rw [show t111.length = t105.length from (Kd.R_reads' HO_5.out).1.symm]; exact (Kd.R_reads' HO_5.out).2.1); rintro e w43 ⟨rfl, hb⟩; refine ⟨_, rfl, ?_⟩; have n0_ := Aside0.mk (Kd.R_below (by (with_reducible repeat (first | apply Kd.R_alloc | apply Kd.R_drewN | apply Kd.R_drew)); exact HO_3.out) hb); have n1_ := Aside0.mk (Kd.R_below (by (with_reducible repeat (first | apply Kd.R_alloc | apply Kd.R_drewN | apply Kd.R_drew)); exact HO_5.out) hb); have n2_ := Aside0.mk (below_step (by repeat (first | (with_reducible first | exact HB.out | apply below_alloc | apply pw_below_drewN | apply below_drew1) | exact HB.out)) hb); clear HO_3; clear HO_5; clear HB; have HO_3 := n0_; have HO_5 := n1_; have HB := n2_; clear n0_ n1_ n2_; (try clear hb); (try clear hb2); (try clear hk); (try clear hi)))
       go_ret
       exact ⟨by first | rfl | (simp [errW_none, errW_some] <;> rfl) | (simp [*, errW_none, errW_some] <;> rfl), by repeat (first | (with_reducible first | exact HB.out | apply below_alloc | apply pw_below_drewN | apply below_drew1) | exact HB.out)⟩

end Go.Proofs.YtcmifdcgmalnlaaDoor.P
namespace Go.Proofs.YtcmifdcgmalnlaaDoor.P
open Go.RowKit Go.ChangeShapes Go.WideShapes Go.Proofs.YtcmifdcgmalnlaaDoorW.PrintWords

end Go.Proofs.YtcmifdcgmalnlaaDoor.P
namespace Go.Proofs.YtcmifdcgmalnlaaDoor.P
open Go.RowKit Go.ChangeShapes Go.WideShapes Go.Proofs.YtcmifdcgmalnlaaDoorW.PrintWords

/-- What is to be proved of the law FnExactListWords, over numbers and lists alone. -/
def laws_FnExactListWords.Pure : Prop := ∀ (x0 : ByteArray), x0.size ≤ 140737488351232 → ∃ k, laws_FnExactListWords.f k x0 = some true
end Go.Proofs.YtcmifdcgmalnlaaDoor.P
/- Lemmas of mine: strings as lists of bytes; whole numbers of 64 bits; rounds. Plain. -/
set_option linter.unusedVariables false
set_option linter.unusedSimpArgs false
namespace Go.Proofs.YtcmifdcgmalnlaaDoor.P
open Go.RowKit Go.Proofs.YtcmifdcgmalnlaaDoorW.PrintWords
/-- As Option.bind_some, but no equation by computing: for terms that are not to be computed by the kernel. -/
theorem bS {α β : Type} (a : α) (f : α → Option β) : (some a).bind f = f a := Eq.trans (Option.bind_some a f) (Eq.refl (f a))
/-- A string's bytes. -/
def bl (s : ByteArray) : List UInt8 := s.data.toList
/-- Bytes as numbers. -/
def nb (l : List UInt8) : List Int := l.map fun b => (b.toNat : Int)
theorem bl_inj {a b : ByteArray} (h : bl a = bl b) : a = b := WideShapes.bytes_inj h
theorem toList_bl (s : ByteArray) : s.toList = bl s := Lib.toList_data s
theorem toList_iff {a b : ByteArray} : a.toList = b.toList ↔ a = b := ⟨fun h => bl_inj (by rw [← toList_bl, ← toList_bl, h]), fun h => by rw [h]⟩
theorem bl_size (s : ByteArray) : s.size = (bl s).length := Lib.size_eq s
theorem bl_append (a b : ByteArray) : bl (a ++ b) = bl a ++ bl b := by simp [bl]
theorem bl_extract (s : ByteArray) (i j : Nat) : bl (s.extract i j) = ((bl s).drop i).take (j - i) := Lib.extract_data s i j
theorem bl_mk (l : List UInt8) : bl ⟨l.toArray⟩ = l := by simp [bl]
theorem bl_empty : bl (⟨#[]⟩ : ByteArray) = [] := rfl
theorem mk_bl (s : ByteArray) : (⟨(bl s).toArray⟩ : ByteArray) = s := bl_inj (bl_mk _)
theorem bytesOf_bl (s : ByteArray) : bytesOf s = nb (bl s) := rfl
theorem nb_length (l : List UInt8) : (nb l).length = l.length := by simp [nb]
theorem nb_append (l m : List UInt8) : nb (l ++ m) = nb l ++ nb m := by simp [nb]
theorem strOf_nb (l : List UInt8) : strOfNums (nb l) = ⟨l.toArray⟩ := by
 simp [strOfNums, nb, Function.comp_def]
theorem bl_strOf_nb (l : List UInt8) : bl (strOfNums (nb l)) = l := by rw [strOf_nb, bl_mk]
theorem bt_eq (s : ByteArray) (i : Nat) (h : i < (bl s).length) : bt s (i : Int) = (((bl s)[i]'h).toNat : Int) := by
 have hs : i < s.size := by rw [bl_size]; exact h
 unfold bt
 rw [dif_pos (by simpa using hs)]
 have h1 := Lib.data_getElem? s i hs
 have h2 : (bl s)[i]? = some ((bl s)[i]'h) := List.getElem?_eq_getElem h
 have h3 : s[i]'hs = (bl s)[i]'h := Option.some.inj (h1.symm.trans h2)
 simp only [Int.toNat_natCast]
 rw [← h3]
theorem rd_nb (l : List UInt8) (i : Nat) (h : i < l.length) : rd (nb l) (i : Int) = ((l[i]'h).toNat : Int) := by
 simp [rd, nb, List.getD_eq_getElem?_getD, List.getElem?_map, List.getElem?_eq_getElem h]
theorem byte_lt (b : UInt8) : b.toNat < 256 := b.toNat_lt
/-- No wrap within the bounds. -/
theorem w64 {n : Int} (h0 : -9223372036854775808 ≤ n) (h1 : n ≤ 9223372036854775807) : wrap64 n = n := by unfold wrap64; omega
theorem w64n (n : Nat) (h1 : n ≤ 9223372036854775807) : wrap64 (n : Int) = n := w64 (by omega) (by omega)
theorem w64s (n : Nat) (h1 : n + 1 ≤ 9223372036854775807) : wrap64 ((n : Int) + 1) = ((n + 1 : Nat) : Int) := by rw [w64 (by omega) (by omega)]; rfl
theorem w64add (a b : Nat) (h : a + b ≤ 9223372036854775807) : wrap64 ((a : Int) + (b : Int)) = ((a + b : Nat) : Int) := by rw [w64 (by omega) (by omega)]; rfl
theorem w64lit (a b : Nat) (h : a + b ≤ 9223372036854775807) : wrap64 ((a : Int) + wrap64 ((b : Int))) = ((a + b : Nat) : Int) := by rw [w64n b (by omega), w64add a b h]
theorem w64sub (a b : Nat) (h : b ≤ a) (h2 : a ≤ 9223372036854775807) : wrap64 ((a : Int) - (b : Int)) = ((a - b : Nat) : Int) := by rw [w64 (by omega) (by omega)]; omega
theorem bits_xor_nat (k : IntKind) (j : Nat) (hj : j ≤ k.bits) (hk : ∀ n : Int, 0 ≤ n → n < 2 ^ j → k.wrap n = n) (a b : Nat) (ha : a < 2 ^ j) (hb : b < 2 ^ j) : bits .xor k a b = ((a ^^^ b : Nat) : Int) := by
 have hp : 2 ^ j ≤ 2 ^ k.bits := Nat.pow_le_pow_right (by decide) hj
 have ha' : a % 2 ^ k.bits = a := Nat.mod_eq_of_lt (Nat.lt_of_lt_of_le ha hp)
 have hb' : b % 2 ^ k.bits = b := Nat.mod_eq_of_lt (Nat.lt_of_lt_of_le hb hp)
 simp only [bits, BitVec.ofInt_natCast, BitVec.toNat_xor, BitVec.toNat_ofNat, ha', hb']
 exact hk _ (Int.natCast_nonneg _) (by exact_mod_cast Nat.xor_lt_two_pow ha hb)
theorem u32_in (n : Int) (h0 : 0 ≤ n) (h1 : n < 2 ^ 32) : IntKind.u32.wrap n = n := by rw [IntKind.wrap_u32]; omega
theorem i64_in32 (n : Int) (h0 : 0 ≤ n) (h1 : n < 2 ^ 32) : IntKind.i64.wrap n = n := by rw [IntKind.wrap_i64]; omega
theorem xor_u32 (a b : Nat) (ha : a < 4294967296) (hb : b < 4294967296) : bits .xor .u32 a b = ((a ^^^ b : Nat) : Int) := bits_xor_nat .u32 32 (by decide) u32_in a b ha hb
theorem xor_i64 (a b : Nat) (ha : a < 4294967296) (hb : b < 4294967296) : bits .xor .i64 a b = ((a ^^^ b : Nat) : Int) := bits_xor_nat .i64 32 (by decide) i64_in32 a b ha hb
/-- Rounds: what is told for all numbers of rounds from some on. -/
theorem Ev.k {α : Type} {g : Nat → Option α} {r : α} (h : Ev g r) : ∃ k, g k = some r := h.rounds
theorem Ev.and {α β : Type} {g : Nat → Option α} {f : Nat → Option β} {r : α} {q : β} (h : Ev g r) (h' : Ev f q) : ∃ K, ∀ k, K ≤ k → g k = some r ∧ f k = some q := by
 obtain ⟨K, h⟩ := h
 obtain ⟨K', h'⟩ := h'
 exact ⟨max K K', fun k hk => ⟨h k (by omega), h' k (by omega)⟩⟩
theorem Ev.uniq {α : Type} {g : Nat → Option α} {r q : α} (h : Ev g r) (h' : Ev g q) : r = q := by
 obtain ⟨K, hk⟩ := Ev.and h h'
 have h1 := hk K (Nat.le_refl _)
 exact Option.some.inj (h1.1.symm.trans h1.2)
end Go.Proofs.YtcmifdcgmalnlaaDoor.P
/- Lemmas of mine: a text cut at a sign: the reference's cut and the library's Split at a sign of one byte give the same pieces. Plain. -/
set_option linter.unusedVariables false
set_option linter.unusedSimpArgs false
namespace Go.Proofs.YtcmifdcgmalnlaaDoor.P
open Go.RowKit Go.Proofs.YtcmifdcgmalnlaaDoorW.PrintWords
/-- The pieces of a text, some bytes having been read of the first. -/
def cutA (c : UInt8) : List UInt8 → List UInt8 → List (List UInt8)
 | acc, [] => [acc]
 | acc, b :: r => if b = c then acc :: cutA c [] r else cutA c (acc ++ [b]) r
def mkB (l : List UInt8) : ByteArray := ⟨l.toArray⟩
theorem mkB_bl (s : ByteArray) : mkB (bl s) = s := mk_bl s
theorem bl_mkB (l : List UInt8) : bl (mkB l) = l := bl_mk l
/-- The pieces of a text. -/
def cutB (c : UInt8) (s : ByteArray) : List ByteArray := (cutA c [] (bl s)).map mkB
theorem cutA_free (c : UInt8) : ∀ (p acc r : List UInt8), c ∉ p → cutA c acc (p ++ r) = cutA c (acc ++ p) r
 | [], acc, r, _ => by simp
 | b :: p, acc, r, h => by
  have h1 : b ≠ c := fun e => h (by rw [e]; exact List.mem_cons_self ..)
  rw [List.cons_append, cutA, if_neg h1, cutA_free c p (acc ++ [b]) r (fun e => h (List.mem_cons_of_mem _ e))]
  simp
theorem cutA_none (c : UInt8) (l : List UInt8) (h : c ∉ l) : cutA c [] l = [l] := by
 have := cutA_free c l [] [] h
 rw [List.append_nil] at this
 rw [this]; rfl
theorem cutA_at (c : UInt8) (p r : List UInt8) (h : c ∉ p) : cutA c [] (p ++ c :: r) = p :: cutA c [] r := by
 rw [cutA_free c p [] (c :: r) h, cutA, if_pos rfl]; rfl
theorem cutA_length (c : UInt8) : ∀ (l acc : List UInt8), (cutA c acc l).length = l.count c + 1
 | [], acc => rfl
 | b :: l, acc => by
  rw [cutA]
  by_cases h : b = c
  ·rw [if_pos h, List.length_cons, cutA_length c l [], h, List.count_cons_self]
  ·rw [if_neg h, cutA_length c l, List.count_cons_of_ne h]
theorem index_free (c : UInt8) : ∀ (l : List UInt8), 0 < l.count c → ∃ m : Nat, Lib.indexByte l c = (m : Int) ∧ m < l.length ∧ l = l.take m ++ c :: l.drop (m + 1) ∧ c ∉ l.take m
 | [], h => by simp at h
 | b :: l, h => by
  unfold Lib.indexByte
  by_cases hb : b = c
  ·subst hb
   exact ⟨0, by simp, by simp, by simp, by simp⟩
  ·rw [List.count_cons_of_ne hb] at h
   obtain ⟨m, h1, h2, h3, h4⟩ := index_free c l h
   refine ⟨m + 1, ?_, by simpa using h2, ?_, ?_⟩
   ·have : (b == c) = false := beq_eq_false_iff_ne.mpr hb
    rw [this, h1]
    have : ((m : Int) == -1) = false := beq_eq_false_iff_ne.mpr (by omega)
    simp [this]
   ·rw [List.take_succ_cons, List.drop_succ_cons, List.cons_append, ← h3]
   ·rw [List.take_succ_cons]
    intro hm
    rcases List.mem_cons.1 hm with e | e
    ·exact hb e.symm
    ·exact h4 e
theorem byte_iff (a b : UInt8) : ((a.toNat : Int) = (b.toNat : Int)) ↔ a = b := by
 rw [Int.ofNat_inj, UInt8.toNat_inj]
theorem specCut_l0 (t : ByteArray) (c : UInt8) (ht : t.size ≤ 8796093022000) : ∀ (d i fr : Nat) (out : List ByteArray), i + d = t.size → fr ≤ i → out.length ≤ i →
  Ev (fun k => spec_l00Cut.l0 k t (c.toNat : Int) out (fr : Int) (i : Int)) (out ++ (cutA c (((bl t).drop fr).take (i - fr)) ((bl t).drop i)).map mkB) := by
 have hsz := bl_size t
 intro d
 induction d with
 | zero =>
  intro i fr out hi hf ho
  rw [List.drop_eq_nil_of_le (show (bl t).length ≤ i by omega)]
  refine Ev.step (f := fun _ => some _) (fun k => ?_) (Ev.now _)
  simp only [spec_l00Cut.l0, cutA, List.map_cons, List.map_nil]
  rw [if_neg (by omega), if_pos (by omega), if_pos (by omega), if_pos (by omega)]
  congr 4
  refine bl_inj ?_
  rw [bl_extract, bl_mkB, Int.toNat_natCast, show t.size = i by omega]
 | succ d ih =>
  intro i fr out hi hf ho
  have hlt : i < (bl t).length := by omega
  have hacc : ((bl t).drop fr).take (i + 1 - fr) = ((bl t).drop fr).take (i - fr) ++ [(bl t)[i]'hlt] := by
   rw [show i + 1 - fr = (i - fr) + 1 by omega, List.take_add_one, List.getElem?_drop, show fr + (i - fr) = i by omega, List.getElem?_eq_getElem hlt]; rfl
  rw [List.drop_eq_getElem_cons hlt, cutA]
  by_cases hc : (bl t)[i]'hlt = c
  ·rw [if_pos hc, List.map_cons]
   have h := ih (i + 1) (i + 1) (out ++ [mkB (((bl t).drop fr).take (i - fr))]) (by omega) (by omega) (by rw [List.length_append, List.length_cons, List.length_nil]; omega)
   rw [Nat.sub_self, List.take_zero, List.append_assoc] at h
   refine Ev.step (fun k => ?_) h
   simp only [spec_l00Cut.l0]
   rw [bt_eq t i hlt, if_pos (by omega), if_pos (by omega), if_pos ((byte_iff _ _).2 hc), if_pos (by omega), if_pos (by omega), if_pos (by omega), if_pos (by omega), w64s i (by omega)]
   congr 4
   refine bl_inj ?_
   rw [bl_extract, bl_mkB, Int.toNat_natCast, Int.toNat_natCast]
  ·rw [if_neg hc, ← hacc]
   refine Ev.step (fun k => ?_) (ih (i + 1) fr out (by omega) (by omega) (by omega))
   simp only [spec_l00Cut.l0]
   rw [bt_eq t i hlt, if_pos (by omega), if_pos (by omega), if_neg (fun e => hc ((byte_iff _ _).1 e)), w64s i (by omega)]
theorem specCut_ev (t : ByteArray) (c : UInt8) (ht : t.size ≤ 8796093022000) : Ev (fun k => spec_l00Cut.f k t (c.toNat : Int)) (cutB c t) := by
 have h := specCut_l0 t c ht t.size 0 0 [] (by omega) (by omega) (by simp)
 refine Ev.congr (fun k => ?_) (show Ev (fun k => spec_l00Cut.l0 k t (c.toNat : Int) [] ((0 : Nat) : Int) ((0 : Nat) : Int)) (cutB c t) by simpa [cutB] using h)
 rfl
theorem take_set_snoc {α : Type} (l : List α) (j : Nat) (v : α) (h : j < l.length) : (l.set j v).take (j + 1) = l.take j ++ [v] := by
 rw [List.take_add_one, List.take_set_of_le (Nat.le_refl _)]
 simp [h]
theorem genSplit_l0 (c : UInt8) (N : Nat) (hN : N ≤ 17592186044415) : ∀ (d j : Nat) (s : ByteArray) (a : List ByteArray), j + d = N → (bl s).count c = d → a.length = N + 1 → s.size ≤ 4611686018427387904 →
  Ev (fun k => strings_genSplit.l0 k s (mkB [c]) 0 (N : Int) a (j : Int)) (a.take j ++ cutB c s) := by
 intro d
 induction d with
 | zero =>
  intro j s a hj hc ha hs
  have hn : c ∉ bl s := List.count_eq_zero.1 hc
  refine Ev.step (f := fun _ => some _) (fun k => ?_) (Ev.now _)
  simp only [strings_genSplit.l0]
  rw [if_neg (by omega), if_pos (by omega), if_pos (by omega), w64s j (by omega), if_pos (by omega), if_pos (by omega), Int.toNat_natCast, Int.toNat_natCast, take_set_snoc a j s (by omega)]
  unfold cutB
  rw [cutA_none c _ hn, List.map_cons, List.map_nil, mkB_bl]
 | succ d ih =>
  intro j s a hj hc ha hs
  have hsz := bl_size s
  obtain ⟨m, h1, h2, h3, h4⟩ := index_free c (bl s) (by omega)
  have hidx : strings_Index.f s (mkB [c]) = some (m : Int) := by
   unfold strings_Index.f
   rw [if_pos (show (mkB [c]).data.toList.length = 1 from rfl)]
   exact congrArg some h1
  have hone : (mkB [c]).size = 1 := rfl
  have hc2 : ((bl s).drop (m + 1)).count c = d := by
   have : (bl s).count c = ((bl s).take m).count c + (((bl s).drop (m + 1)).count c + 1) := by
    conv => lhs; rw [h3]
    rw [List.count_append, List.count_cons_self]
   rw [List.count_eq_zero.2 h4] at this
   omega
  have he : bl (s.extract (m + 1) s.size) = (bl s).drop (m + 1) := by
   rw [bl_extract]
   exact List.take_of_length_le (by rw [List.length_drop]; omega)
  have h := ih (j + 1) (s.extract (m + 1) s.size) (a.set j (s.extract 0 m)) (by omega) (by rw [he]; exact hc2) (by rw [List.length_set]; exact ha) (by
   have := bl_size (s.extract (m + 1) s.size)
   rw [he, List.length_drop] at this
   omega)
  rw [take_set_snoc a j _ (by omega), List.append_assoc] at h
  have hcut : cutB c s = [s.extract 0 m] ++ cutB c (s.extract (m + 1) s.size) := by
   unfold cutB
   rw [he]
   conv => lhs; rw [h3]
   rw [cutA_at c _ _ h4, List.map_cons]
   show _ = s.extract 0 m :: _
   congr 1
   refine bl_inj ?_
   rw [bl_mkB, bl_extract]
   simp
  rw [hcut]
  refine Ev.step (fun k => ?_) h
  simp only [strings_genSplit.l0, hidx, bS]
  have w0 : Aside0 (wrap64 ((m : Int) + 0) = (m : Int)) := ⟨w64 (by omega) (by omega)⟩
  have w1 : Aside0 (wrap64 ((m : Int) + ((mkB [c]).size : Int)) = ((m + 1 : Nat) : Int)) := ⟨by rw [hone]; exact w64s m (by omega)⟩
  clear hone
  rw [w0.out, w1.out, w64s j (by omega)]
  rw [if_pos (by omega), if_neg (by omega), if_pos (by omega), if_pos (by omega), if_pos (by omega), if_pos (by omega), if_pos (by omega), if_pos (by omega)]
  simp only [Int.toNat_natCast]
theorem split_ev (s : ByteArray) (c : UInt8) (hs : s.size ≤ 17592186044000) : Ev (fun k => strings_Split.f k s (mkB [c])) (cutB c s) := by
 have hsz := bl_size s
 have hle : (bl s).count c ≤ (bl s).length := List.count_le_length
 have hcount : strings_Count.f s (mkB [c]) = some (((bl s).count c : Nat) : Int) := by
  unfold strings_Count.f
  rw [if_pos (show (mkB [c]).data.toList.length = 1 from rfl)]
  rfl
 obtain ⟨K, hK⟩ := genSplit_l0 c ((bl s).count c) (by omega) ((bl s).count c) 0 s (List.replicate ((bl s).count c + 1) (⟨#[]⟩ : ByteArray)) (by omega) rfl (by simp) (by omega)
 refine ⟨K + 1, fun k hk => ?_⟩
 obtain ⟨m, rfl⟩ : ∃ m, k = m + 1 := ⟨k - 1, by omega⟩
 have e := hK m (by omega)
 simp only [List.take_zero, List.nil_append] at e
 have hne : ¬ (mkB [c]).toList = ([] : List UInt8) := by rw [toList_bl, bl_mkB]; simp
 have hmn : mn (((bl s).count c + 1 : Nat) : Int) (((s.size + 1 : Nat)) : Int) = (((bl s).count c + 1 : Nat) : Int) := by
  unfold mn
  split <;> omega
 have hj : strings_genSplit.j0 (m + 1) s (mkB [c]) 0 (((bl s).count c + 1 : Nat) : Int) = some (cutB c s) := by
  simp only [strings_genSplit.j0]
  rw [w64s s.size (by omega), hmn, if_pos (by omega), Int.toNat_natCast, if_pos (by omega)]
  have : wrap64 ((((bl s).count c + 1 : Nat) : Int) - 1) = (((bl s).count c : Nat) : Int) := by rw [w64 (by omega) (by omega)]; omega
  rw [this]
  exact e
 simp only [strings_Split.f, strings_genSplit.f, hcount, bS]
 rw [if_neg (by decide), if_neg hne, if_pos (by decide), w64s _ (by omega), hj]
 rfl
end Go.Proofs.YtcmifdcgmalnlaaDoor.P
/- Lemmas of mine: what stands between brackets. Plain. -/
set_option linter.unusedVariables false
set_option linter.unusedSimpArgs false
namespace Go.Proofs.YtcmifdcgmalnlaaDoor.P
open Go.RowKit Go.Proofs.YtcmifdcgmalnlaaDoorW.PrintWords
theorem take_one (l : List UInt8) (c : UInt8) : l.take 1 = [c] ↔ l[0]? = some c := by
 cases l with
 | nil => simp
 | cons b l => simp
theorem drop_last (l : List UInt8) (c : UInt8) (h : 1 ≤ l.length) : l.drop (l.length - 1) = [c] ↔ l[l.length - 1]? = some c := by
 have h1 : l.length - 1 < l.length := by omega
 rw [List.drop_eq_getElem_cons h1, List.drop_eq_nil_of_le (by omega), List.getElem?_eq_getElem h1]
 simp
theorem cutPre (s : ByteArray) (c : UInt8) : strings_CutPrefix.f s (⟨#[c]⟩ : ByteArray) = some (if (bl s)[0]? = some c then (s.extract 1 s.size, true) else (s, false)) := by
 have h1 : (⟨#[c]⟩ : ByteArray).size = 1 := rfl
 have hsz := bl_size s
 have hl : (⟨#[c]⟩ : ByteArray).toList = [c] := by rw [toList_bl]; rfl
 simp only [strings_CutPrefix.f, stringslite_CutPrefix.f, stringslite_HasPrefix.f, h1, hl]
 by_cases h0 : s.size = 0
 ·rw [if_neg (by omega), bS, if_neg (by decide), bS, if_neg (by
   rw [List.getElem?_eq_none (by omega)]; simp)]
 ·rw [if_pos (by omega), if_pos (by omega), if_pos (by omega), bS]
  have e : ((s.extract 0 ((((1 : Nat) : Int))).toNat).toList == [c]) = decide ((bl s)[0]? = some c) := by
   rw [toList_bl, bl_extract, List.drop_zero, Bool.eq_iff_iff, beq_iff_eq, decide_eq_true_eq, ← take_one]
   rfl
  rw [e]
  by_cases hc : (bl s)[0]? = some c
  ·rw [decide_eq_true hc, if_pos rfl, if_pos (by omega), if_pos (by omega), bS, if_pos hc]; rfl
  ·rw [decide_eq_false hc, if_neg (by decide), bS, if_neg hc]
theorem cutSuf (s : ByteArray) (c : UInt8) (hs : s.size ≤ 4611686018427387904) : strings_CutSuffix.f s (⟨#[c]⟩ : ByteArray) = some (if 1 ≤ s.size ∧ (bl s)[s.size - 1]? = some c then (s.extract 0 (s.size - 1), true) else (s, false)) := by
 have h1 : (⟨#[c]⟩ : ByteArray).size = 1 := rfl
 have hsz := bl_size s
 have hl : (⟨#[c]⟩ : ByteArray).toList = [c] := by rw [toList_bl]; rfl
 simp only [strings_CutSuffix.f, stringslite_CutSuffix.f, stringslite_HasSuffix.f, h1, hl]
 by_cases h0 : s.size = 0
 ·rw [if_neg (by omega), bS, if_neg (by decide), bS, if_neg (by omega)]
 ·have w : wrap64 ((s.size : Int) - ((1 : Nat) : Int)) = ((s.size - 1 : Nat) : Int) := w64sub s.size 1 (by omega) (by omega)
  simp only [w, Int.toNat_natCast]
  clear w
  rw [if_pos (by omega), if_pos (by omega), if_pos (by omega), bS]
  have e : ((s.extract (s.size - 1) s.size).toList == [c]) = decide ((bl s)[s.size - 1]? = some c) := by
   rw [toList_bl, bl_extract, Bool.eq_iff_iff, beq_iff_eq, decide_eq_true_eq, hsz, ← drop_last (bl s) c (by omega)]
   rw [List.take_of_length_le (by rw [List.length_drop]; omega)]
  rw [e]
  by_cases hc : (bl s)[s.size - 1]? = some c
  ·rw [decide_eq_true hc, if_pos rfl, if_pos (by omega), if_pos (by omega), bS, if_pos ⟨by omega, hc⟩]
  ·rw [decide_eq_false hc, if_neg (by decide), bS, if_neg (fun h => hc h.2)]
/-- It stands between brackets. -/
def inR (s : ByteArray) : Prop := 2 ≤ s.size ∧ (bl s)[0]? = some 40 ∧ (bl s)[s.size - 1]? = some 41
theorem inBr (s : ByteArray) (hs : s.size ≤ 4611686018427387904) : ∃ x b, impl_inBrackets.f s = some (x, b) ∧ x.size ≤ s.size ∧ (b = true ↔ inR s) ∧ (b = true → x = s.extract 1 (s.size - 1)) := by
 have hsz := bl_size s
 simp only [impl_inBrackets.f, cutPre, bS]
 by_cases h0 : (bl s)[0]? = some 40
 ·rw [if_pos h0]
  have hlt : 0 < (bl s).length := by
   rcases Nat.eq_zero_or_pos (bl s).length with h | h
   ·rw [List.getElem?_eq_none (by omega)] at h0; cases h0
   ·exact h
  have hx : (s.extract 1 s.size).size = s.size - 1 := by rw [bl_size, bl_extract, List.length_take, List.length_drop]; omega
  show ∃ x b, (strings_CutSuffix.f (s.extract 1 s.size) (⟨#[41]⟩ : ByteArray)).bind _ = some (x, b) ∧ _
  rw [cutSuf _ _ (by omega), bS, hx]
  by_cases h1 : 1 ≤ s.size - 1 ∧ (bl (s.extract 1 s.size))[s.size - 1 - 1]? = some 41
  ·rw [if_pos h1]
   have he : (s.extract 1 s.size).extract 0 (s.size - 1 - 1) = s.extract 1 (s.size - 1) := by
    refine bl_inj ?_
    rw [bl_extract, bl_extract, bl_extract, List.drop_zero, List.take_take]
    congr 1
    omega
   refine ⟨_, _, rfl, ?_, ⟨fun _ => ⟨by omega, h0, ?_⟩, fun _ => rfl⟩, fun _ => he⟩
   ·rw [he, bl_size, bl_extract, List.length_take, List.length_drop]; omega
   ·have := h1.2
    rw [bl_extract, List.getElem?_take_of_lt (by omega), List.getElem?_drop] at this
    rwa [show 1 + (s.size - 1 - 1) = s.size - 1 by omega] at this
  ·rw [if_neg h1]
   refine ⟨_, _, rfl, (by show (s.extract 1 s.size).size ≤ s.size; omega), ⟨(fun h => by cases h), fun h => absurd ⟨by have := h.1; omega, ?_⟩ h1⟩, (fun h => by cases h)⟩
   rw [bl_extract, List.getElem?_take_of_lt (by have := h.1; omega), List.getElem?_drop, show 1 + (s.size - 1 - 1) = s.size - 1 by have := h.1; omega]
   exact h.2.2
 ·rw [if_neg h0]
  show ∃ x b, (strings_CutSuffix.f s (⟨#[41]⟩ : ByteArray)).bind _ = some (x, b) ∧ _
  rw [cutSuf _ _ hs, bS]
  refine ⟨_, _, rfl, ?_, ⟨(fun h => by cases h), fun h => absurd h.2.1 h0⟩, (fun h => by cases h)⟩
  split
  ·show (s.extract 0 (s.size - 1)).size ≤ s.size
   rw [bl_size, bl_extract, List.length_take, List.length_drop]; omega
  ·exact Nat.le_refl _
end Go.Proofs.YtcmifdcgmalnlaaDoor.P
namespace Go.Proofs.YtcmifdcgmalnlaaDoor.P
open Go.RowKit Go.Proofs.YtcmifdcgmalnlaaDoorW.PrintWords Go.Proofs.YtcmifdcgmalnlaaDoorW.PrintLast Go.Proofs.YtcmifdcgmalnlaaDoorW.PrintMore
attribute [local go_sem] max2_int min2_int max_two min_two max_three min_three max_four min_four   -- for this text's walks alone
set_option linter.unusedVariables false
set_option linter.unusedSimpArgs false

/-! ### impl_within: function 65 -/
def impl_within.f (a0 : Int) (a1 : Int) (a2 : Int) : Option (Bool) := if a0 ≥ a1 then (some (decide (a0 ≤ a2))) else (some false)
set_option maxHeartbeats 8000000 in
set_option maxRecDepth 100000 in
theorem impl_within.calls (a0 : Int) (a1 : Int) (a2 : Int) (r : Bool) (w : World) (h : impl_within.f a0 a1 a2 = some r) :
  Calls Tryd.prog 65 #[.int .i64 a0, .int .i64 a1, .int .i64 a2] w fun e w' => e = .returned (.bool r) ∧ Drawn0 w w' := by
 have H : (if a0 ≥ a1 then (some (decide (a0 ≤ a2))) else (some false)) = some r := h
 clear h
 by_cases c4 : a0 ≥ a1
 ·rw [if_pos c4] at H
  have c4b0 : decide (a1 ≤ a0) = true := decide_eq_true c4
  clear c4
  obtain rfl := Option.some.inj H
  go_enter Tryd.func65, Tryd.ntmps65
  go_wp2
  go_ret
  exact ⟨by first | rfl | (simp; done) | (simp [*]; done), by repeat (first | exact Drawn0.refl _ | apply Drawn0.step)⟩
 ·rw [if_neg c4] at H
  have c4b0 : decide (a1 ≤ a0) = false := decide_eq_false c4
  clear c4
  obtain rfl := Option.some.inj H
  go_enter Tryd.func65, Tryd.ntmps65
  go_wp2
  go_ret
  exact ⟨by first | rfl | (simp; done) | (simp [*]; done), by repeat (first | exact Drawn0.refl _ | apply Drawn0.step)⟩

end Go.Proofs.YtcmifdcgmalnlaaDoor.P
/- Lemmas of mine: bounds, the fields of a log. Plain. -/
set_option linter.unusedVariables false
set_option linter.unusedSimpArgs false
namespace Go.Proofs.YtcmifdcgmalnlaaDoor.P
open Go.RowKit Go.Proofs.YtcmifdcgmalnlaaDoorW.PrintWords
theorem l01In_eq (a b c : Int) : spec_l01In.f a b c = some (decide (b ≤ a ∧ a ≤ c)) := by
 unfold spec_l01In.f
 by_cases h : a ≥ b
 ·rw [if_pos h]; simp [show b ≤ a from h]
 ·rw [if_neg h]; simp; omega
theorem within_eq (a b c : Int) : impl_within.f a b c = some (decide (b ≤ a ∧ a ≤ c)) := l01In_eq a b c
end Go.Proofs.YtcmifdcgmalnlaaDoor.P
/- Lemmas of mine: the words of a list: the two ListWords tell the same. Plain. -/
set_option linter.unusedVariables false
set_option linter.unusedSimpArgs false
namespace Go.Proofs.YtcmifdcgmalnlaaDoor.P
open Go.RowKit Go.Proofs.YtcmifdcgmalnlaaDoorW.PrintWords
/-- A byte that may stand in a word. -/
def atomI (n : Int) : Bool := decide (33 ≤ n ∧ n ≤ 126) && (decide (n ≠ 40) && (decide (n ≠ 41) && (decide (n ≠ 123) && decide (n ≠ 34))))
def atomB (b : UInt8) : Bool := atomI (b.toNat : Int)
theorem specAtom (n : Int) (h : 0 ≤ n ∧ n ≤ 255) : spec_l12Atom.f n = some (atomI n) := by
 simp only [spec_l12Atom.f, l01In_eq, bS]
 rw [w64 (by omega) (by omega)]
 unfold atomI
 by_cases h1 : 33 ≤ n ∧ n ≤ 126
 ·rw [decide_eq_true h1, if_pos rfl]
  by_cases h2 : n = 40
  ·subst h2; rfl
  ·rw [if_neg h2, decide_eq_true h2]
   by_cases h3 : n = 41
   ·subst h3; rfl
   ·rw [if_neg h3, decide_eq_true h3]
    by_cases h4 : n = 123
    ·subst h4; rfl
    ·rw [if_neg h4, decide_eq_true h4]
     by_cases h5 : n = 34
     ·subst h5; rfl
     ·rw [decide_eq_true h5]
      simp [h5]
 ·rw [decide_eq_false h1, if_neg (by decide)]; rfl
theorem implAtom (n : Int) : impl_atomByte.f n = some (atomI n) := by
 simp only [impl_atomByte.f]
 unfold atomI
 by_cases h1 : 33 ≤ n ∧ n ≤ 126
 ·rw [decide_eq_true h1, if_pos (by omega), if_pos (by omega)]
  by_cases h2 : n = 40
  ·subst h2; rfl
  ·rw [if_neg h2, decide_eq_true h2]
   by_cases h3 : n = 41
   ·subst h3; rfl
   ·rw [if_neg h3, decide_eq_true h3]
    by_cases h4 : n = 123
    ·subst h4; rfl
    ·rw [if_neg h4, decide_eq_true h4]
     by_cases h5 : n = 34
     ·subst h5; rfl
     ·rw [decide_eq_true h5]
      simp [h5]
 ·rw [decide_eq_false h1]
  by_cases h2 : 33 ≤ n
  ·rw [if_pos (by omega), if_neg (by omega)]; rfl
  ·rw [if_neg (by omega)]; rfl
/-- The length of the word at the beginning. -/
def atomN (l : List UInt8) : Nat := (l.takeWhile atomB).length
theorem takeWhile_at (p : UInt8 → Bool) : ∀ (l : List UInt8) (i : Nat) (h : i < l.length), (∀ j (hj : j < i), p (l[j]'(by omega)) = true) → p l[i] = false → (l.takeWhile p).length = i
 | [], i, h, _, _ => by simp at h
 | b :: l, 0, h, _, hn => by
  have : p b = false := hn
  simp [List.takeWhile, this]
 | b :: l, i + 1, h, hp, hn => by
  have hb : p b = true := hp 0 (by omega)
  rw [List.takeWhile_cons_of_pos hb, List.length_cons, takeWhile_at p l i (by simpa using h) (fun j hj => hp (j + 1) (by omega)) hn]
theorem takeWhile_len (p : UInt8 → Bool) : ∀ (l : List UInt8), (∀ j (hj : j < l.length), p l[j] = true) → (l.takeWhile p).length = l.length
 | [], _ => rfl
 | b :: l, hp => by
  have hb : p b = true := hp 0 (by simp)
  rw [List.takeWhile_cons_of_pos hb, List.length_cons, List.length_cons, takeWhile_len p l (fun j hj => hp (j + 1) (by simpa using hj))]
theorem takeWhile_all (p : UInt8 → Bool) (l : List UInt8) : (l.takeWhile p).length = l.length ↔ l.all p = true := by
 induction l with
 | nil => simp
 | cons b l ih =>
  cases hb : p b with
  | true => rw [List.takeWhile_cons_of_pos hb, List.length_cons, List.length_cons, List.all_cons, hb, Bool.true_and, ← ih]; omega
  | false =>
   have : List.takeWhile p (b :: l) = [] := by simp [List.takeWhile, hb]
   rw [this, List.all_cons, hb]
   simp
theorem atomAt_l0 (s : ByteArray) (hs : s.size ≤ 4611686018427387904) : ∀ (d i : Nat), i + d = s.size → (∀ j (hj : j < i) (h : j < (bl s).length), atomB (bl s)[j] = true) → Ev (fun k => impl_atomAt.l0 k s (i : Int)) (s.extract 0 (atomN (bl s))) := by
 have hsz := bl_size s
 intro d
 induction d with
 | zero =>
  intro i hi hp
  have hn : atomN (bl s) = i := by rw [show i = (bl s).length by omega]; exact takeWhile_len atomB _ (fun j hj => hp j (by omega) hj)
  refine Ev.step (f := fun _ => some _) (fun k => ?_) (Ev.now _)
  simp only [impl_atomAt.l0]
  rw [if_neg (by omega), if_pos (by omega), if_pos (by omega), hn, Int.toNat_natCast]
 | succ d ih =>
  intro i hi hp
  have hlt : i < (bl s).length := by omega
  have hv : impl_atomByte.f (bt s (i : Int)) = some (atomB (bl s)[i]) := by rw [bt_eq s i hlt, implAtom]; rfl
  cases hb : atomB (bl s)[i] with
  | true =>
   refine Ev.step (fun k => ?_) (ih (i + 1) (by omega) (fun j hj h => ?_))
   ·simp only [impl_atomAt.l0, hv, hb, bS]
    rw [if_pos (by omega), if_pos (by omega), if_pos trivial, w64s i (by omega)]
   ·by_cases e : j = i
    ·subst e; exact hb
    ·exact hp j (by omega) h
  | false =>
   have hn : atomN (bl s) = i := takeWhile_at atomB _ i hlt (fun j hj => hp j hj (by omega)) hb
   refine Ev.step (f := fun _ => some _) (fun k => ?_) (Ev.now _)
   simp only [impl_atomAt.l0, hv, hb, bS]
   rw [if_pos (by omega), if_pos (by omega), if_neg (by decide), if_pos (by omega), hn, Int.toNat_natCast]
/-- A right word. -/
def okW (s : ByteArray) : Bool := !(bl s).isEmpty && (bl s).all atomB
theorem listL1_ev (s : ByteArray) (hs : s.size ≤ 4611686018427387904) : Ev (fun k => impl_listWords_L1.f k s) (!(okW s)) := by
 have hsz := bl_size s
 obtain ⟨K, hK⟩ := atomAt_l0 s hs s.size 0 (by omega) (fun j hj => absurd hj (Nat.not_lt_zero _))
 refine ⟨K, fun k hk => ?_⟩
 have e : impl_atomAt.f k s = some (s.extract 0 (atomN (bl s))) := hK k hk
 simp only [impl_listWords_L1.f, e, bS]
 unfold okW
 by_cases h0 : s.toList = ([] : List UInt8)
 ·rw [if_pos h0]
  rw [toList_bl] at h0
  rw [h0]; rfl
 ·rw [if_neg h0]
  have h1 : (bl s).isEmpty = false := by
   rw [toList_bl] at h0
   cases hb : bl s with
   | nil => exact absurd hb h0
   | cons _ _ => rfl
  rw [h1, Bool.not_false, Bool.true_and]
  congr 1
  rw [Bool.eq_iff_iff, bne_iff_ne, toList_bl, toList_bl, bl_extract, List.drop_zero, Nat.sub_zero, Bool.not_eq_true', ← Bool.not_eq_true, ← takeWhile_all]
  refine not_congr ⟨fun h => ?_, fun h => ?_⟩
  ·have := congrArg List.length h
   rw [List.length_take] at this
   have h2 : atomN (bl s) ≤ (bl s).length := List.IsPrefix.length_le (List.takeWhile_prefix _)
   unfold atomN at this h2
   omega
  ·exact List.take_of_length_le (by unfold atomN; omega)
theorem ev_all {α β : Type} (f : α → Nat → Option β) (r : α → β) : ∀ (l : List α), (∀ x ∈ l, Ev (f x) (r x)) → ∃ K, ∀ k, K ≤ k → ∀ x ∈ l, f x k = some (r x)
 | [], _ => ⟨0, fun _ _ x hx => by cases hx⟩
 | a :: l, h => by
  obtain ⟨K1, h1⟩ := h a (List.mem_cons_self ..)
  obtain ⟨K2, h2⟩ := ev_all f r l (fun x hx => h x (List.mem_cons_of_mem _ hx))
  refine ⟨K1 + K2, fun k hk x hx => ?_⟩
  rcases List.mem_cons.1 hx with rfl | e
  ·exact h1 k (by omega)
  ·exact h2 k (by omega) x e
theorem containsW_ev (l : List ByteArray) (hl : l.length ≤ 4611686018427387904) (hs : ∀ x ∈ l, x.size ≤ 4611686018427387904) : Ev (fun k => slices_ContainsFunc_string_at_impl_listWords_L1.f k l) (!(l.all okW)) := by
 obtain ⟨K, hK⟩ := ev_all (fun x k => impl_listWords_L1.f k x) (fun x => !(okW x)) l (fun x hx => listL1_ev x (hs x hx))
 refine ⟨K, fun k hk => ?_⟩
 have e := hK k hk
 simp only [slices_ContainsFunc_string_at_impl_listWords_L1.f]
 rw [if_pos ⟨by omega, List.all_eq_true.2 fun x hx => by rw [e x hx]; rfl⟩]
 congr 1
 rw [Bool.eq_iff_iff, List.any_eq_true, Bool.not_eq_true', ← Bool.not_eq_true, List.all_eq_true]
 constructor
 ·rintro ⟨x, hx, hp⟩ ha
  rw [e x hx, ha x hx] at hp
  simp at hp
 ·intro hn
  by_cases h : ∃ x ∈ l, okW x = false
  ·obtain ⟨x, hx, hp⟩ := h
   exact ⟨x, hx, by rw [e x hx, hp]; rfl⟩
  ·exact absurd (fun x hx => by
    cases hb : okW x with
    | true => rfl
    | false => exact absurd ⟨x, hx, hb⟩ h) hn
theorem cutB_size (c : UInt8) (s : ByteArray) : ∀ x ∈ cutB c s, x.size ≤ s.size := by
 have h : ∀ (l acc : List UInt8), ∀ x ∈ cutA c acc l, x.length ≤ acc.length + l.length := by
  intro l
  induction l with
  | nil => intro acc x hx; simp [cutA] at hx; subst hx; simp
  | cons b l ih =>
   intro acc x hx
   rw [cutA] at hx
   split at hx
   ·rcases List.mem_cons.1 hx with rfl | hx
    ·simp
    ·have := ih [] x hx; simp only [List.length_nil, List.length_cons] at this ⊢; omega
   ·have := ih _ x hx; simp only [List.length_append, List.length_nil, List.length_cons] at this ⊢; omega
 intro x hx
 unfold cutB at hx
 obtain ⟨y, hy, rfl⟩ := List.mem_map.1 hx
 have := h _ _ y hy
 rw [bl_size, bl_size, bl_mkB]
 simpa using this
theorem cutB_length (c : UInt8) (s : ByteArray) : (cutB c s).length ≤ s.size + 1 := by
 have hsz := bl_size s
 unfold cutB
 rw [List.length_map, cutA_length]
 have : (bl s).count c ≤ (bl s).length := List.count_le_length
 omega
/-- The words of a list, where it is right. -/
def goodL (s : ByteArray) : Prop := inR s ∧ (cutB 32 (s.extract 1 (s.size - 1))).length ≤ 30 ∧ (cutB 32 (s.extract 1 (s.size - 1))).all okW = true
theorem implWords_ev (s : ByteArray) (hs : s.size ≤ 65536) : ∃ r, Ev (fun k => impl_listWords.f k s) r ∧ (r.2 = true ↔ goodL s) ∧ (r.2 = true → r.1 = cutB 32 (s.extract 1 (s.size - 1))) := by
 obtain ⟨x, b, h1, h2, h3, h4⟩ := inBr s (by omega)
 obtain ⟨K1, hK1⟩ := split_ev x 32 (by omega)
 obtain ⟨K2, hK2⟩ := containsW_ev (cutB 32 x) (by have := cutB_length 32 x; omega) (fun y hy => by have := cutB_size 32 x y hy; omega)
 cases b with
 | false =>
  refine ⟨([], false), ⟨K1, fun k hk => ?_⟩, ⟨(fun h => by cases h), fun h => absurd (h3.2 h.1) (by decide)⟩, (fun h => by cases h)⟩
  have e1 : strings_Split.f k x (⟨#[32]⟩ : ByteArray) = some (cutB 32 x) := hK1 k hk
  simp only [impl_listWords.f, h1, e1, bS]
  rfl
 | true =>
  have hx := h4 rfl
  subst hx
  by_cases hl : (cutB 32 (s.extract 1 (s.size - 1))).length ≤ 30
  ·refine ⟨(cutB 32 (s.extract 1 (s.size - 1)), !(!((cutB 32 (s.extract 1 (s.size - 1))).all okW))), ⟨K1 + K2, fun k hk => ?_⟩, ?_, fun _ => rfl⟩
   ·have e1 : strings_Split.f k (s.extract 1 (s.size - 1)) (⟨#[32]⟩ : ByteArray) = some (cutB 32 (s.extract 1 (s.size - 1))) := hK1 k (by omega)
    have e2 := hK2 k (by omega)
    simp only at e2
    simp only [impl_listWords.f, h1, e1, e2, bS]
    rw [if_pos trivial, if_neg (by omega)]
   ·simp only [Bool.not_not]
    exact ⟨fun h => ⟨h3.1 rfl, hl, h⟩, fun h => h.2.2⟩
  ·refine ⟨([], false), ⟨K1, fun k hk => ?_⟩, ⟨(fun h => by cases h), fun h => absurd h.2.1 hl⟩, (fun h => by cases h)⟩
   have e1 : strings_Split.f k (s.extract 1 (s.size - 1)) (⟨#[32]⟩ : ByteArray) = some (cutB 32 (s.extract 1 (s.size - 1))) := hK1 k hk
   simp only [impl_listWords.f, h1, e1, bS]
   rw [if_pos trivial, if_pos (by omega)]
theorem rdOf_nat2 (xs : List ByteArray) (i : Nat) (h : i < xs.length) : rdOf ByteArray.empty xs (i : Int) = xs[i]'h := by
 unfold rdOf
 rw [Int.toNat_natCast, List.getD_eq_getElem?_getD, List.getElem?_eq_getElem h]; rfl
theorem specWords_l1 (l out : List ByteArray) (i : Nat) (hi : i < l.length) (ho : out.length < 8796093022208) (hw : (l[i]'hi).size ≤ 4611686018427387904) (T : List ByteArray × Bool) (hT : Ev (fun k => spec_l12Words.l0 k (out ++ [l[i]'hi]) l (wrap64 ((i : Int) + 1))) T) :
  ∀ (d j : Nat), j + d = (l[i]'hi).size → Ev (fun k => spec_l12Words.l1 k out l (i : Int) (j : Int)) (if ((bl (l[i]'hi)).drop j).all atomB = true then T else ([], false)) := by
 have hr := rdOf_nat2 l i hi
 generalize hX : l[i]'hi = w at *
 have hsz := bl_size w
 intro d
 induction d with
 | zero =>
  intro j hj
  rw [List.drop_eq_nil_of_le (by omega), List.all_nil, if_pos rfl]
  refine Ev.step (fun k => ?_) hT
  simp only [spec_l12Words.l1, hr]
  rw [if_pos (by omega), if_pos (by omega), if_neg (by omega), if_pos ho]
 | succ d ih =>
  intro j hj
  have hlt : j < (bl w).length := by omega
  have hv : spec_l12Atom.f (bt w (j : Int)) = some (atomB (bl w)[j]) := by
   rw [bt_eq w j hlt, specAtom _ ⟨by omega, by have := byte_lt (bl w)[j]; omega⟩]; rfl
  rw [List.drop_eq_getElem_cons hlt, List.all_cons]
  cases hb : atomB (bl w)[j] with
  | true =>
   rw [Bool.true_and]
   refine Ev.step (fun k => ?_) (ih (j + 1) (by omega))
   simp only [spec_l12Words.l1, hr, hv, hb, bS]
   rw [if_pos (by omega), if_pos (by omega), if_pos (by omega), if_pos (by omega), if_pos trivial, w64s j (by omega)]
  | false =>
   rw [Bool.false_and, if_neg (by decide)]
   refine Ev.step (f := fun _ => some _) (fun k => ?_) (Ev.now _)
   simp only [spec_l12Words.l1, hr, hv, hb, bS]
   rw [if_pos (by omega), if_pos (by omega), if_pos (by omega), if_pos (by omega), if_neg (by decide)]
theorem specWords_l0 (l : List ByteArray) (hl : l.length ≤ 4611686018427387904) (hs : ∀ x ∈ l, x.size ≤ 4611686018427387904) : ∀ (d i : Nat), i + d = l.length → i ≤ 30 → Ev (fun k => spec_l12Words.l0 k (l.take i) l (i : Int)) (if (l.drop i).all okW = true ∧ l.length ≤ 30 then (l, true) else ([], false)) := by
 intro d
 induction d with
 | zero =>
  intro i hi h30
  rw [List.drop_eq_nil_of_le (by omega), List.all_nil, if_pos ⟨rfl, by omega⟩]
  refine Ev.step (f := fun _ => some _) (fun k => ?_) (Ev.now _)
  simp only [spec_l12Words.l0]
  rw [if_neg (by omega), List.take_of_length_le (by omega)]
 | succ d ih =>
  intro i hi h30
  have hlt : i < l.length := by omega
  have hr := rdOf_nat2 l i hlt
  have hti : (l.take i).length = i := by rw [List.length_take]; omega
  have ej : ∀ k, spec_l12Words.j2 (k + 1) (l.take i) l (i : Int) true = some ([], false) := fun k => by
   simp only [spec_l12Words.j2]; exact if_pos trivial
  rw [List.drop_eq_getElem_cons hlt, List.all_cons]
  by_cases hbad : (bl (l[i]'hlt)) = [] ∨ i = 30
  ·have hf : ¬ ((okW (l[i]'hlt) && (l.drop (i + 1)).all okW) = true ∧ l.length ≤ 30) := by
    rintro ⟨h1, h2⟩
    rcases hbad with h | h
    ·rw [Bool.and_eq_true] at h1
     have := h1.1
     unfold okW at this
     rw [h] at this
     cases this
    ·omega
   rw [if_neg hf]
   refine Ev.step (f := fun k => spec_l12Words.j2 k (l.take i) l (i : Int) true) (fun k => ?_) (Ev.step (f := fun _ => some _) (fun k => ej k) (Ev.now _))
   simp only [spec_l12Words.l0, hr]
   rw [if_pos (by omega), if_pos (by omega)]
   by_cases h0 : (l[i]'hlt).toList = ([] : List UInt8)
   ·rw [if_pos h0]
   ·rw [if_neg h0, hti]
    rcases hbad with h | h
    ·exact absurd (by rw [toList_bl]; exact h) h0
    ·subst h; rfl
  ·have h0 : ¬ (l[i]'hlt).toList = ([] : List UInt8) := fun h => hbad (.inl (by rw [← toList_bl]; exact h))
   have h1 : ¬ i = 30 := fun h => hbad (.inr h)
   have hT := ih (i + 1) (by omega) (by omega)
   have ht : l.take (i + 1) = l.take i ++ [l[i]'hlt] := by rw [List.take_add_one, List.getElem?_eq_getElem hlt]; rfl
   rw [ht, ← w64s i (by omega)] at hT
   have h := specWords_l1 l (l.take i) i hlt (by omega) (hs _ (List.getElem_mem hlt)) _ hT (l[i]'hlt).size 0 (by omega)
   rw [List.drop_zero] at h
   have hok : okW (l[i]'hlt) = (bl (l[i]'hlt)).all atomB := by
    unfold okW
    have : (bl (l[i]'hlt)).isEmpty = false := by
     cases hb : bl (l[i]'hlt) with
     | nil => exact absurd (.inl hb) hbad
     | cons _ _ => rfl
    rw [this]; rfl
   have he : (if ((bl (l[i]'hlt)).all atomB) = true then (if (l.drop (i + 1)).all okW = true ∧ l.length ≤ 30 then (l, true) else (([], false) : List ByteArray × Bool)) else ([], false)) = if (okW (l[i]'hlt) && (l.drop (i + 1)).all okW) = true ∧ l.length ≤ 30 then (l, true) else ([], false) := by
    rw [hok]
    cases (bl (l[i]'hlt)).all atomB <;> simp
   rw [he] at h
   refine Ev.step (f := fun k => spec_l12Words.j2 k (l.take i) l (i : Int) false) (fun k => ?_) (Ev.step (f := fun k => spec_l12Words.l1 k (l.take i) l (i : Int) ((0 : Nat) : Int)) (fun k => ?_) h)
   ·simp only [spec_l12Words.l0, hr]
    rw [if_pos (by omega), if_pos (by omega), if_neg h0, hti]
    have : ((i : Int) == 30) = false := beq_eq_false_iff_ne.mpr (by omega)
    rw [this]
   ·simp only [spec_l12Words.j2]
    rw [if_neg (by decide)]
    rfl
theorem specWords_ev (s : ByteArray) (hs : s.size ≤ 65536) : ∃ r, Ev (fun k => spec_l12Words.f k s) r ∧ (r.2 = true ↔ goodL s) ∧ (r.2 = true → r.1 = cutB 32 (s.extract 1 (s.size - 1))) := by
 have hsz := bl_size s
 by_cases hin : inR s
 ·have hx : (s.extract 1 (s.size - 1)).size ≤ s.size := by rw [bl_size, bl_extract, List.length_take, List.length_drop]; omega
  obtain ⟨K1, hK1⟩ := specCut_ev (s.extract 1 (s.size - 1)) 32 (by omega)
  have h := specWords_l0 (cutB 32 (s.extract 1 (s.size - 1))) (by have := cutB_length 32 (s.extract 1 (s.size - 1)); omega) (fun y hy => by have := cutB_size 32 _ y hy; omega) _ 0 (Nat.zero_add _) (by omega)
  obtain ⟨K2, hK2⟩ := h
  refine ⟨if (cutB 32 (s.extract 1 (s.size - 1))).all okW = true ∧ (cutB 32 (s.extract 1 (s.size - 1))).length ≤ 30 then (cutB 32 (s.extract 1 (s.size - 1)), true) else ([], false), ⟨K1 + K2 + 1, fun k hk => ?_⟩, ?_, ?_⟩
  ·obtain ⟨m, rfl⟩ : ∃ m, k = m + 1 := ⟨k - 1, by omega⟩
   have e1 : spec_l00Cut.f m (s.extract 1 (s.size - 1)) 32 = some (cutB 32 (s.extract 1 (s.size - 1))) := hK1 m (by omega)
   have e2 := hK2 m (by omega)
   simp only [List.take_zero, List.drop_zero] at e2
   have w1 : Aside0 (wrap64 ((s.size : Int) - 1) = ((s.size - 1 : Nat) : Int)) := ⟨by have := hin.1; exact w64sub s.size 1 (by omega) (by omega)⟩
   have hj : spec_l12Words.j0 (m + 1) s false = some (if (cutB 32 (s.extract 1 (s.size - 1))).all okW = true ∧ (cutB 32 (s.extract 1 (s.size - 1))).length ≤ 30 then (cutB 32 (s.extract 1 (s.size - 1)), true) else ([], false)) := by
    simp only [spec_l12Words.j0, w1.out, Int.toNat_natCast, e1, bS]
    have := hin.1
    rw [if_neg (by decide), if_pos (by omega), if_pos (by omega)]
    exact e2
   have hb0 : bt s 0 = 40 := by
    have h0 := bt_eq s 0 (by have := hin.1; omega)
    have h1 := hin.2.1
    rw [List.getElem?_eq_getElem (by have := hin.1; omega)] at h1
    rw [Option.some.inj h1] at h0
    exact h0
   have hb1 : bt s ((s.size - 1 : Nat) : Int) = 41 := by
    have h0 := bt_eq s (s.size - 1) (by have := hin.1; omega)
    have h1 := hin.2.2
    rw [List.getElem?_eq_getElem (by have := hin.1; omega)] at h1
    rw [Option.some.inj h1] at h0
    exact h0
   simp only [spec_l12Words.f, w1.out, hb1]
   have := hin.1
   rw [if_neg (by omega), if_pos (by omega), if_pos hb0, if_pos (by omega), if_pos (by omega)]
   exact hj
  ·constructor
   ·intro h
    by_cases hc : (cutB 32 (s.extract 1 (s.size - 1))).all okW = true ∧ (cutB 32 (s.extract 1 (s.size - 1))).length ≤ 30
    ·exact ⟨hin, hc.2, hc.1⟩
    ·rw [if_neg hc] at h; cases h
   ·intro h
    rw [if_pos ⟨h.2.2, h.2.1⟩]
  ·intro h
   by_cases hc : (cutB 32 (s.extract 1 (s.size - 1))).all okW = true ∧ (cutB 32 (s.extract 1 (s.size - 1))).length ≤ 30
   ·rw [if_pos hc]
   ·rw [if_neg hc] at h; cases h
 ·refine ⟨([], false), ⟨1, fun k hk => ?_⟩, ⟨(fun h => by cases h), fun h => absurd h.1 hin⟩, (fun h => by cases h)⟩
  obtain ⟨m, rfl⟩ : ∃ m, k = m + 1 := ⟨k - 1, by omega⟩
  have hj : spec_l12Words.j0 (m + 1) s true = some ([], false) := by
   simp only [spec_l12Words.j0]; exact if_pos trivial
  simp only [spec_l12Words.f]
  by_cases h2 : s.size < 2
  ·rw [if_pos (by omega)]; exact hj
  ·rw [if_neg (by omega), if_pos (by omega)]
   by_cases hb0 : bt s 0 = 40
   ·rw [if_pos hb0]
    have w1 : wrap64 ((s.size : Int) - 1) = ((s.size - 1 : Nat) : Int) := w64sub s.size 1 (by omega) (by omega)
    rw [w1, if_pos (by omega), if_pos (by omega)]
    have hb1 : ¬ bt s ((s.size - 1 : Nat) : Int) = 41 := by
     intro hb1
     have h0 := bt_eq s 0 (by omega)
     have h1 := bt_eq s (s.size - 1) (by omega)
     rw [hb1] at h1
     have hb0' : bt s ((0 : Nat) : Int) = 40 := hb0
     rw [hb0'] at h0
     refine hin ⟨by omega, ?_, ?_⟩
     ·rw [List.getElem?_eq_getElem (by omega)]
      exact congrArg some ((byte_iff _ _).1 h0.symm)
     ·rw [List.getElem?_eq_getElem (by omega)]
      exact congrArg some ((byte_iff _ _).1 h1.symm)
    have : (bt s ((s.size - 1 : Nat) : Int) != 41) = true := bne_iff_ne.mpr hb1
    rw [this]
    exact hj
   ·rw [if_neg hb0]; exact hj
theorem list_both (s : ByteArray) : ∃ r, Ev (fun k => spec_ListWords.f k s) r ∧ Ev (fun k => impl_ListWords.f k s) r ∧ r.1.length ≤ 30 := by
 by_cases h : s.size > 65536
 ·refine ⟨([], 2), ⟨0, fun k _ => ?_⟩, ⟨0, fun k _ => ?_⟩, by simp⟩
  ·simp only [spec_ListWords.f]; rw [if_pos (by omega)]
  ·simp only [impl_ListWords.f]; rw [if_pos (by omega)]
 ·obtain ⟨⟨a, b⟩, ⟨K1, h1⟩, g1, x1⟩ := specWords_ev s (by omega)
  obtain ⟨⟨c, d⟩, ⟨K2, h2⟩, g2, x2⟩ := implWords_ev s (by omega)
  simp only at g1 x1 g2 x2 h1 h2
  have hbd : b = d := by
   cases b <;> cases d
   ·rfl
   ·exact absurd (g1.2 (g2.1 rfl)) (by decide)
   ·exact absurd (g2.2 (g1.1 rfl)) (by decide)
   ·rfl
  subst hbd
  cases b with
  | true =>
   have e1 := x1 rfl
   have e2 := x2 rfl
   have hl := (g1.1 rfl).2.1
   subst e1; subst e2
   refine ⟨(cutB 32 (s.extract 1 (s.size - 1)), 0), ⟨K1, fun k hk => ?_⟩, ⟨K2, fun k hk => ?_⟩, hl⟩
   ·simp only [spec_ListWords.f, h1 k hk, bS]; rw [if_neg (by omega), if_pos trivial]
   ·simp only [impl_ListWords.f, h2 k hk, bS]; rw [if_neg (by omega), if_pos trivial]
  | false =>
   refine ⟨([], 3), ⟨K1, fun k hk => ?_⟩, ⟨K2, fun k hk => ?_⟩, by simp⟩
   ·simp only [spec_ListWords.f, h1 k hk, bS]; rw [if_neg (by omega), if_neg (by decide)]
   ·simp only [impl_ListWords.f, h2 k hk, bS]; rw [if_neg (by omega), if_neg (by decide)]
end Go.Proofs.YtcmifdcgmalnlaaDoor.P
/- Lemmas of mine: the laws' marks on lists of texts: they are told, and found again. Plain. -/
set_option linter.unusedVariables false
set_option linter.unusedSimpArgs false
namespace Go.Proofs.YtcmifdcgmalnlaaDoor.P
open Go.RowKit Go.Proofs.YtcmifdcgmalnlaaDoorW.PrintWords
theorem markText_l0 : ∀ (d n : Nat) (x : ByteArray), n < 10 ^ d → n ≤ 9223372036854775807 → x.size + d ≤ 1000 → ∃ t, Ev (fun k => laws_markText.l0 k (n : Int) x) t := by
 intro d
 induction d with
 | zero =>
  intro n x hn hn9 hx
  have : n = 0 := by simpa using hn
  subst this
  refine ⟨(⟨#[109]⟩ : ByteArray) ++ x, Ev.step (f := fun _ => some ((⟨#[109]⟩ : ByteArray) ++ x)) (fun k => ?_) (Ev.now _)⟩
  simp only [laws_markText.l0]
  rw [if_neg (by omega), if_pos (by omega)]
 | succ d ih =>
  intro n x hn hn9 hx
  by_cases h0 : n = 0
  ·subst h0
   refine ⟨(⟨#[109]⟩ : ByteArray) ++ x, Ev.step (f := fun _ => some ((⟨#[109]⟩ : ByteArray) ++ x)) (fun k => ?_) (Ev.now _)⟩
   simp only [laws_markText.l0]
   rw [if_neg (by omega), if_pos (by omega)]
  ·have hp : 10 ^ (d + 1) = 10 ^ d * 10 := rfl
   have hs : (strOfNums [(wrap64 (48 + (Int.tmod (n : Int) 10))) % 256]).size = 1 := by rw [strOfNums_size]; rfl
   obtain ⟨t, ht⟩ := ih (n / 10) (strOfNums [(wrap64 (48 + (Int.tmod (n : Int) 10))) % 256] ++ x) (by omega) (by omega) (by rw [ByteArray.size_append, hs]; omega)
   refine ⟨t, Ev.step (f := fun k => laws_markText.l0 k ((n / 10 : Nat) : Int) (strOfNums [(wrap64 (48 + (Int.tmod (n : Int) 10))) % 256] ++ x)) (fun k => ?_) ht⟩
   have hw : ∀ m : Int, 0 ≤ m → m ≤ n → wrap64 m = m ∨ True := fun _ _ _ => .inr trivial
   simp only [laws_markText.l0, Option.bind_some]
   rw [if_pos (by omega), if_pos (by rw [hs]; omega)]
   have hq : Int.tdiv (n : Int) 10 = ((n / 10 : Nat) : Int) := rfl
   rw [hq]
   rw [w64n _ (by omega)]
theorem markText_some (n : Nat) (hn : n < 10 ^ 18) : ∃ t, Ev (fun k => laws_markText.f k (n : Int)) t := by
 by_cases h0 : (n : Int) ≤ 0
 ·refine ⟨(⟨#[109, 48]⟩ : ByteArray), ⟨0, fun k _ => ?_⟩⟩
  simp only [laws_markText.f]
  rw [if_pos h0]
 ·obtain ⟨t, ht⟩ := markText_l0 18 n ⟨#[]⟩ hn (Nat.le_trans (Nat.le_of_lt hn) (by decide)) (by decide)
  refine ⟨t, Ev.congr (fun k => ?_) ht⟩
  simp only [laws_markText.f]
  rw [if_neg h0]
open Classical in
/-- The mark of a number. -/
noncomputable def mt (n : Nat) : ByteArray := if h : ∃ t, Ev (fun k => laws_markText.f k (n : Int)) t then h.choose else ⟨#[]⟩
theorem mt_ev (n : Nat) (hn : n < 10 ^ 18) : Ev (fun k => laws_markText.f k (n : Int)) (mt n) := by
 unfold mt
 rw [dif_pos (markText_some n hn)]
 exact (markText_some n hn).choose_spec
/-- Marks from a number on. -/
noncomputable def marks (n m : Nat) : List ByteArray := (List.range m).map fun i => mt (n + i)
theorem marks_length (n m : Nat) : (marks n m).length = m := by simp [marks]
theorem marks_get (n m i : Nat) (h : i < m) : (marks n m)[i]? = some (mt (n + i)) := by simp [marks, h]
theorem markS_l0 : ∀ (d i n : Nat) (xs : List ByteArray), i + d = xs.length → xs.length ≤ 4611686018427387904 → n + d < 10 ^ 18 →
  Ev (fun k => laws_markStringS.l0 k xs (n : Int) (i : Int)) (((n + d : Nat) : Int), xs.take i ++ marks n d) := by
 intro d
 induction d with
 | zero =>
  intro i n xs hi hx hn
  refine Ev.step (f := fun _ => some _) (fun k => ?_) (Ev.now _)
  simp only [laws_markStringS.l0]
  rw [if_neg (by omega), List.take_of_length_le (by omega)]
  simp [marks]
 | succ d ih =>
  intro i n xs hi hx hn
  obtain ⟨K1, h1⟩ := mt_ev n (by omega)
  have h2 := ih (i + 1) (n + 1) (xs.set i (mt n)) (by rw [List.length_set]; omega) (by rw [List.length_set]; omega) (by omega)
  obtain ⟨K2, h2⟩ := h2
  replace h1 : ∀ k, K1 ≤ k → laws_markText.f k (n : Int) = some (mt n) := h1
  replace h2 : ∀ k, K2 ≤ k → laws_markStringS.l0 k (xs.set i (mt n)) ((n + 1 : Nat) : Int) ((i + 1 : Nat) : Int) = _ := h2
  refine ⟨K1 + K2 + 1, fun k hk => ?_⟩
  obtain ⟨m, rfl⟩ : ∃ m, k = m + 1 := ⟨k - 1, by omega⟩
  simp only [laws_markStringS.l0, h1 m (by omega), Option.bind_some, Int.toNat_natCast]
  have hp : (10 : Nat) ^ 18 = 1000000000000000000 := by decide
  rw [if_pos (by omega), if_pos (by omega), w64s n (by omega), w64s i (by omega), h2 m (by omega)]
  have e : (xs.set i (mt n)).take (i + 1) ++ marks (n + 1) d = xs.take i ++ marks n (d + 1) := by
   rw [List.take_set, List.take_add_one, List.getElem?_eq_getElem (by omega)]
   have hl : (xs.take i).length = i := by rw [List.length_take]; omega
   rw [List.set_append_right _ _ (by omega), hl, Nat.sub_self]
   simp only [Option.toList, List.set_cons_zero, List.append_assoc, List.cons_append, List.nil_append]
   congr 1
   apply List.ext_getElem?
   intro j
   cases j with
   | zero => rw [marks_get n (d + 1) 0 (by omega)]; simp
   | succ j =>
    rw [List.getElem?_cons_succ]
    by_cases hj : j < d
    ·rw [marks_get _ _ _ hj, marks_get _ _ _ (by omega)]
     congr 2
     omega
    ·rw [List.getElem?_eq_none (by rw [marks_length]; omega), List.getElem?_eq_none (by rw [marks_length]; omega)]
  rw [e]
  congr 2
  omega
theorem markS_ev (xs : List ByteArray) (n : Nat) (hx : xs.length ≤ 4611686018427387904) (hn : n + xs.length < 10 ^ 18) : Ev (fun k => laws_markStringS.f k xs (n : Int)) (((n + xs.length : Nat) : Int), marks n xs.length) := by
 have h := markS_l0 xs.length 0 n xs (by omega) hx hn
 rw [List.take_zero, List.nil_append] at h
 exact h
theorem rdOf_get (xs : List ByteArray) (i : Nat) (x : ByteArray) (h : xs[i]? = some x) : rdOf ByteArray.empty xs (i : Int) = x := by
 simp [rdOf, List.getD_eq_getElem?_getD, h]
theorem heldS_l0 (n m : Nat) (hm : m ≤ 4611686018427387904) (hn : n + m < 10 ^ 18) : ∀ (d i : Nat), i + d = m →
  Ev (fun k => laws_heldStringS.l0 k (marks n m) ((n + i : Nat) : Int) (i : Int)) ((n + m : Nat) : Int) := by
 intro d
 induction d with
 | zero =>
  intro i hi
  refine Ev.step (f := fun _ => some _) (fun k => ?_) (Ev.now _)
  simp only [laws_heldStringS.l0, marks_length]
  rw [if_neg (by omega)]
  congr 2
  omega
 | succ d ih =>
  intro i hi
  obtain ⟨K1, h1⟩ := mt_ev (n + i) (by omega)
  obtain ⟨K2, h2⟩ := ih (i + 1) (by omega)
  refine ⟨K1 + K2 + 1, fun k hk => ?_⟩
  replace h1 : ∀ k, K1 ≤ k → laws_markText.f k ((n + i : Nat) : Int) = some (mt (n + i)) := h1
  obtain ⟨j, rfl⟩ : ∃ j, k = j + 1 := ⟨k - 1, by omega⟩
  have hp : (10 : Nat) ^ 18 = 1000000000000000000 := by decide
  simp only [laws_heldStringS.l0, h1 j (by omega), Option.bind_some, marks_length]
  rw [if_pos (by omega), if_pos (by omega), rdOf_get _ _ _ (marks_get n m i (by omega)), if_pos rfl, w64s (n + i) (by omega), w64s i (by omega)]
  exact h2 j (by omega)
theorem heldS_ev (n m : Nat) (hm : m ≤ 4611686018427387904) (hn : n + m < 10 ^ 18) : Ev (fun k => laws_heldStringS.f k (marks n m) (n : Int)) ((n + m : Nat) : Int) :=
 heldS_l0 n m hm hn m 0 (by omega)
theorem eqS_l0 (xs : List ByteArray) (hx : xs.length ≤ 4611686018427387904) : ∀ (d i : Nat), i + d = xs.length → Ev (fun k => laws_eqStringS.l0 k xs xs (i : Int)) true := by
 intro d
 induction d with
 | zero =>
  intro i hi
  refine Ev.step (f := fun _ => some _) (fun k => ?_) (Ev.now _)
  simp only [laws_eqStringS.l0]
  rw [if_neg (by omega)]
 | succ d ih =>
  intro i hi
  refine Ev.step (f := fun k => laws_eqStringS.l0 k xs xs ((i + 1 : Nat) : Int)) (fun k => ?_) (ih (i + 1) (by omega))
  simp only [laws_eqStringS.l0]
  rw [if_pos (by omega), if_pos (by omega), if_pos (by omega), if_pos trivial, w64s i (by omega)]
theorem eqS_self (xs : List ByteArray) (hx : xs.length ≤ 4611686018427387904) : Ev (fun k => laws_eqStringS.f k xs xs) true := by
 obtain ⟨K, h⟩ := eqS_l0 xs hx xs.length 0 (by omega)
 refine ⟨K, fun k hk => ?_⟩
 simp only [laws_eqStringS.f]
 rw [if_pos trivial]
 exact h k hk
end Go.Proofs.YtcmifdcgmalnlaaDoor.P
/- The pure statement of the law FnExactListWords: the two ListWords tell the same, in memory of their own. No condition. -/
set_option linter.unusedVariables false
set_option linter.unusedSimpArgs false
namespace Go.Proofs.YtcmifdcgmalnlaaDoor.Pure
open Go.RowKit Go.Proofs.YtcmifdcgmalnlaaDoor.P Go.Proofs.YtcmifdcgmalnlaaDoorW.PrintWords
theorem FnExactListWords : laws_FnExactListWords.Pure := by
 intro s hs
 obtain ⟨⟨xs, c⟩, ⟨K1, h1⟩, ⟨K2, h2⟩, h3⟩ := list_both s
 simp only at h1 h2 h3
 have hp : (10 : Nat) ^ 18 = 1000000000000000000 := by decide
 obtain ⟨K3, h4⟩ := eqS_self xs (by omega)
 obtain ⟨K4, h5⟩ := markS_ev xs 1 (by omega) (by omega)
 obtain ⟨K5, h6⟩ := heldS_ev 1 xs.length (by omega) (by omega)
 have hb : (c != c) = false := by simp
 refine ⟨K1 + K2 + K3 + K4 + K5 + 2, ?_⟩
 have e : ∀ j : Nat, K1 + K2 + K3 + K4 + K5 ≤ j → laws_FnExactListWords.j1 (j + 1) (marks 1 xs.length) ((1 + xs.length : Nat) : Int) false = some true := fun j hj => by
  simp only [laws_FnExactListWords.j1]
  have h6' := h6 j (by omega)
  rw [show ((1 : Nat) : Int) = 1 from rfl] at h6'
  simp only [h6', bS]
  rw [if_neg (by decide), if_neg (by omega), if_pos trivial]
 have e2 : ∀ j : Nat, K1 + K2 + K3 + K4 + K5 ≤ j → laws_FnExactListWords.j0 (j + 1 + 1) s xs c xs false = some true := fun j hj => by
  simp only [laws_FnExactListWords.j0]
  have h5' := h5 (j + 1) (by omega)
  have h6' := h6 (j + 1) (by omega)
  have h2' := h2 (j + 1) (by omega)
  have h4' := h4 (j + 1) (by omega)
  rw [show ((1 : Nat) : Int) = 1 from rfl] at h5' h6'
  simp only at h4'
  simp only [h5', h6', bS, h2', h4']
  rw [if_neg (by decide), if_neg (by omega), if_pos trivial, if_pos trivial, hb]
  exact e j hj
 have h1' := h1 (K1 + K2 + K3 + K4 + K5 + 2) (by omega)
 have h2' := h2 (K1 + K2 + K3 + K4 + K5 + 2) (by omega)
 have h4' := h4 (K1 + K2 + K3 + K4 + K5 + 2) (by omega)
 simp only at h4'
 simp only [laws_FnExactListWords.f, h1', h2', h4', bS, if_true, hb]
 split
 ·rfl
 ·exact e2 _ (Nat.le_refl _)
end Go.Proofs.YtcmifdcgmalnlaaDoor.Pure
