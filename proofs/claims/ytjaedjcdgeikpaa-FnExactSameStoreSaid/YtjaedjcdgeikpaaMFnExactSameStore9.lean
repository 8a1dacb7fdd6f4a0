/- Part 9 of what the law FnExactSameStore stands on; the last part ends with the law's row. No condition of mine. -/
import Derived.Test.YtjaedjcdgeikpaaMFnExactSameStore1
import Derived.Test.YtjaedjcdgeikpaaMFnExactSameStore8
namespace Go.Proofs.Ytjaedjcdgeikpaa.P
open Go.RowKit Go.Proofs.YtjaedjcdgeikpaaW.PrintWords Go.Proofs.YtjaedjcdgeikpaaW.PrintLast Go.Proofs.YtjaedjcdgeikpaaW.PrintMore
attribute [local go_sem] max2_int min2_int max_two min_two max_three min_three max_four min_four   -- for this text's walks alone
set_option linter.unusedVariables false
set_option linter.unusedSimpArgs false

attribute [local go_sem high] eqA28
/-! ### spec_l09Same: function 38 -/
mutual
def spec_l09Same.l0 : Nat → List (S33) → List (S33) → Int → Option (Bool)
 | 0, _, _, _ => none
 | k + 1, x0, x1, x5 => if x5 < (x0.length : Int) then (if 0 ≤ x5 then (if x5 < (x1.length : Int) then (if ((rd_T33 x0 x5).f0).toList = ((rd_T33 x1 x5).f0).toList then (if ((rd_T33 x0 x5).f1) = ((rd_T33 x1 x5).f1) then (if ((rd_T33 x0 x5).f2) = ((rd_T33 x1 x5).f2) then (if (((rd_T33 x0 x5).f3).length : Int) = (((rd_T33 x1 x5).f3).length : Int) then (spec_l09Same.j1 k x0 x1 x5 ((((rd_T33 x0 x5).f4).length : Int) != (((rd_T33 x1 x5).f4).length : Int)) ((rd_T33 x0 x5).f0) ((rd_T33 x0 x5).f1) ((rd_T33 x0 x5).f2) ((rd_T33 x0 x5).f3) ((rd_T33 x0 x5).f4) ((rd_T33 x1 x5).f0) ((rd_T33 x1 x5).f1) ((rd_T33 x1 x5).f2) ((rd_T33 x1 x5).f3) ((rd_T33 x1 x5).f4)) else (spec_l09Same.j1 k x0 x1 x5 true ((rd_T33 x0 x5).f0) ((rd_T33 x0 x5).f1) ((rd_T33 x0 x5).f2) ((rd_T33 x0 x5).f3) ((rd_T33 x0 x5).f4) ((rd_T33 x1 x5).f0) ((rd_T33 x1 x5).f1) ((rd_T33 x1 x5).f2) ((rd_T33 x1 x5).f3) ((rd_T33 x1 x5).f4))) else (spec_l09Same.j1 k x0 x1 x5 true ((rd_T33 x0 x5).f0) ((rd_T33 x0 x5).f1) ((rd_T33 x0 x5).f2) ((rd_T33 x0 x5).f3) ((rd_T33 x0 x5).f4) ((rd_T33 x1 x5).f0) ((rd_T33 x1 x5).f1) ((rd_T33 x1 x5).f2) ((rd_T33 x1 x5).f3) ((rd_T33 x1 x5).f4))) else (spec_l09Same.j1 k x0 x1 x5 true ((rd_T33 x0 x5).f0) ((rd_T33 x0 x5).f1) ((rd_T33 x0 x5).f2) ((rd_T33 x0 x5).f3) ((rd_T33 x0 x5).f4) ((rd_T33 x1 x5).f0) ((rd_T33 x1 x5).f1) ((rd_T33 x1 x5).f2) ((rd_T33 x1 x5).f3) ((rd_T33 x1 x5).f4))) else (spec_l09Same.j1 k x0 x1 x5 true ((rd_T33 x0 x5).f0) ((rd_T33 x0 x5).f1) ((rd_T33 x0 x5).f2) ((rd_T33 x0 x5).f3) ((rd_T33 x0 x5).f4) ((rd_T33 x1 x5).f0) ((rd_T33 x1 x5).f1) ((rd_T33 x1 x5).f2) ((rd_T33 x1 x5).f3) ((rd_T33 x1 x5).f4))) else (none)) else (none)) else (some true)
def spec_l09Same.j1 : Nat → List (S33) → List (S33) → Int → Bool → ByteArray → Int → Int → List (S28) → List ByteArray → ByteArray → Int → Int → List (S28) → List ByteArray → Option (Bool)
 | 0, _, _, _, _, _, _, _, _, _, _, _, _, _, _ => none
 | k + 1, x0, x1, x5, x65, x103000, x103001, x103002, x103003, x103004, x105000, x105001, x105002, x105003, x105004 => if x65 = true then (some false) else (spec_l09Same.l1 k x0 x1 x5 0 x103000 x103001 x103002 x103003 x103004 x105000 x105001 x105002 x105003 x105004)
def spec_l09Same.l1 : Nat → List (S33) → List (S33) → Int → Int → ByteArray → Int → Int → List (S28) → List ByteArray → ByteArray → Int → Int → List (S28) → List ByteArray → Option (Bool)
 | 0, _, _, _, _, _, _, _, _, _, _, _, _, _, _ => none
 | k + 1, x0, x1, x5, x8, x103000, x103001, x103002, x103003, x103004, x105000, x105001, x105002, x105003, x105004 => if x8 < (x103003.length : Int) then (if 0 ≤ x8 then (if x8 < (x105003.length : Int) then (if (!(((rd_T28 x103003 x8).f0) == ((rd_T28 x105003 x8).f0)) || (!(((rd_T28 x103003 x8).f1) == ((rd_T28 x105003 x8).f1)) || (!((((rd_T28 x103003 x8).f2).toList) == (((rd_T28 x105003 x8).f2).toList))))) = true then (some false) else (spec_l09Same.l1 k x0 x1 x5 (wrap64 (x8 + 1)) x103000 x103001 x103002 x103003 x103004 x105000 x105001 x105002 x105003 x105004)) else (none)) else (none)) else (spec_l09Same.l2 k x0 x1 x5 0 x103000 x103001 x103002 x103003 x103004 x105000 x105001 x105002 x105003 x105004)
def spec_l09Same.l2 : Nat → List (S33) → List (S33) → Int → Int → ByteArray → Int → Int → List (S28) → List ByteArray → ByteArray → Int → Int → List (S28) → List ByteArray → Option (Bool)
 | 0, _, _, _, _, _, _, _, _, _, _, _, _, _, _ => none
 | k + 1, x0, x1, x5, x9, x103000, x103001, x103002, x103003, x103004, x105000, x105001, x105002, x105003, x105004 => if x9 < (x103004.length : Int) then (if 0 ≤ x9 then (if x9 < (x105004.length : Int) then (if (rdOf ByteArray.empty x103004 x9).toList = (rdOf ByteArray.empty x105004 x9).toList then (spec_l09Same.l2 k x0 x1 x5 (wrap64 (x9 + 1)) x103000 x103001 x103002 x103003 x103004 x105000 x105001 x105002 x105003 x105004) else (some false)) else (none)) else (none)) else (spec_l09Same.l0 k x0 x1 (wrap64 (x5 + 1)))
end
def spec_l09Same.f (k : Nat) (l0 : List (S33)) (l1 : List (S33)) : Option (Bool) := if (l0.length : Int) = (l1.length : Int) then (spec_l09Same.l0 k l0 l1 0) else (some false)
theorem spec_l09Same.mono_l : ∀ k, (∀ y0 y1 y2, LeO (spec_l09Same.l0 k y0 y1 y2) (spec_l09Same.l0 (k + 1) y0 y1 y2)) ∧ (∀ y0 y1 y2 y3 y4 y5 y6 y7 y8 y9 y10 y11 y12 y13, LeO (spec_l09Same.j1 k y0 y1 y2 y3 y4 y5 y6 y7 y8 y9 y10 y11 y12 y13) (spec_l09Same.j1 (k + 1) y0 y1 y2 y3 y4 y5 y6 y7 y8 y9 y10 y11 y12 y13)) ∧ (∀ y0 y1 y2 y3 y4 y5 y6 y7 y8 y9 y10 y11 y12 y13, LeO (spec_l09Same.l1 k y0 y1 y2 y3 y4 y5 y6 y7 y8 y9 y10 y11 y12 y13) (spec_l09Same.l1 (k + 1) y0 y1 y2 y3 y4 y5 y6 y7 y8 y9 y10 y11 y12 y13)) ∧ (∀ y0 y1 y2 y3 y4 y5 y6 y7 y8 y9 y10 y11 y12 y13, LeO (spec_l09Same.l2 k y0 y1 y2 y3 y4 y5 y6 y7 y8 y9 y10 y11 y12 y13) (spec_l09Same.l2 (k + 1) y0 y1 y2 y3 y4 y5 y6 y7 y8 y9 y10 y11 y12 y13))
 | 0 => ⟨fun _ _ _ r h => by simp [spec_l09Same.l0] at h, fun _ _ _ _ _ _ _ _ _ _ _ _ _ _ r h => by simp [spec_l09Same.j1] at h, fun _ _ _ _ _ _ _ _ _ _ _ _ _ _ r h => by simp [spec_l09Same.l1] at h, fun _ _ _ _ _ _ _ _ _ _ _ _ _ _ r h => by simp [spec_l09Same.l2] at h⟩
 | k + 1 => by
  obtain ⟨ih0, ih1, ih2, ih3⟩ := spec_l09Same.mono_l k
  refine ⟨?_, ?_, ?_, ?_⟩
  ·intro y0 y1 y2
   unfold spec_l09Same.l0
   repeat' first
   | (with_reducible exact ih0 _ _ _)
   | (with_reducible exact ih1 _ _ _ _ _ _ _ _ _ _ _ _ _ _)
   | (with_reducible exact ih2 _ _ _ _ _ _ _ _ _ _ _ _ _ _)
   | (with_reducible exact ih3 _ _ _ _ _ _ _ _ _ _ _ _ _ _)
   | (with_reducible exact LeO.refl _)
   | (with_reducible exact LeO.none _)
   | (with_reducible refine LeO.ite ?_ ?_)
   | (with_reducible refine LeO.bind ?_ (fun _ => ?_))
   | exact ih0 _ _ _
   | exact ih1 _ _ _ _ _ _ _ _ _ _ _ _ _ _
   | exact ih2 _ _ _ _ _ _ _ _ _ _ _ _ _ _
   | exact ih3 _ _ _ _ _ _ _ _ _ _ _ _ _ _
   | exact LeO.none _
   | refine LeO.ite ?_ ?_
   | refine LeO.bind ?_ (fun _ => ?_)
  ·intro y0 y1 y2 y3 y4 y5 y6 y7 y8 y9 y10 y11 y12 y13
   unfold spec_l09Same.j1
   repeat' first
   | (with_reducible exact ih0 _ _ _)
   | (with_reducible exact ih1 _ _ _ _ _ _ _ _ _ _ _ _ _ _)
   | (with_reducible exact ih2 _ _ _ _ _ _ _ _ _ _ _ _ _ _)
   | (with_reducible exact ih3 _ _ _ _ _ _ _ _ _ _ _ _ _ _)
   | (with_reducible exact LeO.refl _)
   | (with_reducible exact LeO.none _)
   | (with_reducible refine LeO.ite ?_ ?_)
   | (with_reducible refine LeO.bind ?_ (fun _ => ?_))
   | exact ih0 _ _ _
   | exact ih1 _ _ _ _ _ _ _ _ _ _ _ _ _ _
   | exact ih2 _ _ _ _ _ _ _ _ _ _ _ _ _ _
   | exact ih3 _ _ _ _ _ _ _ _ _ _ _ _ _ _
   | exact LeO.none _
   | refine LeO.ite ?_ ?_
   | refine LeO.bind ?_ (fun _ => ?_)
  ·intro y0 y1 y2 y3 y4 y5 y6 y7 y8 y9 y10 y11 y12 y13
   unfold spec_l09Same.l1
   repeat' first
   | (with_reducible exact ih0 _ _ _)
   | (with_reducible exact ih1 _ _ _ _ _ _ _ _ _ _ _ _ _ _)
   | (with_reducible exact ih2 _ _ _ _ _ _ _ _ _ _ _ _ _ _)
   | (with_reducible exact ih3 _ _ _ _ _ _ _ _ _ _ _ _ _ _)
   | (with_reducible exact LeO.refl _)
   | (with_reducible exact LeO.none _)
   | (with_reducible refine LeO.ite ?_ ?_)
   | (with_reducible refine LeO.bind ?_ (fun _ => ?_))
   | exact ih0 _ _ _
   | exact ih1 _ _ _ _ _ _ _ _ _ _ _ _ _ _
   | exact ih2 _ _ _ _ _ _ _ _ _ _ _ _ _ _
   | exact ih3 _ _ _ _ _ _ _ _ _ _ _ _ _ _
   | exact LeO.none _
   | refine LeO.ite ?_ ?_
   | refine LeO.bind ?_ (fun _ => ?_)
  ·intro y0 y1 y2 y3 y4 y5 y6 y7 y8 y9 y10 y11 y12 y13
   unfold spec_l09Same.l2
   repeat' first
   | (with_reducible exact ih0 _ _ _)
   | (with_reducible exact ih1 _ _ _ _ _ _ _ _ _ _ _ _ _ _)
   | (with_reducible exact ih2 _ _ _ _ _ _ _ _ _ _ _ _ _ _)
   | (with_reducible exact ih3 _ _ _ _ _ _ _ _ _ _ _ _ _ _)
   | (with_reducible exact LeO.refl _)
   | (with_reducible exact LeO.none _)
   | (with_reducible refine LeO.ite ?_ ?_)
   | (with_reducible refine LeO.bind ?_ (fun _ => ?_))
   | exact ih0 _ _ _
   | exact ih1 _ _ _ _ _ _ _ _ _ _ _ _ _ _
   | exact ih2 _ _ _ _ _ _ _ _ _ _ _ _ _ _
   | exact ih3 _ _ _ _ _ _ _ _ _ _ _ _ _ _
   | exact LeO.none _
   | refine LeO.ite ?_ ?_
   | refine LeO.bind ?_ (fun _ => ?_)
theorem spec_l09Same.mono : ∀ a0 a1 k, LeO (spec_l09Same.f k a0 a1) (spec_l09Same.f (k + 1) a0 a1) := by
 intro a0 a1 k
 obtain ⟨ih0, ih1, ih2, ih3⟩ := spec_l09Same.mono_l k
 unfold spec_l09Same.f
 repeat' first
   | (with_reducible exact ih0 _ _ _)
   | (with_reducible exact ih1 _ _ _ _ _ _ _ _ _ _ _ _ _ _)
   | (with_reducible exact ih2 _ _ _ _ _ _ _ _ _ _ _ _ _ _)
   | (with_reducible exact ih3 _ _ _ _ _ _ _ _ _ _ _ _ _ _)
   | (with_reducible exact LeO.refl _)
   | (with_reducible exact LeO.none _)
   | (with_reducible refine LeO.ite ?_ ?_)
   | (with_reducible refine LeO.bind ?_ (fun _ => ?_))
   | exact ih0 _ _ _
   | exact ih1 _ _ _ _ _ _ _ _ _ _ _ _ _ _
   | exact ih2 _ _ _ _ _ _ _ _ _ _ _ _ _ _
   | exact ih3 _ _ _ _ _ _ _ _ _ _ _ _ _ _
   | exact LeO.none _
   | refine LeO.ite ?_ ?_
   | refine LeO.bind ?_ (fun _ => ?_)
set_option maxHeartbeats 8000000 in
set_option maxRecDepth 100000 in
theorem spec_l09Same.calls (k : Nat) (A0 : Option Addr) (c0 : Nat) (l0 : List (S33)) (A1 : Option Addr) (c1 : Nat) (l1 : List (S33)) (r : Bool) (w : World) (hr0 : Kd.C k33 w A0 l0.length l0) (hc0 : l0.length ≤ c0) (hr1 : Kd.C k33 w A1 l1.length l1) (hc1 : l1.length ≤ c1) (h : spec_l09Same.f k l0 l1 = some r) :
  Calls Try.prog 38 #[.slice A0 l0.length c0, .slice A1 l1.length c1] w fun e w' => e = .returned (.bool r) ∧ Below w.heap.size w w' := by
 have hu33 := Try.underlying33
 have hu28 := Try.underlying28
 have HR0 := qM_ hr0
 have HC0 := qM_ hc0
 clear hr0 hc0
 have HR1 := qM_ hr1
 have HC1 := qM_ hc1
 clear hr1 hc1
 have HB := qM_ (Below.refl w.heap.size w)
 have H : (if (l0.length : Int) = (l1.length : Int) then (spec_l09Same.l0 k l0 l1 0) else (some false)) = some r := h
 clear h
 by_cases c3 : (l0.length : Int) = (l1.length : Int)
 ·rw [if_pos c3] at H
  have c3b0 : ((l0.length : Int) == (l1.length : Int)) = true := beq_iff_eq.mpr c3
  have c3b1 : ((l0.length : Int) != (l1.length : Int)) = false := bne_eq_false_iff_eq.mpr c3
  have c3b2 : (l0.length == l1.length) = true := by first | simpa using c3 | (simp at c3 ⊢; omega)
  clear c3
  have H' := qM_ H
  clear H
  go_enter Try.func38, Try.ntmps38
  go_wp2
  repeat (go_quiet (fail); try go_wp2)
  go_loopg [5] k (fun kq v5 w' => ∃ (x5_1 : Int), v5 = .int .i64 x5_1 ∧ Aside0 (spec_l09Same.l0 kq l0 l1 x5_1 = some r) ∧ Aside0 (kq ≤ k) ∧ Aside0 (Below w.heap.size w w'))
  case atStart => exact ⟨(0), (by first | rfl | (simp; done) | (simp [*]; done)), H', ⟨Nat.le_refl _⟩, ⟨by repeat (first | (with_reducible first | exact HB.out | apply qA_ | apply qD_ | apply qE_) | exact HB.out)⟩⟩
  case round =>
   clear H'
   try clear c1
   try clear p2
   try clear c3
   try clear c3b0
   try clear c3b1
   try clear c3b2
   obtain ⟨x5_1, rfl, HA, HK1, HB⟩ := hrel
   cases gk with
   | zero => exact absurd HA.out (by simp [spec_l09Same.l0])
   | succ k1 =>
    have H := HA.out
    clear HA
    simp only [spec_l09Same.l0] at H
    by_cases c4 : x5_1 < (l0.length : Int)
    ·rw [if_pos c4] at H
     have c4b0 : decide (x5_1 < (l0.length : Int)) = true := decide_eq_true c4
     clear c4
     by_cases c5 : 0 ≤ x5_1
     ·rw [if_pos c5] at H
      have c5b0 : decide (0 ≤ x5_1) = true := decide_eq_true c5
      clear c5
      by_cases c6 : x5_1 < (l1.length : Int)
      ·rw [if_pos c6] at H
       have c6b0 : decide (x5_1 < (l1.length : Int)) = true := decide_eq_true c6
       clear c6
       have HC7 := qM_ H
       clear H
       have p101 : 0 ≤ (x5_1 : Int) := qT_ (by first | (with_reducible assumption) | assumption)
       have q101 : x5_1 < (l0.length : Int) := qT_ (by first | (with_reducible assumption) | assumption)
       obtain ⟨ad101, A101_3, c101_3, A101_4, c101_4, e101, hx101_0, hx101_1, hx101_2, hx101_3, hx101_4, hl101_3, hi101_3, hl101_4, hi101_4⟩ := at_T33 HR0.out x5_1 p101 q101
       cases e101
       replace hx101_0 := (HB.out.cell (qL_ w _ hx101_0)).trans hx101_0
       replace hx101_1 := (HB.out.cell (qL_ w _ hx101_1)).trans hx101_1
       replace hx101_2 := (HB.out.cell (qL_ w _ hx101_2)).trans hx101_2
       replace hx101_3 := (HB.out.cell (qL_ w _ hx101_3)).trans hx101_3
       replace hx101_4 := (HB.out.cell (qL_ w _ hx101_4)).trans hx101_4
       have HR101_3 := qM_ hi101_3
       have HC101_3 := qM_ hl101_3
       clear hi101_3 hl101_3
       have HR101_4 := qM_ hi101_4
       have HC101_4 := qM_ hl101_4
       clear hi101_4 hl101_4
       replace p101 := eq_true p101
       replace q101 := eq_true q101
       go_upto_region 8 with (first | ((with_reducible refine gate_dst (N := 6) rfl ?_); (try (refine gate_guard (by rfl) ?_; dsimp only)); refine box_event ?hg (N := 6) ?hd (cs := #[.string (⟨#[]⟩ : ByteArray), .int .i64 0, .int .i64 0, .slice none 0 0, .slice none 0 0]) (t := 33) ?hr ?_; (case hd => rfl); (case hg => rfl); (case hr => first | (go_simp; done) | (go_simp; rfl)); intro gb102 hg w8 hbox hb; have n0_ := qM_ (below_step (by repeat (first | (with_reducible first | exact HB.out | apply qA_ | apply qD_ | apply qE_) | exact HB.out)) hb); have n1_ := qM_ (hbox); have n2_ := qM_ ((by rw [hg]; exact (below_size (by repeat (first | (with_reducible first | exact HB.out | apply qA_ | apply qD_ | apply qE_) | exact HB.out))) : w.heap.size ≤ gb102)); have n3_ := qM_ ((by rw [hg]; exact (below_size (by repeat (first | (with_reducible first | exact HB.out | apply qA_ | apply qD_ | apply qE_) | exact HB.out))) : w.heap.size ≤ gb102)); clear HB; have HB := n0_; have BK102 := n1_; have GW102 := n2_; have GE102 := n3_; clear n0_ n1_ n2_ n3_; clear hb hbox hg; have hcz9_0 : w8.cell? ⟨gb102, 0, none⟩ = some (.string (⟨#[]⟩ : ByteArray)) := (qC_ BK102.out 0).trans rfl; have hcz9_1 : w8.cell? ⟨gb102, 1, none⟩ = some (.int .i64 0) := (qC_ BK102.out 1).trans rfl; have hcz9_2 : w8.cell? ⟨gb102, 2, none⟩ = some (.int .i64 0) := (qC_ BK102.out 2).trans rfl; have hcz9_3 : w8.cell? ⟨gb102, 3, none⟩ = some (.slice none 0 0) := (qC_ BK102.out 3).trans rfl; have hcz9_4 : w8.cell? ⟨gb102, 4, none⟩ = some (.slice none 0 0) := (qC_ BK102.out 4).trans rfl; have hfz9_0 := qF_ BK102.out 0; have hfz9_1 := qF_ BK102.out 1; have hfz9_2 := qF_ BK102.out 2; have hfz9_3 := qF_ BK102.out 3; have hfz9_4 := qF_ BK102.out 4; have p103 : 0 ≤ (x5_1 : Int) := qT_ (by first | (with_reducible assumption) | assumption); have q103 : x5_1 < (l1.length : Int) := qT_ (by first | (with_reducible assumption) | assumption); obtain ⟨ad103, A103_3, c103_3, A103_4, c103_4, e103, hx103_0, hx103_1, hx103_2, hx103_3, hx103_4, hl103_3, hi103_3, hl103_4, hi103_4⟩ := at_T33 HR1.out x5_1 p103 q103; cases e103; have hn103_0 : ad103.block ≠ gb102 := Nat.ne_of_lt (Nat.lt_of_lt_of_le (by have := qL_ _ _ hx103_0; first | rwa [add_block] at this | exact this) GW102.out); have hn103_1 : ad103.block ≠ gb102 := Nat.ne_of_lt (Nat.lt_of_lt_of_le (by have := qL_ _ _ hx103_0; first | rwa [add_block] at this | exact this) GW102.out); have hn103_2 : ad103.block ≠ gb102 := Nat.ne_of_lt (Nat.lt_of_lt_of_le (by have := qL_ _ _ hx103_0; first | rwa [add_block] at this | exact this) GW102.out); have hn103_3 : ad103.block ≠ gb102 := Nat.ne_of_lt (Nat.lt_of_lt_of_le (by have := qL_ _ _ hx103_0; first | rwa [add_block] at this | exact this) GW102.out); have hn103_4 : ad103.block ≠ gb102 := Nat.ne_of_lt (Nat.lt_of_lt_of_le (by have := qL_ _ _ hx103_0; first | rwa [add_block] at this | exact this) GW102.out); replace hx103_0 := (HB.out.cell (qL_ w _ hx103_0)).trans hx103_0; replace hx103_1 := (HB.out.cell (qL_ w _ hx103_1)).trans hx103_1; replace hx103_2 := (HB.out.cell (qL_ w _ hx103_2)).trans hx103_2; replace hx103_3 := (HB.out.cell (qL_ w _ hx103_3)).trans hx103_3; replace hx103_4 := (HB.out.cell (qL_ w _ hx103_4)).trans hx103_4; have HR103_3 := qM_ hi103_3; have HC103_3 := qM_ hl103_3; clear hi103_3 hl103_3; have HR103_4 := qM_ hi103_4; have HC103_4 := qM_ hl103_4; clear hi103_4 hl103_4; replace hx103_0 := (cell_far (p := ⟨gb102, 0, none⟩) (by first | (rw [add_block]; exact hn103_0) | (show (Addr.add _ _).block ≠ _; rw [add_block]; exact hn103_0) | exact hn103_0) (.string ((rd_T33 l0 x5_1).f0))).trans hx103_0; replace hx103_1 := (cell_far (p := ⟨gb102, 0, none⟩) (by first | (rw [add_block]; exact hn103_0) | (show (Addr.add _ _).block ≠ _; rw [add_block]; exact hn103_0) | exact hn103_0) (.string ((rd_T33 l0 x5_1).f0))).trans hx103_1; replace hx103_2 := (cell_far (p := ⟨gb102, 0, none⟩) (by first | (rw [add_block]; exact hn103_0) | (show (Addr.add _ _).block ≠ _; rw [add_block]; exact hn103_0) | exact hn103_0) (.string ((rd_T33 l0 x5_1).f0))).trans hx103_2; replace hx103_3 := (cell_far (p := ⟨gb102, 0, none⟩) (by first | (rw [add_block]; exact hn103_0) | (show (Addr.add _ _).block ≠ _; rw [add_block]; exact hn103_0) | exact hn103_0) (.string ((rd_T33 l0 x5_1).f0))).trans hx103_3; replace hx103_4 := (cell_far (p := ⟨gb102, 0, none⟩) (by first | (rw [add_block]; exact hn103_0) | (show (Addr.add _ _).block ≠ _; rw [add_block]; exact hn103_0) | exact hn103_0) (.string ((rd_T33 l0 x5_1).f0))).trans hx103_4; replace hx103_0 := (cell_far (p := ⟨gb102, 1, none⟩) (by first | (rw [add_block]; exact hn103_1) | (show (Addr.add _ _).block ≠ _; rw [add_block]; exact hn103_1) | exact hn103_1) (.int .i64 ((rd_T33 l0 x5_1).f1))).trans hx103_0; replace hx103_1 := (cell_far (p := ⟨gb102, 1, none⟩) (by first | (rw [add_block]; exact hn103_1) | (show (Addr.add _ _).block ≠ _; rw [add_block]; exact hn103_1) | exact hn103_1) (.int .i64 ((rd_T33 l0 x5_1).f1))).trans hx103_1; replace hx103_2 := (cell_far (p := ⟨gb102, 1, none⟩) (by first | (rw [add_block]; exact hn103_1) | (show (Addr.add _ _).block ≠ _; rw [add_block]; exact hn103_1) | exact hn103_1) (.int .i64 ((rd_T33 l0 x5_1).f1))).trans hx103_2; replace hx103_3 := (cell_far (p := ⟨gb102, 1, none⟩) (by first | (rw [add_block]; exact hn103_1) | (show (Addr.add _ _).block ≠ _; rw [add_block]; exact hn103_1) | exact hn103_1) (.int .i64 ((rd_T33 l0 x5_1).f1))).trans hx103_3; replace hx103_4 := (cell_far (p := ⟨gb102, 1, none⟩) (by first | (rw [add_block]; exact hn103_1) | (show (Addr.add _ _).block ≠ _; rw [add_block]; exact hn103_1) | exact hn103_1) (.int .i64 ((rd_T33 l0 x5_1).f1))).trans hx103_4; replace hx103_0 := (cell_far (p := ⟨gb102, 2, none⟩) (by first | (rw [add_block]; exact hn103_2) | (show (Addr.add _ _).block ≠ _; rw [add_block]; exact hn103_2) | exact hn103_2) (.int .i64 ((rd_T33 l0 x5_1).f2))).trans hx103_0; replace hx103_1 := (cell_far (p := ⟨gb102, 2, none⟩) (by first | (rw [add_block]; exact hn103_2) | (show (Addr.add _ _).block ≠ _; rw [add_block]; exact hn103_2) | exact hn103_2) (.int .i64 ((rd_T33 l0 x5_1).f2))).trans hx103_1; replace hx103_2 := (cell_far (p := ⟨gb102, 2, none⟩) (by first | (rw [add_block]; exact hn103_2) | (show (Addr.add _ _).block ≠ _; rw [add_block]; exact hn103_2) | exact hn103_2) (.int .i64 ((rd_T33 l0 x5_1).f2))).trans hx103_2; replace hx103_3 := (cell_far (p := ⟨gb102, 2, none⟩) (by first | (rw [add_block]; exact hn103_2) | (show (Addr.add _ _).block ≠ _; rw [add_block]; exact hn103_2) | exact hn103_2) (.int .i64 ((rd_T33 l0 x5_1).f2))).trans hx103_3; replace hx103_4 := (cell_far (p := ⟨gb102, 2, none⟩) (by first | (rw [add_block]; exact hn103_2) | (show (Addr.add _ _).block ≠ _; rw [add_block]; exact hn103_2) | exact hn103_2) (.int .i64 ((rd_T33 l0 x5_1).f2))).trans hx103_4; replace hx103_0 := (cell_far (p := ⟨gb102, 3, none⟩) (by first | (rw [add_block]; exact hn103_3) | (show (Addr.add _ _).block ≠ _; rw [add_block]; exact hn103_3) | exact hn103_3) (.slice A101_3 ((rd_T33 l0 x5_1).f3).length c101_3)).trans hx103_0; replace hx103_1 := (cell_far (p := ⟨gb102, 3, none⟩) (by first | (rw [add_block]; exact hn103_3) | (show (Addr.add _ _).block ≠ _; rw [add_block]; exact hn103_3) | exact hn103_3) (.slice A101_3 ((rd_T33 l0 x5_1).f3).length c101_3)).trans hx103_1; replace hx103_2 := (cell_far (p := ⟨gb102, 3, none⟩) (by first | (rw [add_block]; exact hn103_3) | (show (Addr.add _ _).block ≠ _; rw [add_block]; exact hn103_3) | exact hn103_3) (.slice A101_3 ((rd_T33 l0 x5_1).f3).length c101_3)).trans hx103_2; replace hx103_3 := (cell_far (p := ⟨gb102, 3, none⟩) (by first | (rw [add_block]; exact hn103_3) | (show (Addr.add _ _).block ≠ _; rw [add_block]; exact hn103_3) | exact hn103_3) (.slice A101_3 ((rd_T33 l0 x5_1).f3).length c101_3)).trans hx103_3; replace hx103_4 := (cell_far (p := ⟨gb102, 3, none⟩) (by first | (rw [add_block]; exact hn103_3) | (show (Addr.add _ _).block ≠ _; rw [add_block]; exact hn103_3) | exact hn103_3) (.slice A101_3 ((rd_T33 l0 x5_1).f3).length c101_3)).trans hx103_4; replace hx103_0 := (cell_far (p := ⟨gb102, 4, none⟩) (by first | (rw [add_block]; exact hn103_4) | (show (Addr.add _ _).block ≠ _; rw [add_block]; exact hn103_4) | exact hn103_4) (.slice A101_4 ((rd_T33 l0 x5_1).f4).length c101_4)).trans hx103_0; replace hx103_1 := (cell_far (p := ⟨gb102, 4, none⟩) (by first | (rw [add_block]; exact hn103_4) | (show (Addr.add _ _).block ≠ _; rw [add_block]; exact hn103_4) | exact hn103_4) (.slice A101_4 ((rd_T33 l0 x5_1).f4).length c101_4)).trans hx103_1; replace hx103_2 := (cell_far (p := ⟨gb102, 4, none⟩) (by first | (rw [add_block]; exact hn103_4) | (show (Addr.add _ _).block ≠ _; rw [add_block]; exact hn103_4) | exact hn103_4) (.slice A101_4 ((rd_T33 l0 x5_1).f4).length c101_4)).trans hx103_2; replace hx103_3 := (cell_far (p := ⟨gb102, 4, none⟩) (by first | (rw [add_block]; exact hn103_4) | (show (Addr.add _ _).block ≠ _; rw [add_block]; exact hn103_4) | exact hn103_4) (.slice A101_4 ((rd_T33 l0 x5_1).f4).length c101_4)).trans hx103_3; replace hx103_4 := (cell_far (p := ⟨gb102, 4, none⟩) (by first | (rw [add_block]; exact hn103_4) | (show (Addr.add _ _).block ≠ _; rw [add_block]; exact hn103_4) | exact hn103_4) (.slice A101_4 ((rd_T33 l0 x5_1).f4).length c101_4)).trans hx103_4; (try have hy103_0 := fun (n_ : Nat) => (show (((((((w8.drewN n_).setCell ⟨gb102, 0, none⟩ (.string ((rd_T33 l0 x5_1).f0))).setCell ⟨gb102, 1, none⟩ (.int .i64 ((rd_T33 l0 x5_1).f1))).setCell ⟨gb102, 2, none⟩ (.int .i64 ((rd_T33 l0 x5_1).f2))).setCell ⟨gb102, 3, none⟩ (.slice A101_3 ((rd_T33 l0 x5_1).f3).length c101_3)).setCell ⟨gb102, 4, none⟩ (.slice A101_4 ((rd_T33 l0 x5_1).f4).length c101_4))).cell? _ = some _ from hx103_0)); (try have hy103_1 := fun (n_ : Nat) => (show (((((((w8.drewN n_).setCell ⟨gb102, 0, none⟩ (.string ((rd_T33 l0 x5_1).f0))).setCell ⟨gb102, 1, none⟩ (.int .i64 ((rd_T33 l0 x5_1).f1))).setCell ⟨gb102, 2, none⟩ (.int .i64 ((rd_T33 l0 x5_1).f2))).setCell ⟨gb102, 3, none⟩ (.slice A101_3 ((rd_T33 l0 x5_1).f3).length c101_3)).setCell ⟨gb102, 4, none⟩ (.slice A101_4 ((rd_T33 l0 x5_1).f4).length c101_4))).cell? _ = some _ from hx103_1)); (try have hy103_2 := fun (n_ : Nat) => (show (((((((w8.drewN n_).setCell ⟨gb102, 0, none⟩ (.string ((rd_T33 l0 x5_1).f0))).setCell ⟨gb102, 1, none⟩ (.int .i64 ((rd_T33 l0 x5_1).f1))).setCell ⟨gb102, 2, none⟩ (.int .i64 ((rd_T33 l0 x5_1).f2))).setCell ⟨gb102, 3, none⟩ (.slice A101_3 ((rd_T33 l0 x5_1).f3).length c101_3)).setCell ⟨gb102, 4, none⟩ (.slice A101_4 ((rd_T33 l0 x5_1).f4).length c101_4))).cell? _ = some _ from hx103_2)); (try have hy103_3 := fun (n_ : Nat) => (show (((((((w8.drewN n_).setCell ⟨gb102, 0, none⟩ (.string ((rd_T33 l0 x5_1).f0))).setCell ⟨gb102, 1, none⟩ (.int .i64 ((rd_T33 l0 x5_1).f1))).setCell ⟨gb102, 2, none⟩ (.int .i64 ((rd_T33 l0 x5_1).f2))).setCell ⟨gb102, 3, none⟩ (.slice A101_3 ((rd_T33 l0 x5_1).f3).length c101_3)).setCell ⟨gb102, 4, none⟩ (.slice A101_4 ((rd_T33 l0 x5_1).f4).length c101_4))).cell? _ = some _ from hx103_3)); (try have hy103_4 := fun (n_ : Nat) => (show (((((((w8.drewN n_).setCell ⟨gb102, 0, none⟩ (.string ((rd_T33 l0 x5_1).f0))).setCell ⟨gb102, 1, none⟩ (.int .i64 ((rd_T33 l0 x5_1).f1))).setCell ⟨gb102, 2, none⟩ (.int .i64 ((rd_T33 l0 x5_1).f2))).setCell ⟨gb102, 3, none⟩ (.slice A101_3 ((rd_T33 l0 x5_1).f3).length c101_3)).setCell ⟨gb102, 4, none⟩ (.slice A101_4 ((rd_T33 l0 x5_1).f4).length c101_4))).cell? _ = some _ from hx103_4)); clear hn103_0; clear hn103_1; clear hn103_2; clear hn103_3; clear hn103_4; replace p103 := eq_true p103; replace q103 := eq_true q103) | ((with_reducible refine gate_dst (N := 7) rfl ?_); (try (refine gate_guard (by rfl) ?_; dsimp only)); refine box_event ?hg (N := 7) ?hd (cs := #[.string (⟨#[]⟩ : ByteArray), .int .i64 0, .int .i64 0, .slice none 0 0, .slice none 0 0]) (t := 33) ?hr ?_; (case hd => rfl); (case hg => rfl); (case hr => first | (go_simp; done) | (go_simp; rfl)); intro gb104 hg w10 hbox hb; have n0_ := qM_ (blk_below (g := gb102) (o := .cells #[.string ((rd_T33 l0 x5_1).f0), .int .i64 ((rd_T33 l0 x5_1).f1), .int .i64 ((rd_T33 l0 x5_1).f2), .slice A101_3 ((rd_T33 l0 x5_1).f3).length c101_3, .slice A101_4 ((rd_T33 l0 x5_1).f4).length c101_4] 33 (0, 0)) (by (with_reducible repeat (first | refine blk_drewN ?_ _ | refine blk_drew ?_ | refine blk_alloc ?_ _)); refine blk_put (cs := #[.string ((rd_T33 l0 x5_1).f0), .int .i64 ((rd_T33 l0 x5_1).f1), .int .i64 ((rd_T33 l0 x5_1).f2), .slice A101_3 ((rd_T33 l0 x5_1).f3).length c101_3, .slice none 0 0]) ?_ 4 _ rfl; (with_reducible repeat (first | refine blk_drewN ?_ _ | refine blk_drew ?_ | refine blk_alloc ?_ _)); refine blk_put (cs := #[.string ((rd_T33 l0 x5_1).f0), .int .i64 ((rd_T33 l0 x5_1).f1), .int .i64 ((rd_T33 l0 x5_1).f2), .slice none 0 0, .slice none 0 0]) ?_ 3 _ rfl; (with_reducible repeat (first | refine blk_drewN ?_ _ | refine blk_drew ?_ | refine blk_alloc ?_ _)); refine blk_put (cs := #[.string ((rd_T33 l0 x5_1).f0), .int .i64 ((rd_T33 l0 x5_1).f1), .int .i64 0, .slice none 0 0, .slice none 0 0]) ?_ 2 _ rfl; (with_reducible repeat (first | refine blk_drewN ?_ _ | refine blk_drew ?_ | refine blk_alloc ?_ _)); refine blk_put (cs := #[.string ((rd_T33 l0 x5_1).f0), .int .i64 0, .int .i64 0, .slice none 0 0, .slice none 0 0]) ?_ 1 _ rfl; (with_reducible repeat (first | refine blk_drewN ?_ _ | refine blk_drew ?_ | refine blk_alloc ?_ _)); refine blk_put (cs := #[.string (⟨#[]⟩ : ByteArray), .int .i64 0, .int .i64 0, .slice none 0 0, .slice none 0 0]) ?_ 0 _ rfl; (with_reducible repeat (first | refine blk_drewN ?_ _ | refine blk_drew ?_ | refine blk_alloc ?_ _)); exact BK102.out) hb); have n1_ := qM_ (below_step (by repeat (first | (with_reducible first | exact HB.out | apply qA_ | apply qD_ | apply qE_ | refine below_set ?_ GE102.out) | exact HB.out)) hb); have n2_ := qM_ (hbox); have n3_ := qM_ ((by rw [hg]; exact (below_size (by repeat (first | (with_reducible first | exact HB.out | apply qA_ | apply qD_ | apply qE_ | refine below_set ?_ GE102.out) | exact HB.out))) : w.heap.size ≤ gb104)); have n4_ := qM_ ((by rw [hg]; exact (below_size (by repeat (first | (with_reducible first | exact HB.out | apply qA_ | apply qD_ | apply qE_ | refine below_set ?_ GE102.out) | exact HB.out))) : w.heap.size ≤ gb104)); have n5_ := qM_ ((by rw [hg]; exact Nat.ne_of_lt (blk_lt (g := gb102) (o := .cells #[.string ((rd_T33 l0 x5_1).f0), .int .i64 ((rd_T33 l0 x5_1).f1), .int .i64 ((rd_T33 l0 x5_1).f2), .slice A101_3 ((rd_T33 l0 x5_1).f3).length c101_3, .slice A101_4 ((rd_T33 l0 x5_1).f4).length c101_4] 33 (0, 0)) (by (with_reducible repeat (first | refine blk_drewN ?_ _ | refine blk_drew ?_ | refine blk_alloc ?_ _)); refine blk_put (cs := #[.string ((rd_T33 l0 x5_1).f0), .int .i64 ((rd_T33 l0 x5_1).f1), .int .i64 ((rd_T33 l0 x5_1).f2), .slice A101_3 ((rd_T33 l0 x5_1).f3).length c101_3, .slice none 0 0]) ?_ 4 _ rfl; (with_reducible repeat (first | refine blk_drewN ?_ _ | refine blk_drew ?_ | refine blk_alloc ?_ _)); refine blk_put (cs := #[.string ((rd_T33 l0 x5_1).f0), .int .i64 ((rd_T33 l0 x5_1).f1), .int .i64 ((rd_T33 l0 x5_1).f2), .slice none 0 0, .slice none 0 0]) ?_ 3 _ rfl; (with_reducible repeat (first | refine blk_drewN ?_ _ | refine blk_drew ?_ | refine blk_alloc ?_ _)); refine blk_put (cs := #[.string ((rd_T33 l0 x5_1).f0), .int .i64 ((rd_T33 l0 x5_1).f1), .int .i64 0, .slice none 0 0, .slice none 0 0]) ?_ 2 _ rfl; (with_reducible repeat (first | refine blk_drewN ?_ _ | refine blk_drew ?_ | refine blk_alloc ?_ _)); refine blk_put (cs := #[.string ((rd_T33 l0 x5_1).f0), .int .i64 0, .int .i64 0, .slice none 0 0, .slice none 0 0]) ?_ 1 _ rfl; (with_reducible repeat (first | refine blk_drewN ?_ _ | refine blk_drew ?_ | refine blk_alloc ?_ _)); refine blk_put (cs := #[.string (⟨#[]⟩ : ByteArray), .int .i64 0, .int .i64 0, .slice none 0 0, .slice none 0 0]) ?_ 0 _ rfl; (with_reducible repeat (first | refine blk_drewN ?_ _ | refine blk_drew ?_ | refine blk_alloc ?_ _)); exact BK102.out)) : gb102 ≠ gb104)); have n6_ := qM_ ((by rw [hg]; exact Nat.ne_of_gt (blk_lt (g := gb102) (o := .cells #[.string ((rd_T33 l0 x5_1).f0), .int .i64 ((rd_T33 l0 x5_1).f1), .int .i64 ((rd_T33 l0 x5_1).f2), .slice A101_3 ((rd_T33 l0 x5_1).f3).length c101_3, .slice A101_4 ((rd_T33 l0 x5_1).f4).length c101_4] 33 (0, 0)) (by (with_reducible repeat (first | refine blk_drewN ?_ _ | refine blk_drew ?_ | refine blk_alloc ?_ _)); refine blk_put (cs := #[.string ((rd_T33 l0 x5_1).f0), .int .i64 ((rd_T33 l0 x5_1).f1), .int .i64 ((rd_T33 l0 x5_1).f2), .slice A101_3 ((rd_T33 l0 x5_1).f3).length c101_3, .slice none 0 0]) ?_ 4 _ rfl; (with_reducible repeat (first | refine blk_drewN ?_ _ | refine blk_drew ?_ | refine blk_alloc ?_ _)); refine blk_put (cs := #[.string ((rd_T33 l0 x5_1).f0), .int .i64 ((rd_T33 l0 x5_1).f1), .int .i64 ((rd_T33 l0 x5_1).f2), .slice none 0 0, .slice none 0 0]) ?_ 3 _ rfl; (with_reducible repeat (first | refine blk_drewN ?_ _ | refine blk_drew ?_ | refine blk_alloc ?_ _)); refine blk_put (cs := #[.string ((rd_T33 l0 x5_1).f0), .int .i64 ((rd_T33 l0 x5_1).f1), .int .i64 0, .slice none 0 0, .slice none 0 0]) ?_ 2 _ rfl; (with_reducible repeat (first | refine blk_drewN ?_ _ | refine blk_drew ?_ | refine blk_alloc ?_ _)); refine blk_put (cs := #[.string ((rd_T33 l0 x5_1).f0), .int .i64 0, .int .i64 0, .slice none 0 0, .slice none 0 0]) ?_ 1 _ rfl; (with_reducible repeat (first | refine blk_drewN ?_ _ | refine blk_drew ?_ | refine blk_alloc ?_ _)); refine blk_put (cs := #[.string (⟨#[]⟩ : ByteArray), .int .i64 0, .int .i64 0, .slice none 0 0, .slice none 0 0]) ?_ 0 _ rfl; (with_reducible repeat (first | refine blk_drewN ?_ _ | refine blk_drew ?_ | refine blk_alloc ?_ _)); exact BK102.out)) : gb104 ≠ gb102)); clear BK102; clear HB; have BK102 := n0_; have HB := n1_; have BK104 := n2_; have GW104 := n3_; have GE104 := n4_; have NB102_104 := n5_; have NB104_102 := n6_; clear n0_ n1_ n2_ n3_ n4_ n5_ n6_; clear hb hbox hg; have hnb11 := NB104_102.out; have hnc11 := NB102_104.out; have hcz12_0 : w10.cell? ⟨gb104, 0, none⟩ = some (.string (⟨#[]⟩ : ByteArray)) := (qC_ BK104.out 0).trans rfl; have hcz12_1 : w10.cell? ⟨gb104, 1, none⟩ = some (.int .i64 0) := (qC_ BK104.out 1).trans rfl; have hcz12_2 : w10.cell? ⟨gb104, 2, none⟩ = some (.int .i64 0) := (qC_ BK104.out 2).trans rfl; have hcz12_3 : w10.cell? ⟨gb104, 3, none⟩ = some (.slice none 0 0) := (qC_ BK104.out 3).trans rfl; have hcz12_4 : w10.cell? ⟨gb104, 4, none⟩ = some (.slice none 0 0) := (qC_ BK104.out 4).trans rfl; have hfz12_0 := qF_ BK104.out 0; have hfz12_1 := qF_ BK104.out 1; have hfz12_2 := qF_ BK104.out 2; have hfz12_3 := qF_ BK104.out 3; have hfz12_4 := qF_ BK104.out 4))
       repeat (go_quiet (first | ((with_reducible refine gate_dst (N := 6) rfl ?_); (try (refine gate_guard (by rfl) ?_; dsimp only)); refine box_event ?hg (N := 6) ?hd (cs := #[.string (⟨#[]⟩ : ByteArray), .int .i64 0, .int .i64 0, .slice none 0 0, .slice none 0 0]) (t := 33) ?hr ?_; (case hd => rfl); (case hg => rfl); (case hr => first | (go_simp; done) | (go_simp; rfl)); intro gb102 hg w8 hbox hb; have n0_ := qM_ (below_step (by repeat (first | (with_reducible first | exact HB.out | apply qA_ | apply qD_ | apply qE_) | exact HB.out)) hb); have n1_ := qM_ (hbox); have n2_ := qM_ ((by rw [hg]; exact (below_size (by repeat (first | (with_reducible first | exact HB.out | apply qA_ | apply qD_ | apply qE_) | exact HB.out))) : w.heap.size ≤ gb102)); have n3_ := qM_ ((by rw [hg]; exact (below_size (by repeat (first | (with_reducible first | exact HB.out | apply qA_ | apply qD_ | apply qE_) | exact HB.out))) : w.heap.size ≤ gb102)); clear HB; have HB := n0_; have BK102 := n1_; have GW102 := n2_; have GE102 := n3_; clear n0_ n1_ n2_ n3_; clear hb hbox hg; have hcz9_0 : w8.cell? ⟨gb102, 0, none⟩ = some (.string (⟨#[]⟩ : ByteArray)) := (qC_ BK102.out 0).trans rfl; have hcz9_1 : w8.cell? ⟨gb102, 1, none⟩ = some (.int .i64 0) := (qC_ BK102.out 1).trans rfl; have hcz9_2 : w8.cell? ⟨gb102, 2, none⟩ = some (.int .i64 0) := (qC_ BK102.out 2).trans rfl; have hcz9_3 : w8.cell? ⟨gb102, 3, none⟩ = some (.slice none 0 0) := (qC_ BK102.out 3).trans rfl; have hcz9_4 : w8.cell? ⟨gb102, 4, none⟩ = some (.slice none 0 0) := (qC_ BK102.out 4).trans rfl; have hfz9_0 := qF_ BK102.out 0; have hfz9_1 := qF_ BK102.out 1; have hfz9_2 := qF_ BK102.out 2; have hfz9_3 := qF_ BK102.out 3; have hfz9_4 := qF_ BK102.out 4; have p103 : 0 ≤ (x5_1 : Int) := qT_ (by first | (with_reducible assumption) | assumption); have q103 : x5_1 < (l1.length : Int) := qT_ (by first | (with_reducible assumption) | assumption); obtain ⟨ad103, A103_3, c103_3, A103_4, c103_4, e103, hx103_0, hx103_1, hx103_2, hx103_3, hx103_4, hl103_3, hi103_3, hl103_4, hi103_4⟩ := at_T33 HR1.out x5_1 p103 q103; cases e103; have hn103_0 : ad103.block ≠ gb102 := Nat.ne_of_lt (Nat.lt_of_lt_of_le (by have := qL_ _ _ hx103_0; first | rwa [add_block] at this | exact this) GW102.out); have hn103_1 : ad103.block ≠ gb102 := Nat.ne_of_lt (Nat.lt_of_lt_of_le (by have := qL_ _ _ hx103_0; first | rwa [add_block] at this | exact this) GW102.out); have hn103_2 : ad103.block ≠ gb102 := Nat.ne_of_lt (Nat.lt_of_lt_of_le (by have := qL_ _ _ hx103_0; first | rwa [add_block] at this | exact this) GW102.out); have hn103_3 : ad103.block ≠ gb102 := Nat.ne_of_lt (Nat.lt_of_lt_of_le (by have := qL_ _ _ hx103_0; first | rwa [add_block] at this | exact this) GW102.out); have hn103_4 : ad103.block ≠ gb102 := Nat.ne_of_lt (Nat.lt_of_lt_of_le (by have := qL_ _ _ hx103_0; first | rwa [add_block] at this | exact this) GW102.out); replace hx103_0 := (HB.out.cell (qL_ w _ hx103_0)).trans hx103_0; replace hx103_1 := (HB.out.cell (qL_ w _ hx103_1)).trans hx103_1; replace hx103_2 := (HB.out.cell (qL_ w _ hx103_2)).trans hx103_2; replace hx103_3 := (HB.out.cell (qL_ w _ hx103_3)).trans hx103_3; replace hx103_4 := (HB.out.cell (qL_ w _ hx103_4)).trans hx103_4; have HR103_3 := qM_ hi103_3; have HC103_3 := qM_ hl103_3; clear hi103_3 hl103_3; have HR103_4 := qM_ hi103_4; have HC103_4 := qM_ hl103_4; clear hi103_4 hl103_4; replace hx103_0 := (cell_far (p := ⟨gb102, 0, none⟩) (by first | (rw [add_block]; exact hn103_0) | (show (Addr.add _ _).block ≠ _; rw [add_block]; exact hn103_0) | exact hn103_0) (.string ((rd_T33 l0 x5_1).f0))).trans hx103_0; replace hx103_1 := (cell_far (p := ⟨gb102, 0, none⟩) (by first | (rw [add_block]; exact hn103_0) | (show (Addr.add _ _).block ≠ _; rw [add_block]; exact hn103_0) | exact hn103_0) (.string ((rd_T33 l0 x5_1).f0))).trans hx103_1; replace hx103_2 := (cell_far (p := ⟨gb102, 0, none⟩) (by first | (rw [add_block]; exact hn103_0) | (show (Addr.add _ _).block ≠ _; rw [add_block]; exact hn103_0) | exact hn103_0) (.string ((rd_T33 l0 x5_1).f0))).trans hx103_2; replace hx103_3 := (cell_far (p := ⟨gb102, 0, none⟩) (by first | (rw [add_block]; exact hn103_0) | (show (Addr.add _ _).block ≠ _; rw [add_block]; exact hn103_0) | exact hn103_0) (.string ((rd_T33 l0 x5_1).f0))).trans hx103_3; replace hx103_4 := (cell_far (p := ⟨gb102, 0, none⟩) (by first | (rw [add_block]; exact hn103_0) | (show (Addr.add _ _).block ≠ _; rw [add_block]; exact hn103_0) | exact hn103_0) (.string ((rd_T33 l0 x5_1).f0))).trans hx103_4; replace hx103_0 := (cell_far (p := ⟨gb102, 1, none⟩) (by first | (rw [add_block]; exact hn103_1) | (show (Addr.add _ _).block ≠ _; rw [add_block]; exact hn103_1) | exact hn103_1) (.int .i64 ((rd_T33 l0 x5_1).f1))).trans hx103_0; replace hx103_1 := (cell_far (p := ⟨gb102, 1, none⟩) (by first | (rw [add_block]; exact hn103_1) | (show (Addr.add _ _).block ≠ _; rw [add_block]; exact hn103_1) | exact hn103_1) (.int .i64 ((rd_T33 l0 x5_1).f1))).trans hx103_1; replace hx103_2 := (cell_far (p := ⟨gb102, 1, none⟩) (by first | (rw [add_block]; exact hn103_1) | (show (Addr.add _ _).block ≠ _; rw [add_block]; exact hn103_1) | exact hn103_1) (.int .i64 ((rd_T33 l0 x5_1).f1))).trans hx103_2; replace hx103_3 := (cell_far (p := ⟨gb102, 1, none⟩) (by first | (rw [add_block]; exact hn103_1) | (show (Addr.add _ _).block ≠ _; rw [add_block]; exact hn103_1) | exact hn103_1) (.int .i64 ((rd_T33 l0 x5_1).f1))).trans hx103_3; replace hx103_4 := (cell_far (p := ⟨gb102, 1, none⟩) (by first | (rw [add_block]; exact hn103_1) | (show (Addr.add _ _).block ≠ _; rw [add_block]; exact hn103_1) | exact hn103_1) (.int .i64 ((rd_T33 l0 x5_1).f1))).trans hx103_4; replace hx103_0 := (cell_far (p := ⟨gb102, 2, none⟩) (by first | (rw [add_block]; exact hn103_2) | (show (Addr.add _ _).block ≠ _; rw [add_block]; exact hn103_2) | exact hn103_2) (.int .i64 ((rd_T33 l0 x5_1).f2))).trans hx103_0; replace hx103_1 := (cell_far (p := ⟨gb102, 2, none⟩) (by first | (rw [add_block]; exact hn103_2) | (show (Addr.add _ _).block ≠ _; rw [add_block]; exact hn103_2) | exact hn103_2) (.int .i64 ((rd_T33 l0 x5_1).f2))).trans hx103_1; replace hx103_2 := (cell_far (p := ⟨gb102, 2, none⟩) (by first | (rw [add_block]; exact hn103_2) | (show (Addr.add _ _).block ≠ _; rw [add_block]; exact hn103_2) | exact hn103_2) (.int .i64 ((rd_T33 l0 x5_1).f2))).trans hx103_2; replace hx103_3 := (cell_far (p := ⟨gb102, 2, none⟩) (by first | (rw [add_block]; exact hn103_2) | (show (Addr.add _ _).block ≠ _; rw [add_block]; exact hn103_2) | exact hn103_2) (.int .i64 ((rd_T33 l0 x5_1).f2))).trans hx103_3; replace hx103_4 := (cell_far (p := ⟨gb102, 2, none⟩) (by first | (rw [add_block]; exact hn103_2) | (show (Addr.add _ _).block ≠ _; rw [add_block]; exact hn103_2) | exact hn103_2) (.int .i64 ((rd_T33 l0 x5_1).f2))).trans hx103_4; replace hx103_0 := (cell_far (p := ⟨gb102, 3, none⟩) (by first | (rw [add_block]; exact hn103_3) | (show (Addr.add _ _).block ≠ _; rw [add_block]; exact hn103_3) | exact hn103_3) (.slice A101_3 ((rd_T33 l0 x5_1).f3).length c101_3)).trans hx103_0; replace hx103_1 := (cell_far (p := ⟨gb102, 3, none⟩) (by first | (rw [add_block]; exact hn103_3) | (show (Addr.add _ _).block ≠ _; rw [add_block]; exact hn103_3) | exact hn103_3) (.slice A101_3 ((rd_T33 l0 x5_1).f3).length c101_3)).trans hx103_1; replace hx103_2 := (cell_far (p := ⟨gb102, 3, none⟩) (by first | (rw [add_block]; exact hn103_3) | (show (Addr.add _ _).block ≠ _; rw [add_block]; exact hn103_3) | exact hn103_3) (.slice A101_3 ((rd_T33 l0 x5_1).f3).length c101_3)).trans hx103_2; replace hx103_3 := (cell_far (p := ⟨gb102, 3, none⟩) (by first | (rw [add_block]; exact hn103_3) | (show (Addr.add _ _).block ≠ _; rw [add_block]; exact hn103_3) | exact hn103_3) (.slice A101_3 ((rd_T33 l0 x5_1).f3).length c101_3)).trans hx103_3; replace hx103_4 := (cell_far (p := ⟨gb102, 3, none⟩) (by first | (rw [add_block]; exact hn103_3) | (show (Addr.add _ _).block ≠ _; rw [add_block]; exact hn103_3) | exact hn103_3) (.slice A101_3 ((rd_T33 l0 x5_1).f3).length c101_3)).trans hx103_4; replace hx103_0 := (cell_far (p := ⟨gb102, 4, none⟩) (by first | (rw [add_block]; exact hn103_4) | (show (Addr.add _ _).block ≠ _; rw [add_block]; exact hn103_4) | exact hn103_4) (.slice A101_4 ((rd_T33 l0 x5_1).f4).length c101_4)).trans hx103_0; replace hx103_1 := (cell_far (p := ⟨gb102, 4, none⟩) (by first | (rw [add_block]; exact hn103_4) | (show (Addr.add _ _).block ≠ _; rw [add_block]; exact hn103_4) | exact hn103_4) (.slice A101_4 ((rd_T33 l0 x5_1).f4).length c101_4)).trans hx103_1; replace hx103_2 := (cell_far (p := ⟨gb102, 4, none⟩) (by first | (rw [add_block]; exact hn103_4) | (show (Addr.add _ _).block ≠ _; rw [add_block]; exact hn103_4) | exact hn103_4) (.slice A101_4 ((rd_T33 l0 x5_1).f4).length c101_4)).trans hx103_2; replace hx103_3 := (cell_far (p := ⟨gb102, 4, none⟩) (by first | (rw [add_block]; exact hn103_4) | (show (Addr.add _ _).block ≠ _; rw [add_block]; exact hn103_4) | exact hn103_4) (.slice A101_4 ((rd_T33 l0 x5_1).f4).length c101_4)).trans hx103_3; replace hx103_4 := (cell_far (p := ⟨gb102, 4, none⟩) (by first | (rw [add_block]; exact hn103_4) | (show (Addr.add _ _).block ≠ _; rw [add_block]; exact hn103_4) | exact hn103_4) (.slice A101_4 ((rd_T33 l0 x5_1).f4).length c101_4)).trans hx103_4; (try have hy103_0 := fun (n_ : Nat) => (show (((((((w8.drewN n_).setCell ⟨gb102, 0, none⟩ (.string ((rd_T33 l0 x5_1).f0))).setCell ⟨gb102, 1, none⟩ (.int .i64 ((rd_T33 l0 x5_1).f1))).setCell ⟨gb102, 2, none⟩ (.int .i64 ((rd_T33 l0 x5_1).f2))).setCell ⟨gb102, 3, none⟩ (.slice A101_3 ((rd_T33 l0 x5_1).f3).length c101_3)).setCell ⟨gb102, 4, none⟩ (.slice A101_4 ((rd_T33 l0 x5_1).f4).length c101_4))).cell? _ = some _ from hx103_0)); (try have hy103_1 := fun (n_ : Nat) => (show (((((((w8.drewN n_).setCell ⟨gb102, 0, none⟩ (.string ((rd_T33 l0 x5_1).f0))).setCell ⟨gb102, 1, none⟩ (.int .i64 ((rd_T33 l0 x5_1).f1))).setCell ⟨gb102, 2, none⟩ (.int .i64 ((rd_T33 l0 x5_1).f2))).setCell ⟨gb102, 3, none⟩ (.slice A101_3 ((rd_T33 l0 x5_1).f3).length c101_3)).setCell ⟨gb102, 4, none⟩ (.slice A101_4 ((rd_T33 l0 x5_1).f4).length c101_4))).cell? _ = some _ from hx103_1)); (try have hy103_2 := fun (n_ : Nat) => (show (((((((w8.drewN n_).setCell ⟨gb102, 0, none⟩ (.string ((rd_T33 l0 x5_1).f0))).setCell ⟨gb102, 1, none⟩ (.int .i64 ((rd_T33 l0 x5_1).f1))).setCell ⟨gb102, 2, none⟩ (.int .i64 ((rd_T33 l0 x5_1).f2))).setCell ⟨gb102, 3, none⟩ (.slice A101_3 ((rd_T33 l0 x5_1).f3).length c101_3)).setCell ⟨gb102, 4, none⟩ (.slice A101_4 ((rd_T33 l0 x5_1).f4).length c101_4))).cell? _ = some _ from hx103_2)); (try have hy103_3 := fun (n_ : Nat) => (show (((((((w8.drewN n_).setCell ⟨gb102, 0, none⟩ (.string ((rd_T33 l0 x5_1).f0))).setCell ⟨gb102, 1, none⟩ (.int .i64 ((rd_T33 l0 x5_1).f1))).setCell ⟨gb102, 2, none⟩ (.int .i64 ((rd_T33 l0 x5_1).f2))).setCell ⟨gb102, 3, none⟩ (.slice A101_3 ((rd_T33 l0 x5_1).f3).length c101_3)).setCell ⟨gb102, 4, none⟩ (.slice A101_4 ((rd_T33 l0 x5_1).f4).length c101_4))).cell? _ = some _ from hx103_3)); (try have hy103_4 := fun (n_ : Nat) => (show (((((((w8.drewN n_).setCell ⟨gb102, 0, none⟩ (.string ((rd_T33 l0 x5_1).f0))).setCell ⟨gb102, 1, none⟩ (.int .i64 ((rd_T33 l0 x5_1).f1))).setCell ⟨gb102, 2, none⟩ (.int .i64 ((rd_T33 l0 x5_1).f2))).setCell ⟨gb102, 3, none⟩ (.slice A101_3 ((rd_T33 l0 x5_1).f3).length c101_3)).setCell ⟨gb102, 4, none⟩ (.slice A101_4 ((rd_T33 l0 x5_1).f4).length c101_4))).cell? _ = some _ from hx103_4)); clear hn103_0; clear hn103_1; clear hn103_2; clear hn103_3; clear hn103_4; replace p103 := eq_true p103; replace q103 := eq_true q103) | ((with_reducible refine gate_dst (N := 7) rfl ?_); (try (refine gate_guard (by rfl) ?_; dsimp only)); refine box_event ?hg (N := 7) ?hd (cs := #[.string (⟨#[]⟩ : ByteArray), .int .i64 0, .int .i64 0, .slice none 0 0, .slice none 0 0]) (t := 33) ?hr ?_; (case hd => rfl); (case hg => rfl); (case hr => first | (go_simp; done) | (go_simp; rfl)); intro gb104 hg w10 hbox hb; have n0_ := qM_ (blk_below (g := gb102) (o := .cells #[.string ((rd_T33 l0 x5_1).f0), .int .i64 ((rd_T33 l0 x5_1).f1), .int .i64 ((rd_T33 l0 x5_1).f2), .slice A101_3 ((rd_T33 l0 x5_1).f3).length c101_3, .slice A101_4 ((rd_T33 l0 x5_1).f4).length c101_4] 33 (0, 0)) (by (with_reducible repeat (first | refine blk_drewN ?_ _ | refine blk_drew ?_ | refine blk_alloc ?_ _)); refine blk_put (cs := #[.string ((rd_T33 l0 x5_1).f0), .int .i64 ((rd_T33 l0 x5_1).f1), .int .i64 ((rd_T33 l0 x5_1).f2), .slice A101_3 ((rd_T33 l0 x5_1).f3).length c101_3, .slice none 0 0]) ?_ 4 _ rfl; (with_reducible repeat (first | refine blk_drewN ?_ _ | refine blk_drew ?_ | refine blk_alloc ?_ _)); refine blk_put (cs := #[.string ((rd_T33 l0 x5_1).f0), .int .i64 ((rd_T33 l0 x5_1).f1), .int .i64 ((rd_T33 l0 x5_1).f2), .slice none 0 0, .slice none 0 0]) ?_ 3 _ rfl; (with_reducible repeat (first | refine blk_drewN ?_ _ | refine blk_drew ?_ | refine blk_alloc ?_ _)); refine blk_put (cs := #[.string ((rd_T33 l0 x5_1).f0), .int .i64 ((rd_T33 l0 x5_1).f1), .int .i64 0, .slice none 0 0, .slice none 0 0]) ?_ 2 _ rfl; (with_reducible repeat (first | refine blk_drewN ?_ _ | refine blk_drew ?_ | refine blk_alloc ?_ _)); refine blk_put (cs := #[.string ((rd_T33 l0 x5_1).f0), .int .i64 0, .int .i64 0, .slice none 0 0, .slice none 0 0]) ?_ 1 _ rfl; (with_reducible repeat (first | refine blk_drewN ?_ _ | refine blk_drew ?_ | refine blk_alloc ?_ _)); refine blk_put (cs := #[.string (⟨#[]⟩ : ByteArray), .int .i64 0, .int .i64 0, .slice none 0 0, .slice none 0 0]) ?_ 0 _ rfl; (with_reducible repeat (first | refine blk_drewN ?_ _ | refine blk_drew ?_ | refine blk_alloc ?_ _)); exact BK102.out) hb); have n1_ := qM_ (below_step (by repeat (first | (with_reducible first | exact HB.out | apply qA_ | apply qD_ | apply qE_ | refine below_set ?_ GE102.out) | exact HB.out)) hb); have n2_ := qM_ (hbox); have n3_ := qM_ ((by rw [hg]; exact (below_size (by repeat (first | (with_reducible first | exact HB.out | apply qA_ | apply qD_ | apply qE_ | refine below_set ?_ GE102.out) | exact HB.out))) : w.heap.size ≤ gb104)); have n4_ := qM_ ((by rw [hg]; exact (below_size (by repeat (first | (with_reducible first | exact HB.out | apply qA_ | apply qD_ | apply qE_ | refine below_set ?_ GE102.out) | exact HB.out))) : w.heap.size ≤ gb104)); have n5_ := qM_ ((by rw [hg]; exact Nat.ne_of_lt (blk_lt (g := gb102) (o := .cells #[.string ((rd_T33 l0 x5_1).f0), .int .i64 ((rd_T33 l0 x5_1).f1), .int .i64 ((rd_T33 l0 x5_1).f2), .slice A101_3 ((rd_T33 l0 x5_1).f3).length c101_3, .slice A101_4 ((rd_T33 l0 x5_1).f4).length c101_4] 33 (0, 0)) (by (with_reducible repeat (first | refine blk_drewN ?_ _ | refine blk_drew ?_ | refine blk_alloc ?_ _)); refine blk_put (cs := #[.string ((rd_T33 l0 x5_1).f0), .int .i64 ((rd_T33 l0 x5_1).f1), .int .i64 ((rd_T33 l0 x5_1).f2), .slice A101_3 ((rd_T33 l0 x5_1).f3).length c101_3, .slice none 0 0]) ?_ 4 _ rfl; (with_reducible repeat (first | refine blk_drewN ?_ _ | refine blk_drew ?_ | refine blk_alloc ?_ _)); refine blk_put (cs := #[.string ((rd_T33 l0 x5_1).f0), .int .i64 ((rd_T33 l0 x5_1).f1), .int .i64 ((rd_T33 l0 x5_1).f2), .slice none 0 0, .slice none 0 0]) ?_ 3 _ rfl; (with_reducible repeat (first | refine blk_drewN ?_ _ | refine blk_drew ?_ | refine blk_alloc ?_ _)); refine blk_put (cs := #[.string ((rd_T33 l0 x5_1).f0), .int .i64 ((rd_T33 l0 x5_1).f1), .int .i64 0, .slice none 0 0, .slice none 0 0]) ?_ 2 _ rfl; (with_reducible repeat (first | refine blk_drewN ?_ _ | refine blk_drew ?_ | refine blk_alloc ?_ _)); refine blk_put (cs := #[.string ((rd_T33 l0 x5_1).f0), .int .i64 0, .int .i64 0, .slice none 0 0, .slice none 0 0]) ?_ 1 _ rfl; (with_reducible repeat (first | refine blk_drewN ?_ _ | refine blk_drew ?_ | refine blk_alloc ?_ _)); refine blk_put (cs := #[.string (⟨#[]⟩ : ByteArray), .int .i64 0, .int .i64 0, .slice none 0 0, .slice none 0 0]) ?_ 0 _ rfl; (with_reducible repeat (first | refine blk_drewN ?_ _ | refine blk_drew ?_ | refine blk_alloc ?_ _)); exact BK102.out)) : gb102 ≠ gb104)); have n6_ := qM_ ((by rw [hg]; exact Nat.ne_of_gt (blk_lt (g := gb102) (o := .cells #[.string ((rd_T33 l0 x5_1).f0), .int .i64 ((rd_T33 l0 x5_1).f1), .int .i64 ((rd_T33 l0 x5_1).f2), .slice A101_3 ((rd_T33 l0 x5_1).f3).length c101_3, .slice A101_4 ((rd_T33 l0 x5_1).f4).length c101_4] 33 (0, 0)) (by (with_reducible repeat (first | refine blk_drewN ?_ _ | refine blk_drew ?_ | refine blk_alloc ?_ _)); refine blk_put (cs := #[.string ((rd_T33 l0 x5_1).f0), .int .i64 ((rd_T33 l0 x5_1).f1), .int .i64 ((rd_T33 l0 x5_1).f2), .slice A101_3 ((rd_T33 l0 x5_1).f3).length c101_3, .slice none 0 0]) ?_ 4 _ rfl; (with_reducible repeat (first | refine blk_drewN ?_ _ | refine blk_drew ?_ | refine blk_alloc ?_ _)); refine blk_put (cs := #[.string ((rd_T33 l0 x5_1).f0), .int .i64 ((rd_T33 l0 x5_1).f1), .int .i64 ((rd_T33 l0 x5_1).f2), .slice none 0 0, .slice none 0 0]) ?_ 3 _ rfl; (with_reducible repeat (first | refine blk_drewN ?_ _ | refine blk_drew ?_ | refine blk_alloc ?_ _)); refine blk_put (cs := #[.string ((rd_T33 l0 x5_1).f0), .int .i64 ((rd_T33 l0 x5_1).f1), .int .i64 0, .slice none 0 0, .slice none 0 0]) ?_ 2 _ rfl; (with_reducible repeat (first | refine blk_drewN ?_ _ | refine blk_drew ?_ | refine blk_alloc ?_ _)); refine blk_put (cs := #[.string ((rd_T33 l0 x5_1).f0), .int .i64 0, .int .i64 0, .slice none 0 0, .slice none 0 0]) ?_ 1 _ rfl; (with_reducible repeat (first | refine blk_drewN ?_ _ | refine blk_drew ?_ | refine blk_alloc ?_ _)); refine blk_put (cs := #[.string (⟨#[]⟩ : ByteArray), .int .i64 0, .int .i64 0, .slice none 0 0, .slice none 0 0]) ?_ 0 _ rfl; (with_reducible repeat (first | refine blk_drewN ?_ _ | refine blk_drew ?_ | refine blk_alloc ?_ _)); exact BK102.out)) : gb104 ≠ gb102)); clear BK102; clear HB; have BK102 := n0_; have HB := n1_; have BK104 := n2_; have GW104 := n3_; have GE104 := n4_; have NB102_104 := n5_; have NB104_102 := n6_; clear n0_ n1_ n2_ n3_ n4_ n5_ n6_; clear hb hbox hg; have hnb11 := NB104_102.out; have hnc11 := NB102_104.out; have hcz12_0 : w10.cell? ⟨gb104, 0, none⟩ = some (.string (⟨#[]⟩ : ByteArray)) := (qC_ BK104.out 0).trans rfl; have hcz12_1 : w10.cell? ⟨gb104, 1, none⟩ = some (.int .i64 0) := (qC_ BK104.out 1).trans rfl; have hcz12_2 : w10.cell? ⟨gb104, 2, none⟩ = some (.int .i64 0) := (qC_ BK104.out 2).trans rfl; have hcz12_3 : w10.cell? ⟨gb104, 3, none⟩ = some (.slice none 0 0) := (qC_ BK104.out 3).trans rfl; have hcz12_4 : w10.cell? ⟨gb104, 4, none⟩ = some (.slice none 0 0) := (qC_ BK104.out 4).trans rfl; have hfz12_0 := qF_ BK104.out 0; have hfz12_1 := qF_ BK104.out 1; have hfz12_2 := qF_ BK104.out 2; have hfz12_3 := qF_ BK104.out 3; have hfz12_4 := qF_ BK104.out 4)); go_upto_region 8 with (first | ((with_reducible refine gate_dst (N := 6) rfl ?_); (try (refine gate_guard (by rfl) ?_; dsimp only)); refine box_event ?hg (N := 6) ?hd (cs := #[.string (⟨#[]⟩ : ByteArray), .int .i64 0, .int .i64 0, .slice none 0 0, .slice none 0 0]) (t := 33) ?hr ?_; (case hd => rfl); (case hg => rfl); (case hr => first | (go_simp; done) | (go_simp; rfl)); intro gb102 hg w8 hbox hb; have n0_ := qM_ (below_step (by repeat (first | (with_reducible first | exact HB.out | apply qA_ | apply qD_ | apply qE_) | exact HB.out)) hb); have n1_ := qM_ (hbox); have n2_ := qM_ ((by rw [hg]; exact (below_size (by repeat (first | (with_reducible first | exact HB.out | apply qA_ | apply qD_ | apply qE_) | exact HB.out))) : w.heap.size ≤ gb102)); have n3_ := qM_ ((by rw [hg]; exact (below_size (by repeat (first | (with_reducible first | exact HB.out | apply qA_ | apply qD_ | apply qE_) | exact HB.out))) : w.heap.size ≤ gb102)); clear HB; have HB := n0_; have BK102 := n1_; have GW102 := n2_; have GE102 := n3_; clear n0_ n1_ n2_ n3_; clear hb hbox hg; have hcz9_0 : w8.cell? ⟨gb102, 0, none⟩ = some (.string (⟨#[]⟩ : ByteArray)) := (qC_ BK102.out 0).trans rfl; have hcz9_1 : w8.cell? ⟨gb102, 1, none⟩ = some (.int .i64 0) := (qC_ BK102.out 1).trans rfl; have hcz9_2 : w8.cell? ⟨gb102, 2, none⟩ = some (.int .i64 0) := (qC_ BK102.out 2).trans rfl; have hcz9_3 : w8.cell? ⟨gb102, 3, none⟩ = some (.slice none 0 0) := (qC_ BK102.out 3).trans rfl; have hcz9_4 : w8.cell? ⟨gb102, 4, none⟩ = some (.slice none 0 0) := (qC_ BK102.out 4).trans rfl; have hfz9_0 := qF_ BK102.out 0; have hfz9_1 := qF_ BK102.out 1; have hfz9_2 := qF_ BK102.out 2; have hfz9_3 := qF_ BK102.out 3; have hfz9_4 := qF_ BK102.out 4; have p103 : 0 ≤ (x5_1 : Int) := qT_ (by first | (with_reducible assumption) | assumption); have q103 : x5_1 < (l1.length : Int) := qT_ (by first | (with_reducible assumption) | assumption); obtain ⟨ad103, A103_3, c103_3, A103_4, c103_4, e103, hx103_0, hx103_1, hx103_2, hx103_3, hx103_4, hl103_3, hi103_3, hl103_4, hi103_4⟩ := at_T33 HR1.out x5_1 p103 q103; cases e103; have hn103_0 : ad103.block ≠ gb102 := Nat.ne_of_lt (Nat.lt_of_lt_of_le (by have := qL_ _ _ hx103_0; first | rwa [add_block] at this | exact this) GW102.out); have hn103_1 : ad103.block ≠ gb102 := Nat.ne_of_lt (Nat.lt_of_lt_of_le (by have := qL_ _ _ hx103_0; first | rwa [add_block] at this | exact this) GW102.out); have hn103_2 : ad103.block ≠ gb102 := Nat.ne_of_lt (Nat.lt_of_lt_of_le (by have := qL_ _ _ hx103_0; first | rwa [add_block] at this | exact this) GW102.out); have hn103_3 : ad103.block ≠ gb102 := Nat.ne_of_lt (Nat.lt_of_lt_of_le (by have := qL_ _ _ hx103_0; first | rwa [add_block] at this | exact this) GW102.out); have hn103_4 : ad103.block ≠ gb102 := Nat.ne_of_lt (Nat.lt_of_lt_of_le (by have := qL_ _ _ hx103_0; first | rwa [add_block] at this | exact this) GW102.out); replace hx103_0 := (HB.out.cell (qL_ w _ hx103_0)).trans hx103_0; replace hx103_1 := (HB.out.cell (qL_ w _ hx103_1)).trans hx103_1; replace hx103_2 := (HB.out.cell (qL_ w _ hx103_2)).trans hx103_2; replace hx103_3 := (HB.out.cell (qL_ w _ hx103_3)).trans hx103_3; replace hx103_4 := (HB.out.cell (qL_ w _ hx103_4)).trans hx103_4; have HR103_3 := qM_ hi103_3; have HC103_3 := qM_ hl103_3; clear hi103_3 hl103_3; have HR103_4 := qM_ hi103_4; have HC103_4 := qM_ hl103_4; clear hi103_4 hl103_4; replace hx103_0 := (cell_far (p := ⟨gb102, 0, none⟩) (by first | (rw [add_block]; exact hn103_0) | (show (Addr.add _ _).block ≠ _; rw [add_block]; exact hn103_0) | exact hn103_0) (.string ((rd_T33 l0 x5_1).f0))).trans hx103_0; replace hx103_1 := (cell_far (p := ⟨gb102, 0, none⟩) (by first | (rw [add_block]; exact hn103_0) | (show (Addr.add _ _).block ≠ _; rw [add_block]; exact hn103_0) | exact hn103_0) (.string ((rd_T33 l0 x5_1).f0))).trans hx103_1; replace hx103_2 := (cell_far (p := ⟨gb102, 0, none⟩) (by first | (rw [add_block]; exact hn103_0) | (show (Addr.add _ _).block ≠ _; rw [add_block]; exact hn103_0) | exact hn103_0) (.string ((rd_T33 l0 x5_1).f0))).trans hx103_2; replace hx103_3 := (cell_far (p := ⟨gb102, 0, none⟩) (by first | (rw [add_block]; exact hn103_0) | (show (Addr.add _ _).block ≠ _; rw [add_block]; exact hn103_0) | exact hn103_0) (.string ((rd_T33 l0 x5_1).f0))).trans hx103_3; replace hx103_4 := (cell_far (p := ⟨gb102, 0, none⟩) (by first | (rw [add_block]; exact hn103_0) | (show (Addr.add _ _).block ≠ _; rw [add_block]; exact hn103_0) | exact hn103_0) (.string ((rd_T33 l0 x5_1).f0))).trans hx103_4; replace hx103_0 := (cell_far (p := ⟨gb102, 1, none⟩) (by first | (rw [add_block]; exact hn103_1) | (show (Addr.add _ _).block ≠ _; rw [add_block]; exact hn103_1) | exact hn103_1) (.int .i64 ((rd_T33 l0 x5_1).f1))).trans hx103_0; replace hx103_1 := (cell_far (p := ⟨gb102, 1, none⟩) (by first | (rw [add_block]; exact hn103_1) | (show (Addr.add _ _).block ≠ _; rw [add_block]; exact hn103_1) | exact hn103_1) (.int .i64 ((rd_T33 l0 x5_1).f1))).trans hx103_1; replace hx103_2 := (cell_far (p := ⟨gb102, 1, none⟩) (by first | (rw [add_block]; exact hn103_1) | (show (Addr.add _ _).block ≠ _; rw [add_block]; exact hn103_1) | exact hn103_1) (.int .i64 ((rd_T33 l0 x5_1).f1))).trans hx103_2; replace hx103_3 := (cell_far (p := ⟨gb102, 1, none⟩) (by first | (rw [add_block]; exact hn103_1) | (show (Addr.add _ _).block ≠ _; rw [add_block]; exact hn103_1) | exact hn103_1) (.int .i64 ((rd_T33 l0 x5_1).f1))).trans hx103_3; replace hx103_4 := (cell_far (p := ⟨gb102, 1, none⟩) (by first | (rw [add_block]; exact hn103_1) | (show (Addr.add _ _).block ≠ _; rw [add_block]; exact hn103_1) | exact hn103_1) (.int .i64 ((rd_T33 l0 x5_1).f1))).trans hx103_4; replace hx103_0 := (cell_far (p := ⟨gb102, 2, none⟩) (by first | (rw [add_block]; exact hn103_2) | (show (Addr.add _ _).block ≠ _; rw [add_block]; exact hn103_2) | exact hn103_2) (.int .i64 ((rd_T33 l0 x5_1).f2))).trans hx103_0; replace hx103_1 := (cell_far (p := ⟨gb102, 2, none⟩) (by first | (rw [add_block]; exact hn103_2) | (show (Addr.add _ _).block ≠ _; rw [add_block]; exact hn103_2) | exact hn103_2) (.int .i64 ((rd_T33 l0 x5_1).f2))).trans hx103_1; replace hx103_2 := (cell_far (p := ⟨gb102, 2, none⟩) (by first | (rw [add_block]; exact hn103_2) | (show (Addr.add _ _).block ≠ _; rw [add_block]; exact hn103_2) | exact hn103_2) (.int .i64 ((rd_T33 l0 x5_1).f2))).trans hx103_2; replace hx103_3 := (cell_far (p := ⟨gb102, 2, none⟩) (by first | (rw [add_block]; exact hn103_2) | (show (Addr.add _ _).block ≠ _; rw [add_block]; exact hn103_2) | exact hn103_2) (.int .i64 ((rd_T33 l0 x5_1).f2))).trans hx103_3; replace hx103_4 := (cell_far (p := ⟨gb102, 2, none⟩) (by first | (rw [add_block]; exact hn103_2) | (show (Addr.add _ _).block ≠ _; rw [add_block]; exact hn103_2) | exact hn103_2) (.int .i64 ((rd_T33 l0 x5_1).f2))).trans hx103_4; replace hx103_0 := (cell_far (p := ⟨gb102, 3, none⟩) (by first | (rw [add_block]; exact hn103_3) | (show (Addr.add _ _).block ≠ _; rw [add_block]; exact hn103_3) | exact hn103_3) (.slice A101_3 ((rd_T33 l0 x5_1).f3).length c101_3)).trans hx103_0; replace hx103_1 := (cell_far (p := ⟨gb102, 3, none⟩) (by first | (rw [add_block]; exact hn103_3) | (show (Addr.add _ _).block ≠ _; rw [add_block]; exact hn103_3) | exact hn103_3) (.slice A101_3 ((rd_T33 l0 x5_1).f3).length c101_3)).trans hx103_1; replace hx103_2 := (cell_far (p := ⟨gb102, 3, none⟩) (by first | (rw [add_block]; exact hn103_3) | (show (Addr.add _ _).block ≠ _; rw [add_block]; exact hn103_3) | exact hn103_3) (.slice A101_3 ((rd_T33 l0 x5_1).f3).length c101_3)).trans hx103_2; replace hx103_3 := (cell_far (p := ⟨gb102, 3, none⟩) (by first | (rw [add_block]; exact hn103_3) | (show (Addr.add _ _).block ≠ _; rw [add_block]; exact hn103_3) | exact hn103_3) (.slice A101_3 ((rd_T33 l0 x5_1).f3).length c101_3)).trans hx103_3; replace hx103_4 := (cell_far (p := ⟨gb102, 3, none⟩) (by first | (rw [add_block]; exact hn103_3) | (show (Addr.add _ _).block ≠ _; rw [add_block]; exact hn103_3) | exact hn103_3) (.slice A101_3 ((rd_T33 l0 x5_1).f3).length c101_3)).trans hx103_4; replace hx103_0 := (cell_far (p := ⟨gb102, 4, none⟩) (by first | (rw [add_block]; exact hn103_4) | (show (Addr.add _ _).block ≠ _; rw [add_block]; exact hn103_4) | exact hn103_4) (.slice A101_4 ((rd_T33 l0 x5_1).f4).length c101_4)).trans hx103_0; replace hx103_1 := (cell_far (p := ⟨gb102, 4, none⟩) (by first | (rw [add_block]; exact hn103_4) | (show (Addr.add _ _).block ≠ _; rw [add_block]; exact hn103_4) | exact hn103_4) (.slice A101_4 ((rd_T33 l0 x5_1).f4).length c101_4)).trans hx103_1; replace hx103_2 := (cell_far (p := ⟨gb102, 4, none⟩) (by first | (rw [add_block]; exact hn103_4) | (show (Addr.add _ _).block ≠ _; rw [add_block]; exact hn103_4) | exact hn103_4) (.slice A101_4 ((rd_T33 l0 x5_1).f4).length c101_4)).trans hx103_2; replace hx103_3 := (cell_far (p := ⟨gb102, 4, none⟩) (by first | (rw [add_block]; exact hn103_4) | (show (Addr.add _ _).block ≠ _; rw [add_block]; exact hn103_4) | exact hn103_4) (.slice A101_4 ((rd_T33 l0 x5_1).f4).length c101_4)).trans hx103_3; replace hx103_4 := (cell_far (p := ⟨gb102, 4, none⟩) (by first | (rw [add_block]; exact hn103_4) | (show (Addr.add _ _).block ≠ _; rw [add_block]; exact hn103_4) | exact hn103_4) (.slice A101_4 ((rd_T33 l0 x5_1).f4).length c101_4)).trans hx103_4; (try have hy103_0 := fun (n_ : Nat) => (show (((((((w8.drewN n_).setCell ⟨gb102, 0, none⟩ (.string ((rd_T33 l0 x5_1).f0))).setCell ⟨gb102, 1, none⟩ (.int .i64 ((rd_T33 l0 x5_1).f1))).setCell ⟨gb102, 2, none⟩ (.int .i64 ((rd_T33 l0 x5_1).f2))).setCell ⟨gb102, 3, none⟩ (.slice A101_3 ((rd_T33 l0 x5_1).f3).length c101_3)).setCell ⟨gb102, 4, none⟩ (.slice A101_4 ((rd_T33 l0 x5_1).f4).length c101_4))).cell? _ = some _ from hx103_0)); (try have hy103_1 := fun (n_ : Nat) => (show (((((((w8.drewN n_).setCell ⟨gb102, 0, none⟩ (.string ((rd_T33 l0 x5_1).f0))).setCell ⟨gb102, 1, none⟩ (.int .i64 ((rd_T33 l0 x5_1).f1))).setCell ⟨gb102, 2, none⟩ (.int .i64 ((rd_T33 l0 x5_1).f2))).setCell ⟨gb102, 3, none⟩ (.slice A101_3 ((rd_T33 l0 x5_1).f3).length c101_3)).setCell ⟨gb102, 4, none⟩ (.slice A101_4 ((rd_T33 l0 x5_1).f4).length c101_4))).cell? _ = some _ from hx103_1)); (try have hy103_2 := fun (n_ : Nat) => (show (((((((w8.drewN n_).setCell ⟨gb102, 0, none⟩ (.string ((rd_T33 l0 x5_1).f0))).setCell ⟨gb102, 1, none⟩ (.int .i64 ((rd_T33 l0 x5_1).f1))).setCell ⟨gb102, 2, none⟩ (.int .i64 ((rd_T33 l0 x5_1).f2))).setCell ⟨gb102, 3, none⟩ (.slice A101_3 ((rd_T33 l0 x5_1).f3).length c101_3)).setCell ⟨gb102, 4, none⟩ (.slice A101_4 ((rd_T33 l0 x5_1).f4).length c101_4))).cell? _ = some _ from hx103_2)); (try have hy103_3 := fun (n_ : Nat) => (show (((((((w8.drewN n_).setCell ⟨gb102, 0, none⟩ (.string ((rd_T33 l0 x5_1).f0))).setCell ⟨gb102, 1, none⟩ (.int .i64 ((rd_T33 l0 x5_1).f1))).setCell ⟨gb102, 2, none⟩ (.int .i64 ((rd_T33 l0 x5_1).f2))).setCell ⟨gb102, 3, none⟩ (.slice A101_3 ((rd_T33 l0 x5_1).f3).length c101_3)).setCell ⟨gb102, 4, none⟩ (.slice A101_4 ((rd_T33 l0 x5_1).f4).length c101_4))).cell? _ = some _ from hx103_3)); (try have hy103_4 := fun (n_ : Nat) => (show (((((((w8.drewN n_).setCell ⟨gb102, 0, none⟩ (.string ((rd_T33 l0 x5_1).f0))).setCell ⟨gb102, 1, none⟩ (.int .i64 ((rd_T33 l0 x5_1).f1))).setCell ⟨gb102, 2, none⟩ (.int .i64 ((rd_T33 l0 x5_1).f2))).setCell ⟨gb102, 3, none⟩ (.slice A101_3 ((rd_T33 l0 x5_1).f3).length c101_3)).setCell ⟨gb102, 4, none⟩ (.slice A101_4 ((rd_T33 l0 x5_1).f4).length c101_4))).cell? _ = some _ from hx103_4)); clear hn103_0; clear hn103_1; clear hn103_2; clear hn103_3; clear hn103_4; replace p103 := eq_true p103; replace q103 := eq_true q103) | ((with_reducible refine gate_dst (N := 7) rfl ?_); (try (refine gate_guard (by rfl) ?_; dsimp only)); refine box_event ?hg (N := 7) ?hd (cs := #[.string (⟨#[]⟩ : ByteArray), .int .i64 0, .int .i64 0, .slice none 0 0, .slice none 0 0]) (t := 33) ?hr ?_; (case hd => rfl); (case hg => rfl); (case hr => first | (go_simp; done) | (go_simp; rfl)); intro gb104 hg w10 hbox hb; have n0_ := qM_ (blk_below (g := gb102) (o := .cells #[.string ((rd_T33 l0 x5_1).f0), .int .i64 ((rd_T33 l0 x5_1).f1), .int .i64 ((rd_T33 l0 x5_1).f2), .slice A101_3 ((rd_T33 l0 x5_1).f3).length c101_3, .slice A101_4 ((rd_T33 l0 x5_1).f4).length c101_4] 33 (0, 0)) (by (with_reducible repeat (first | refine blk_drewN ?_ _ | refine blk_drew ?_ | refine blk_alloc ?_ _)); refine blk_put (cs := #[.string ((rd_T33 l0 x5_1).f0), .int .i64 ((rd_T33 l0 x5_1).f1), .int .i64 ((rd_T33 l0 x5_1).f2), .slice A101_3 ((rd_T33 l0 x5_1).f3).length c101_3, .slice none 0 0]) ?_ 4 _ rfl; (with_reducible repeat (first | refine blk_drewN ?_ _ | refine blk_drew ?_ | refine blk_alloc ?_ _)); refine blk_put (cs := #[.string ((rd_T33 l0 x5_1).f0), .int .i64 ((rd_T33 l0 x5_1).f1), .int .i64 ((rd_T33 l0 x5_1).f2), .slice none 0 0, .slice none 0 0]) ?_ 3 _ rfl; (with_reducible repeat (first | refine blk_drewN ?_ _ | refine blk_drew ?_ | refine blk_alloc ?_ _)); refine blk_put (cs := #[.string ((rd_T33 l0 x5_1).f0), .int .i64 ((rd_T33 l0 x5_1).f1), .int .i64 0, .slice none 0 0, .slice none 0 0]) ?_ 2 _ rfl; (with_reducible repeat (first | refine blk_drewN ?_ _ | refine blk_drew ?_ | refine blk_alloc ?_ _)); refine blk_put (cs := #[.string ((rd_T33 l0 x5_1).f0), .int .i64 0, .int .i64 0, .slice none 0 0, .slice none 0 0]) ?_ 1 _ rfl; (with_reducible repeat (first | refine blk_drewN ?_ _ | refine blk_drew ?_ | refine blk_alloc ?_ _)); refine blk_put (cs := #[.string (⟨#[]⟩ : ByteArray), .int .i64 0, .int .i64 0, .slice none 0 0, .slice none 0 0]) ?_ 0 _ rfl; (with_reducible repeat (first | refine blk_drewN ?_ _ | refine blk_drew ?_ | refine blk_alloc ?_ _)); exact BK102.out) hb); have n1_ := qM_ (below_step (by repeat (first | (with_reducible first | exact HB.out | apply qA_ | apply qD_ | apply qE_ | refine below_set ?_ GE102.out) | exact HB.out)) hb); have n2_ := qM_ (hbox); have n3_ := qM_ ((by rw [hg]; exact (below_size (by repeat (first | (with_reducible first | exact HB.out | apply qA_ | apply qD_ | apply qE_ | refine below_set ?_ GE102.out) | exact HB.out))) : w.heap.size ≤ gb104)); have n4_ := qM_ ((by rw [hg]; exact (below_size (by repeat (first | (with_reducible first | exact HB.out | apply qA_ | apply qD_ | apply qE_ | refine below_set ?_ GE102.out) | exact HB.out))) : w.heap.size ≤ gb104)); have n5_ := qM_ ((by rw [hg]; exact Nat.ne_of_lt (blk_lt (g := gb102) (o := .cells #[.string ((rd_T33 l0 x5_1).f0), .int .i64 ((rd_T33 l0 x5_1).f1), .int .i64 ((rd_T33 l0 x5_1).f2), .slice A101_3 ((rd_T33 l0 x5_1).f3).length c101_3, .slice A101_4 ((rd_T33 l0 x5_1).f4).length c101_4] 33 (0, 0)) (by (with_reducible repeat (first | refine blk_drewN ?_ _ | refine blk_drew ?_ | refine blk_alloc ?_ _)); refine blk_put (cs := #[.string ((rd_T33 l0 x5_1).f0), .int .i64 ((rd_T33 l0 x5_1).f1), .int .i64 ((rd_T33 l0 x5_1).f2), .slice A101_3 ((rd_T33 l0 x5_1).f3).length c101_3, .slice none 0 0]) ?_ 4 _ rfl; (with_reducible repeat (first | refine blk_drewN ?_ _ | refine blk_drew ?_ | refine blk_alloc ?_ _)); refine blk_put (cs := #[.string ((rd_T33 l0 x5_1).f0), .int .i64 ((rd_T33 l0 x5_1).f1), .int .i64 ((rd_T33 l0 x5_1).f2), .slice none 0 0, .slice none 0 0]) ?_ 3 _ rfl; (with_reducible repeat (first | refine blk_drewN ?_ _ | refine blk_drew ?_ | refine blk_alloc ?_ _)); refine blk_put (cs := #[.string ((rd_T33 l0 x5_1).f0), .int .i64 ((rd_T33 l0 x5_1).f1), .int .i64 0, .slice none 0 0, .slice none 0 0]) ?_ 2 _ rfl; (with_reducible repeat (first | refine blk_drewN ?_ _ | refine blk_drew ?_ | refine blk_alloc ?_ _)); refine blk_put (cs := #[.string ((rd_T33 l0 x5_1).f0), .int .i64 0, .int .i64 0, .slice none 0 0, .slice none 0 0]) ?_ 1 _ rfl; (with_reducible repeat (first | refine blk_drewN ?_ _ | refine blk_drew ?_ | refine blk_alloc ?_ _)); refine blk_put (cs := #[.string (⟨#[]⟩ : ByteArray), .int .i64 0, .int .i64 0, .slice none 0 0, .slice none 0 0]) ?_ 0 _ rfl; (with_reducible repeat (first | refine blk_drewN ?_ _ | refine blk_drew ?_ | refine blk_alloc ?_ _)); exact BK102.out)) : gb102 ≠ gb104)); have n6_ := qM_ ((by rw [hg]; exact Nat.ne_of_gt (blk_lt (g := gb102) (o := .cells #[.string ((rd_T33 l0 x5_1).f0), .int .i64 ((rd_T33 l0 x5_1).f1), .int .i64 ((rd_T33 l0 x5_1).f2), .slice A101_3 ((rd_T33 l0 x5_1).f3).length c101_3, .slice A101_4 ((rd_T33 l0 x5_1).f4).length c101_4] 33 (0, 0)) (by (with_reducible repeat (first | refine blk_drewN ?_ _ | refine blk_drew ?_ | refine blk_alloc ?_ _)); refine blk_put (cs := #[.string ((rd_T33 l0 x5_1).f0), .int .i64 ((rd_T33 l0 x5_1).f1), .int .i64 ((rd_T33 l0 x5_1).f2), .slice A101_3 ((rd_T33 l0 x5_1).f3).length c101_3, .slice none 0 0]) ?_ 4 _ rfl; (with_reducible repeat (first | refine blk_drewN ?_ _ | refine blk_drew ?_ | refine blk_alloc ?_ _)); refine blk_put (cs := #[.string ((rd_T33 l0 x5_1).f0), .int .i64 ((rd_T33 l0 x5_1).f1), .int .i64 ((rd_T33 l0 x5_1).f2), .slice none 0 0, .slice none 0 0]) ?_ 3 _ rfl; (with_reducible repeat (first | refine blk_drewN ?_ _ | refine blk_drew ?_ | refine blk_alloc ?_ _)); refine blk_put (cs := #[.string ((rd_T33 l0 x5_1).f0), .int .i64 ((rd_T33 l0 x5_1).f1), .int .i64 0, .slice none 0 0, .slice none 0 0]) ?_ 2 _ rfl; (with_reducible repeat (first | refine blk_drewN ?_ _ | refine blk_drew ?_ | refine blk_alloc ?_ _)); refine blk_put (cs := #[.string ((rd_T33 l0 x5_1).f0), .int .i64 0, .int .i64 0, .slice none 0 0, .slice none 0 0]) ?_ 1 _ rfl; (with_reducible repeat (first | refine blk_drewN ?_ _ | refine blk_drew ?_ | refine blk_alloc ?_ _)); refine blk_put (cs := #[.string (⟨#[]⟩ : ByteArray), .int .i64 0, .int .i64 0, .slice none 0 0, .slice none 0 0]) ?_ 0 _ rfl; (with_reducible repeat (first | refine blk_drewN ?_ _ | refine blk_drew ?_ | refine blk_alloc ?_ _)); exact BK102.out)) : gb104 ≠ gb102)); clear BK102; clear HB; have BK102 := n0_; have HB := n1_; have BK104 := n2_; have GW104 := n3_; have GE104 := n4_; have NB102_104 := n5_; have NB104_102 := n6_; clear n0_ n1_ n2_ n3_ n4_ n5_ n6_; clear hb hbox hg; have hnb11 := NB104_102.out; have hnc11 := NB102_104.out; have hcz12_0 : w10.cell? ⟨gb104, 0, none⟩ = some (.string (⟨#[]⟩ : ByteArray)) := (qC_ BK104.out 0).trans rfl; have hcz12_1 : w10.cell? ⟨gb104, 1, none⟩ = some (.int .i64 0) := (qC_ BK104.out 1).trans rfl; have hcz12_2 : w10.cell? ⟨gb104, 2, none⟩ = some (.int .i64 0) := (qC_ BK104.out 2).trans rfl; have hcz12_3 : w10.cell? ⟨gb104, 3, none⟩ = some (.slice none 0 0) := (qC_ BK104.out 3).trans rfl; have hcz12_4 : w10.cell? ⟨gb104, 4, none⟩ = some (.slice none 0 0) := (qC_ BK104.out 4).trans rfl; have hfz12_0 := qF_ BK104.out 0; have hfz12_1 := qF_ BK104.out 1; have hfz12_2 := qF_ BK104.out 2; have hfz12_3 := qF_ BK104.out 3; have hfz12_4 := qF_ BK104.out 4)))
       (try simp only [Act.put, List.setIfInBounds_toArray, List.set_cons_zero, List.set_cons_succ])
       go_cut [65] (fun v65 wc => ∃ (kq : Nat) (x65_6 : Bool), v65 = .bool x65_6 ∧ Aside0 (spec_l09Same.j1 kq l0 l1 x5_1 x65_6 ((rd_T33 l0 x5_1).f0) ((rd_T33 l0 x5_1).f1) ((rd_T33 l0 x5_1).f2) ((rd_T33 l0 x5_1).f3) ((rd_T33 l0 x5_1).f4) ((rd_T33 l1 x5_1).f0) ((rd_T33 l1 x5_1).f1) ((rd_T33 l1 x5_1).f2) ((rd_T33 l1 x5_1).f3) ((rd_T33 l1 x5_1).f4) = some r) ∧ Aside0 (kq ≤ k1) ∧ Aside0 (wc.heap[gb102]? = some (.cells #[.string ((rd_T33 l0 x5_1).f0), .int .i64 ((rd_T33 l0 x5_1).f1), .int .i64 ((rd_T33 l0 x5_1).f2), (.slice A101_3 ((rd_T33 l0 x5_1).f3).length c101_3), (.slice A101_4 ((rd_T33 l0 x5_1).f4).length c101_4)] 33 (0, 0))) ∧ Aside0 (wc.heap[gb104]? = some (.cells #[.string ((rd_T33 l1 x5_1).f0), .int .i64 ((rd_T33 l1 x5_1).f1), .int .i64 ((rd_T33 l1 x5_1).f2), (.slice A103_3 ((rd_T33 l1 x5_1).f3).length c103_3), (.slice A103_4 ((rd_T33 l1 x5_1).f4).length c103_4)] 33 (0, 0))) ∧ Aside0 (Below w.heap.size w wc))
       case first =>
        have H := HC7.out
        clear HC7
        by_cases c13 : ((rd_T33 l0 x5_1).f0).toList = ((rd_T33 l1 x5_1).f0).toList
        ·rw [if_pos c13] at H
         have c13b0 : (((rd_T33 l0 x5_1).f0).toList == ((rd_T33 l1 x5_1).f0).toList) = true := beq_iff_eq.mpr c13
         have c13b1 : (((rd_T33 l0 x5_1).f0).toList != ((rd_T33 l1 x5_1).f0).toList) = false := bne_eq_false_iff_eq.mpr c13
         clear c13
         (first | rw [c13b0] | (simp only [i64_w, i32_w]; rw [c13b0]) | skip)
         by_cases c14 : ((rd_T33 l0 x5_1).f1) = ((rd_T33 l1 x5_1).f1)
         ·rw [if_pos c14] at H
          have c14b0 : (((rd_T33 l0 x5_1).f1) == ((rd_T33 l1 x5_1).f1)) = true := beq_iff_eq.mpr c14
          have c14b1 : (((rd_T33 l0 x5_1).f1) != ((rd_T33 l1 x5_1).f1)) = false := bne_eq_false_iff_eq.mpr c14
          clear c14
          by_cases c15 : ((rd_T33 l0 x5_1).f2) = ((rd_T33 l1 x5_1).f2)
          ·rw [if_pos c15] at H
           have c15b0 : (((rd_T33 l0 x5_1).f2) == ((rd_T33 l1 x5_1).f2)) = true := beq_iff_eq.mpr c15
           have c15b1 : (((rd_T33 l0 x5_1).f2) != ((rd_T33 l1 x5_1).f2)) = false := bne_eq_false_iff_eq.mpr c15
           clear c15
           by_cases c16 : (((rd_T33 l0 x5_1).f3).length : Int) = (((rd_T33 l1 x5_1).f3).length : Int)
           ·rw [if_pos c16] at H
            have c16b0 : ((((rd_T33 l0 x5_1).f3).length : Int) == (((rd_T33 l1 x5_1).f3).length : Int)) = true := beq_iff_eq.mpr c16
            have c16b1 : ((((rd_T33 l0 x5_1).f3).length : Int) != (((rd_T33 l1 x5_1).f3).length : Int)) = false := bne_eq_false_iff_eq.mpr c16
            have c16b2 : (((rd_T33 l0 x5_1).f3).length == ((rd_T33 l1 x5_1).f3).length) = true := by first | simpa using c16 | (simp at c16 ⊢; omega)
            clear c16
            have H' := qM_ H
            clear H
            have hnb17 := NB102_104.out
            have hnc17 := NB104_102.out
            have hcz18_0 : w10.cell? ⟨gb102, 0, none⟩ = some (.string ((rd_T33 l0 x5_1).f0)) := (qC_ BK102.out 0).trans rfl
            have hcz18_1 : w10.cell? ⟨gb102, 1, none⟩ = some (.int .i64 ((rd_T33 l0 x5_1).f1)) := (qC_ BK102.out 1).trans rfl
            have hcz18_2 : w10.cell? ⟨gb102, 2, none⟩ = some (.int .i64 ((rd_T33 l0 x5_1).f2)) := (qC_ BK102.out 2).trans rfl
            have hcz18_3 : w10.cell? ⟨gb102, 3, none⟩ = some (.slice A101_3 ((rd_T33 l0 x5_1).f3).length c101_3) := (qC_ BK102.out 3).trans rfl
            have hcz18_4 : w10.cell? ⟨gb102, 4, none⟩ = some (.slice A101_4 ((rd_T33 l0 x5_1).f4).length c101_4) := (qC_ BK102.out 4).trans rfl
            have hfz18_0 := qF_ BK102.out 0
            have hfz18_1 := qF_ BK102.out 1
            have hfz18_2 := qF_ BK102.out 2
            have hfz18_3 := qF_ BK102.out 3
            have hfz18_4 := qF_ BK102.out 4
            have hcz19_0 : w10.cell? ⟨gb104, 0, none⟩ = some (.string (⟨#[]⟩ : ByteArray)) := (qC_ BK104.out 0).trans rfl
            have hcz19_1 : w10.cell? ⟨gb104, 1, none⟩ = some (.int .i64 0) := (qC_ BK104.out 1).trans rfl
            have hcz19_2 : w10.cell? ⟨gb104, 2, none⟩ = some (.int .i64 0) := (qC_ BK104.out 2).trans rfl
            have hcz19_3 : w10.cell? ⟨gb104, 3, none⟩ = some (.slice none 0 0) := (qC_ BK104.out 3).trans rfl
            have hcz19_4 : w10.cell? ⟨gb104, 4, none⟩ = some (.slice none 0 0) := (qC_ BK104.out 4).trans rfl
            have hfz19_0 := qF_ BK104.out 0
            have hfz19_1 := qF_ BK104.out 1
            have hfz19_2 := qF_ BK104.out 2
            have hfz19_3 := qF_ BK104.out 3
            have hfz19_4 := qF_ BK104.out 4
            go_wp2
            repeat (go_quiet (fail); try go_wp2)
            go_meet
            case rel => exact ⟨_, (((((rd_T33 l0 x5_1).f4).length : Int) != (((rd_T33 l1 x5_1).f4).length : Int))), (by first | rfl | (simp; done) | (simp [*]; done)), H', ⟨by have := HK1.out; first | omega | exact Nat.le_refl _⟩, ⟨by (with_reducible repeat (first | refine blk_drewN ?_ _ | refine blk_drew ?_ | refine blk_alloc ?_ _)); refine blk_far ?_ NB102_104.out _; (with_reducible repeat (first | refine blk_drewN ?_ _ | refine blk_drew ?_ | refine blk_alloc ?_ _)); refine blk_far ?_ NB102_104.out _; (with_reducible repeat (first | refine blk_drewN ?_ _ | refine blk_drew ?_ | refine blk_alloc ?_ _)); refine blk_far ?_ NB102_104.out _; (with_reducible repeat (first | refine blk_drewN ?_ _ | refine blk_drew ?_ | refine blk_alloc ?_ _)); refine blk_far ?_ NB102_104.out _; (with_reducible repeat (first | refine blk_drewN ?_ _ | refine blk_drew ?_ | refine blk_alloc ?_ _)); refine blk_far ?_ NB102_104.out _; (with_reducible repeat (first | refine blk_drewN ?_ _ | refine blk_drew ?_ | refine blk_alloc ?_ _)); exact BK102.out⟩, ⟨by (with_reducible repeat (first | refine blk_drewN ?_ _ | refine blk_drew ?_ | refine blk_alloc ?_ _)); refine blk_put (cs := #[.string ((rd_T33 l1 x5_1).f0), .int .i64 ((rd_T33 l1 x5_1).f1), .int .i64 ((rd_T33 l1 x5_1).f2), .slice A103_3 ((rd_T33 l1 x5_1).f3).length c103_3, .slice none 0 0]) ?_ 4 _ rfl; (with_reducible repeat (first | refine blk_drewN ?_ _ | refine blk_drew ?_ | refine blk_alloc ?_ _)); refine blk_put (cs := #[.string ((rd_T33 l1 x5_1).f0), .int .i64 ((rd_T33 l1 x5_1).f1), .int .i64 ((rd_T33 l1 x5_1).f2), .slice none 0 0, .slice none 0 0]) ?_ 3 _ rfl; (with_reducible repeat (first | refine blk_drewN ?_ _ | refine blk_drew ?_ | refine blk_alloc ?_ _)); refine blk_put (cs := #[.string ((rd_T33 l1 x5_1).f0), .int .i64 ((rd_T33 l1 x5_1).f1), .int .i64 0, .slice none 0 0, .slice none 0 0]) ?_ 2 _ rfl; (with_reducible repeat (first | refine blk_drewN ?_ _ | refine blk_drew ?_ | refine blk_alloc ?_ _)); refine blk_put (cs := #[.string ((rd_T33 l1 x5_1).f0), .int .i64 0, .int .i64 0, .slice none 0 0, .slice none 0 0]) ?_ 1 _ rfl; (with_reducible repeat (first | refine blk_drewN ?_ _ | refine blk_drew ?_ | refine blk_alloc ?_ _)); refine blk_put (cs := #[.string (⟨#[]⟩ : ByteArray), .int .i64 0, .int .i64 0, .slice none 0 0, .slice none 0 0]) ?_ 0 _ rfl; (with_reducible repeat (first | refine blk_drewN ?_ _ | refine blk_drew ?_ | refine blk_alloc ?_ _)); exact BK104.out⟩, ⟨by repeat (first | (with_reducible first | exact HB.out | apply qA_ | apply qD_ | apply qE_ | refine below_set ?_ GE102.out | refine below_set ?_ GE104.out) | exact HB.out)⟩⟩
           ·rw [if_neg c16] at H
            have c16b0 : ((((rd_T33 l0 x5_1).f3).length : Int) == (((rd_T33 l1 x5_1).f3).length : Int)) = false := beq_eq_false_iff_ne.mpr c16
            have c16b1 : ((((rd_T33 l0 x5_1).f3).length : Int) != (((rd_T33 l1 x5_1).f3).length : Int)) = true := bne_iff_ne.mpr c16
            have c16b2 : (((rd_T33 l0 x5_1).f3).length == ((rd_T33 l1 x5_1).f3).length) = false := by first | simpa using c16 | (simp at c16 ⊢; omega)
            have H' := qM_ H
            clear H
            have hnb20 := NB102_104.out
            have hnc20 := NB104_102.out
            have hcz21_0 : w10.cell? ⟨gb102, 0, none⟩ = some (.string ((rd_T33 l0 x5_1).f0)) := (qC_ BK102.out 0).trans rfl
            have hcz21_1 : w10.cell? ⟨gb102, 1, none⟩ = some (.int .i64 ((rd_T33 l0 x5_1).f1)) := (qC_ BK102.out 1).trans rfl
            have hcz21_2 : w10.cell? ⟨gb102, 2, none⟩ = some (.int .i64 ((rd_T33 l0 x5_1).f2)) := (qC_ BK102.out 2).trans rfl
            have hcz21_3 : w10.cell? ⟨gb102, 3, none⟩ = some (.slice A101_3 ((rd_T33 l0 x5_1).f3).length c101_3) := (qC_ BK102.out 3).trans rfl
            have hcz21_4 : w10.cell? ⟨gb102, 4, none⟩ = some (.slice A101_4 ((rd_T33 l0 x5_1).f4).length c101_4) := (qC_ BK102.out 4).trans rfl
            have hfz21_0 := qF_ BK102.out 0
            have hfz21_1 := qF_ BK102.out 1
            have hfz21_2 := qF_ BK102.out 2
            have hfz21_3 := qF_ BK102.out 3
            have hfz21_4 := qF_ BK102.out 4
            have hcz22_0 : w10.cell? ⟨gb104, 0, none⟩ = some (.string (⟨#[]⟩ : ByteArray)) := (qC_ BK104.out 0).trans rfl
            have hcz22_1 : w10.cell? ⟨gb104, 1, none⟩ = some (.int .i64 0) := (qC_ BK104.out 1).trans rfl
            have hcz22_2 : w10.cell? ⟨gb104, 2, none⟩ = some (.int .i64 0) := (qC_ BK104.out 2).trans rfl
            have hcz22_3 : w10.cell? ⟨gb104, 3, none⟩ = some (.slice none 0 0) := (qC_ BK104.out 3).trans rfl
            have hcz22_4 : w10.cell? ⟨gb104, 4, none⟩ = some (.slice none 0 0) := (qC_ BK104.out 4).trans rfl
            have hfz22_0 := qF_ BK104.out 0
            have hfz22_1 := qF_ BK104.out 1
            have hfz22_2 := qF_ BK104.out 2
            have hfz22_3 := qF_ BK104.out 3
            have hfz22_4 := qF_ BK104.out 4
            go_wp2
            repeat (go_quiet (fail); try go_wp2)
            go_meet
            case rel => exact ⟨_, (true), (by first | rfl | (simp; done) | (simp [*]; done)), H', ⟨by have := HK1.out; first | omega | exact Nat.le_refl _⟩, ⟨by (with_reducible repeat (first | refine blk_drewN ?_ _ | refine blk_drew ?_ | refine blk_alloc ?_ _)); refine blk_far ?_ NB102_104.out _; (with_reducible repeat (first | refine blk_drewN ?_ _ | refine blk_drew ?_ | refine blk_alloc ?_ _)); refine blk_far ?_ NB102_104.out _; (with_reducible repeat (first | refine blk_drewN ?_ _ | refine blk_drew ?_ | refine blk_alloc ?_ _)); refine blk_far ?_ NB102_104.out _; (with_reducible repeat (first | refine blk_drewN ?_ _ | refine blk_drew ?_ | refine blk_alloc ?_ _)); refine blk_far ?_ NB102_104.out _; (with_reducible repeat (first | refine blk_drewN ?_ _ | refine blk_drew ?_ | refine blk_alloc ?_ _)); refine blk_far ?_ NB102_104.out _; (with_reducible repeat (first | refine blk_drewN ?_ _ | refine blk_drew ?_ | refine blk_alloc ?_ _)); exact BK102.out⟩, ⟨by (with_reducible repeat (first | refine blk_drewN ?_ _ | refine blk_drew ?_ | refine blk_alloc ?_ _)); refine blk_put (cs := #[.string ((rd_T33 l1 x5_1).f0), .int .i64 ((rd_T33 l1 x5_1).f1), .int .i64 ((rd_T33 l1 x5_1).f2), .slice A103_3 ((rd_T33 l1 x5_1).f3).length c103_3, .slice none 0 0]) ?_ 4 _ rfl; (with_reducible repeat (first | refine blk_drewN ?_ _ | refine blk_drew ?_ | refine blk_alloc ?_ _)); refine blk_put (cs := #[.string ((rd_T33 l1 x5_1).f0), .int .i64 ((rd_T33 l1 x5_1).f1), .int .i64 ((rd_T33 l1 x5_1).f2), .slice none 0 0, .slice none 0 0]) ?_ 3 _ rfl; (with_reducible repeat (first | refine blk_drewN ?_ _ | refine blk_drew ?_ | refine blk_alloc ?_ _)); refine blk_put (cs := #[.string ((rd_T33 l1 x5_1).f0), .int .i64 ((rd_T33 l1 x5_1).f1), .int .i64 0, .slice none 0 0, .slice none 0 0]) ?_ 2 _ rfl; (with_reducible repeat (first | refine blk_drewN ?_ _ | refine blk_drew ?_ | refine blk_alloc ?_ _)); refine blk_put (cs := #[.string ((rd_T33 l1 x5_1).f0), .int .i64 0, .int .i64 0, .slice none 0 0, .slice none 0 0]) ?_ 1 _ rfl; (with_reducible repeat (first | refine blk_drewN ?_ _ | refine blk_drew ?_ | refine blk_alloc ?_ _)); refine blk_put (cs := #[.string (⟨#[]⟩ : ByteArray), .int .i64 0, .int .i64 0, .slice none 0 0, .slice none 0 0]) ?_ 0 _ rfl; (with_reducible repeat (first | refine blk_drewN ?_ _ | refine blk_drew ?_ | refine blk_alloc ?_ _)); exact BK104.out⟩, ⟨by repeat (first | (with_reducible first | exact HB.out | apply qA_ | apply qD_ | apply qE_ | refine below_set ?_ GE102.out | refine below_set ?_ GE104.out) | exact HB.out)⟩⟩
          ·rw [if_neg c15] at H
           have c15b0 : (((rd_T33 l0 x5_1).f2) == ((rd_T33 l1 x5_1).f2)) = false := beq_eq_false_iff_ne.mpr c15
           have c15b1 : (((rd_T33 l0 x5_1).f2) != ((rd_T33 l1 x5_1).f2)) = true := bne_iff_ne.mpr c15
           have H' := qM_ H
           clear H
           have hnb23 := NB102_104.out
           have hnc23 := NB104_102.out
           have hcz24_0 : w10.cell? ⟨gb102, 0, none⟩ = some (.string ((rd_T33 l0 x5_1).f0)) := (qC_ BK102.out 0).trans rfl
           have hcz24_1 : w10.cell? ⟨gb102, 1, none⟩ = some (.int .i64 ((rd_T33 l0 x5_1).f1)) := (qC_ BK102.out 1).trans rfl
           have hcz24_2 : w10.cell? ⟨gb102, 2, none⟩ = some (.int .i64 ((rd_T33 l0 x5_1).f2)) := (qC_ BK102.out 2).trans rfl
           have hcz24_3 : w10.cell? ⟨gb102, 3, none⟩ = some (.slice A101_3 ((rd_T33 l0 x5_1).f3).length c101_3) := (qC_ BK102.out 3).trans rfl
           have hcz24_4 : w10.cell? ⟨gb102, 4, none⟩ = some (.slice A101_4 ((rd_T33 l0 x5_1).f4).length c101_4) := (qC_ BK102.out 4).trans rfl
           have hfz24_0 := qF_ BK102.out 0
           have hfz24_1 := qF_ BK102.out 1
           have hfz24_2 := qF_ BK102.out 2
           have hfz24_3 := qF_ BK102.out 3
           have hfz24_4 := qF_ BK102.out 4
           have hcz25_0 : w10.cell? ⟨gb104, 0, none⟩ = some (.string (⟨#[]⟩ : ByteArray)) := (qC_ BK104.out 0).trans rfl
           have hcz25_1 : w10.cell? ⟨gb104, 1, none⟩ = some (.int .i64 0) := (qC_ BK104.out 1).trans rfl
           have hcz25_2 : w10.cell? ⟨gb104, 2, none⟩ = some (.int .i64 0) := (qC_ BK104.out 2).trans rfl
           have hcz25_3 : w10.cell? ⟨gb104, 3, none⟩ = some (.slice none 0 0) := (qC_ BK104.out 3).trans rfl
           have hcz25_4 : w10.cell? ⟨gb104, 4, none⟩ = some (.slice none 0 0) := (qC_ BK104.out 4).trans rfl
           have hfz25_0 := qF_ BK104.out 0
           have hfz25_1 := qF_ BK104.out 1
           have hfz25_2 := qF_ BK104.out 2
           have hfz25_3 := qF_ BK104.out 3
           have hfz25_4 := qF_ BK104.out 4
           go_wp2
           repeat (go_quiet (fail); try go_wp2)
           go_meet
           case rel => exact ⟨_, (true), (by first | rfl | (simp; done) | (simp [*]; done)), H', ⟨by have := HK1.out; first | omega | exact Nat.le_refl _⟩, ⟨by (with_reducible repeat (first | refine blk_drewN ?_ _ | refine blk_drew ?_ | refine blk_alloc ?_ _)); refine blk_far ?_ NB102_104.out _; (with_reducible repeat (first | refine blk_drewN ?_ _ | refine blk_drew ?_ | refine blk_alloc ?_ _)); refine blk_far ?_ NB102_104.out _; (with_reducible repeat (first | refine blk_drewN ?_ _ | refine blk_drew ?_ | refine blk_alloc ?_ _)); refine blk_far ?_ NB102_104.out _; (with_reducible repeat (first | refine blk_drewN ?_ _ | refine blk_drew ?_ | refine blk_alloc ?_ _)); refine blk_far ?_ NB102_104.out _; (with_reducible repeat (first | refine blk_drewN ?_ _ | refine blk_drew ?_ | refine blk_alloc ?_ _)); refine blk_far ?_ NB102_104.out _; (with_reducible repeat (first | refine blk_drewN ?_ _ | refine blk_drew ?_ | refine blk_alloc ?_ _)); exact BK102.out⟩, ⟨by (with_reducible repeat (first | refine blk_drewN ?_ _ | refine blk_drew ?_ | refine blk_alloc ?_ _)); refine blk_put (cs := #[.string ((rd_T33 l1 x5_1).f0), .int .i64 ((rd_T33 l1 x5_1).f1), .int .i64 ((rd_T33 l1 x5_1).f2), .slice A103_3 ((rd_T33 l1 x5_1).f3).length c103_3, .slice none 0 0]) ?_ 4 _ rfl; (with_reducible repeat (first | refine blk_drewN ?_ _ | refine blk_drew ?_ | refine blk_alloc ?_ _)); refine blk_put (cs := #[.string ((rd_T33 l1 x5_1).f0), .int .i64 ((rd_T33 l1 x5_1).f1), .int .i64 ((rd_T33 l1 x5_1).f2), .slice none 0 0, .slice none 0 0]) ?_ 3 _ rfl; (with_reducible repeat (first | refine blk_drewN ?_ _ | refine blk_drew ?_ | refine blk_alloc ?_ _)); refine blk_put (cs := #[.string ((rd_T33 l1 x5_1).f0), .int .i64 ((rd_T33 l1 x5_1).f1), .int .i64 0, .slice none 0 0, .slice none 0 0]) ?_ 2 _ rfl; (with_reducible repeat (first | refine blk_drewN ?_ _ | refine blk_drew ?_ | refine blk_alloc ?_ _)); refine blk_put (cs := #[.string ((rd_T33 l1 x5_1).f0), .int .i64 0, .int .i64 0, .slice none 0 0, .slice none 0 0]) ?_ 1 _ rfl; (with_reducible repeat (first | refine blk_drewN ?_ _ | refine blk_drew ?_ | refine blk_alloc ?_ _)); refine blk_put (cs := #[.string (⟨#[]⟩ : ByteArray), .int .i64 0, .int .i64 0, .slice none 0 0, .slice none 0 0]) ?_ 0 _ rfl; (with_reducible repeat (first | refine blk_drewN ?_ _ | refine blk_drew ?_ | refine blk_alloc ?_ _)); exact BK104.out⟩, ⟨by repeat (first | (with_reducible first | exact HB.out | apply qA_ | apply qD_ | apply qE_ | refine below_set ?_ GE102.out | refine below_set ?_ GE104.out) | exact HB.out)⟩⟩
         ·rw [if_neg c14] at H
          have c14b0 : (((rd_T33 l0 x5_1).f1) == ((rd_T33 l1 x5_1).f1)) = false := beq_eq_false_iff_ne.mpr c14
          have c14b1 : (((rd_T33 l0 x5_1).f1) != ((rd_T33 l1 x5_1).f1)) = true := bne_iff_ne.mpr c14
          have H' := qM_ H
          clear H
          have hnb26 := NB102_104.out
          have hnc26 := NB104_102.out
          have hcz27_0 : w10.cell? ⟨gb102, 0, none⟩ = some (.string ((rd_T33 l0 x5_1).f0)) := (qC_ BK102.out 0).trans rfl
          have hcz27_1 : w10.cell? ⟨gb102, 1, none⟩ = some (.int .i64 ((rd_T33 l0 x5_1).f1)) := (qC_ BK102.out 1).trans rfl
          have hcz27_2 : w10.cell? ⟨gb102, 2, none⟩ = some (.int .i64 ((rd_T33 l0 x5_1).f2)) := (qC_ BK102.out 2).trans rfl
          have hcz27_3 : w10.cell? ⟨gb102, 3, none⟩ = some (.slice A101_3 ((rd_T33 l0 x5_1).f3).length c101_3) := (qC_ BK102.out 3).trans rfl
          have hcz27_4 : w10.cell? ⟨gb102, 4, none⟩ = some (.slice A101_4 ((rd_T33 l0 x5_1).f4).length c101_4) := (qC_ BK102.out 4).trans rfl
          have hfz27_0 := qF_ BK102.out 0
          have hfz27_1 := qF_ BK102.out 1
          have hfz27_2 := qF_ BK102.out 2
          have hfz27_3 := qF_ BK102.out 3
          have hfz27_4 := qF_ BK102.out 4
          have hcz28_0 : w10.cell? ⟨gb104, 0, none⟩ = some (.string (⟨#[]⟩ : ByteArray)) := (qC_ BK104.out 0).trans rfl
          have hcz28_1 : w10.cell? ⟨gb104, 1, none⟩ = some (.int .i64 0) := (qC_ BK104.out 1).trans rfl
          have hcz28_2 : w10.cell? ⟨gb104, 2, none⟩ = some (.int .i64 0) := (qC_ BK104.out 2).trans rfl
          have hcz28_3 : w10.cell? ⟨gb104, 3, none⟩ = some (.slice none 0 0) := (qC_ BK104.out 3).trans rfl
          have hcz28_4 : w10.cell? ⟨gb104, 4, none⟩ = some (.slice none 0 0) := (qC_ BK104.out 4).trans rfl
          have hfz28_0 := qF_ BK104.out 0
          have hfz28_1 := qF_ BK104.out 1
          have hfz28_2 := qF_ BK104.out 2
          have hfz28_3 := qF_ BK104.out 3
          have hfz28_4 := qF_ BK104.out 4
          go_wp2
          repeat (go_quiet (fail); try go_wp2)
          go_meet
          case rel => exact ⟨_, (true), (by first | rfl | (simp; done) | (simp [*]; done)), H', ⟨by have := HK1.out; first | omega | exact Nat.le_refl _⟩, ⟨by (with_reducible repeat (first | refine blk_drewN ?_ _ | refine blk_drew ?_ | refine blk_alloc ?_ _)); refine blk_far ?_ NB102_104.out _; (with_reducible repeat (first | refine blk_drewN ?_ _ | refine blk_drew ?_ | refine blk_alloc ?_ _)); refine blk_far ?_ NB102_104.out _; (with_reducible repeat (first | refine blk_drewN ?_ _ | refine blk_drew ?_ | refine blk_alloc ?_ _)); refine blk_far ?_ NB102_104.out _; (with_reducible repeat (first | refine blk_drewN ?_ _ | refine blk_drew ?_ | refine blk_alloc ?_ _)); refine blk_far ?_ NB102_104.out _; (with_reducible repeat (first | refine blk_drewN ?_ _ | refine blk_drew ?_ | refine blk_alloc ?_ _)); refine blk_far ?_ NB102_104.out _; (with_reducible repeat (first | refine blk_drewN ?_ _ | refine blk_drew ?_ | refine blk_alloc ?_ _)); exact BK102.out⟩, ⟨by (with_reducible repeat (first | refine blk_drewN ?_ _ | refine blk_drew ?_ | refine blk_alloc ?_ _)); refine blk_put (cs := #[.string ((rd_T33 l1 x5_1).f0), .int .i64 ((rd_T33 l1 x5_1).f1), .int .i64 ((rd_T33 l1 x5_1).f2), .slice A103_3 ((rd_T33 l1 x5_1).f3).length c103_3, .slice none 0 0]) ?_ 4 _ rfl; (with_reducible repeat (first | refine blk_drewN ?_ _ | refine blk_drew ?_ | refine blk_alloc ?_ _)); refine blk_put (cs := #[.string ((rd_T33 l1 x5_1).f0), .int .i64 ((rd_T33 l1 x5_1).f1), .int .i64 ((rd_T33 l1 x5_1).f2), .slice none 0 0, .slice none 0 0]) ?_ 3 _ rfl; (with_reducible repeat (first | refine blk_drewN ?_ _ | refine blk_drew ?_ | refine blk_alloc ?_ _)); refine blk_put (cs := #[.string ((rd_T33 l1 x5_1).f0), .int .i64 ((rd_T33 l1 x5_1).f1), .int .i64 0, .slice none 0 0, .slice none 0 0]) ?_ 2 _ rfl; (with_reducible repeat (first | refine blk_drewN ?_ _ | refine blk_drew ?_ | refine blk_alloc ?_ _)); refine blk_put (cs := #[.string ((rd_T33 l1 x5_1).f0), .int .i64 0, .int .i64 0, .slice none 0 0, .slice none 0 0]) ?_ 1 _ rfl; (with_reducible repeat (first | refine blk_drewN ?_ _ | refine blk_drew ?_ | refine blk_alloc ?_ _)); refine blk_put (cs := #[.string (⟨#[]⟩ : ByteArray), .int .i64 0, .int .i64 0, .slice none 0 0, .slice none 0 0]) ?_ 0 _ rfl; (with_reducible repeat (first | refine blk_drewN ?_ _ | refine blk_drew ?_ | refine blk_alloc ?_ _)); exact BK104.out⟩, ⟨by repeat (first | (with_reducible first | exact HB.out | apply qA_ | apply qD_ | apply qE_ | refine below_set ?_ GE102.out | refine below_set ?_ GE104.out) | exact HB.out)⟩⟩
        ·rw [if_neg c13] at H
         have c13b0 : (((rd_T33 l0 x5_1).f0).toList == ((rd_T33 l1 x5_1).f0).toList) = false := beq_eq_false_iff_ne.mpr c13
         have c13b1 : (((rd_T33 l0 x5_1).f0).toList != ((rd_T33 l1 x5_1).f0).toList) = true := bne_iff_ne.mpr c13
         (first | rw [c13b0] | (simp only [i64_w, i32_w]; rw [c13b0]) | skip)
         have H' := qM_ H
         clear H
         have hnb29 := NB102_104.out
         have hnc29 := NB104_102.out
         have hcz30_0 : w10.cell? ⟨gb102, 0, none⟩ = some (.string ((rd_T33 l0 x5_1).f0)) := (qC_ BK102.out 0).trans rfl
         have hcz30_1 : w10.cell? ⟨gb102, 1, none⟩ = some (.int .i64 ((rd_T33 l0 x5_1).f1)) := (qC_ BK102.out 1).trans rfl
         have hcz30_2 : w10.cell? ⟨gb102, 2, none⟩ = some (.int .i64 ((rd_T33 l0 x5_1).f2)) := (qC_ BK102.out 2).trans rfl
         have hcz30_3 : w10.cell? ⟨gb102, 3, none⟩ = some (.slice A101_3 ((rd_T33 l0 x5_1).f3).length c101_3) := (qC_ BK102.out 3).trans rfl
         have hcz30_4 : w10.cell? ⟨gb102, 4, none⟩ = some (.slice A101_4 ((rd_T33 l0 x5_1).f4).length c101_4) := (qC_ BK102.out 4).trans rfl
         have hfz30_0 := qF_ BK102.out 0
         have hfz30_1 := qF_ BK102.out 1
         have hfz30_2 := qF_ BK102.out 2
         have hfz30_3 := qF_ BK102.out 3
         have hfz30_4 := qF_ BK102.out 4
         have hcz31_0 : w10.cell? ⟨gb104, 0, none⟩ = some (.string (⟨#[]⟩ : ByteArray)) := (qC_ BK104.out 0).trans rfl
         have hcz31_1 : w10.cell? ⟨gb104, 1, none⟩ = some (.int .i64 0) := (qC_ BK104.out 1).trans rfl
         have hcz31_2 : w10.cell? ⟨gb104, 2, none⟩ = some (.int .i64 0) := (qC_ BK104.out 2).trans rfl
         have hcz31_3 : w10.cell? ⟨gb104, 3, none⟩ = some (.slice none 0 0) := (qC_ BK104.out 3).trans rfl
         have hcz31_4 : w10.cell? ⟨gb104, 4, none⟩ = some (.slice none 0 0) := (qC_ BK104.out 4).trans rfl
         have hfz31_0 := qF_ BK104.out 0
         have hfz31_1 := qF_ BK104.out 1
         have hfz31_2 := qF_ BK104.out 2
         have hfz31_3 := qF_ BK104.out 3
         have hfz31_4 := qF_ BK104.out 4
         go_wp2
         repeat (go_quiet (fail); try go_wp2)
         go_meet
         case rel => exact ⟨_, (true), (by first | rfl | (simp; done) | (simp [*]; done)), H', ⟨by have := HK1.out; first | omega | exact Nat.le_refl _⟩, ⟨by (with_reducible repeat (first | refine blk_drewN ?_ _ | refine blk_drew ?_ | refine blk_alloc ?_ _)); refine blk_far ?_ NB102_104.out _; (with_reducible repeat (first | refine blk_drewN ?_ _ | refine blk_drew ?_ | refine blk_alloc ?_ _)); refine blk_far ?_ NB102_104.out _; (with_reducible repeat (first | refine blk_drewN ?_ _ | refine blk_drew ?_ | refine blk_alloc ?_ _)); refine blk_far ?_ NB102_104.out _; (with_reducible repeat (first | refine blk_drewN ?_ _ | refine blk_drew ?_ | refine blk_alloc ?_ _)); refine blk_far ?_ NB102_104.out _; (with_reducible repeat (first | refine blk_drewN ?_ _ | refine blk_drew ?_ | refine blk_alloc ?_ _)); refine blk_far ?_ NB102_104.out _; (with_reducible repeat (first | refine blk_drewN ?_ _ | refine blk_drew ?_ | refine blk_alloc ?_ _)); exact BK102.out⟩, ⟨by (with_reducible repeat (first | refine blk_drewN ?_ _ | refine blk_drew ?_ | refine blk_alloc ?_ _)); refine blk_put (cs := #[.string ((rd_T33 l1 x5_1).f0), .int .i64 ((rd_T33 l1 x5_1).f1), .int .i64 ((rd_T33 l1 x5_1).f2), .slice A103_3 ((rd_T33 l1 x5_1).f3).length c103_3, .slice none 0 0]) ?_ 4 _ rfl; (with_reducible repeat (first | refine blk_drewN ?_ _ | refine blk_drew ?_ | refine blk_alloc ?_ _)); refine blk_put (cs := #[.string ((rd_T33 l1 x5_1).f0), .int .i64 ((rd_T33 l1 x5_1).f1), .int .i64 ((rd_T33 l1 x5_1).f2), .slice none 0 0, .slice none 0 0]) ?_ 3 _ rfl; (with_reducible repeat (first | refine blk_drewN ?_ _ | refine blk_drew ?_ | refine blk_alloc ?_ _)); refine blk_put (cs := #[.string ((rd_T33 l1 x5_1).f0), .int .i64 ((rd_T33 l1 x5_1).f1), .int .i64 0, .slice none 0 0, .slice none 0 0]) ?_ 2 _ rfl; (with_reducible repeat (first | refine blk_drewN ?_ _ | refine blk_drew ?_ | refine blk_alloc ?_ _)); refine blk_put (cs := #[.string ((rd_T33 l1 x5_1).f0), .int .i64 0, .int .i64 0, .slice none 0 0, .slice none 0 0]) ?_ 1 _ rfl; (with_reducible repeat (first | refine blk_drewN ?_ _ | refine blk_drew ?_ | refine blk_alloc ?_ _)); refine blk_put (cs := #[.string (⟨#[]⟩ : ByteArray), .int .i64 0, .int .i64 0, .slice none 0 0, .slice none 0 0]) ?_ 0 _ rfl; (with_reducible repeat (first | refine blk_drewN ?_ _ | refine blk_drew ?_ | refine blk_alloc ?_ _)); exact BK104.out⟩, ⟨by repeat (first | (with_reducible first | exact HB.out | apply qA_ | apply qD_ | apply qE_ | refine below_set ?_ GE102.out | refine below_set ?_ GE104.out) | exact HB.out)⟩⟩
       case rest =>
        clear HC7
        try clear c1
        try clear p1
        try clear q1
        try clear hx1
        try clear c2
        try clear p2
        try clear c3
        try clear c3b0
        try clear c3b1
        try clear c3b2
        try clear c4
        try clear c4b0
        try clear c5
        try clear c5b0
        try clear c6
        try clear c6b0
        try clear c10
        try clear p10
        try clear q10
        try clear hx10
        try clear c11
        try clear c13
        try clear c13b0
        try clear c13b1
        try clear c14
        try clear c14b0
        try clear c14b1
        try clear c15
        try clear c15b0
        try clear c15b1
        try clear c16
        try clear c16b0
        try clear c16b1
        try clear c16b2
        try clear c17
        try clear c20
        try clear c23
        try clear c26
        try clear c29
        try clear hcz12_0
        try clear hcz12_1
        try clear hcz12_2
        try clear hcz12_3
        try clear hcz12_4
        try clear hcz18_0
        try clear hcz18_1
        try clear hcz18_2
        try clear hcz18_3
        try clear hcz18_4
        try clear hcz19_0
        try clear hcz19_1
        try clear hcz19_2
        try clear hcz19_3
        try clear hcz19_4
        try clear hcz21_0
        try clear hcz21_1
        try clear hcz21_2
        try clear hcz21_3
        try clear hcz21_4
        try clear hcz22_0
        try clear hcz22_1
        try clear hcz22_2
        try clear hcz22_3
        try clear hcz22_4
        try clear hcz24_0
        try clear hcz24_1
        try clear hcz24_2
        try clear hcz24_3
        try clear hcz24_4
        try clear hcz25_0
        try clear hcz25_1
        try clear hcz25_2
        try clear hcz25_3
        try clear hcz25_4
        try clear hcz27_0
        try clear hcz27_1
        try clear hcz27_2
        try clear hcz27_3
        try clear hcz27_4
        try clear hcz28_0
        try clear hcz28_1
        try clear hcz28_2
        try clear hcz28_3
        try clear hcz28_4
        try clear hcz30_0
        try clear hcz30_1
        try clear hcz30_2
        try clear hcz30_3
        try clear hcz30_4
        try clear hcz31_0
        try clear hcz31_1
        try clear hcz31_2
        try clear hcz31_3
        try clear hcz31_4
        try clear hcz9_0
        try clear hcz9_1
        try clear hcz9_2
        try clear hcz9_3
        try clear hcz9_4
        try clear hfz12_0
        try clear hfz12_1
        try clear hfz12_2
        try clear hfz12_3
        try clear hfz12_4
        try clear hfz18_0
        try clear hfz18_1
        try clear hfz18_2
        try clear hfz18_3
        try clear hfz18_4
        try clear hfz19_0
        try clear hfz19_1
        try clear hfz19_2
        try clear hfz19_3
        try clear hfz19_4
        try clear hfz21_0
        try clear hfz21_1
        try clear hfz21_2
        try clear hfz21_3
        try clear hfz21_4
        try clear hfz22_0
        try clear hfz22_1
        try clear hfz22_2
        try clear hfz22_3
        try clear hfz22_4
        try clear hfz24_0
        try clear hfz24_1
        try clear hfz24_2
        try clear hfz24_3
        try clear hfz24_4
        try clear hfz25_0
        try clear hfz25_1
        try clear hfz25_2
        try clear hfz25_3
        try clear hfz25_4
        try clear hfz27_0
        try clear hfz27_1
        try clear hfz27_2
        try clear hfz27_3
        try clear hfz27_4
        try clear hfz28_0
        try clear hfz28_1
        try clear hfz28_2
        try clear hfz28_3
        try clear hfz28_4
        try clear hfz30_0
        try clear hfz30_1
        try clear hfz30_2
        try clear hfz30_3
        try clear hfz30_4
        try clear hfz31_0
        try clear hfz31_1
        try clear hfz31_2
        try clear hfz31_3
        try clear hfz31_4
        try clear hfz9_0
        try clear hfz9_1
        try clear hfz9_2
        try clear hfz9_3
        try clear hfz9_4
        try clear hx101_0
        try clear hx101_1
        try clear hx101_2
        try clear hx101_3
        try clear hx101_4
        try clear hx103_0
        try clear hx103_1
        try clear hx103_2
        try clear hx103_3
        try clear hx103_4
        try clear p101
        try clear p103
        try clear p2
        try clear q101
        try clear q103
        obtain ⟨kq, x65_6, rfl, HA, HJ6, BK102, BK104, HB⟩ := hcut
        cases kq with
        | zero => exact absurd HA.out (by simp [spec_l09Same.j1])
        | succ kj6 =>
         have H := HA.out
         clear HA
         simp only [spec_l09Same.j1] at H
         by_cases c32 : x65_6 = true
         ·subst c32
          have H1 : (some false) = some r := by rw [if_pos rfl] at H; exact H
          clear H
          have H := H1
          clear H1
          obtain rfl := Option.some.inj H
          go_wp2
          repeat (go_quiet (fail); try go_wp2)
          go_ret
          exact ⟨by first | rfl | (simp [errW_none, errW_some] <;> rfl) | (simp [*, errW_none, errW_some] <;> rfl), by repeat (first | (with_reducible first | exact HB.out | apply qA_ | apply qD_ | apply qE_ | refine below_set ?_ GE102.out | refine below_set ?_ GE104.out) | exact HB.out)⟩
         ·replace c32 := Bool.eq_false_iff.mpr c32
          subst c32
          have H1 : (spec_l09Same.l1 kj6 l0 l1 x5_1 0 ((rd_T33 l0 x5_1).f0) ((rd_T33 l0 x5_1).f1) ((rd_T33 l0 x5_1).f2) ((rd_T33 l0 x5_1).f3) ((rd_T33 l0 x5_1).f4) ((rd_T33 l1 x5_1).f0) ((rd_T33 l1 x5_1).f1) ((rd_T33 l1 x5_1).f2) ((rd_T33 l1 x5_1).f3) ((rd_T33 l1 x5_1).f4)) = some r := by rw [if_neg (show ¬ (false = true) by decide)] at H; exact H
          clear H
          have H := H1
          clear H1
          have H' := qM_ H
          clear H
          go_wp2
          repeat (go_quiet (fail); try go_wp2)
          go_loopg [8] kj6 (fun kq v8 w' => ∃ (x8_3 : Int), v8 = .int .i64 x8_3 ∧ Aside0 (spec_l09Same.l1 kq l0 l1 x5_1 x8_3 ((rd_T33 l0 x5_1).f0) ((rd_T33 l0 x5_1).f1) ((rd_T33 l0 x5_1).f2) ((rd_T33 l0 x5_1).f3) ((rd_T33 l0 x5_1).f4) ((rd_T33 l1 x5_1).f0) ((rd_T33 l1 x5_1).f1) ((rd_T33 l1 x5_1).f2) ((rd_T33 l1 x5_1).f3) ((rd_T33 l1 x5_1).f4) = some r) ∧ Aside0 (kq ≤ kj6) ∧ Aside0 (w'.heap[gb102]? = some (.cells #[.string ((rd_T33 l0 x5_1).f0), .int .i64 ((rd_T33 l0 x5_1).f1), .int .i64 ((rd_T33 l0 x5_1).f2), (.slice A101_3 ((rd_T33 l0 x5_1).f3).length c101_3), (.slice A101_4 ((rd_T33 l0 x5_1).f4).length c101_4)] 33 (0, 0))) ∧ Aside0 (w'.heap[gb104]? = some (.cells #[.string ((rd_T33 l1 x5_1).f0), .int .i64 ((rd_T33 l1 x5_1).f1), .int .i64 ((rd_T33 l1 x5_1).f2), (.slice A103_3 ((rd_T33 l1 x5_1).f3).length c103_3), (.slice A103_4 ((rd_T33 l1 x5_1).f4).length c103_4)] 33 (0, 0))) ∧ Aside0 (Below w.heap.size w w'))
          case atStart => exact ⟨(0), (by first | rfl | (simp; done) | (simp [*]; done)), H', ⟨Nat.le_refl _⟩, ⟨by (with_reducible repeat (first | refine blk_drewN ?_ _ | refine blk_drew ?_ | refine blk_alloc ?_ _)); exact BK102.out⟩, ⟨by (with_reducible repeat (first | refine blk_drewN ?_ _ | refine blk_drew ?_ | refine blk_alloc ?_ _)); exact BK104.out⟩, ⟨by repeat (first | (with_reducible first | exact HB.out | apply qA_ | apply qD_ | apply qE_ | refine below_set ?_ GE102.out | refine below_set ?_ GE104.out) | exact HB.out)⟩⟩
          case round =>
           clear H'
           try clear c1
           try clear p1
           try clear q1
           try clear hx1
           try clear c2
           try clear p2
           try clear c3
           try clear c3b0
           try clear c3b1
           try clear c3b2
           try clear c4
           try clear c4b0
           try clear c5
           try clear c5b0
           try clear c6
           try clear c6b0
           try clear c10
           try clear p10
           try clear q10
           try clear hx10
           try clear c11
           try clear c13
           try clear c13b0
           try clear c13b1
           try clear c14
           try clear c14b0
           try clear c14b1
           try clear c15
           try clear c15b0
           try clear c15b1
           try clear c16
           try clear c16b0
           try clear c16b1
           try clear c16b2
           try clear c17
           try clear c20
           try clear c23
           try clear c26
           try clear c29
           try clear c32
           try clear hcz12_0
           try clear hcz12_1
           try clear hcz12_2
           try clear hcz12_3
           try clear hcz12_4
           try clear hcz18_0
           try clear hcz18_1
           try clear hcz18_2
           try clear hcz18_3
           try clear hcz18_4
           try clear hcz19_0
           try clear hcz19_1
           try clear hcz19_2
           try clear hcz19_3
           try clear hcz19_4
           try clear hcz21_0
           try clear hcz21_1
           try clear hcz21_2
           try clear hcz21_3
           try clear hcz21_4
           try clear hcz22_0
           try clear hcz22_1
           try clear hcz22_2
           try clear hcz22_3
           try clear hcz22_4
           try clear hcz24_0
           try clear hcz24_1
           try clear hcz24_2
           try clear hcz24_3
           try clear hcz24_4
           try clear hcz25_0
           try clear hcz25_1
           try clear hcz25_2
           try clear hcz25_3
           try clear hcz25_4
           try clear hcz27_0
           try clear hcz27_1
           try clear hcz27_2
           try clear hcz27_3
           try clear hcz27_4
           try clear hcz28_0
           try clear hcz28_1
           try clear hcz28_2
           try clear hcz28_3
           try clear hcz28_4
           try clear hcz30_0
           try clear hcz30_1
           try clear hcz30_2
           try clear hcz30_3
           try clear hcz30_4
           try clear hcz31_0
           try clear hcz31_1
           try clear hcz31_2
           try clear hcz31_3
           try clear hcz31_4
           try clear hcz9_0
           try clear hcz9_1
           try clear hcz9_2
           try clear hcz9_3
           try clear hcz9_4
           try clear hfz12_0
           try clear hfz12_1
           try clear hfz12_2
           try clear hfz12_3
           try clear hfz12_4
           try clear hfz18_0
           try clear hfz18_1
           try clear hfz18_2
           try clear hfz18_3
           try clear hfz18_4
           try clear hfz19_0
           try clear hfz19_1
           try clear hfz19_2
           try clear hfz19_3
           try clear hfz19_4
           try clear hfz21_0
           try clear hfz21_1
           try clear hfz21_2
           try clear hfz21_3
           try clear hfz21_4
           try clear hfz22_0
           try clear hfz22_1
           try clear hfz22_2
           try clear hfz22_3
           try clear hfz22_4
           try clear hfz24_0
           try clear hfz24_1
           try clear hfz24_2
           try clear hfz24_3
           try clear hfz24_4
           try clear hfz25_0
           try clear hfz25_1
           try clear hfz25_2
           try clear hfz25_3
           try clear hfz25_4
           try clear hfz27_0
           try clear hfz27_1
           try clear hfz27_2
           try clear hfz27_3
           try clear hfz27_4
           try clear hfz28_0
           try clear hfz28_1
           try clear hfz28_2
           try clear hfz28_3
           try clear hfz28_4
           try clear hfz30_0
           try clear hfz30_1
           try clear hfz30_2
           try clear hfz30_3
           try clear hfz30_4
           try clear hfz31_0
           try clear hfz31_1
           try clear hfz31_2
           try clear hfz31_3
           try clear hfz31_4
           try clear hfz9_0
           try clear hfz9_1
           try clear hfz9_2
           try clear hfz9_3
           try clear hfz9_4
           try clear hx101_0
           try clear hx101_1
           try clear hx101_2
           try clear hx101_3
           try clear hx101_4
           try clear hx103_0
           try clear hx103_1
           try clear hx103_2
           try clear hx103_3
           try clear hx103_4
           try clear p1
           try clear p10
           try clear p101
           try clear p103
           try clear p2
           try clear q1
           try clear q10
           try clear q101
           try clear q103
           obtain ⟨x8_3, rfl, HA, HK3, BK102, BK104, HB⟩ := hrel
           cases gk with
           | zero => exact absurd HA.out (by simp [spec_l09Same.l1])
           | succ k3 =>
            have H := HA.out
            clear HA
            simp only [spec_l09Same.l1] at H
            by_cases c33 : x8_3 < (((rd_T33 l0 x5_1).f3).length : Int)
            ·rw [if_pos c33] at H
             have c33b0 : decide (x8_3 < (((rd_T33 l0 x5_1).f3).length : Int)) = true := decide_eq_true c33
             clear c33
             by_cases c34 : 0 ≤ x8_3
             ·rw [if_pos c34] at H
              have c34b0 : decide (0 ≤ x8_3) = true := decide_eq_true c34
              clear c34
              by_cases c35 : x8_3 < (((rd_T33 l1 x5_1).f3).length : Int)
              ·rw [if_pos c35] at H
               have c35b0 : decide (x8_3 < (((rd_T33 l1 x5_1).f3).length : Int)) = true := decide_eq_true c35
               clear c35
               by_cases c36 : (!(((rd_T28 ((rd_T33 l0 x5_1).f3) x8_3).f0) == ((rd_T28 ((rd_T33 l1 x5_1).f3) x8_3).f0)) || (!(((rd_T28 ((rd_T33 l0 x5_1).f3) x8_3).f1) == ((rd_T28 ((rd_T33 l1 x5_1).f3) x8_3).f1)) || (!((((rd_T28 ((rd_T33 l0 x5_1).f3) x8_3).f2).toList) == (((rd_T28 ((rd_T33 l1 x5_1).f3) x8_3).f2).toList))))) = true
               ·rw [if_pos c36] at H
                have c36b0 : (!(((rd_T28 ((rd_T33 l0 x5_1).f3) x8_3).f0) == ((rd_T28 ((rd_T33 l1 x5_1).f3) x8_3).f0)) || (!(((rd_T28 ((rd_T33 l0 x5_1).f3) x8_3).f1) == ((rd_T28 ((rd_T33 l1 x5_1).f3) x8_3).f1)) || (!((((rd_T28 ((rd_T33 l0 x5_1).f3) x8_3).f2).toList) == (((rd_T28 ((rd_T33 l1 x5_1).f3) x8_3).f2).toList))))) = true := c36
                clear c36
                obtain rfl := Option.some.inj H
                have hnb37 := NB102_104.out
                have hnc37 := NB104_102.out
                have hcz38_0 : wr.cell? ⟨gb102, 0, none⟩ = some (.string ((rd_T33 l0 x5_1).f0)) := (qC_ BK102.out 0).trans rfl
                have hcz38_1 : wr.cell? ⟨gb102, 1, none⟩ = some (.int .i64 ((rd_T33 l0 x5_1).f1)) := (qC_ BK102.out 1).trans rfl
                have hcz38_2 : wr.cell? ⟨gb102, 2, none⟩ = some (.int .i64 ((rd_T33 l0 x5_1).f2)) := (qC_ BK102.out 2).trans rfl
                have hcz38_3 : wr.cell? ⟨gb102, 3, none⟩ = some (.slice A101_3 ((rd_T33 l0 x5_1).f3).length c101_3) := (qC_ BK102.out 3).trans rfl
                have hcz38_4 : wr.cell? ⟨gb102, 4, none⟩ = some (.slice A101_4 ((rd_T33 l0 x5_1).f4).length c101_4) := (qC_ BK102.out 4).trans rfl
                have hfz38_0 := qF_ BK102.out 0
                have hfz38_1 := qF_ BK102.out 1
                have hfz38_2 := qF_ BK102.out 2
                have hfz38_3 := qF_ BK102.out 3
                have hfz38_4 := qF_ BK102.out 4
                have p105 : 0 ≤ (x8_3 : Int) := qT_ (by first | (with_reducible assumption) | assumption)
                have q105 : x8_3 < (((rd_T33 l0 x5_1).f3).length : Int) := qT_ (by first | (with_reducible assumption) | assumption)
                obtain ⟨ad105, e105, hx105_0, hx105_1, hx105_2⟩ := at_T28 HR101_3.out x8_3 p105 q105
                cases e105
                replace hx105_0 := (HB.out.cell (qL_ w _ hx105_0)).trans hx105_0
                replace hx105_1 := (HB.out.cell (qL_ w _ hx105_1)).trans hx105_1
                replace hx105_2 := (HB.out.cell (qL_ w _ hx105_2)).trans hx105_2
                replace p105 := eq_true p105
                replace q105 := eq_true q105
                have hcz39_0 : wr.cell? ⟨gb104, 0, none⟩ = some (.string ((rd_T33 l1 x5_1).f0)) := (qC_ BK104.out 0).trans rfl
                have hcz39_1 : wr.cell? ⟨gb104, 1, none⟩ = some (.int .i64 ((rd_T33 l1 x5_1).f1)) := (qC_ BK104.out 1).trans rfl
                have hcz39_2 : wr.cell? ⟨gb104, 2, none⟩ = some (.int .i64 ((rd_T33 l1 x5_1).f2)) := (qC_ BK104.out 2).trans rfl
                have hcz39_3 : wr.cell? ⟨gb104, 3, none⟩ = some (.slice A103_3 ((rd_T33 l1 x5_1).f3).length c103_3) := (qC_ BK104.out 3).trans rfl
                have hcz39_4 : wr.cell? ⟨gb104, 4, none⟩ = some (.slice A103_4 ((rd_T33 l1 x5_1).f4).length c103_4) := (qC_ BK104.out 4).trans rfl
                have hfz39_0 := qF_ BK104.out 0
                have hfz39_1 := qF_ BK104.out 1
                have hfz39_2 := qF_ BK104.out 2
                have hfz39_3 := qF_ BK104.out 3
                have hfz39_4 := qF_ BK104.out 4
                have p106 : 0 ≤ (x8_3 : Int) := qT_ (by first | (with_reducible assumption) | assumption)
                have q106 : x8_3 < (((rd_T33 l1 x5_1).f3).length : Int) := qT_ (by first | (with_reducible assumption) | assumption)
                obtain ⟨ad106, e106, hx106_0, hx106_1, hx106_2⟩ := at_T28 HR103_3.out x8_3 p106 q106
                cases e106
                replace hx106_0 := (HB.out.cell (qL_ w _ hx106_0)).trans hx106_0
                replace hx106_1 := (HB.out.cell (qL_ w _ hx106_1)).trans hx106_1
                replace hx106_2 := (HB.out.cell (qL_ w _ hx106_2)).trans hx106_2
                replace p106 := eq_true p106
                replace q106 := eq_true q106
                go_wp2
                repeat (go_quiet (fail); try go_wp2)
                go_ret
                exact ⟨by first | rfl | (simp [errW_none, errW_some] <;> rfl) | (simp [*, errW_none, errW_some] <;> rfl), by repeat (first | (with_reducible first | exact HB.out | apply qA_ | apply qD_ | apply qE_ | refine below_set ?_ GE102.out | refine below_set ?_ GE104.out) | exact HB.out)⟩
               ·rw [if_neg c36] at H
                have c36b0 : (!(((rd_T28 ((rd_T33 l0 x5_1).f3) x8_3).f0) == ((rd_T28 ((rd_T33 l1 x5_1).f3) x8_3).f0)) || (!(((rd_T28 ((rd_T33 l0 x5_1).f3) x8_3).f1) == ((rd_T28 ((rd_T33 l1 x5_1).f3) x8_3).f1)) || (!((((rd_T28 ((rd_T33 l0 x5_1).f3) x8_3).f2).toList) == (((rd_T28 ((rd_T33 l1 x5_1).f3) x8_3).f2).toList))))) = false := by simpa using c36
                clear c36
                have H' := qM_ H
                clear H
                have hnb40 := NB102_104.out
                have hnc40 := NB104_102.out
                have hcz41_0 : wr.cell? ⟨gb102, 0, none⟩ = some (.string ((rd_T33 l0 x5_1).f0)) := (qC_ BK102.out 0).trans rfl
                have hcz41_1 : wr.cell? ⟨gb102, 1, none⟩ = some (.int .i64 ((rd_T33 l0 x5_1).f1)) := (qC_ BK102.out 1).trans rfl
                have hcz41_2 : wr.cell? ⟨gb102, 2, none⟩ = some (.int .i64 ((rd_T33 l0 x5_1).f2)) := (qC_ BK102.out 2).trans rfl
                have hcz41_3 : wr.cell? ⟨gb102, 3, none⟩ = some (.slice A101_3 ((rd_T33 l0 x5_1).f3).length c101_3) := (qC_ BK102.out 3).trans rfl
                have hcz41_4 : wr.cell? ⟨gb102, 4, none⟩ = some (.slice A101_4 ((rd_T33 l0 x5_1).f4).length c101_4) := (qC_ BK102.out 4).trans rfl
                have hfz41_0 := qF_ BK102.out 0
                have hfz41_1 := qF_ BK102.out 1
                have hfz41_2 := qF_ BK102.out 2
                have hfz41_3 := qF_ BK102.out 3
                have hfz41_4 := qF_ BK102.out 4
                have p105 : 0 ≤ (x8_3 : Int) := qT_ (by first | (with_reducible assumption) | assumption)
                have q105 : x8_3 < (((rd_T33 l0 x5_1).f3).length : Int) := qT_ (by first | (with_reducible assumption) | assumption)
                obtain ⟨ad105, e105, hx105_0, hx105_1, hx105_2⟩ := at_T28 HR101_3.out x8_3 p105 q105
                cases e105
                replace hx105_0 := (HB.out.cell (qL_ w _ hx105_0)).trans hx105_0
                replace hx105_1 := (HB.out.cell (qL_ w _ hx105_1)).trans hx105_1
                replace hx105_2 := (HB.out.cell (qL_ w _ hx105_2)).trans hx105_2
                replace p105 := eq_true p105
                replace q105 := eq_true q105
                have hcz42_0 : wr.cell? ⟨gb104, 0, none⟩ = some (.string ((rd_T33 l1 x5_1).f0)) := (qC_ BK104.out 0).trans rfl
                have hcz42_1 : wr.cell? ⟨gb104, 1, none⟩ = some (.int .i64 ((rd_T33 l1 x5_1).f1)) := (qC_ BK104.out 1).trans rfl
                have hcz42_2 : wr.cell? ⟨gb104, 2, none⟩ = some (.int .i64 ((rd_T33 l1 x5_1).f2)) := (qC_ BK104.out 2).trans rfl
                have hcz42_3 : wr.cell? ⟨gb104, 3, none⟩ = some (.slice A103_3 ((rd_T33 l1 x5_1).f3).length c103_3) := (qC_ BK104.out 3).trans rfl
                have hcz42_4 : wr.cell? ⟨gb104, 4, none⟩ = some (.slice A103_4 ((rd_T33 l1 x5_1).f4).length c103_4) := (qC_ BK104.out 4).trans rfl
                have hfz42_0 := qF_ BK104.out 0
                have hfz42_1 := qF_ BK104.out 1
                have hfz42_2 := qF_ BK104.out 2
                have hfz42_3 := qF_ BK104.out 3
                have hfz42_4 := qF_ BK104.out 4
                have p106 : 0 ≤ (x8_3 : Int) := qT_ (by first | (with_reducible assumption) | assumption)
                have q106 : x8_3 < (((rd_T33 l1 x5_1).f3).length : Int) := qT_ (by first | (with_reducible assumption) | assumption)
                obtain ⟨ad106, e106, hx106_0, hx106_1, hx106_2⟩ := at_T28 HR103_3.out x8_3 p106 q106
                cases e106
                replace hx106_0 := (HB.out.cell (qL_ w _ hx106_0)).trans hx106_0
                replace hx106_1 := (HB.out.cell (qL_ w _ hx106_1)).trans hx106_1
                replace hx106_2 := (HB.out.cell (qL_ w _ hx106_2)).trans hx106_2
                replace p106 := eq_true p106
                replace q106 := eq_true q106
                go_wp2
                repeat (go_quiet (fail); try go_wp2)
                go_roundg k3
                case measure => have := HK1.out; have := HJ6.out; have := HK3.out; omega
                case rel => exact ⟨(wrap64 (x8_3 + 1)), (by first | rfl | (simp; done) | (simp [*]; done)), H', ⟨by have := HK1.out; have := HJ6.out; have := HK3.out; omega⟩, ⟨by (with_reducible repeat (first | refine blk_drewN ?_ _ | refine blk_drew ?_ | refine blk_alloc ?_ _)); exact BK102.out⟩, ⟨by (with_reducible repeat (first | refine blk_drewN ?_ _ | refine blk_drew ?_ | refine blk_alloc ?_ _)); exact BK104.out⟩, ⟨by repeat (first | (with_reducible first | exact HB.out | apply qA_ | apply qD_ | apply qE_ | refine below_set ?_ GE102.out | refine below_set ?_ GE104.out) | exact HB.out)⟩⟩
              ·rw [if_neg c35] at H
               exact absurd H (by simp)
             ·rw [if_neg c34] at H
              exact absurd H (by simp)
            ·rw [if_neg c33] at H
             have c33b0 : decide (x8_3 < (((rd_T33 l0 x5_1).f3).length : Int)) = false := decide_eq_false c33
             clear c33
             have H' := qM_ H
             clear H
             have hnb43 := NB102_104.out
             have hnc43 := NB104_102.out
             have hcz44_0 : wr.cell? ⟨gb102, 0, none⟩ = some (.string ((rd_T33 l0 x5_1).f0)) := (qC_ BK102.out 0).trans rfl
             have hcz44_1 : wr.cell? ⟨gb102, 1, none⟩ = some (.int .i64 ((rd_T33 l0 x5_1).f1)) := (qC_ BK102.out 1).trans rfl
             have hcz44_2 : wr.cell? ⟨gb102, 2, none⟩ = some (.int .i64 ((rd_T33 l0 x5_1).f2)) := (qC_ BK102.out 2).trans rfl
             have hcz44_3 : wr.cell? ⟨gb102, 3, none⟩ = some (.slice A101_3 ((rd_T33 l0 x5_1).f3).length c101_3) := (qC_ BK102.out 3).trans rfl
             have hcz44_4 : wr.cell? ⟨gb102, 4, none⟩ = some (.slice A101_4 ((rd_T33 l0 x5_1).f4).length c101_4) := (qC_ BK102.out 4).trans rfl
             have hfz44_0 := qF_ BK102.out 0
             have hfz44_1 := qF_ BK102.out 1
             have hfz44_2 := qF_ BK102.out 2
             have hfz44_3 := qF_ BK102.out 3
             have hfz44_4 := qF_ BK102.out 4
             go_wp2
             repeat (go_quiet (fail); try go_wp2)
             go_loopg [9] k3 (fun kq v9 w' => ∃ (x9_4 : Int), v9 = .int .i64 x9_4 ∧ Aside0 (spec_l09Same.l2 kq l0 l1 x5_1 x9_4 ((rd_T33 l0 x5_1).f0) ((rd_T33 l0 x5_1).f1) ((rd_T33 l0 x5_1).f2) ((rd_T33 l0 x5_1).f3) ((rd_T33 l0 x5_1).f4) ((rd_T33 l1 x5_1).f0) ((rd_T33 l1 x5_1).f1) ((rd_T33 l1 x5_1).f2) ((rd_T33 l1 x5_1).f3) ((rd_T33 l1 x5_1).f4) = some r) ∧ Aside0 (kq ≤ k3) ∧ Aside0 (w'.heap[gb102]? = some (.cells #[.string ((rd_T33 l0 x5_1).f0), .int .i64 ((rd_T33 l0 x5_1).f1), .int .i64 ((rd_T33 l0 x5_1).f2), (.slice A101_3 ((rd_T33 l0 x5_1).f3).length c101_3), (.slice A101_4 ((rd_T33 l0 x5_1).f4).length c101_4)] 33 (0, 0))) ∧ Aside0 (w'.heap[gb104]? = some (.cells #[.string ((rd_T33 l1 x5_1).f0), .int .i64 ((rd_T33 l1 x5_1).f1), .int .i64 ((rd_T33 l1 x5_1).f2), (.slice A103_3 ((rd_T33 l1 x5_1).f3).length c103_3), (.slice A103_4 ((rd_T33 l1 x5_1).f4).length c103_4)] 33 (0, 0))) ∧ Aside0 (Below w.heap.size w w'))
             case atStart => exact ⟨(0), (by first | rfl | (simp; done) | (simp [*]; done)), H', ⟨Nat.le_refl _⟩, ⟨by (with_reducible repeat (first | refine blk_drewN ?_ _ | refine blk_drew ?_ | refine blk_alloc ?_ _)); exact BK102.out⟩, ⟨by (with_reducible repeat (first | refine blk_drewN ?_ _ | refine blk_drew ?_ | refine blk_alloc ?_ _)); exact BK104.out⟩, ⟨by repeat (first | (with_reducible first | exact HB.out | apply qA_ | apply qD_ | apply qE_ | refine below_set ?_ GE102.out | refine below_set ?_ GE104.out) | exact HB.out)⟩⟩
             case round =>
              clear H'
              try clear c1
              try clear p1
              try clear q1
              try clear hx1
              try clear c2
              try clear p2
              try clear c3
              try clear c3b0
              try clear c3b1
              try clear c3b2
              try clear c4
              try clear c4b0
              try clear c5
              try clear c5b0
              try clear c6
              try clear c6b0
              try clear p6
              try clear c10
              try clear p10
              try clear q10
              try clear hx10
              try clear c11
              try clear c13
              try clear c13b0
              try clear c13b1
              try clear c14
              try clear c14b0
              try clear c14b1
              try clear c15
              try clear c15b0
              try clear c15b1
              try clear c16
              try clear c16b0
              try clear c16b1
              try clear c16b2
              try clear c17
              try clear c20
              try clear c23
              try clear c26
              try clear c29
              try clear c32
              try clear c33
              try clear c33b0
              try clear c34
              try clear c34b0
              try clear c35
              try clear c35b0
              try clear c36
              try clear c36b0
              try clear c37
              try clear c40
              try clear c43
              try clear hcz12_0
              try clear hcz12_1
              try clear hcz12_2
              try clear hcz12_3
              try clear hcz12_4
              try clear hcz18_0
              try clear hcz18_1
              try clear hcz18_2
              try clear hcz18_3
              try clear hcz18_4
              try clear hcz19_0
              try clear hcz19_1
              try clear hcz19_2
              try clear hcz19_3
              try clear hcz19_4
              try clear hcz21_0
              try clear hcz21_1
              try clear hcz21_2
              try clear hcz21_3
              try clear hcz21_4
              try clear hcz22_0
              try clear hcz22_1
              try clear hcz22_2
              try clear hcz22_3
              try clear hcz22_4
              try clear hcz24_0
              try clear hcz24_1
              try clear hcz24_2
              try clear hcz24_3
              try clear hcz24_4
              try clear hcz25_0
              try clear hcz25_1
              try clear hcz25_2
              try clear hcz25_3
              try clear hcz25_4
              try clear hcz27_0
              try clear hcz27_1
              try clear hcz27_2
              try clear hcz27_3
              try clear hcz27_4
              try clear hcz28_0
              try clear hcz28_1
              try clear hcz28_2
              try clear hcz28_3
              try clear hcz28_4
              try clear hcz30_0
              try clear hcz30_1
              try clear hcz30_2
              try clear hcz30_3
              try clear hcz30_4
              try clear hcz31_0
              try clear hcz31_1
              try clear hcz31_2
              try clear hcz31_3
              try clear hcz31_4
              try clear hcz38_0
              try clear hcz38_1
              try clear hcz38_2
              try clear hcz38_3
              try clear hcz38_4
              try clear hcz39_0
              try clear hcz39_1
              try clear hcz39_2
              try clear hcz39_3
              try clear hcz39_4
              try clear hcz41_0
              try clear hcz41_1
              try clear hcz41_2
              try clear hcz41_3
              try clear hcz41_4
              try clear hcz42_0
              try clear hcz42_1
              try clear hcz42_2
              try clear hcz42_3
              try clear hcz42_4
              try clear hcz44_0
              try clear hcz44_1
              try clear hcz44_2
              try clear hcz44_3
              try clear hcz44_4
              try clear hcz9_0
              try clear hcz9_1
              try clear hcz9_2
              try clear hcz9_3
              try clear hcz9_4
              try clear hfz12_0
              try clear hfz12_1
              try clear hfz12_2
              try clear hfz12_3
              try clear hfz12_4
              try clear hfz18_0
              try clear hfz18_1
              try clear hfz18_2
              try clear hfz18_3
              try clear hfz18_4
              try clear hfz19_0
              try clear hfz19_1
              try clear hfz19_2
              try clear hfz19_3
              try clear hfz19_4
              try clear hfz21_0
              try clear hfz21_1
              try clear hfz21_2
              try clear hfz21_3
              try clear hfz21_4
              try clear hfz22_0
              try clear hfz22_1
              try clear hfz22_2
              try clear hfz22_3
              try clear hfz22_4
              try clear hfz24_0
              try clear hfz24_1
              try clear hfz24_2
              try clear hfz24_3
              try clear hfz24_4
              try clear hfz25_0
              try clear hfz25_1
              try clear hfz25_2
              try clear hfz25_3
              try clear hfz25_4
              try clear hfz27_0
              try clear hfz27_1
              try clear hfz27_2
              try clear hfz27_3
              try clear hfz27_4
              try clear hfz28_0
              try clear hfz28_1
              try clear hfz28_2
              try clear hfz28_3
              try clear hfz28_4
              try clear hfz30_0
              try clear hfz30_1
              try clear hfz30_2
              try clear hfz30_3
              try clear hfz30_4
              try clear hfz31_0
              try clear hfz31_1
              try clear hfz31_2
              try clear hfz31_3
              try clear hfz31_4
              try clear hfz38_0
              try clear hfz38_1
              try clear hfz38_2
              try clear hfz38_3
              try clear hfz38_4
              try clear hfz39_0
              try clear hfz39_1
              try clear hfz39_2
              try clear hfz39_3
              try clear hfz39_4
              try clear hfz41_0
              try clear hfz41_1
              try clear hfz41_2
              try clear hfz41_3
              try clear hfz41_4
              try clear hfz42_0
              try clear hfz42_1
              try clear hfz42_2
              try clear hfz42_3
              try clear hfz42_4
              try clear hfz44_0
              try clear hfz44_1
              try clear hfz44_2
              try clear hfz44_3
              try clear hfz44_4
              try clear hfz9_0
              try clear hfz9_1
              try clear hfz9_2
              try clear hfz9_3
              try clear hfz9_4
              try clear hx101_0
              try clear hx101_1
              try clear hx101_2
              try clear hx101_3
              try clear hx101_4
              try clear hx103_0
              try clear hx103_1
              try clear hx103_2
              try clear hx103_3
              try clear hx103_4
              try clear hx105_0
              try clear hx105_1
              try clear hx105_2
              try clear hx106_0
              try clear hx106_1
              try clear hx106_2
              try clear p1
              try clear p10
              try clear p101
              try clear p103
              try clear p105
              try clear p106
              try clear p2
              try clear q1
              try clear q10
              try clear q101
              try clear q103
              try clear q105
              try clear q106
              obtain ⟨x9_4, rfl, HA, HK4, BK102, BK104, HB⟩ := hrel
              cases gk with
              | zero => exact absurd HA.out (by simp [spec_l09Same.l2])
              | succ k4 =>
               have H := HA.out
               clear HA
               simp only [spec_l09Same.l2] at H
               by_cases c45 : x9_4 < (((rd_T33 l0 x5_1).f4).length : Int)
               ·rw [if_pos c45] at H
                have c45b0 : decide (x9_4 < (((rd_T33 l0 x5_1).f4).length : Int)) = true := decide_eq_true c45
                clear c45
                by_cases c46 : 0 ≤ x9_4
                ·rw [if_pos c46] at H
                 have c46b0 : decide (0 ≤ x9_4) = true := decide_eq_true c46
                 clear c46
                 by_cases c47 : x9_4 < (((rd_T33 l1 x5_1).f4).length : Int)
                 ·rw [if_pos c47] at H
                  have c47b0 : decide (x9_4 < (((rd_T33 l1 x5_1).f4).length : Int)) = true := decide_eq_true c47
                  clear c47
                  by_cases c48 : (rdOf ByteArray.empty ((rd_T33 l0 x5_1).f4) x9_4).toList = (rdOf ByteArray.empty ((rd_T33 l1 x5_1).f4) x9_4).toList
                  ·rw [if_pos c48] at H
                   have c48b0 : ((rdOf ByteArray.empty ((rd_T33 l0 x5_1).f4) x9_4).toList == (rdOf ByteArray.empty ((rd_T33 l1 x5_1).f4) x9_4).toList) = true := beq_iff_eq.mpr c48
                   have c48b1 : ((rdOf ByteArray.empty ((rd_T33 l0 x5_1).f4) x9_4).toList != (rdOf ByteArray.empty ((rd_T33 l1 x5_1).f4) x9_4).toList) = false := bne_eq_false_iff_eq.mpr c48
                   clear c48
                   have H' := qM_ H
                   clear H
                   have hnb49 := NB102_104.out
                   have hnc49 := NB104_102.out
                   have hcz50_0 : wr.cell? ⟨gb102, 0, none⟩ = some (.string ((rd_T33 l0 x5_1).f0)) := (qC_ BK102.out 0).trans rfl
                   have hcz50_1 : wr.cell? ⟨gb102, 1, none⟩ = some (.int .i64 ((rd_T33 l0 x5_1).f1)) := (qC_ BK102.out 1).trans rfl
                   have hcz50_2 : wr.cell? ⟨gb102, 2, none⟩ = some (.int .i64 ((rd_T33 l0 x5_1).f2)) := (qC_ BK102.out 2).trans rfl
                   have hcz50_3 : wr.cell? ⟨gb102, 3, none⟩ = some (.slice A101_3 ((rd_T33 l0 x5_1).f3).length c101_3) := (qC_ BK102.out 3).trans rfl
                   have hcz50_4 : wr.cell? ⟨gb102, 4, none⟩ = some (.slice A101_4 ((rd_T33 l0 x5_1).f4).length c101_4) := (qC_ BK102.out 4).trans rfl
                   have hfz50_0 := qF_ BK102.out 0
                   have hfz50_1 := qF_ BK102.out 1
                   have hfz50_2 := qF_ BK102.out 2
                   have hfz50_3 := qF_ BK102.out 3
                   have hfz50_4 := qF_ BK102.out 4
                   have p107 : 0 ≤ (x9_4 : Int) := qT_ (by first | (with_reducible assumption) | assumption)
                   have q107 : x9_4 < (((rd_T33 l0 x5_1).f4).length : Int) := qT_ (by first | (with_reducible assumption) | assumption)
                   obtain ⟨ad107, e107, hx107_0⟩ := Kd.at_string HR101_4.out x9_4 p107 q107
                   cases e107
                   replace hx107_0 := (HB.out.cell (qL_ w _ hx107_0)).trans hx107_0
                   replace p107 := eq_true p107
                   replace q107 := eq_true q107
                   have hcz51_0 : wr.cell? ⟨gb104, 0, none⟩ = some (.string ((rd_T33 l1 x5_1).f0)) := (qC_ BK104.out 0).trans rfl
                   have hcz51_1 : wr.cell? ⟨gb104, 1, none⟩ = some (.int .i64 ((rd_T33 l1 x5_1).f1)) := (qC_ BK104.out 1).trans rfl
                   have hcz51_2 : wr.cell? ⟨gb104, 2, none⟩ = some (.int .i64 ((rd_T33 l1 x5_1).f2)) := (qC_ BK104.out 2).trans rfl
                   have hcz51_3 : wr.cell? ⟨gb104, 3, none⟩ = some (.slice A103_3 ((rd_T33 l1 x5_1).f3).length c103_3) := (qC_ BK104.out 3).trans rfl
                   have hcz51_4 : wr.cell? ⟨gb104, 4, none⟩ = some (.slice A103_4 ((rd_T33 l1 x5_1).f4).length c103_4) := (qC_ BK104.out 4).trans rfl
                   have hfz51_0 := qF_ BK104.out 0
                   have hfz51_1 := qF_ BK104.out 1
                   have hfz51_2 := qF_ BK104.out 2
                   have hfz51_3 := qF_ BK104.out 3
                   have hfz51_4 := qF_ BK104.out 4
                   have p108 : 0 ≤ (x9_4 : Int) := qT_ (by first | (with_reducible assumption) | assumption)
                   have q108 : x9_4 < (((rd_T33 l1 x5_1).f4).length : Int) := qT_ (by first | (with_reducible assumption) | assumption)
                   obtain ⟨ad108, e108, hx108_0⟩ := Kd.at_string HR103_4.out x9_4 p108 q108
                   cases e108
                   replace hx108_0 := (HB.out.cell (qL_ w _ hx108_0)).trans hx108_0
                   replace p108 := eq_true p108
                   replace q108 := eq_true q108
                   go_wp2
                   repeat (go_quiet (fail); try go_wp2)
                   go_roundg k4
                   case measure => have := HK1.out; have := HJ6.out; have := HK3.out; have := HK4.out; omega
                   case rel => exact ⟨(wrap64 (x9_4 + 1)), (by first | rfl | (simp; done) | (simp [*]; done)), H', ⟨by have := HK1.out; have := HJ6.out; have := HK3.out; have := HK4.out; omega⟩, ⟨by (with_reducible repeat (first | refine blk_drewN ?_ _ | refine blk_drew ?_ | refine blk_alloc ?_ _)); exact BK102.out⟩, ⟨by (with_reducible repeat (first | refine blk_drewN ?_ _ | refine blk_drew ?_ | refine blk_alloc ?_ _)); exact BK104.out⟩, ⟨by repeat (first | (with_reducible first | exact HB.out | apply qA_ | apply qD_ | apply qE_ | refine below_set ?_ GE102.out | refine below_set ?_ GE104.out) | exact HB.out)⟩⟩
                  ·rw [if_neg c48] at H
                   have c48b0 : ((rdOf ByteArray.empty ((rd_T33 l0 x5_1).f4) x9_4).toList == (rdOf ByteArray.empty ((rd_T33 l1 x5_1).f4) x9_4).toList) = false := beq_eq_false_iff_ne.mpr c48
                   have c48b1 : ((rdOf ByteArray.empty ((rd_T33 l0 x5_1).f4) x9_4).toList != (rdOf ByteArray.empty ((rd_T33 l1 x5_1).f4) x9_4).toList) = true := bne_iff_ne.mpr c48
                   obtain rfl := Option.some.inj H
                   have hnb52 := NB102_104.out
                   have hnc52 := NB104_102.out
                   have hcz53_0 : wr.cell? ⟨gb102, 0, none⟩ = some (.string ((rd_T33 l0 x5_1).f0)) := (qC_ BK102.out 0).trans rfl
                   have hcz53_1 : wr.cell? ⟨gb102, 1, none⟩ = some (.int .i64 ((rd_T33 l0 x5_1).f1)) := (qC_ BK102.out 1).trans rfl
                   have hcz53_2 : wr.cell? ⟨gb102, 2, none⟩ = some (.int .i64 ((rd_T33 l0 x5_1).f2)) := (qC_ BK102.out 2).trans rfl
                   have hcz53_3 : wr.cell? ⟨gb102, 3, none⟩ = some (.slice A101_3 ((rd_T33 l0 x5_1).f3).length c101_3) := (qC_ BK102.out 3).trans rfl
                   have hcz53_4 : wr.cell? ⟨gb102, 4, none⟩ = some (.slice A101_4 ((rd_T33 l0 x5_1).f4).length c101_4) := (qC_ BK102.out 4).trans rfl
                   have hfz53_0 := qF_ BK102.out 0
                   have hfz53_1 := qF_ BK102.out 1
                   have hfz53_2 := qF_ BK102.out 2
                   have hfz53_3 := qF_ BK102.out 3
                   have hfz53_4 := qF_ BK102.out 4
                   have p107 : 0 ≤ (x9_4 : Int) := qT_ (by first | (with_reducible assumption) | assumption)
                   have q107 : x9_4 < (((rd_T33 l0 x5_1).f4).length : Int) := qT_ (by first | (with_reducible assumption) | assumption)
                   obtain ⟨ad107, e107, hx107_0⟩ := Kd.at_string HR101_4.out x9_4 p107 q107
                   cases e107
                   replace hx107_0 := (HB.out.cell (qL_ w _ hx107_0)).trans hx107_0
                   replace p107 := eq_true p107
                   replace q107 := eq_true q107
                   have hcz54_0 : wr.cell? ⟨gb104, 0, none⟩ = some (.string ((rd_T33 l1 x5_1).f0)) := (qC_ BK104.out 0).trans rfl
                   have hcz54_1 : wr.cell? ⟨gb104, 1, none⟩ = some (.int .i64 ((rd_T33 l1 x5_1).f1)) := (qC_ BK104.out 1).trans rfl
                   have hcz54_2 : wr.cell? ⟨gb104, 2, none⟩ = some (.int .i64 ((rd_T33 l1 x5_1).f2)) := (qC_ BK104.out 2).trans rfl
                   have hcz54_3 : wr.cell? ⟨gb104, 3, none⟩ = some (.slice A103_3 ((rd_T33 l1 x5_1).f3).length c103_3) := (qC_ BK104.out 3).trans rfl
                   have hcz54_4 : wr.cell? ⟨gb104, 4, none⟩ = some (.slice A103_4 ((rd_T33 l1 x5_1).f4).length c103_4) := (qC_ BK104.out 4).trans rfl
                   have hfz54_0 := qF_ BK104.out 0
                   have hfz54_1 := qF_ BK104.out 1
                   have hfz54_2 := qF_ BK104.out 2
                   have hfz54_3 := qF_ BK104.out 3
                   have hfz54_4 := qF_ BK104.out 4
                   have p108 : 0 ≤ (x9_4 : Int) := qT_ (by first | (with_reducible assumption) | assumption)
                   have q108 : x9_4 < (((rd_T33 l1 x5_1).f4).length : Int) := qT_ (by first | (with_reducible assumption) | assumption)
                   obtain ⟨ad108, e108, hx108_0⟩ := Kd.at_string HR103_4.out x9_4 p108 q108
                   cases e108
                   replace hx108_0 := (HB.out.cell (qL_ w _ hx108_0)).trans hx108_0
                   replace p108 := eq_true p108
                   replace q108 := eq_true q108
                   go_wp2
                   repeat (go_quiet (fail); try go_wp2)
                   go_ret
                   exact ⟨by first | rfl | (simp [errW_none, errW_some] <;> rfl) | (simp [*, errW_none, errW_some] <;> rfl), by repeat (first | (with_reducible first | exact HB.out | apply qA_ | apply qD_ | apply qE_ | refine below_set ?_ GE102.out | refine below_set ?_ GE104.out) | exact HB.out)⟩
                 ·rw [if_neg c47] at H
                  exact absurd H (by simp)
                ·rw [if_neg c46] at H
                 exact absurd H (by simp)
               ·rw [if_neg c45] at H
                have c45b0 : decide (x9_4 < (((rd_T33 l0 x5_1).f4).length : Int)) = false := decide_eq_false c45
                clear c45
                have H' := qM_ H
                clear H
                have hnb55 := NB102_104.out
                have hnc55 := NB104_102.out
                have hcz56_0 : wr.cell? ⟨gb102, 0, none⟩ = some (.string ((rd_T33 l0 x5_1).f0)) := (qC_ BK102.out 0).trans rfl
                have hcz56_1 : wr.cell? ⟨gb102, 1, none⟩ = some (.int .i64 ((rd_T33 l0 x5_1).f1)) := (qC_ BK102.out 1).trans rfl
                have hcz56_2 : wr.cell? ⟨gb102, 2, none⟩ = some (.int .i64 ((rd_T33 l0 x5_1).f2)) := (qC_ BK102.out 2).trans rfl
                have hcz56_3 : wr.cell? ⟨gb102, 3, none⟩ = some (.slice A101_3 ((rd_T33 l0 x5_1).f3).length c101_3) := (qC_ BK102.out 3).trans rfl
                have hcz56_4 : wr.cell? ⟨gb102, 4, none⟩ = some (.slice A101_4 ((rd_T33 l0 x5_1).f4).length c101_4) := (qC_ BK102.out 4).trans rfl
                have hfz56_0 := qF_ BK102.out 0
                have hfz56_1 := qF_ BK102.out 1
                have hfz56_2 := qF_ BK102.out 2
                have hfz56_3 := qF_ BK102.out 3
                have hfz56_4 := qF_ BK102.out 4
                go_wp2
                repeat (go_quiet (fail); try go_wp2)
                go_roundg k4
                case measure => have := HK1.out; have := HJ6.out; have := HK3.out; have := HK4.out; omega
                case rel => exact ⟨(wrap64 (x5_1 + 1)), (by first | rfl | (simp; done) | (simp [*]; done)), H', ⟨by have := HK1.out; have := HJ6.out; have := HK3.out; have := HK4.out; omega⟩, ⟨by repeat (first | (with_reducible first | exact HB.out | apply qA_ | apply qD_ | apply qE_ | refine below_set ?_ GE102.out | refine below_set ?_ GE104.out) | exact HB.out)⟩⟩
      ·rw [if_neg c6] at H
       exact absurd H (by simp)
     ·rw [if_neg c5] at H
      exact absurd H (by simp)
    ·rw [if_neg c4] at H
     have c4b0 : decide (x5_1 < (l0.length : Int)) = false := decide_eq_false c4
     clear c4
     obtain rfl := Option.some.inj H
     go_wp2
     repeat (go_quiet (fail); try go_wp2)
     go_ret
     exact ⟨by first | rfl | (simp [errW_none, errW_some] <;> rfl) | (simp [*, errW_none, errW_some] <;> rfl), by repeat (first | (with_reducible first | exact HB.out | apply qA_ | apply qD_ | apply qE_) | exact HB.out)⟩
 ·rw [if_neg c3] at H
  have c3b0 : ((l0.length : Int) == (l1.length : Int)) = false := beq_eq_false_iff_ne.mpr c3
  have c3b1 : ((l0.length : Int) != (l1.length : Int)) = true := bne_iff_ne.mpr c3
  have c3b2 : (l0.length == l1.length) = false := by first | simpa using c3 | (simp at c3 ⊢; omega)
  obtain rfl := Option.some.inj H
  go_enter Try.func38, Try.ntmps38
  go_wp2
  repeat (go_quiet (fail); try go_wp2)
  go_ret
  exact ⟨by first | rfl | (simp [errW_none, errW_some] <;> rfl) | (simp [*, errW_none, errW_some] <;> rfl), by repeat (first | (with_reducible first | exact HB.out | apply qA_ | apply qD_ | apply qE_) | exact HB.out)⟩

end Go.Proofs.Ytjaedjcdgeikpaa.P
