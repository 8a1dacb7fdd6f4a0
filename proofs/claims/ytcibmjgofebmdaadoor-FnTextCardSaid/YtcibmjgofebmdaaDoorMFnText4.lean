/- Part 4 of what the law FnText stands on; the last part ends with the law's row. No condition of mine. -/
import Derived.Test.YtcibmjgofebmdaaDoorMFnText1
import Derived.Test.YtcibmjgofebmdaaDoorMFnText3
import Derived.Test.YtcibmjgofebmdaaDoorMFnText2
import Derived.Lib.Strings
import Derived.Lib.IndexBytes
import Derived.Laws.BitsLemmas
import Derived.IntWalk
import Derived.Lib.ValidLaws
import Derived.Lib.SpaceUEq
namespace Go.Proofs.YtcibmjgofebmdaaDoor.P
open Go.RowKit Go.Proofs.YtcibmjgofebmdaaDoorW.PrintWords Go.Proofs.YtcibmjgofebmdaaDoorW.PrintLast Go.Proofs.YtcibmjgofebmdaaDoorW.PrintMore
attribute [local go_sem] max2_int min2_int max_two min_two max_three min_three max_four min_four   -- for this text's walks alone
set_option linter.unusedVariables false
set_option linter.unusedSimpArgs false

/-! ### utf8_AppendRune: function 19 -/
def utf8_AppendRune.f (k : Nat) (l0 : List Int) (a1 : Int) : Option (List Int) := if ((a1) % 4294967296) ≤ 127 then (if l0.length < 140737488355328 then (some (l0 ++ [(a1) % 256])) else (none)) else ((utf8_appendRuneNonASCII.f k l0 a1).bind fun t104 => (some t104))
theorem utf8_AppendRune.mono : ∀ a0 a1 k, LeO (utf8_AppendRune.f k a0 a1) (utf8_AppendRune.f (k + 1) a0 a1) := by
 intro a0 a1 k
 unfold utf8_AppendRune.f
 repeat' first
   | (with_reducible exact utf8_appendRuneNonASCII.mono _ _ _)
   | (with_reducible exact LeO.refl _)
   | (with_reducible exact LeO.none _)
   | (with_reducible refine LeO.ite ?_ ?_)
   | (with_reducible refine LeO.bind ?_ (fun _ => ?_))
   | exact utf8_appendRuneNonASCII.mono _ _ _
   | exact LeO.none _
   | refine LeO.ite ?_ ?_
   | refine LeO.bind ?_ (fun _ => ?_)
set_option maxHeartbeats 8000000 in
set_option maxRecDepth 100000 in
theorem utf8_AppendRune.calls (k : Nat) (P0_ : Nat → Prop) (u9000_ : Value) (l0 : List Int) (a1 : Int) (r : List Int) (w0 w : World) (hB : Below w0.heap.size w0 w) (ho0 : Kd.R (Kd.int .u8) 5 w w0.heap.size P0_ u9000_ l0) (h : utf8_AppendRune.f k l0 a1 = some r) :
  Calls Tryd.prog 19 #[u9000_, .int .i32 a1] w fun e w' => ∃ v0_ : Value, e = .returned (v0_) ∧ Kd.R (Kd.int .u8) 5 w' w0.heap.size (fun k_ => (P0_ k_ ∨ w.heap.size ≤ k_)) v0_ r ∧ Below w0.heap.size w0 w' ∧ Kept w w' (fun k_ => P0_ k_) := by
 have HO0 := Aside0.mk (show Kd.R (Kd.int .u8) 5 w w0.heap.size (fun k_ => (P0_ k_ ∨ w.heap.size ≤ k_)) u9000_ l0 from Kd.R_mono ho0 (fun k_ hk => (.inl hk)))
 have HK := Aside0.mk (Kept.refl w (fun k_ => P0_ k_))
 have HW0 := Aside0.mk hB.size
 have HB := Aside0.mk hB
 clear hB
 have H : (if ((a1) % 4294967296) ≤ 127 then (if l0.length < 140737488355328 then (some (l0 ++ [(a1) % 256])) else (none)) else ((utf8_appendRuneNonASCII.f k l0 a1).bind fun t104 => (some t104))) = some r := h
 clear h
 by_cases c3 : ((a1) % 4294967296) ≤ 127
 ·rw [if_pos c3] at H
  have c3b0 : decide (((a1) % 4294967296) ≤ 127) = true := decide_eq_true c3; clear c3; by_cases c4 : l0.length < 140737488355328
  ·rw [if_pos c4] at H
   have LMc4 := Aside0.mk c4; clear c4
   obtain ⟨y101, hy101⟩ : ∃ y_ : List Int, y_ = (l0 ++ [(a1) % 256]) := ⟨_, rfl⟩
   replace H : (some y101) = some r := qh_ hy101 H; have Ny101 := Aside0.mk hy101; clear hy101; obtain rfl := Option.some.inj H; go_enter Tryd.func19, Tryd.ntmps19
   go_wp2_with (first | ((with_reducible refine gate_builtin (b := .append) (xs := #[.tmp 8, .tmp 11]) rfl ?_); at_builtin; refine Kd.R_append (Kd.int .u8) (w0 := w0) w0.heap.size rfl (.tmp 8) (.tmp 11) 22 5 (.int .u8 0) 1 rfl Tryd.underlying22 info5 rfl (by decide) (by omega) u9000_ l0 ((a1) % 256) [.int .u8 ((a1) % 256)] (fun k_ => (P0_ k_ ∨ w.heap.size ≤ k_)) (fun _ => False) rfl rfl ?aP (fun _ hk => hk.elim) ?aF ?aO ?aB ?aS ?aL ?_; (case aP => exact rfl); (case aB => exact qBHB); (case aF => exact (fun k_ hk => (.inr (Nat.le_trans (by first | exact HK.out.1 | exact (show Kept w _ (fun k_ => P0_ k_) from by repeat (first | (with_reducible first | exact HK.out | apply Kept.alloc | apply Kept.drewN | apply Kept.drew) | exact HK.out)).1) hk)))); (case aO => exact (qr_ HO0)); (case aS => exact (below_size qBHB)); (case aL => have := LMc4.out; omega); intro v102 w5 ho hb hg hat; rw [← Ny101.out] at ho; replace HB := Aside0.mk (hb); replace HK := Aside0.mk (Kept.of_grown (S := (fun k_ => P0_ k_)) hg (by repeat (first | (with_reducible first | exact HK.out | apply Kept.alloc | apply Kept.drewN | apply Kept.drew) | exact HK.out)) (fun k_ e_ => (HO0.out.1 k_ e_))); have HO103 := Aside0.mk (ho); clear HO0; clear ho hb hg hat))
   go_ret; exact ⟨_, qee_, qr_ HO103, qBHB, by repeat (first | (with_reducible first | exact HK.out | apply Kept.alloc | apply Kept.drewN | apply Kept.drew) | exact HK.out)⟩
  ·rw [if_neg c4] at H
   exact absurd H (by simp)
 ·rw [if_neg c3] at H
  have c3b0 : decide (((a1) % 4294967296) ≤ 127) = false := decide_eq_false c3; clear c3; replace H := Option.bind_eq_some_iff.mp H; obtain ⟨t104, A60, H⟩ := H; have A6 := Aside0.mk A60; clear A60; obtain rfl := Option.some.inj H; obtain ⟨Ao7, co7, eo7⟩ := Kd.R_slice HO0.out; subst eo7; go_enter Tryd.func19, Tryd.ntmps19
  go_wp2_with (first | ((with_reducible refine gate_callee (f := 34) rfl ?_); refine goesL_ (some 15) rfl rfl Tryd.func34 qK rfl #[.slice Ao7 l0.length co7, .int .i32 a1] rfl qll_ ?_; (with_reducible refine (utf8_appendRuneNonASCII.calls k (fun k_ => some k_ = (.slice Ao7 l0.length co7 : Value).ownBlock) (.slice Ao7 l0.length co7) l0 a1 t104 w0 _ ?side1 ?side2 A6.out).mono ?_); (case side1 => exact qBHB); (case side2 => exact Kd.R_tight rfl HO0.out); rintro e w8 ⟨v105, rfl, ho0, hb, hkp⟩; refine ⟨_, rfl, ?_⟩; have HO106 := Aside0.mk (Kd.R_mono (ok' := fun k_ => (P0_ k_ ∨ w.heap.size ≤ k_)) ho0 (fun k_ hk_ => Or.elim hk_ (fun hs_ => (HO0.out.1 k_ (hs_).symm)) (fun hn_ => (.inr (Nat.le_trans (by first | exact HK.out.1 | exact (show Kept w _ (fun k_ => P0_ k_) from by repeat (first | (with_reducible first | exact HK.out | apply Kept.alloc | apply Kept.drewN | apply Kept.drew) | exact HK.out)).1) hn_))))); replace HK := Aside0.mk (Kept.then_ (S := (fun k_ => P0_ k_)) (by repeat (first | (with_reducible first | exact HK.out | apply Kept.alloc | apply Kept.drewN | apply Kept.drew) | exact HK.out)) hkp (fun k_ hs_ => (fun e_ => (HO0.out.1 k_ e_.symm)) hs_)); replace HB := Aside0.mk (hb); clear HO0; (try clear hb); (try clear hkp); (try clear ho0)))
  go_ret; exact ⟨_, qee_, qr_ HO106, qBHB, by repeat (first | (with_reducible first | exact HK.out | apply Kept.alloc | apply Kept.drewN | apply Kept.drew) | exact HK.out)⟩


/-! ### impl_TextOfRunes: function 7 -/
def impl_TextOfRunes.l0 : Nat → List Int → List Int → Int → Int → Option (ByteArray × Int)
 | 0, _, _, _, _ => none
 | k + 1, x4, x11, x12, x13 => if x13 < x12 then (if 0 ≤ x13 then (if x13 < (x11.length : Int) then ((impl_isRune.f (rd x11 x13)).bind fun t105 => (if t105 = true then ((utf8_AppendRune.f k x4 (wrap32 (rd x11 x13))).bind fun t106 => (impl_TextOfRunes.l0 k t106 x11 x12 (wrap64 (x13 + 1)))) else (some ((⟨#[]⟩ : ByteArray), 4)))) else (none)) else (none)) else (some (strOfNums x4, 0))
def impl_TextOfRunes.f (k : Nat) (l0 : List Int) : Option (ByteArray × Int) := if (l0.length : Int) > 4096 then (some ((⟨#[]⟩ : ByteArray), 2)) else (impl_TextOfRunes.l0 k (([] : List Int)) l0 (l0.length : Int) 0)
theorem impl_TextOfRunes.mono_l : ∀ k, (∀ y0 y1 y2 y3, LeO (impl_TextOfRunes.l0 k y0 y1 y2 y3) (impl_TextOfRunes.l0 (k + 1) y0 y1 y2 y3))
 | 0 => fun _ _ _ _ r h => by simp [impl_TextOfRunes.l0] at h
 | k + 1 => by
  have ih0 := impl_TextOfRunes.mono_l k
  ·intro y0 y1 y2 y3
   unfold impl_TextOfRunes.l0
   repeat' first
   | (with_reducible exact ih0 _ _ _ _)
   | (with_reducible exact utf8_AppendRune.mono _ _ _)
   | (with_reducible exact LeO.refl _)
   | (with_reducible exact LeO.none _)
   | (with_reducible refine LeO.ite ?_ ?_)
   | (with_reducible refine LeO.bind ?_ (fun _ => ?_))
   | exact ih0 _ _ _ _
   | exact utf8_AppendRune.mono _ _ _
   | exact LeO.none _
   | refine LeO.ite ?_ ?_
   | refine LeO.bind ?_ (fun _ => ?_)
theorem impl_TextOfRunes.mono : ∀ a0 k, LeO (impl_TextOfRunes.f k a0) (impl_TextOfRunes.f (k + 1) a0) := by
 intro a0 k
 have ih0 := impl_TextOfRunes.mono_l k
 unfold impl_TextOfRunes.f
 repeat' first
   | (with_reducible exact ih0 _ _ _ _)
   | (with_reducible exact utf8_AppendRune.mono _ _ _)
   | (with_reducible exact LeO.refl _)
   | (with_reducible exact LeO.none _)
   | (with_reducible refine LeO.ite ?_ ?_)
   | (with_reducible refine LeO.bind ?_ (fun _ => ?_))
   | exact ih0 _ _ _ _
   | exact utf8_AppendRune.mono _ _ _
   | exact LeO.none _
   | refine LeO.ite ?_ ?_
   | refine LeO.bind ?_ (fun _ => ?_)
set_option maxHeartbeats 8000000 in
set_option maxRecDepth 100000 in
theorem impl_TextOfRunes.calls (k : Nat) (A0 : Option Addr) (c0 : Nat) (l0 : List Int) (r1 : ByteArray) (r2 : Int) (w : World) (hr0 : Kd.C (Kd.int .i64) w A0 l0.length l0) (hc0 : l0.length ≤ c0) (h : impl_TextOfRunes.f k l0 = some (r1, r2)) :
  Calls Tryd.prog 7 #[.slice A0 l0.length c0] w fun e w' => e = .returned (.tuple #[.string r1, .int .i64 r2]) ∧ Below w.heap.size w w' := by
 have HR0 := Aside0.mk hr0
 have HC0 := Aside0.mk hc0
 clear hr0 hc0
 have HB := Aside0.mk (Below.refl w.heap.size w)
 have H : (if (l0.length : Int) > 4096 then (some ((⟨#[]⟩ : BA_), 2)) else (impl_TextOfRunes.l0 k (([] : List Int)) l0 (l0.length : Int) 0)) = some (r1, r2) := h
 clear h
 by_cases c2 : (l0.length : Int) > 4096
 ·rw [if_pos c2] at H
  have c2b0 : decide (4096 < (l0.length : Int)) = true := decide_eq_true c2; have c2b1 : decide (4096 < l0.length) = true := decide_eq_true (by omega); clear c2; simp only [Option.some.injEq, Prod.mk.injEq] at H; obtain ⟨rfl, rfl⟩ := H; go_enter Tryd.func7, Tryd.ntmps7
  go_wp2
  go_ret2
  exact ⟨qee_, qBHB⟩
 ·rw [if_neg c2] at H
  have c2b0 : decide (4096 < (l0.length : Int)) = false := decide_eq_false c2; have c2b1 : decide (4096 < l0.length) = false := decide_eq_false (by omega); clear c2
  obtain ⟨y101, hy101⟩ : ∃ y_ : List Int, y_ = (([] : List Int)) := ⟨_, rfl⟩
  replace H : (impl_TextOfRunes.l0 k y101 l0 (l0.length : Int) 0) = some (r1, r2) := qh_ hy101 H; have Ny101 := Aside0.mk hy101; clear hy101; have H' := Aside0.mk H; clear H; go_enter Tryd.func7, Tryd.ntmps7
  go_wp2_with (first | ((with_reducible refine gate_dst (N := 10) rfl ?_); refine Kd.R_lit (Kd.int .u8) _ 5 ?hg (N := 10) ?hd (xs := ([] : List Int)) (inner := []) (ok := fun _ => True) (okp := fun _ => True) ?hr ?hp (fun _ hk => hk) trivial (Below.refl _ _) (Nat.le_refl _) (by simp) ?_; (case hd => rfl); (case hg => rfl); (case hr => first | (go_simp; done) | (go_simp; rfl)); (case hp => exact (Reps.none _ _)); intro v102 w3 ho4 hb hg_ hnew_; clear hg_ hnew_; (first | rw [← Ny101.out] at ho4 | (simp only [Int.reduceToNat] at ho4; rw [← Ny101.out] at ho4)); have HO103 := Aside0.mk (Kd.R_lower ho4 (below_size qBHB)); replace HB := Aside0.mk (below_step qBHB hb); clear hb ho4))
  go_loopg [4, 13] k (fun kq v4 v13 w' => ∃ (x4_1 : List Int) (x13_1 : Int), v13 = .int .i64 x13_1 ∧ Aside0 (impl_TextOfRunes.l0 kq x4_1 l0 (l0.length : Int) x13_1 = some (r1, r2)) ∧ Aside0 (kq ≤ k) ∧ Aside0 (Kd.R (Kd.int .u8) 5 w' w.heap.size (fun _ => True) v4 x4_1) ∧ Aside0 (Below w.heap.size w w'))
  case atStart => exact ⟨(y101), (0), qff_, H', ⟨Nat.le_refl _⟩, ⟨qr_ HO103⟩, ⟨qBHB⟩⟩
  case round =>
   clear H'
   try clear c2
   try clear c2b0
   try clear c2b1
   try clear p2
   obtain ⟨x4_1, x13_1, rfl, HA, HK1, HO_4, HB⟩ := hrel
   cases gk with
   | zero => exact absurd HA.out (by simp [impl_TextOfRunes.l0])
   | succ k1 =>
    have H := HA.out; clear HA; simp only [impl_TextOfRunes.l0] at H; by_cases c5 : x13_1 < (l0.length : Int)
    ·rw [if_pos c5] at H
     have c5b0 : decide (x13_1 < (l0.length : Int)) = true := decide_eq_true c5; clear c5; by_cases c6 : 0 ≤ x13_1
     ·rw [if_pos c6] at H
      have c6b0 : decide (0 ≤ x13_1) = true := decide_eq_true c6; clear c6; by_cases c7 : x13_1 < (l0.length : Int)
      ·rw [if_pos c7] at H
       have c7b0 : decide (x13_1 < (l0.length : Int)) = true := decide_eq_true c7; clear c7; replace H := Option.bind_eq_some_iff.mp H; obtain ⟨t105, A80, H⟩ := H; have A8 := Aside0.mk A80; clear A80; by_cases c9 : t105 = true
       ·subst c9
        have H1 : ((utf8_AppendRune.f k1 x4_1 (wrap32 (rd l0 x13_1))).bind fun t106 => (impl_TextOfRunes.l0 k1 t106 l0 (l0.length : Int) (wrap64 (x13_1 + 1)))) = some (r1, r2) := by rw [if_pos rfl] at H; exact H
        clear H; have H := H1; clear H1; replace H := Option.bind_eq_some_iff.mp H; obtain ⟨t106, A100, H⟩ := H; have A10 := Aside0.mk A100; clear A100; have H' := Aside0.mk H; clear H; have p104 : 0 ≤ (x13_1 : Int) := qd_; have q104 : x13_1 < (l0.length : Int) := qd_; obtain ⟨ad104, e104, hx104_0⟩ := Kd.at_int HR0.out x13_1 p104 q104; cases e104; replace hx104_0 := (HB.out.cell (World.block_lt_of_cell? w _ hx104_0)).trans hx104_0; replace p104 := eq_true p104; replace q104 := eq_true q104
        go_wp2_with (first | ((with_reducible refine gate_callee (f := 18) rfl ?_); refine goesL_ (some 18) rfl rfl Tryd.func18 qK rfl #[.int .i64 (rd l0 x13_1)] rfl qll_ ?_; (with_reducible refine (impl_isRune.calls (rd l0 x13_1) true _ A8.out).mono ?_); rintro e w' ⟨rfl, ⟨nd, rfl⟩⟩; refine ⟨_, rfl, ?_⟩; obtain ⟨Ao11, co11, eo11⟩ := Kd.R_slice HO_4.out; subst eo11) | ((with_reducible refine gate_callee (f := 19) rfl ?_); refine goesL_ (some 23) rfl rfl Tryd.func19 qK rfl #[.slice Ao11 x4_1.length co11, .int .i32 (wrap32 (rd l0 x13_1))] rfl qll_ ?_; (with_reducible refine (utf8_AppendRune.calls k1 (fun k_ => some k_ = (.slice Ao11 x4_1.length co11 : Value).ownBlock) (.slice Ao11 x4_1.length co11) x4_1 (wrap32 (rd l0 x13_1)) t106 w _ ?side1 ?side2 A10.out).mono ?_); (case side1 => exact qBHB); (case side2 => exact Kd.R_tight rfl HO_4.out); rintro e w12 ⟨v107, rfl, ho0, hb, hkp⟩; refine ⟨_, rfl, ?_⟩; have HO108 := Aside0.mk (Kd.R_mono (ok' := fun k_ => True) ho0 (fun k_ hk_ => trivial)); replace HB := Aside0.mk (hb); clear HO_4; (try clear hb); (try clear hkp); (try clear ho0)))
        go_roundg k1
        case measure => have := HK1.out; omega
        case rel => exact ⟨(t106), (wrap64 (x13_1 + 1)), qff_, H', ⟨by have := HK1.out; omega⟩, ⟨qr_ HO108⟩, ⟨qBHB⟩⟩
       ·replace c9 := Bool.eq_false_iff.mpr c9
        subst c9
        have H1 : (some ((⟨#[]⟩ : BA_), 4)) = some (r1, r2) := by rw [if_neg (show ¬ (false = true) by decide)] at H; exact H
        clear H; have H := H1; clear H1; simp only [Option.some.injEq, Prod.mk.injEq] at H; obtain ⟨rfl, rfl⟩ := H; have p104 : 0 ≤ (x13_1 : Int) := qd_; have q104 : x13_1 < (l0.length : Int) := qd_; obtain ⟨ad104, e104, hx104_0⟩ := Kd.at_int HR0.out x13_1 p104 q104; cases e104; replace hx104_0 := (HB.out.cell (World.block_lt_of_cell? w _ hx104_0)).trans hx104_0; replace p104 := eq_true p104; replace q104 := eq_true q104
        go_wp2_with (first | ((with_reducible refine gate_callee (f := 18) rfl ?_); refine goesL_ (some 18) rfl rfl Tryd.func18 qK rfl #[.int .i64 (rd l0 x13_1)] rfl qll_ ?_; (with_reducible refine (impl_isRune.calls (rd l0 x13_1) false _ A8.out).mono ?_); rintro e w' ⟨rfl, ⟨nd, rfl⟩⟩; refine ⟨_, rfl, ?_⟩))
        go_ret2
        exact ⟨qee_, qBHB⟩
      ·rw [if_neg c7] at H
       exact absurd H (by simp)
     ·rw [if_neg c6] at H
      exact absurd H (by simp)
    ·rw [if_neg c5] at H
     have c5b0 : decide (x13_1 < (l0.length : Int)) = false := decide_eq_false c5; clear c5; simp only [Option.some.injEq, Prod.mk.injEq] at H; obtain ⟨rfl, rfl⟩ := H; have hcv13 := own_string (P := Tryd.prog) Tryd.underlying22 Tryd.underlying5 Tryd.underlying9 (Kd.own_of_R HO_4.out)
     go_wp2
     go_ret2
     exact ⟨qee_, qBHB⟩


/-! ### laws_sameInts: function 8 -/
def laws_sameInts.l0 : Nat → List Int → List Int → Int → Option (Bool)
 | 0, _, _, _ => none
 | k + 1, x0, x1, x5 => if x5 < (x0.length : Int) then (if 0 ≤ x5 then (if x5 < (x1.length : Int) then (if (rd x0 x5) = (rd x1 x5) then (laws_sameInts.l0 k x0 x1 (wrap64 (x5 + 1))) else (some false)) else (none)) else (none)) else (some true)
def laws_sameInts.f (k : Nat) (l0 : List Int) (l1 : List Int) : Option (Bool) := if (l0.length : Int) = (l1.length : Int) then (laws_sameInts.l0 k l0 l1 0) else (some false)
theorem laws_sameInts.mono_l : ∀ k, (∀ y0 y1 y2, LeO (laws_sameInts.l0 k y0 y1 y2) (laws_sameInts.l0 (k + 1) y0 y1 y2))
 | 0 => fun _ _ _ r h => by simp [laws_sameInts.l0] at h
 | k + 1 => by
  have ih0 := laws_sameInts.mono_l k
  ·intro y0 y1 y2
   unfold laws_sameInts.l0
   repeat' first
   | (with_reducible exact ih0 _ _ _)
   | (with_reducible exact LeO.refl _)
   | (with_reducible exact LeO.none _)
   | (with_reducible refine LeO.ite ?_ ?_)
   | (with_reducible refine LeO.bind ?_ (fun _ => ?_))
   | exact ih0 _ _ _
   | exact LeO.none _
   | refine LeO.ite ?_ ?_
   | refine LeO.bind ?_ (fun _ => ?_)
theorem laws_sameInts.mono : ∀ a0 a1 k, LeO (laws_sameInts.f k a0 a1) (laws_sameInts.f (k + 1) a0 a1) := by
 intro a0 a1 k
 have ih0 := laws_sameInts.mono_l k
 unfold laws_sameInts.f
 repeat' first
   | (with_reducible exact ih0 _ _ _)
   | (with_reducible exact LeO.refl _)
   | (with_reducible exact LeO.none _)
   | (with_reducible refine LeO.ite ?_ ?_)
   | (with_reducible refine LeO.bind ?_ (fun _ => ?_))
   | exact ih0 _ _ _
   | exact LeO.none _
   | refine LeO.ite ?_ ?_
   | refine LeO.bind ?_ (fun _ => ?_)
set_option maxHeartbeats 8000000 in
set_option maxRecDepth 100000 in
theorem laws_sameInts.calls (k : Nat) (A0 : Option Addr) (c0 : Nat) (l0 : List Int) (A1 : Option Addr) (c1 : Nat) (l1 : List Int) (r : Bool) (w : World) (hr0 : Kd.C (Kd.int .i64) w A0 l0.length l0) (hc0 : l0.length ≤ c0) (hr1 : Kd.C (Kd.int .i64) w A1 l1.length l1) (hc1 : l1.length ≤ c1) (h : laws_sameInts.f k l0 l1 = some r) :
  Calls Tryd.prog 8 #[.slice A0 l0.length c0, .slice A1 l1.length c1] w fun e w' => e = .returned (.bool r) ∧ Drawn0 w w' := by
 have HR0 := Aside0.mk hr0
 have HC0 := Aside0.mk hc0
 clear hr0 hc0
 have HR1 := Aside0.mk hr1
 have HC1 := Aside0.mk hc1
 clear hr1 hc1
 have H : (if (l0.length : Int) = (l1.length : Int) then (laws_sameInts.l0 k l0 l1 0) else (some false)) = some r := h
 clear h
 by_cases c3 : (l0.length : Int) = (l1.length : Int)
 ·rw [if_pos c3] at H
  have c3b0 : ((l0.length : Int) == (l1.length : Int)) = true := beq_iff_eq.mpr c3; have c3b1 : ((l0.length : Int) != (l1.length : Int)) = false := bne_eq_false_iff_eq.mpr c3
  have c3b2 : (l0.length == l1.length) = true := by first | simpa using c3 | (simp at c3 ⊢; omega)
  clear c3; have H' := Aside0.mk H; clear H; go_enter Tryd.func8, Tryd.ntmps8
  go_wp2
  repeat (go_quiet (fail); try go_wp2)
  go_loopg [5] k (fun kq v5 w' => ∃ (x5_1 : Int), v5 = .int .i64 x5_1 ∧ Aside0 (laws_sameInts.l0 kq l0 l1 x5_1 = some r) ∧ Aside0 (kq ≤ k) ∧ Drawn0 w w')
  case atStart => exact ⟨(0), qff_, H', ⟨Nat.le_refl _⟩, by repeat (first | exact Drawn0.refl _ | apply Drawn0.step)⟩
  case round =>
   clear H'
   try clear c1
   try clear p2
   try clear c3
   try clear c3b0
   try clear c3b1
   try clear c3b2
   obtain ⟨x5_1, rfl, HA, HK1, ⟨m1, rfl⟩⟩ := hrel
   cases gk with
   | zero => exact absurd HA.out (by simp [laws_sameInts.l0])
   | succ k1 =>
    have H := HA.out; clear HA; simp only [laws_sameInts.l0] at H; by_cases c4 : x5_1 < (l0.length : Int)
    ·rw [if_pos c4] at H
     have c4b0 : decide (x5_1 < (l0.length : Int)) = true := decide_eq_true c4; clear c4; by_cases c5 : 0 ≤ x5_1
     ·rw [if_pos c5] at H
      have c5b0 : decide (0 ≤ x5_1) = true := decide_eq_true c5; clear c5; by_cases c6 : x5_1 < (l1.length : Int)
      ·rw [if_pos c6] at H
       have c6b0 : decide (x5_1 < (l1.length : Int)) = true := decide_eq_true c6; clear c6; by_cases c7 : (rd l0 x5_1) = (rd l1 x5_1)
       ·rw [if_pos c7] at H
        have c7b0 : ((rd l0 x5_1) == (rd l1 x5_1)) = true := beq_iff_eq.mpr c7; have c7b1 : ((rd l0 x5_1) != (rd l1 x5_1)) = false := bne_eq_false_iff_eq.mpr c7; clear c7; have H' := Aside0.mk H; clear H; have p101 : 0 ≤ (x5_1 : Int) := qd_; have q101 : x5_1 < (l0.length : Int) := qd_; obtain ⟨ad101, e101, hx101_0⟩ := Kd.at_int HR0.out x5_1 p101 q101; cases e101; replace p101 := eq_true p101; replace q101 := eq_true q101; have p102 : 0 ≤ (x5_1 : Int) := qd_; have q102 : x5_1 < (l1.length : Int) := qd_; obtain ⟨ad102, e102, hx102_0⟩ := Kd.at_int HR1.out x5_1 p102 q102; cases e102; replace p102 := eq_true p102; replace q102 := eq_true q102
        go_wp2
        repeat (go_quiet (fail); try go_wp2)
        go_roundg k1
        case measure => have := HK1.out; omega
        case rel => exact ⟨(wrap64 (x5_1 + 1)), qff_, H', ⟨by have := HK1.out; omega⟩, by repeat (first | exact Drawn0.refl _ | apply Drawn0.step)⟩
       ·rw [if_neg c7] at H
        have c7b0 : ((rd l0 x5_1) == (rd l1 x5_1)) = false := beq_eq_false_iff_ne.mpr c7; have c7b1 : ((rd l0 x5_1) != (rd l1 x5_1)) = true := bne_iff_ne.mpr c7; obtain rfl := Option.some.inj H; have p101 : 0 ≤ (x5_1 : Int) := qd_; have q101 : x5_1 < (l0.length : Int) := qd_; obtain ⟨ad101, e101, hx101_0⟩ := Kd.at_int HR0.out x5_1 p101 q101; cases e101; replace p101 := eq_true p101; replace q101 := eq_true q101; have p102 : 0 ≤ (x5_1 : Int) := qd_; have q102 : x5_1 < (l1.length : Int) := qd_; obtain ⟨ad102, e102, hx102_0⟩ := Kd.at_int HR1.out x5_1 p102 q102; cases e102; replace p102 := eq_true p102; replace q102 := eq_true q102
        go_wp2
        repeat (go_quiet (fail); try go_wp2)
        go_ret; exact ⟨by first | rfl | (simp; done) | (simp [*]; done), by repeat (first | exact Drawn0.refl _ | apply Drawn0.step)⟩
      ·rw [if_neg c6] at H
       exact absurd H (by simp)
     ·rw [if_neg c5] at H
      exact absurd H (by simp)
    ·rw [if_neg c4] at H
     have c4b0 : decide (x5_1 < (l0.length : Int)) = false := decide_eq_false c4; clear c4; obtain rfl := Option.some.inj H
     go_wp2
     repeat (go_quiet (fail); try go_wp2)
     go_ret; exact ⟨by first | rfl | (simp; done) | (simp [*]; done), by repeat (first | exact Drawn0.refl _ | apply Drawn0.step)⟩
 ·rw [if_neg c3] at H
  have c3b0 : ((l0.length : Int) == (l1.length : Int)) = false := beq_eq_false_iff_ne.mpr c3; have c3b1 : ((l0.length : Int) != (l1.length : Int)) = true := bne_iff_ne.mpr c3
  have c3b2 : (l0.length == l1.length) = false := by first | simpa using c3 | (simp at c3 ⊢; omega)
  obtain rfl := Option.some.inj H; go_enter Tryd.func8, Tryd.ntmps8
  go_wp2
  repeat (go_quiet (fail); try go_wp2)
  go_ret; exact ⟨by first | rfl | (simp; done) | (simp [*]; done), by repeat (first | exact Drawn0.refl _ | apply Drawn0.step)⟩


/-! ### impl_ValidText: function 9 -/
def impl_ValidText.f (a0 : ByteArray) : Option (Bool) := if (a0.size : Int) ≤ 65536 then ((utf8_ValidString.f a0).bind fun t101 => (some t101)) else (some false)
set_option maxHeartbeats 8000000 in
set_option maxRecDepth 100000 in
theorem impl_ValidText.calls (a0 : ByteArray) (r : Bool) (w : World) (hGWu : GWu w) (h : impl_ValidText.f a0 = some r) :
  Calls Tryd.prog 9 #[.string a0] w fun e w' => e = .returned (.bool r) ∧ Below w.heap.size w w' := by
 have HGWu := Aside0.mk hGWu
 clear hGWu
 have HB := Aside0.mk (Below.refl w.heap.size w)
 have H : (if (a0.size : Int) ≤ 65536 then ((utf8_ValidString.f a0).bind fun t101 => (some t101)) else (some false)) = some r := h
 clear h
 by_cases c2 : (a0.size : Int) ≤ 65536
 ·rw [if_pos c2] at H
  have c2b0 : decide ((a0.size : Int) ≤ 65536) = true := decide_eq_true c2; have c2b1 : decide (a0.size ≤ 65536) = true := decide_eq_true (by omega); clear c2; replace H := Option.bind_eq_some_iff.mp H; obtain ⟨t101, A30, H⟩ := H; have A3 := Aside0.mk A30; clear A30; obtain rfl := Option.some.inj H; go_enter Tryd.func9, Tryd.ntmps9
  go_wp2_with (first | (go_at_call 16; (with_reducible refine (utf8_ValidString.calls a0 t101 _ (GWu.below HGWu.out qBHB) A3.out).mono ?_); rintro e w4 ⟨rfl, hb⟩; replace HB := Aside0.mk (below_step qBHB hb); (try clear hb); (try clear hb2); (try clear hk); (try clear hi)))
  go_ret; exact ⟨qee_, qBHB⟩
 ·rw [if_neg c2] at H
  have c2b0 : decide ((a0.size : Int) ≤ 65536) = false := decide_eq_false c2; have c2b1 : decide (a0.size ≤ 65536) = false := decide_eq_false (by omega); clear c2; obtain rfl := Option.some.inj H; go_enter Tryd.func9, Tryd.ntmps9
  go_wp2
  go_ret; exact ⟨qee_, qBHB⟩


/-! ### laws_FnText: function 3 -/
mutual
def laws_FnText.j0 : Nat → List Int → List Int → Bool → Option (Bool)
 | 0, _, _, _ => none
 | k + 1, x0, x1, x28 => if x28 = true then (some true) else ((spec_TextOf.f k x0).bind fun t101 => ((impl_RunesOf.f t101).bind fun bt102 => ((spec_RunesOf.f k t101).bind fun bt106 => ((impl_TextOfRunes.f k bt102.1).bind fun bt110 => (if bt102.2 = 0 then ((laws_sameInts.f k bt102.1 bt106.1).bind fun t112 => (if t112 = true then (if bt110.2 = 0 then (if bt110.1.toList = t101.toList then ((impl_ValidText.f t101).bind fun t113 => (laws_FnText.j1 k x1 t101 bt102.1 (!t113))) else (laws_FnText.j1 k x1 t101 bt102.1 true)) else (laws_FnText.j1 k x1 t101 bt102.1 true)) else (laws_FnText.j1 k x1 t101 bt102.1 true))) else (laws_FnText.j1 k x1 t101 bt102.1 true))))))
def laws_FnText.j1 : Nat → List Int → ByteArray → List Int → Bool → Option (Bool)
 | 0, _, _, _, _ => none
 | k + 1, x1, x5, x6, x67 => if x67 = true then (some false) else (laws_FnText.l0 k x1 x5 x6 0 0)
def laws_FnText.l0 : Nat → List Int → ByteArray → List Int → Int → Int → Option (Bool)
 | 0, _, _, _, _, _ => none
 | k + 1, x1, x5, x6, x12, x13 => if x13 < (x6.length : Int) then (if 0 ≤ x13 then ((impl_RuneSize.f k (rd x6 x13)).bind fun t115 => (laws_FnText.l0 k x1 x5 x6 (wrap64 (x12 + t115)) (wrap64 (x13 + 1)))) else (none)) else ((spec_AnyTextOf.f k x1).bind fun t116 => ((impl_RepairText.f t116).bind fun bt117 => ((spec_RepairText.f k t116).bind fun bt119 => ((impl_RepairText.f bt117.1).bind fun bt121 => (if x12 = (x5.size : Int) then (if bt117.2 = 0 then (if bt117.1.toList = bt119.1.toList then ((impl_ValidText.f bt117.1).bind fun t123 => (if t123 = true then (if bt121.2 = 0 then (if bt121.1.toList = bt117.1.toList then ((impl_ValidText.f t116).bind fun t124 => (some (t124 == (bt117.1.toList == t116.toList)))) else (some false)) else (some false)) else (some false))) else (some false)) else (some false)) else (some false))))))
end
def laws_FnText.f (k : Nat) (l0 : List Int) (l1 : List Int) : Option (Bool) := if (l0.length : Int) > 1048576 then (laws_FnText.j0 k l0 l1 true) else (laws_FnText.j0 k l0 l1 (decide ((l1.length : Int) > 1048576)))
theorem laws_FnText.mono_l : ∀ k, (∀ y0 y1 y2, LeO (laws_FnText.j0 k y0 y1 y2) (laws_FnText.j0 (k + 1) y0 y1 y2)) ∧ (∀ y0 y1 y2 y3, LeO (laws_FnText.j1 k y0 y1 y2 y3) (laws_FnText.j1 (k + 1) y0 y1 y2 y3)) ∧ (∀ y0 y1 y2 y3 y4, LeO (laws_FnText.l0 k y0 y1 y2 y3 y4) (laws_FnText.l0 (k + 1) y0 y1 y2 y3 y4))
 | 0 => ⟨fun _ _ _ r h => by simp [laws_FnText.j0] at h, fun _ _ _ _ r h => by simp [laws_FnText.j1] at h, fun _ _ _ _ _ r h => by simp [laws_FnText.l0] at h⟩
 | k + 1 => by
  obtain ⟨ih0, ih1, ih2⟩ := laws_FnText.mono_l k; refine ⟨?_, ?_, ?_⟩
  ·intro y0 y1 y2
   unfold laws_FnText.j0
   repeat' first
   | (with_reducible exact ih0 _ _ _)
   | (with_reducible exact ih1 _ _ _ _)
   | (with_reducible exact ih2 _ _ _ _ _)
   | (with_reducible exact impl_RuneSize.mono _ _)
   | (with_reducible exact impl_TextOfRunes.mono _ _)
   | (with_reducible exact laws_sameInts.mono _ _ _)
   | (with_reducible exact spec_AnyTextOf.mono _ _)
   | (with_reducible exact spec_RepairText.mono _ _)
   | (with_reducible exact spec_RunesOf.mono _ _)
   | (with_reducible exact spec_TextOf.mono _ _)
   | (with_reducible exact LeO.refl _)
   | (with_reducible exact LeO.none _)
   | (with_reducible refine LeO.ite ?_ ?_)
   | (with_reducible refine LeO.bind ?_ (fun _ => ?_))
   | exact ih0 _ _ _
   | exact ih1 _ _ _ _
   | exact ih2 _ _ _ _ _
   | exact impl_RuneSize.mono _ _
   | exact impl_TextOfRunes.mono _ _
   | exact laws_sameInts.mono _ _ _
   | exact spec_AnyTextOf.mono _ _
   | exact spec_RepairText.mono _ _
   | exact spec_RunesOf.mono _ _
   | exact spec_TextOf.mono _ _
   | exact LeO.none _
   | refine LeO.ite ?_ ?_
   | refine LeO.bind ?_ (fun _ => ?_)
  ·intro y0 y1 y2 y3
   unfold laws_FnText.j1
   repeat' first
   | (with_reducible exact ih0 _ _ _)
   | (with_reducible exact ih1 _ _ _ _)
   | (with_reducible exact ih2 _ _ _ _ _)
   | (with_reducible exact impl_RuneSize.mono _ _)
   | (with_reducible exact impl_TextOfRunes.mono _ _)
   | (with_reducible exact laws_sameInts.mono _ _ _)
   | (with_reducible exact spec_AnyTextOf.mono _ _)
   | (with_reducible exact spec_RepairText.mono _ _)
   | (with_reducible exact spec_RunesOf.mono _ _)
   | (with_reducible exact spec_TextOf.mono _ _)
   | (with_reducible exact LeO.refl _)
   | (with_reducible exact LeO.none _)
   | (with_reducible refine LeO.ite ?_ ?_)
   | (with_reducible refine LeO.bind ?_ (fun _ => ?_))
   | exact ih0 _ _ _
   | exact ih1 _ _ _ _
   | exact ih2 _ _ _ _ _
   | exact impl_RuneSize.mono _ _
   | exact impl_TextOfRunes.mono _ _
   | exact laws_sameInts.mono _ _ _
   | exact spec_AnyTextOf.mono _ _
   | exact spec_RepairText.mono _ _
   | exact spec_RunesOf.mono _ _
   | exact spec_TextOf.mono _ _
   | exact LeO.none _
   | refine LeO.ite ?_ ?_
   | refine LeO.bind ?_ (fun _ => ?_)
  ·intro y0 y1 y2 y3 y4
   unfold laws_FnText.l0
   repeat' first
   | (with_reducible exact ih0 _ _ _)
   | (with_reducible exact ih1 _ _ _ _)
   | (with_reducible exact ih2 _ _ _ _ _)
   | (with_reducible exact impl_RuneSize.mono _ _)
   | (with_reducible exact impl_TextOfRunes.mono _ _)
   | (with_reducible exact laws_sameInts.mono _ _ _)
   | (with_reducible exact spec_AnyTextOf.mono _ _)
   | (with_reducible exact spec_RepairText.mono _ _)
   | (with_reducible exact spec_RunesOf.mono _ _)
   | (with_reducible exact spec_TextOf.mono _ _)
   | (with_reducible exact LeO.refl _)
   | (with_reducible exact LeO.none _)
   | (with_reducible refine LeO.ite ?_ ?_)
   | (with_reducible refine LeO.bind ?_ (fun _ => ?_))
   | exact ih0 _ _ _
   | exact ih1 _ _ _ _
   | exact ih2 _ _ _ _ _
   | exact impl_RuneSize.mono _ _
   | exact impl_TextOfRunes.mono _ _
   | exact laws_sameInts.mono _ _ _
   | exact spec_AnyTextOf.mono _ _
   | exact spec_RepairText.mono _ _
   | exact spec_RunesOf.mono _ _
   | exact spec_TextOf.mono _ _
   | exact LeO.none _
   | refine LeO.ite ?_ ?_
   | refine LeO.bind ?_ (fun _ => ?_)
theorem laws_FnText.mono : ∀ a0 a1 k, LeO (laws_FnText.f k a0 a1) (laws_FnText.f (k + 1) a0 a1) := by
 intro a0 a1 k
 obtain ⟨ih0, ih1, ih2⟩ := laws_FnText.mono_l k
 unfold laws_FnText.f
 repeat' first
   | (with_reducible exact ih0 _ _ _)
   | (with_reducible exact ih1 _ _ _ _)
   | (with_reducible exact ih2 _ _ _ _ _)
   | (with_reducible exact impl_RuneSize.mono _ _)
   | (with_reducible exact impl_TextOfRunes.mono _ _)
   | (with_reducible exact laws_sameInts.mono _ _ _)
   | (with_reducible exact spec_AnyTextOf.mono _ _)
   | (with_reducible exact spec_RepairText.mono _ _)
   | (with_reducible exact spec_RunesOf.mono _ _)
   | (with_reducible exact spec_TextOf.mono _ _)
   | (with_reducible exact LeO.refl _)
   | (with_reducible exact LeO.none _)
   | (with_reducible refine LeO.ite ?_ ?_)
   | (with_reducible refine LeO.bind ?_ (fun _ => ?_))
   | exact ih0 _ _ _
   | exact ih1 _ _ _ _
   | exact ih2 _ _ _ _ _
   | exact impl_RuneSize.mono _ _
   | exact impl_TextOfRunes.mono _ _
   | exact laws_sameInts.mono _ _ _
   | exact spec_AnyTextOf.mono _ _
   | exact spec_RepairText.mono _ _
   | exact spec_RunesOf.mono _ _
   | exact spec_TextOf.mono _ _
   | exact LeO.none _
   | refine LeO.ite ?_ ?_
   | refine LeO.bind ?_ (fun _ => ?_)
set_option maxHeartbeats 8000000 in
set_option maxRecDepth 100000 in
theorem laws_FnText.calls (k : Nat) (A0 : Option Addr) (c0 : Nat) (l0 : List Int) (A1 : Option Addr) (c1 : Nat) (l1 : List Int) (r : Bool) (w : World) (hr0 : Kd.C (Kd.int .u8) w A0 l0.length l0) (hc0 : l0.length ≤ c0) (hr1 : Kd.C (Kd.int .u8) w A1 l1.length l1) (hc1 : l1.length ≤ c1) (hGWu : GWu w) (h : laws_FnText.f k l0 l1 = some r) :
  Calls Tryd.prog 3 #[.slice A0 l0.length c0, .slice A1 l1.length c1] w fun e w' => e = .returned (.bool r) ∧ Below w.heap.size w w' := by
 have HGWu := Aside0.mk hGWu
 clear hGWu
 have HR0 := Aside0.mk hr0
 have HC0 := Aside0.mk hc0
 clear hr0 hc0
 have HR1 := Aside0.mk hr1
 have HC1 := Aside0.mk hc1
 clear hr1 hc1
 have HB := Aside0.mk (Below.refl w.heap.size w)
 have H : (if (l0.length : Int) > 1048576 then (laws_FnText.j0 k l0 l1 true) else (laws_FnText.j0 k l0 l1 (decide ((l1.length : Int) > 1048576)))) = some r := h
 clear h
 have HC3 := Aside0.mk H
 clear H
 go_enter Tryd.func3, Tryd.ntmps3
 go_upto_region 1 with (fail)
 go_cut [28] (fun v28 wc => ∃ (kq : Nat) (x28_2 : Bool), v28 = .bool x28_2 ∧ Aside0 (laws_FnText.j0 kq l0 l1 x28_2 = some r) ∧ Aside0 (kq ≤ k) ∧ Aside0 (Below w.heap.size w wc))
 case first =>
  have H := HC3.out; clear HC3; by_cases c4 : (l0.length : Int) > 1048576
  ·rw [if_pos c4] at H
   have c4b0 : decide (1048576 < (l0.length : Int)) = true := decide_eq_true c4; have c4b1 : decide (1048576 < l0.length) = true := decide_eq_true (by omega); clear c4
   (first | rw [c4b0] | (simp only [i64_w, i32_w]; rw [c4b0]) | skip)
   have H' := Aside0.mk H; clear H
   go_wp2
   go_meet
   case rel => exact ⟨_, (true), qff_, H', ⟨by first | omega | exact Nat.le_refl _⟩, ⟨qBHB⟩⟩
  ·rw [if_neg c4] at H
   have c4b0 : decide (1048576 < (l0.length : Int)) = false := decide_eq_false c4; have c4b1 : decide (1048576 < l0.length) = false := decide_eq_false (by omega); clear c4
   (first | rw [c4b0] | (simp only [i64_w, i32_w]; rw [c4b0]) | skip)
   have H' := Aside0.mk H; clear H
   go_wp2
   go_meet
   case rel => exact ⟨_, (decide ((l1.length : Int) > 1048576)), qff_, H', ⟨by first | omega | exact Nat.le_refl _⟩, ⟨qBHB⟩⟩
 case rest =>
  clear HC3
  try clear c1
  try clear p2
  try clear c3
  try clear c4
  try clear c4b0
  try clear c4b1
  obtain ⟨kq, x28_2, rfl, HA, HJ2, HB⟩ := hcut
  cases kq with
  | zero => exact absurd HA.out (by simp [laws_FnText.j0])
  | succ kj2 =>
   have H := HA.out; clear HA; simp only [laws_FnText.j0] at H; by_cases c5 : x28_2 = true
   ·subst c5
    have H1 : (some true) = some r := by rw [if_pos rfl] at H; exact H
    clear H; have H := H1; clear H1; obtain rfl := Option.some.inj H
    go_wp2
    go_ret; exact ⟨qee_, qBHB⟩
   ·replace c5 := Bool.eq_false_iff.mpr c5
    subst c5
    have H1 : ((spec_TextOf.f kj2 l0).bind fun t101 => ((impl_RunesOf.f t101).bind fun bt102 => ((spec_RunesOf.f kj2 t101).bind fun bt106 => ((impl_TextOfRunes.f kj2 bt102.1).bind fun bt110 => (if bt102.2 = 0 then ((laws_sameInts.f kj2 bt102.1 bt106.1).bind fun t112 => (if t112 = true then (if bt110.2 = 0 then (if bt110.1.toList = t101.toList then ((impl_ValidText.f t101).bind fun t113 => (laws_FnText.j1 kj2 l1 t101 bt102.1 (!t113))) else (laws_FnText.j1 kj2 l1 t101 bt102.1 true)) else (laws_FnText.j1 kj2 l1 t101 bt102.1 true)) else (laws_FnText.j1 kj2 l1 t101 bt102.1 true))) else (laws_FnText.j1 kj2 l1 t101 bt102.1 true)))))) = some r := by rw [if_neg (show ¬ (false = true) by decide)] at H; exact H
    clear H; have H := H1; clear H1; replace H := Option.bind_eq_some_iff.mp H; obtain ⟨t101, A60, H⟩ := H; have A6 := Aside0.mk A60; clear A60; replace H := Option.bind_eq_some_iff.mp H; obtain ⟨⟨t102, t103⟩, A70, H⟩ := H; dsimp only at H; have A7 := Aside0.mk A70; clear A70; replace H := Option.bind_eq_some_iff.mp H; obtain ⟨⟨t106, t107⟩, A80, H⟩ := H; dsimp only at H; have A8 := Aside0.mk A80; clear A80; replace H := Option.bind_eq_some_iff.mp H; obtain ⟨⟨t110, t111⟩, A90, H⟩ := H; dsimp only at H; have A9 := Aside0.mk A90; clear A90; have HC10 := Aside0.mk H; clear H
    go_upto_region 7 with (first | ((with_reducible refine gate_callee (f := 4) rfl ?_); refine goesL_ (some 30) rfl rfl Tryd.func4 qK rfl #[.slice A0 l0.length c0] rfl qll_ ?_; (with_reducible refine (spec_TextOf.calls kj2 _ _ l0 t101 _ ?side1 ?side2 A6.out).mono ?_); (case side1 => exact qcc_ (Kd.C_below HR0.out HB.out)); (case side2 => exact HC0.out); rintro e w11 ⟨rfl, hb⟩; refine ⟨_, rfl, ?_⟩; replace HB := Aside0.mk (below_step qBHB hb); (try clear hb); (try clear hb2); (try clear hk); (try clear hi)) | ((with_reducible refine gate_callee (f := 5) rfl ?_); refine goesL_ (some 33) rfl rfl Tryd.func5 qK rfl #[.string t101] rfl qll_ ?_; (with_reducible refine (impl_RunesOf.calls t101 t102 t103 _ (GWu.below HGWu.out qBHB) A7.out).mono ?_); rintro e w12 ⟨v104, rfl, ho0, hb⟩; refine ⟨_, rfl, ?_⟩; have HO105 := Aside0.mk (Kd.R_lower ho0 (below_size qBHB)); replace HB := Aside0.mk (below_step qBHB hb); (try clear hb); (try clear hb2); (try clear hk); (try clear hi); (try clear ho0)) | ((with_reducible refine gate_callee (f := 6) rfl ?_); refine goesL_ (some 38) rfl rfl Tryd.func6 qK rfl #[.string t101] rfl qll_ ?_; (with_reducible refine (spec_RunesOf.calls kj2 t101 t106 t107 _ A8.out).mono ?_); rintro e w13 ⟨v108, rfl, ho0, hb⟩; refine ⟨_, rfl, ?_⟩; have HO109 := Aside0.mk (Kd.R_lower (Kd.R_new' ho0 (Kd.R_lt (qr_ HO105))) (below_size qBHB)); replace HO105 := Aside0.mk (Kd.R_elder' (qr_ HO105) (Kd.R_base ho0) hb); replace HB := Aside0.mk (below_step qBHB hb); (try clear hb); (try clear hb2); (try clear hk); (try clear hi); (try clear ho0); obtain ⟨Ao14, co14, eo14⟩ := Kd.R_slice HO105.out; subst eo14) | ((with_reducible refine gate_callee (f := 7) rfl ?_); refine goesL_ (some 43) rfl rfl Tryd.func7 qK rfl #[.slice Ao14 t102.length co14] rfl qll_ ?_; (with_reducible refine (impl_TextOfRunes.calls kj2 _ _ t102 t110 t111 _ ?side1 ?side2 A9.out).mono ?_); (case side1 => exact qcc_ (Kd.R_reads' HO105.out).2.2); (case side2 => exact (Kd.R_reads' HO105.out).2.1); rintro e w15 ⟨rfl, hb⟩; refine ⟨_, rfl, ?_⟩; replace HO105 := Aside0.mk (Kd.R_below (qr_ HO105) hb); replace HO109 := Aside0.mk (Kd.R_below (qr_ HO109) hb); replace HB := Aside0.mk (below_step qBHB hb); (try clear hb); (try clear hb2); (try clear hk); (try clear hi)))
    (try simp only [Act.put, List.setIfInBounds_toArray, List.set_cons_zero, List.set_cons_succ])
    go_cut [67] (fun v67 wc => ∃ (kq : Nat) (x67_9 : Bool), v67 = .bool x67_9 ∧ Aside0 (laws_FnText.j1 kq l1 t101 t102 x67_9 = some r) ∧ Aside0 (kq ≤ kj2) ∧ Aside0 (Kd.R (Kd.int .i64) 3 wc w.heap.size (fun _ => True) (.slice Ao14 t102.length co14) t102) ∧ Aside0 (Below w.heap.size w wc))
    case first =>
     have H := HC10.out; clear HC10; by_cases c16 : t103 = 0
     ·rw [if_pos c16] at H
      have c16b0 : (t103 == 0) = true := beq_iff_eq.mpr c16; have c16b1 : (t103 != 0) = false := bne_eq_false_iff_eq.mpr c16; clear c16
      (first | rw [c16b0] | (simp only [i64_w, i32_w]; rw [c16b0]) | skip)
      replace H := Option.bind_eq_some_iff.mp H; obtain ⟨t112, A170, H⟩ := H; have A17 := Aside0.mk A170; clear A170; by_cases c18 : t112 = true
      ·subst c18
       have H1 : (if t111 = 0 then (if t110.toList = t101.toList then ((impl_ValidText.f t101).bind fun t113 => (laws_FnText.j1 kj2 l1 t101 t102 (!t113))) else (laws_FnText.j1 kj2 l1 t101 t102 true)) else (laws_FnText.j1 kj2 l1 t101 t102 true)) = some r := by rw [if_pos rfl] at H; exact H
       clear H; have H := H1; clear H1; by_cases c19 : t111 = 0
       ·rw [if_pos c19] at H
        have c19b0 : (t111 == 0) = true := beq_iff_eq.mpr c19; have c19b1 : (t111 != 0) = false := bne_eq_false_iff_eq.mpr c19; clear c19; by_cases c20 : t110.toList = t101.toList
        ·rw [if_pos c20] at H
         have c20b0 : (t110.toList == t101.toList) = true := beq_iff_eq.mpr c20; have c20b1 : (t110.toList != t101.toList) = false := bne_eq_false_iff_eq.mpr c20; clear c20; replace H := Option.bind_eq_some_iff.mp H; obtain ⟨t113, A210, H⟩ := H; have A21 := Aside0.mk A210; clear A210; have H' := Aside0.mk H; clear H; obtain ⟨Ao22, co22, eo22⟩ := Kd.R_slice HO109.out; subst eo22
         go_wp2_with (first | (go_at_call 8; (with_reducible refine (laws_sameInts.calls kj2 _ _ t102 _ _ t106 true _ ?side1 ?side2 ?side3 ?side4 A17.out).mono ?_); (case side1 => exact qcc_ (Kd.R_reads' HO105.out).2.2); (case side2 => exact (Kd.R_reads' HO105.out).2.1); (case side3 => exact qcc_ (Kd.R_reads' HO109.out).2.2); (case side4 => exact (Kd.R_reads' HO109.out).2.1); rintro e w' ⟨rfl, ⟨nd, rfl⟩⟩) | (go_at_call 9; (with_reducible refine (impl_ValidText.calls t101 t113 _ (GWu.below HGWu.out qBHB) A21.out).mono ?_); rintro e w23 ⟨rfl, hb⟩; replace HO105 := Aside0.mk (Kd.R_below (qr_ HO105) hb); replace HO109 := Aside0.mk (Kd.R_below (qr_ HO109) hb); replace HB := Aside0.mk (below_step qBHB hb); (try clear hb); (try clear hb2); (try clear hk); (try clear hi)))
         go_meet
         case rel => exact ⟨_, (!t113), qff_, H', ⟨by have := HJ2.out; first | omega | exact Nat.le_refl _⟩, ⟨by (with_reducible repeat (first | apply Kd.R_alloc | apply Kd.R_drewN | apply Kd.R_drew)); exact Kd.R_mono HO105.out (fun _ hk => trivial)⟩, ⟨qBHB⟩⟩
        ·rw [if_neg c20] at H
         have c20b0 : (t110.toList == t101.toList) = false := beq_eq_false_iff_ne.mpr c20; have c20b1 : (t110.toList != t101.toList) = true := bne_iff_ne.mpr c20; have H' := Aside0.mk H; clear H; obtain ⟨Ao24, co24, eo24⟩ := Kd.R_slice HO109.out; subst eo24
         go_wp2_with (first | (go_at_call 8; (with_reducible refine (laws_sameInts.calls kj2 _ _ t102 _ _ t106 true _ ?side1 ?side2 ?side3 ?side4 A17.out).mono ?_); (case side1 => exact qcc_ (Kd.R_reads' HO105.out).2.2); (case side2 => exact (Kd.R_reads' HO105.out).2.1); (case side3 => exact qcc_ (Kd.R_reads' HO109.out).2.2); (case side4 => exact (Kd.R_reads' HO109.out).2.1); rintro e w' ⟨rfl, ⟨nd, rfl⟩⟩))
         go_meet
         case rel => exact ⟨_, (true), qff_, H', ⟨by have := HJ2.out; first | omega | exact Nat.le_refl _⟩, ⟨by (with_reducible repeat (first | apply Kd.R_alloc | apply Kd.R_drewN | apply Kd.R_drew)); exact Kd.R_mono HO105.out (fun _ hk => trivial)⟩, ⟨qBHB⟩⟩
       ·rw [if_neg c19] at H
        have c19b0 : (t111 == 0) = false := beq_eq_false_iff_ne.mpr c19; have c19b1 : (t111 != 0) = true := bne_iff_ne.mpr c19; have H' := Aside0.mk H; clear H; obtain ⟨Ao25, co25, eo25⟩ := Kd.R_slice HO109.out; subst eo25
        go_wp2_with (first | (go_at_call 8; (with_reducible refine (laws_sameInts.calls kj2 _ _ t102 _ _ t106 true _ ?side1 ?side2 ?side3 ?side4 A17.out).mono ?_); (case side1 => exact qcc_ (Kd.R_reads' HO105.out).2.2); (case side2 => exact (Kd.R_reads' HO105.out).2.1); (case side3 => exact qcc_ (Kd.R_reads' HO109.out).2.2); (case side4 => exact (Kd.R_reads' HO109.out).2.1); rintro e w' ⟨rfl, ⟨nd, rfl⟩⟩))
        go_meet
        case rel => exact ⟨_, (true), qff_, H', ⟨by have := HJ2.out; first | omega | exact Nat.le_refl _⟩, ⟨by (with_reducible repeat (first | apply Kd.R_alloc | apply Kd.R_drewN | apply Kd.R_drew)); exact Kd.R_mono HO105.out (fun _ hk => trivial)⟩, ⟨qBHB⟩⟩
      ·replace c18 := Bool.eq_false_iff.mpr c18
       subst c18
       have H1 : (laws_FnText.j1 kj2 l1 t101 t102 true) = some r := by rw [if_neg (show ¬ (false = true) by decide)] at H; exact H
       clear H; have H := H1; clear H1; have H' := Aside0.mk H; clear H; obtain ⟨Ao26, co26, eo26⟩ := Kd.R_slice HO109.out; subst eo26
       go_wp2_with (first | (go_at_call 8; (with_reducible refine (laws_sameInts.calls kj2 _ _ t102 _ _ t106 false _ ?side1 ?side2 ?side3 ?side4 A17.out).mono ?_); (case side1 => exact qcc_ (Kd.R_reads' HO105.out).2.2); (case side2 => exact (Kd.R_reads' HO105.out).2.1); (case side3 => exact qcc_ (Kd.R_reads' HO109.out).2.2); (case side4 => exact (Kd.R_reads' HO109.out).2.1); rintro e w' ⟨rfl, ⟨nd, rfl⟩⟩))
       go_meet
       case rel => exact ⟨_, (true), qff_, H', ⟨by have := HJ2.out; first | omega | exact Nat.le_refl _⟩, ⟨by (with_reducible repeat (first | apply Kd.R_alloc | apply Kd.R_drewN | apply Kd.R_drew)); exact Kd.R_mono HO105.out (fun _ hk => trivial)⟩, ⟨qBHB⟩⟩
     ·rw [if_neg c16] at H
      have c16b0 : (t103 == 0) = false := beq_eq_false_iff_ne.mpr c16; have c16b1 : (t103 != 0) = true := bne_iff_ne.mpr c16
      (first | rw [c16b0] | (simp only [i64_w, i32_w]; rw [c16b0]) | skip)
      have H' := Aside0.mk H; clear H
      go_wp2
      go_meet
      case rel => exact ⟨_, (true), qff_, H', ⟨by have := HJ2.out; first | omega | exact Nat.le_refl _⟩, ⟨by (with_reducible repeat (first | apply Kd.R_alloc | apply Kd.R_drewN | apply Kd.R_drew)); exact Kd.R_mono HO105.out (fun _ hk => trivial)⟩, ⟨qBHB⟩⟩
    case rest =>
     clear HC10
     try clear c1
     try clear c2
     try clear p2
     try clear c3
     try clear c4
     try clear c4b0
     try clear c4b1
     try clear c5
     try clear c6
     try clear c7
     try clear c16
     try clear c16b0
     try clear c16b1
     try clear c18
     try clear c19
     try clear c19b0
     try clear c19b1
     try clear c20
     try clear c20b0
     try clear c20b1
     try clear p2
     obtain ⟨kq, x67_9, rfl, HA, HJ9, HO_6, HB⟩ := hcut
     cases kq with
     | zero => exact absurd HA.out (by simp [laws_FnText.j1])
     | succ kj9 =>
      have H := HA.out; clear HA; simp only [laws_FnText.j1] at H; by_cases c27 : x67_9 = true
      ·subst c27
       have H1 : (some false) = some r := by rw [if_pos rfl] at H; exact H
       clear H; have H := H1; clear H1; obtain rfl := Option.some.inj H
       go_wp2
       go_ret; exact ⟨qee_, qBHB⟩
      ·replace c27 := Bool.eq_false_iff.mpr c27
       subst c27
       have H1 : (laws_FnText.l0 kj9 l1 t101 t102 0 0) = some r := by rw [if_neg (show ¬ (false = true) by decide)] at H; exact H
       clear H; have H := H1; clear H1; have H' := Aside0.mk H; clear H
       go_wp2
       go_loopg [12, 13] kj9 (fun kq v12 v13 w' => ∃ (x12_3 : Int) (x13_3 : Int), v12 = .int .i64 x12_3 ∧ v13 = .int .i64 x13_3 ∧ Aside0 (laws_FnText.l0 kq l1 t101 t102 x12_3 x13_3 = some r) ∧ Aside0 (kq ≤ kj9) ∧ Aside0 (Kd.R (Kd.int .i64) 3 w' w.heap.size (fun _ => True) (.slice Ao14 t102.length co14) t102) ∧ Aside0 (Below w.heap.size w w'))
       case atStart => exact ⟨(0), (0), qff_, qff_, H', ⟨Nat.le_refl _⟩, ⟨qr_ HO_6⟩, ⟨qBHB⟩⟩
       case round =>
        clear H'
        try clear c1
        try clear c2
        try clear p2
        try clear c3
        try clear c4
        try clear c4b0
        try clear c4b1
        try clear c5
        try clear c6
        try clear c7
        try clear c16
        try clear c16b0
        try clear c16b1
        try clear c18
        try clear c19
        try clear c19b0
        try clear c19b1
        try clear c20
        try clear c20b0
        try clear c20b1
        try clear c27
        try clear p2
        obtain ⟨x12_3, x13_3, rfl, rfl, HA, HK3, HO_6, HB⟩ := hrel
        cases gk with
        | zero => exact absurd HA.out (by simp [laws_FnText.l0])
        | succ k3 =>
         have H := HA.out; clear HA; simp only [laws_FnText.l0] at H; by_cases c28 : x13_3 < (t102.length : Int)
         ·rw [if_pos c28] at H
          have c28b0 : decide (x13_3 < (t102.length : Int)) = true := decide_eq_true c28; clear c28; by_cases c29 : 0 ≤ x13_3
          ·rw [if_pos c29] at H
           have c29b0 : decide (0 ≤ x13_3) = true := decide_eq_true c29; clear c29; replace H := Option.bind_eq_some_iff.mp H; obtain ⟨t115, A300, H⟩ := H; have A30 := Aside0.mk A300; clear A300; have H' := Aside0.mk H; clear H; have p114 : 0 ≤ (x13_3 : Int) := qd_; have q114 : x13_3 < (t102.length : Int) := qd_; obtain ⟨ad114, e114, hx114_0⟩ := Kd.at_int (Kd.R_reads' HO_6.out).2.2 x13_3 p114 q114; cases e114; replace p114 := eq_true p114; replace q114 := eq_true q114
           go_wp2_with (first | ((with_reducible refine gate_callee (f := 10) rfl ?_); refine goesL_ (some 79) rfl rfl Tryd.func10 qK rfl #[.int .i64 (rd t102 x13_3)] rfl qll_ ?_; (with_reducible refine (impl_RuneSize.calls k3 (rd t102 x13_3) t115 _ A30.out).mono ?_); rintro e w' ⟨rfl, ⟨nd, rfl⟩⟩; refine ⟨_, rfl, ?_⟩))
           go_roundg k3
           case measure => have := HJ2.out; have := HJ9.out; have := HK3.out; omega
           case rel => exact ⟨(wrap64 (x12_3 + t115)), (wrap64 (x13_3 + 1)), qff_, qff_, H', ⟨by have := HJ2.out; have := HJ9.out; have := HK3.out; omega⟩, ⟨qr_ HO_6⟩, ⟨qBHB⟩⟩
          ·rw [if_neg c29] at H
           exact absurd H (by simp)
         ·rw [if_neg c28] at H
          have c28b0 : decide (x13_3 < (t102.length : Int)) = false := decide_eq_false c28; clear c28; replace H := Option.bind_eq_some_iff.mp H; obtain ⟨t116, A310, H⟩ := H; have A31 := Aside0.mk A310; clear A310; replace H := Option.bind_eq_some_iff.mp H; obtain ⟨⟨t117, t118⟩, A320, H⟩ := H; dsimp only at H; have A32 := Aside0.mk A320; clear A320; replace H := Option.bind_eq_some_iff.mp H; obtain ⟨⟨t119, t120⟩, A330, H⟩ := H; dsimp only at H; have A33 := Aside0.mk A330; clear A330; replace H := Option.bind_eq_some_iff.mp H; obtain ⟨⟨t121, t122⟩, A340, H⟩ := H; dsimp only at H; have A34 := Aside0.mk A340; clear A340; by_cases c35 : x12_3 = (t101.size : Int)
          ·rw [if_pos c35] at H
           have c35b0 : (x12_3 == (t101.size : Int)) = true := beq_iff_eq.mpr c35; have c35b1 : (x12_3 != (t101.size : Int)) = false := bne_eq_false_iff_eq.mpr c35; clear c35; by_cases c36 : t118 = 0
           ·rw [if_pos c36] at H
            have c36b0 : (t118 == 0) = true := beq_iff_eq.mpr c36; have c36b1 : (t118 != 0) = false := bne_eq_false_iff_eq.mpr c36; clear c36; by_cases c37 : t117.toList = t119.toList
            ·rw [if_pos c37] at H
             have c37b0 : (t117.toList == t119.toList) = true := beq_iff_eq.mpr c37; have c37b1 : (t117.toList != t119.toList) = false := bne_eq_false_iff_eq.mpr c37; clear c37; replace H := Option.bind_eq_some_iff.mp H; obtain ⟨t123, A380, H⟩ := H; have A38 := Aside0.mk A380; clear A380; by_cases c39 : t123 = true
             ·subst c39
              have H1 : (if t122 = 0 then (if t121.toList = t117.toList then ((impl_ValidText.f t116).bind fun t124 => (some (t124 == (t117.toList == t116.toList)))) else (some false)) else (some false)) = some r := by rw [if_pos rfl] at H; exact H
              clear H; have H := H1; clear H1; by_cases c40 : t122 = 0
              ·rw [if_pos c40] at H
               have c40b0 : (t122 == 0) = true := beq_iff_eq.mpr c40; have c40b1 : (t122 != 0) = false := bne_eq_false_iff_eq.mpr c40; clear c40; by_cases c41 : t121.toList = t117.toList
               ·rw [if_pos c41] at H
                have c41b0 : (t121.toList == t117.toList) = true := beq_iff_eq.mpr c41; have c41b1 : (t121.toList != t117.toList) = false := bne_eq_false_iff_eq.mpr c41; clear c41; replace H := Option.bind_eq_some_iff.mp H; obtain ⟨t124, A420, H⟩ := H; have A42 := Aside0.mk A420; clear A420; obtain rfl := Option.some.inj H
                go_wp2_with (first | ((with_reducible refine gate_callee (f := 11) rfl ?_); refine goesL_ (some 82) rfl rfl Tryd.func11 qK rfl #[.slice A1 l1.length c1] rfl qll_ ?_; (with_reducible refine (spec_AnyTextOf.calls k3 _ _ l1 t116 _ ?side1 ?side2 A31.out).mono ?_); (case side1 => exact qcc_ (Kd.C_below HR1.out HB.out)); (case side2 => exact HC1.out); rintro e w43 ⟨rfl, hb⟩; refine ⟨_, rfl, ?_⟩; replace HO_6 := Aside0.mk (Kd.R_below (qr_ HO_6) hb); replace HB := Aside0.mk (below_step qBHB hb); (try clear hb); (try clear hb2); (try clear hk); (try clear hi)) | ((with_reducible refine gate_callee (f := 12) rfl ?_); refine goesL_ (some 85) rfl rfl Tryd.func12 qK rfl #[.string t116] rfl qll_ ?_; (with_reducible refine (impl_RepairText.calls t116 t117 t118 _ (GWu.below HGWu.out qBHB) A32.out).mono ?_); rintro e w44 ⟨rfl, hb⟩; refine ⟨_, rfl, ?_⟩; replace HO_6 := Aside0.mk (Kd.R_below (qr_ HO_6) hb); replace HB := Aside0.mk (below_step qBHB hb); (try clear hb); (try clear hb2); (try clear hk); (try clear hi)) | ((with_reducible refine gate_callee (f := 13) rfl ?_); refine goesL_ (some 90) rfl rfl Tryd.func13 qK rfl #[.string t116] rfl qll_ ?_; (with_reducible refine (spec_RepairText.calls k3 t116 t119 t120 _ A33.out).mono ?_); rintro e w45 ⟨rfl, hb⟩; refine ⟨_, rfl, ?_⟩; replace HO_6 := Aside0.mk (Kd.R_below (qr_ HO_6) hb); replace HB := Aside0.mk (below_step qBHB hb); (try clear hb); (try clear hb2); (try clear hk); (try clear hi)) | ((with_reducible refine gate_callee (f := 12) rfl ?_); refine goesL_ (some 95) rfl rfl Tryd.func12 qK rfl #[.string t117] rfl qll_ ?_; (with_reducible refine (impl_RepairText.calls t117 t121 t122 _ (GWu.below HGWu.out qBHB) A34.out).mono ?_); rintro e w46 ⟨rfl, hb⟩; refine ⟨_, rfl, ?_⟩; replace HO_6 := Aside0.mk (Kd.R_below (qr_ HO_6) hb); replace HB := Aside0.mk (below_step qBHB hb); (try clear hb); (try clear hb2); (try clear hk); (try clear hi)) | (go_at_call 9; (with_reducible refine (impl_ValidText.calls t117 true _ (GWu.below HGWu.out qBHB) A38.out).mono ?_); rintro e w47 ⟨rfl, hb⟩; replace HO_6 := Aside0.mk (Kd.R_below (qr_ HO_6) hb); replace HB := Aside0.mk (below_step qBHB hb); (try clear hb); (try clear hb2); (try clear hk); (try clear hi)) | (go_at_call 9; (with_reducible refine (impl_ValidText.calls t116 t124 _ (GWu.below HGWu.out qBHB) A42.out).mono ?_); rintro e w48 ⟨rfl, hb⟩; replace HO_6 := Aside0.mk (Kd.R_below (qr_ HO_6) hb); replace HB := Aside0.mk (below_step qBHB hb); (try clear hb); (try clear hb2); (try clear hk); (try clear hi)))
                go_ret; exact ⟨qee_, qBHB⟩
               ·rw [if_neg c41] at H
                have c41b0 : (t121.toList == t117.toList) = false := beq_eq_false_iff_ne.mpr c41; have c41b1 : (t121.toList != t117.toList) = true := bne_iff_ne.mpr c41; obtain rfl := Option.some.inj H
                go_wp2_with (first | ((with_reducible refine gate_callee (f := 11) rfl ?_); refine goesL_ (some 82) rfl rfl Tryd.func11 qK rfl #[.slice A1 l1.length c1] rfl qll_ ?_; (with_reducible refine (spec_AnyTextOf.calls k3 _ _ l1 t116 _ ?side1 ?side2 A31.out).mono ?_); (case side1 => exact qcc_ (Kd.C_below HR1.out HB.out)); (case side2 => exact HC1.out); rintro e w49 ⟨rfl, hb⟩; refine ⟨_, rfl, ?_⟩; replace HO_6 := Aside0.mk (Kd.R_below (qr_ HO_6) hb); replace HB := Aside0.mk (below_step qBHB hb); (try clear hb); (try clear hb2); (try clear hk); (try clear hi)) | ((with_reducible refine gate_callee (f := 12) rfl ?_); refine goesL_ (some 85) rfl rfl Tryd.func12 qK rfl #[.string t116] rfl qll_ ?_; (with_reducible refine (impl_RepairText.calls t116 t117 t118 _ (GWu.below HGWu.out qBHB) A32.out).mono ?_); rintro e w50 ⟨rfl, hb⟩; refine ⟨_, rfl, ?_⟩; replace HO_6 := Aside0.mk (Kd.R_below (qr_ HO_6) hb); replace HB := Aside0.mk (below_step qBHB hb); (try clear hb); (try clear hb2); (try clear hk); (try clear hi)) | ((with_reducible refine gate_callee (f := 13) rfl ?_); refine goesL_ (some 90) rfl rfl Tryd.func13 qK rfl #[.string t116] rfl qll_ ?_; (with_reducible refine (spec_RepairText.calls k3 t116 t119 t120 _ A33.out).mono ?_); rintro e w51 ⟨rfl, hb⟩; refine ⟨_, rfl, ?_⟩; replace HO_6 := Aside0.mk (Kd.R_below (qr_ HO_6) hb); replace HB := Aside0.mk (below_step qBHB hb); (try clear hb); (try clear hb2); (try clear hk); (try clear hi)) | ((with_reducible refine gate_callee (f := 12) rfl ?_); refine goesL_ (some 95) rfl rfl Tryd.func12 qK rfl #[.string t117] rfl qll_ ?_; (with_reducible refine (impl_RepairText.calls t117 t121 t122 _ (GWu.below HGWu.out qBHB) A34.out).mono ?_); rintro e w52 ⟨rfl, hb⟩; refine ⟨_, rfl, ?_⟩; replace HO_6 := Aside0.mk (Kd.R_below (qr_ HO_6) hb); replace HB := Aside0.mk (below_step qBHB hb); (try clear hb); (try clear hb2); (try clear hk); (try clear hi)) | (go_at_call 9; (with_reducible refine (impl_ValidText.calls t117 true _ (GWu.below HGWu.out qBHB) A38.out).mono ?_); rintro e w53 ⟨rfl, hb⟩; replace HO_6 := Aside0.mk (Kd.R_below (qr_ HO_6) hb); replace HB := Aside0.mk (below_step qBHB hb); (try clear hb); (try clear hb2); (try clear hk); (try clear hi)))
                go_ret; exact ⟨qee_, qBHB⟩
              ·rw [if_neg c40] at H
               have c40b0 : (t122 == 0) = false := beq_eq_false_iff_ne.mpr c40; have c40b1 : (t122 != 0) = true := bne_iff_ne.mpr c40; obtain rfl := Option.some.inj H
               go_wp2_with (first | ((with_reducible refine gate_callee (f := 11) rfl ?_); refine goesL_ (some 82) rfl rfl Tryd.func11 qK rfl #[.slice A1 l1.length c1] rfl qll_ ?_; (with_reducible refine (spec_AnyTextOf.calls k3 _ _ l1 t116 _ ?side1 ?side2 A31.out).mono ?_); (case side1 => exact qcc_ (Kd.C_below HR1.out HB.out)); (case side2 => exact HC1.out); rintro e w54 ⟨rfl, hb⟩; refine ⟨_, rfl, ?_⟩; replace HO_6 := Aside0.mk (Kd.R_below (qr_ HO_6) hb); replace HB := Aside0.mk (below_step qBHB hb); (try clear hb); (try clear hb2); (try clear hk); (try clear hi)) | ((with_reducible refine gate_callee (f := 12) rfl ?_); refine goesL_ (some 85) rfl rfl Tryd.func12 qK rfl #[.string t116] rfl qll_ ?_; (with_reducible refine (impl_RepairText.calls t116 t117 t118 _ (GWu.below HGWu.out qBHB) A32.out).mono ?_); rintro e w55 ⟨rfl, hb⟩; refine ⟨_, rfl, ?_⟩; replace HO_6 := Aside0.mk (Kd.R_below (qr_ HO_6) hb); replace HB := Aside0.mk (below_step qBHB hb); (try clear hb); (try clear hb2); (try clear hk); (try clear hi)) | ((with_reducible refine gate_callee (f := 13) rfl ?_); refine goesL_ (some 90) rfl rfl Tryd.func13 qK rfl #[.string t116] rfl qll_ ?_; (with_reducible refine (spec_RepairText.calls k3 t116 t119 t120 _ A33.out).mono ?_); rintro e w56 ⟨rfl, hb⟩; refine ⟨_, rfl, ?_⟩; replace HO_6 := Aside0.mk (Kd.R_below (qr_ HO_6) hb); replace HB := Aside0.mk (below_step qBHB hb); (try clear hb); (try clear hb2); (try clear hk); (try clear hi)) | ((with_reducible refine gate_callee (f := 12) rfl ?_); refine goesL_ (some 95) rfl rfl Tryd.func12 qK rfl #[.string t117] rfl qll_ ?_; (with_reducible refine (impl_RepairText.calls t117 t121 t122 _ (GWu.below HGWu.out qBHB) A34.out).mono ?_); rintro e w57 ⟨rfl, hb⟩; refine ⟨_, rfl, ?_⟩; replace HO_6 := Aside0.mk (Kd.R_below (qr_ HO_6) hb); replace HB := Aside0.mk (below_step qBHB hb); (try clear hb); (try clear hb2); (try clear hk); (try clear hi)) | (go_at_call 9; (with_reducible refine (impl_ValidText.calls t117 true _ (GWu.below HGWu.out qBHB) A38.out).mono ?_); rintro e w58 ⟨rfl, hb⟩; replace HO_6 := Aside0.mk (Kd.R_below (qr_ HO_6) hb); replace HB := Aside0.mk (below_step qBHB hb); (try clear hb); (try clear hb2); (try clear hk); (try clear hi)))
               go_ret; exact ⟨qee_, qBHB⟩
             ·replace c39 := Bool.eq_false_iff.mpr c39
              subst c39
              have H1 : (some false) = some r := by rw [if_neg (show ¬ (false = true) by decide)] at H; exact H
              clear H; have H := H1; clear H1; obtain rfl := Option.some.inj H
              go_wp2_with (first | ((with_reducible refine gate_callee (f := 11) rfl ?_); refine goesL_ (some 82) rfl rfl Tryd.func11 qK rfl #[.slice A1 l1.length c1] rfl qll_ ?_; (with_reducible refine (spec_AnyTextOf.calls k3 _ _ l1 t116 _ ?side1 ?side2 A31.out).mono ?_); (case side1 => exact qcc_ (Kd.C_below HR1.out HB.out)); (case side2 => exact HC1.out); rintro e w59 ⟨rfl, hb⟩; refine ⟨_, rfl, ?_⟩; replace HO_6 := Aside0.mk (Kd.R_below (qr_ HO_6) hb); replace HB := Aside0.mk (below_step qBHB hb); (try clear hb); (try clear hb2); (try clear hk); (try clear hi)) | ((with_reducible refine gate_callee (f := 12) rfl ?_); refine goesL_ (some 85) rfl rfl Tryd.func12 qK rfl #[.string t116] rfl qll_ ?_; (with_reducible refine (impl_RepairText.calls t116 t117 t118 _ (GWu.below HGWu.out qBHB) A32.out).mono ?_); rintro e w60 ⟨rfl, hb⟩; refine ⟨_, rfl, ?_⟩; replace HO_6 := Aside0.mk (Kd.R_below (qr_ HO_6) hb); replace HB := Aside0.mk (below_step qBHB hb); (try clear hb); (try clear hb2); (try clear hk); (try clear hi)) | ((with_reducible refine gate_callee (f := 13) rfl ?_); refine goesL_ (some 90) rfl rfl Tryd.func13 qK rfl #[.string t116] rfl qll_ ?_; (with_reducible refine (spec_RepairText.calls k3 t116 t119 t120 _ A33.out).mono ?_); rintro e w61 ⟨rfl, hb⟩; refine ⟨_, rfl, ?_⟩; replace HO_6 := Aside0.mk (Kd.R_below (qr_ HO_6) hb); replace HB := Aside0.mk (below_step qBHB hb); (try clear hb); (try clear hb2); (try clear hk); (try clear hi)) | ((with_reducible refine gate_callee (f := 12) rfl ?_); refine goesL_ (some 95) rfl rfl Tryd.func12 qK rfl #[.string t117] rfl qll_ ?_; (with_reducible refine (impl_RepairText.calls t117 t121 t122 _ (GWu.below HGWu.out qBHB) A34.out).mono ?_); rintro e w62 ⟨rfl, hb⟩; refine ⟨_, rfl, ?_⟩; replace HO_6 := Aside0.mk (Kd.R_below (qr_ HO_6) hb); replace HB := Aside0.mk (below_step qBHB hb); (try clear hb); (try clear hb2); (try clear hk); (try clear hi)) | (go_at_call 9; (with_reducible refine (impl_ValidText.calls t117 false _ (GWu.below HGWu.out qBHB) A38.out).mono ?_); rintro e w63 ⟨rfl, hb⟩; replace HO_6 := Aside0.mk (Kd.R_below (qr_ HO_6) hb); replace HB := Aside0.mk (below_step qBHB hb); (try clear hb); (try clear hb2); (try clear hk); (try clear hi)))
              go_ret; exact ⟨qee_, qBHB⟩
            ·rw [if_neg c37] at H
             have c37b0 : (t117.toList == t119.toList) = false := beq_eq_false_iff_ne.mpr c37; have c37b1 : (t117.toList != t119.toList) = true := bne_iff_ne.mpr c37; obtain rfl := Option.some.inj H
             go_wp2_with (first | ((with_reducible refine gate_callee (f := 11) rfl ?_); refine goesL_ (some 82) rfl rfl Tryd.func11 qK rfl #[.slice A1 l1.length c1] rfl qll_ ?_; (with_reducible refine (spec_AnyTextOf.calls k3 _ _ l1 t116 _ ?side1 ?side2 A31.out).mono ?_); (case side1 => exact qcc_ (Kd.C_below HR1.out HB.out)); (case side2 => exact HC1.out); rintro e w64 ⟨rfl, hb⟩; refine ⟨_, rfl, ?_⟩; replace HO_6 := Aside0.mk (Kd.R_below (qr_ HO_6) hb); replace HB := Aside0.mk (below_step qBHB hb); (try clear hb); (try clear hb2); (try clear hk); (try clear hi)) | ((with_reducible refine gate_callee (f := 12) rfl ?_); refine goesL_ (some 85) rfl rfl Tryd.func12 qK rfl #[.string t116] rfl qll_ ?_; (with_reducible refine (impl_RepairText.calls t116 t117 t118 _ (GWu.below HGWu.out qBHB) A32.out).mono ?_); rintro e w65 ⟨rfl, hb⟩; refine ⟨_, rfl, ?_⟩; replace HO_6 := Aside0.mk (Kd.R_below (qr_ HO_6) hb); replace HB := Aside0.mk (below_step qBHB hb); (try clear hb); (try clear hb2); (try clear hk); (try clear hi)) | ((with_reducible refine gate_callee (f := 13) rfl ?_); refine goesL_ (some 90) rfl rfl Tryd.func13 qK rfl #[.string t116] rfl qll_ ?_; (with_reducible refine (spec_RepairText.calls k3 t116 t119 t120 _ A33.out).mono ?_); rintro e w66 ⟨rfl, hb⟩; refine ⟨_, rfl, ?_⟩; replace HO_6 := Aside0.mk (Kd.R_below (qr_ HO_6) hb); replace HB := Aside0.mk (below_step qBHB hb); (try clear hb); (try clear hb2); (try clear hk); (try clear hi)) | ((with_reducible refine gate_callee (f := 12) rfl ?_); refine goesL_ (some 95) rfl rfl Tryd.func12 qK rfl #[.string t117] rfl qll_ ?_; (with_reducible refine (impl_RepairText.calls t117 t121 t122 _ (GWu.below HGWu.out qBHB) A34.out).mono ?_); rintro e w67 ⟨rfl, hb⟩; refine ⟨_, rfl, ?_⟩; replace HO_6 := Aside0.mk (Kd.R_below (qr_ HO_6) hb); replace HB := Aside0.mk (below_step qBHB hb); (try clear hb); (try clear hb2); (try clear hk); (try clear hi)))
             go_ret; exact ⟨qee_, qBHB⟩
           ·rw [if_neg c36] at H
            have c36b0 : (t118 == 0) = false := beq_eq_false_iff_ne.mpr c36; have c36b1 : (t118 != 0) = true := bne_iff_ne.mpr c36; obtain rfl := Option.some.inj H
            go_wp2_with (first | ((with_reducible refine gate_callee (f := 11) rfl ?_); refine goesL_ (some 82) rfl rfl Tryd.func11 qK rfl #[.slice A1 l1.length c1] rfl qll_ ?_; (with_reducible refine (spec_AnyTextOf.calls k3 _ _ l1 t116 _ ?side1 ?side2 A31.out).mono ?_); (case side1 => exact qcc_ (Kd.C_below HR1.out HB.out)); (case side2 => exact HC1.out); rintro e w68 ⟨rfl, hb⟩; refine ⟨_, rfl, ?_⟩; replace HO_6 := Aside0.mk (Kd.R_below (qr_ HO_6) hb); replace HB := Aside0.mk (below_step qBHB hb); (try clear hb); (try clear hb2); (try clear hk); (try clear hi)) | ((with_reducible refine gate_callee (f := 12) rfl ?_); refine goesL_ (some 85) rfl rfl Tryd.func12 qK rfl #[.string t116] rfl qll_ ?_; (with_reducible refine (impl_RepairText.calls t116 t117 t118 _ (GWu.below HGWu.out qBHB) A32.out).mono ?_); rintro e w69 ⟨rfl, hb⟩; refine ⟨_, rfl, ?_⟩; replace HO_6 := Aside0.mk (Kd.R_below (qr_ HO_6) hb); replace HB := Aside0.mk (below_step qBHB hb); (try clear hb); (try clear hb2); (try clear hk); (try clear hi)) | ((with_reducible refine gate_callee (f := 13) rfl ?_); refine goesL_ (some 90) rfl rfl Tryd.func13 qK rfl #[.string t116] rfl qll_ ?_; (with_reducible refine (spec_RepairText.calls k3 t116 t119 t120 _ A33.out).mono ?_); rintro e w70 ⟨rfl, hb⟩; refine ⟨_, rfl, ?_⟩; replace HO_6 := Aside0.mk (Kd.R_below (qr_ HO_6) hb); replace HB := Aside0.mk (below_step qBHB hb); (try clear hb); (try clear hb2); (try clear hk); (try clear hi)) | ((with_reducible refine gate_callee (f := 12) rfl ?_); refine goesL_ (some 95) rfl rfl Tryd.func12 qK rfl #[.string t117] rfl qll_ ?_; (with_reducible refine (impl_RepairText.calls t117 t121 t122 _ (GWu.below HGWu.out qBHB) A34.out).mono ?_); rintro e w71 ⟨rfl, hb⟩; refine ⟨_, rfl, ?_⟩; replace HO_6 := Aside0.mk (Kd.R_below (qr_ HO_6) hb); replace HB := Aside0.mk (below_step qBHB hb); (try clear hb); (try clear hb2); (try clear hk); (try clear hi)))
            go_ret; exact ⟨qee_, qBHB⟩
          ·rw [if_neg c35] at H
           have c35b0 : (x12_3 == (t101.size : Int)) = false := beq_eq_false_iff_ne.mpr c35; have c35b1 : (x12_3 != (t101.size : Int)) = true := bne_iff_ne.mpr c35; obtain rfl := Option.some.inj H
           go_wp2_with (first | ((with_reducible refine gate_callee (f := 11) rfl ?_); refine goesL_ (some 82) rfl rfl Tryd.func11 qK rfl #[.slice A1 l1.length c1] rfl qll_ ?_; (with_reducible refine (spec_AnyTextOf.calls k3 _ _ l1 t116 _ ?side1 ?side2 A31.out).mono ?_); (case side1 => exact qcc_ (Kd.C_below HR1.out HB.out)); (case side2 => exact HC1.out); rintro e w72 ⟨rfl, hb⟩; refine ⟨_, rfl, ?_⟩; replace HO_6 := Aside0.mk (Kd.R_below (qr_ HO_6) hb); replace HB := Aside0.mk (below_step qBHB hb); (try clear hb); (try clear hb2); (try clear hk); (try clear hi)) | ((with_reducible refine gate_callee (f := 12) rfl ?_); refine goesL_ (some 85) rfl rfl Tryd.func12 qK rfl #[.string t116] rfl qll_ ?_; (with_reducible refine (impl_RepairText.calls t116 t117 t118 _ (GWu.below HGWu.out qBHB) A32.out).mono ?_); rintro e w73 ⟨rfl, hb⟩; refine ⟨_, rfl, ?_⟩; replace HO_6 := Aside0.mk (Kd.R_below (qr_ HO_6) hb); replace HB := Aside0.mk (below_step qBHB hb); (try clear hb); (try clear hb2); (try clear hk); (try clear hi)) | ((with_reducible refine gate_callee (f := 13) rfl ?_); refine goesL_ (some 90) rfl rfl Tryd.func13 qK rfl #[.string t116] rfl qll_ ?_; (with_reducible refine (spec_RepairText.calls k3 t116 t119 t120 _ A33.out).mono ?_); rintro e w74 ⟨rfl, hb⟩; refine ⟨_, rfl, ?_⟩; replace HO_6 := Aside0.mk (Kd.R_below (qr_ HO_6) hb); replace HB := Aside0.mk (below_step qBHB hb); (try clear hb); (try clear hb2); (try clear hk); (try clear hi)) | ((with_reducible refine gate_callee (f := 12) rfl ?_); refine goesL_ (some 95) rfl rfl Tryd.func12 qK rfl #[.string t117] rfl qll_ ?_; (with_reducible refine (impl_RepairText.calls t117 t121 t122 _ (GWu.below HGWu.out qBHB) A34.out).mono ?_); rintro e w75 ⟨rfl, hb⟩; refine ⟨_, rfl, ?_⟩; replace HO_6 := Aside0.mk (Kd.R_below (qr_ HO_6) hb); replace HB := Aside0.mk (below_step qBHB hb); (try clear hb); (try clear hb2); (try clear hk); (try clear hi)))
           go_ret; exact ⟨qee_, qBHB⟩

end Go.Proofs.YtcibmjgofebmdaaDoor.P
namespace Go.Proofs.YtcibmjgofebmdaaDoor.P
open Go.RowKit Go.ChangeShapes Go.WideShapes Go.Proofs.YtcibmjgofebmdaaDoorW.PrintWords

end Go.Proofs.YtcibmjgofebmdaaDoor.P
namespace Go.Proofs.YtcibmjgofebmdaaDoor.P
open Go.RowKit Go.ChangeShapes Go.WideShapes Go.Proofs.YtcibmjgofebmdaaDoorW.PrintWords

/-- What is to be proved of the law FnText, over numbers and lists alone. -/
def laws_FnText.Pure : Prop := ∀ (x0 : List Int) (x1 : List Int), (x0.length ≤ maxLen ∧ x0.length * 1 ≤ 140737488351232 ∧ ∀ y ∈ x0, (Lit.int .u8 y).wf = true) → (x1.length ≤ maxLen ∧ x1.length * 1 ≤ 140737488351232 ∧ ∀ y ∈ x1, (Lit.int .u8 y).wf = true) → ∃ k, laws_FnText.f k x0 x1 = some true
end Go.Proofs.YtcibmjgofebmdaaDoor.P
/- Lemmas of mine: strings as lists of bytes; whole numbers of 64 bits; rounds. Plain. -/
set_option linter.unusedVariables false
set_option linter.unusedSimpArgs false
namespace Go.Proofs.YtcibmjgofebmdaaDoor.P
open Go.RowKit Go.Proofs.YtcibmjgofebmdaaDoorW.PrintWords
/-- As Option.bind_some, but no equation by computing: for terms that are not to be computed by the kernel. -/
theorem bS {α β : Type} (a : α) (f : α → Option β) : (some a).bind f = f a := Eq.trans (Option.bind_some a f) (Eq.refl (f a))
/-- A string's bytes. -/
def bl (s : ByteArray) : List UInt8 := s.data.toList
/-- Bytes as numbers. -/
def nb (l : List UInt8) : List Int := l.map fun b => (b.toNat : Int)
theorem bl_inj {a b : ByteArray} (h : bl a = bl b) : a = b := WideShapes.bytes_inj h
theorem toList_bl (s : ByteArray) : s.toList = bl s := Lib.toList_data s
theorem toList_iff {a b : ByteArray} : a.toList = b.toList ↔ a = b := ⟨fun h => bl_inj (by rw [← toList_bl, ← toList_bl, h]), fun h => by rw [h]⟩
theorem bl_size (s : ByteArray) : s.size = (bl s).length := Lib.size_eq s
theorem bl_append (a b : ByteArray) : bl (a ++ b) = bl a ++ bl b := by simp [bl]
theorem bl_extract (s : ByteArray) (i j : Nat) : bl (s.extract i j) = ((bl s).drop i).take (j - i) := Lib.extract_data s i j
theorem bl_mk (l : List UInt8) : bl ⟨l.toArray⟩ = l := by simp [bl]
theorem bl_empty : bl (⟨#[]⟩ : ByteArray) = [] := rfl
theorem mk_bl (s : ByteArray) : (⟨(bl s).toArray⟩ : ByteArray) = s := bl_inj (bl_mk _)
theorem bytesOf_bl (s : ByteArray) : bytesOf s = nb (bl s) := rfl
theorem nb_length (l : List UInt8) : (nb l).length = l.length := by simp [nb]
theorem nb_append (l m : List UInt8) : nb (l ++ m) = nb l ++ nb m := by simp [nb]
theorem strOf_nb (l : List UInt8) : strOfNums (nb l) = ⟨l.toArray⟩ := by
 simp [strOfNums, nb, Function.comp_def]
theorem bl_strOf_nb (l : List UInt8) : bl (strOfNums (nb l)) = l := by rw [strOf_nb, bl_mk]
theorem bt_eq (s : ByteArray) (i : Nat) (h : i < (bl s).length) : bt s (i : Int) = (((bl s)[i]'h).toNat : Int) := by
 have hs : i < s.size := by rw [bl_size]; exact h
 unfold bt
 rw [dif_pos (by simpa using hs)]
 have h1 := Lib.data_getElem? s i hs
 have h2 : (bl s)[i]? = some ((bl s)[i]'h) := List.getElem?_eq_getElem h
 have h3 : s[i]'hs = (bl s)[i]'h := Option.some.inj (h1.symm.trans h2)
 simp only [Int.toNat_natCast]
 rw [← h3]
theorem rd_nb (l : List UInt8) (i : Nat) (h : i < l.length) : rd (nb l) (i : Int) = ((l[i]'h).toNat : Int) := by
 simp [rd, nb, List.getD_eq_getElem?_getD, List.getElem?_map, List.getElem?_eq_getElem h]
theorem byte_lt (b : UInt8) : b.toNat < 256 := b.toNat_lt
/-- No wrap within the bounds. -/
theorem w64 {n : Int} (h0 : -9223372036854775808 ≤ n) (h1 : n ≤ 9223372036854775807) : wrap64 n = n := by unfold wrap64; omega
theorem w64n (n : Nat) (h1 : n ≤ 9223372036854775807) : wrap64 (n : Int) = n := w64 (by omega) (by omega)
theorem w64s (n : Nat) (h1 : n + 1 ≤ 9223372036854775807) : wrap64 ((n : Int) + 1) = ((n + 1 : Nat) : Int) := by rw [w64 (by omega) (by omega)]; rfl
theorem w64add (a b : Nat) (h : a + b ≤ 9223372036854775807) : wrap64 ((a : Int) + (b : Int)) = ((a + b : Nat) : Int) := by rw [w64 (by omega) (by omega)]; rfl
theorem w64lit (a b : Nat) (h : a + b ≤ 9223372036854775807) : wrap64 ((a : Int) + wrap64 ((b : Int))) = ((a + b : Nat) : Int) := by rw [w64n b (by omega), w64add a b h]
theorem w64sub (a b : Nat) (h : b ≤ a) (h2 : a ≤ 9223372036854775807) : wrap64 ((a : Int) - (b : Int)) = ((a - b : Nat) : Int) := by rw [w64 (by omega) (by omega)]; omega
theorem bits_xor_nat (k : IntKind) (j : Nat) (hj : j ≤ k.bits) (hk : ∀ n : Int, 0 ≤ n → n < 2 ^ j → k.wrap n = n) (a b : Nat) (ha : a < 2 ^ j) (hb : b < 2 ^ j) : bits .xor k a b = ((a ^^^ b : Nat) : Int) := by
 have hp : 2 ^ j ≤ 2 ^ k.bits := Nat.pow_le_pow_right (by decide) hj
 have ha' : a % 2 ^ k.bits = a := Nat.mod_eq_of_lt (Nat.lt_of_lt_of_le ha hp)
 have hb' : b % 2 ^ k.bits = b := Nat.mod_eq_of_lt (Nat.lt_of_lt_of_le hb hp)
 simp only [bits, BitVec.ofInt_natCast, BitVec.toNat_xor, BitVec.toNat_ofNat, ha', hb']
 exact hk _ (Int.natCast_nonneg _) (by exact_mod_cast Nat.xor_lt_two_pow ha hb)
theorem u32_in (n : Int) (h0 : 0 ≤ n) (h1 : n < 2 ^ 32) : IntKind.u32.wrap n = n := by rw [IntKind.wrap_u32]; omega
theorem i64_in32 (n : Int) (h0 : 0 ≤ n) (h1 : n < 2 ^ 32) : IntKind.i64.wrap n = n := by rw [IntKind.wrap_i64]; omega
theorem xor_u32 (a b : Nat) (ha : a < 4294967296) (hb : b < 4294967296) : bits .xor .u32 a b = ((a ^^^ b : Nat) : Int) := bits_xor_nat .u32 32 (by decide) u32_in a b ha hb
theorem xor_i64 (a b : Nat) (ha : a < 4294967296) (hb : b < 4294967296) : bits .xor .i64 a b = ((a ^^^ b : Nat) : Int) := bits_xor_nat .i64 32 (by decide) i64_in32 a b ha hb
/-- Rounds: what is told for all numbers of rounds from some on. -/
theorem Ev.k {α : Type} {g : Nat → Option α} {r : α} (h : Ev g r) : ∃ k, g k = some r := h.rounds
theorem Ev.and {α β : Type} {g : Nat → Option α} {f : Nat → Option β} {r : α} {q : β} (h : Ev g r) (h' : Ev f q) : ∃ K, ∀ k, K ≤ k → g k = some r ∧ f k = some q := by
 obtain ⟨K, h⟩ := h
 obtain ⟨K', h'⟩ := h'
 exact ⟨max K K', fun k hk => ⟨h k (by omega), h' k (by omega)⟩⟩
theorem Ev.uniq {α : Type} {g : Nat → Option α} {r q : α} (h : Ev g r) (h' : Ev g q) : r = q := by
 obtain ⟨K, hk⟩ := Ev.and h h'
 have h1 := hk K (Nat.le_refl _)
 exact Option.some.inj (h1.1.symm.trans h1.2)
end Go.Proofs.YtcibmjgofebmdaaDoor.P
/- Lemmas of mine: loops that count up: over any function of rounds. Plain. -/
set_option linter.unusedVariables false
set_option linter.unusedSimpArgs false
namespace Go.Proofs.YtcibmjgofebmdaaDoor.P
open Go.RowKit Go.Proofs.YtcibmjgofebmdaaDoorW.PrintWords
/-- A loop whose rounds change the place alone. -/
theorem up_loop {R : Type} (L : Nat → Int → Option R) (n : Nat) (r : R)
  (hstep : ∀ i : Nat, i < n → ∃ K, ∀ k, K ≤ k → L (k + 1) (i : Int) = L k ((i + 1 : Nat) : Int))
  (hend : ∃ K, ∀ k, K ≤ k → L (k + 1) (n : Int) = some r) : ∀ d i : Nat, i + d = n → Ev (fun k => L k (i : Int)) r := by
 intro d
 induction d with
 | zero =>
  intro i hi
  obtain rfl : i = n := by omega
  obtain ⟨K, h⟩ := hend
  exact ⟨K + 1, fun k hk => by obtain ⟨m, rfl⟩ : ∃ m, k = m + 1 := ⟨k - 1, by omega⟩; exact h m (by omega)⟩
 | succ d ih =>
  intro i hi
  obtain ⟨K, h⟩ := hstep i (by omega)
  obtain ⟨K2, h2⟩ := ih (i + 1) (by omega)
  refine ⟨K + K2 + 1, fun k hk => ?_⟩
  obtain ⟨m, rfl⟩ : ∃ m, k = m + 1 := ⟨k - 1, by omega⟩
  show L (m + 1) (i : Int) = some r
  rw [h m (by omega)]
  exact h2 m (by omega)
/-- A loop with a state: what holds of the state says what comes out. -/
theorem st_loop {σ R : Type} (L : Nat → σ → Int → Option R) (n : Nat) (out : Nat → σ → R → Prop)
  (hstep : ∀ (i : Nat) (s : σ), i < n → (∃ r, (∃ K, ∀ k, K ≤ k → L (k + 1) s (i : Int) = some r) ∧ out i s r) ∨ ∃ s', (∃ K, ∀ k, K ≤ k → L (k + 1) s (i : Int) = L k s' ((i + 1 : Nat) : Int)) ∧ ∀ r, out (i + 1) s' r → out i s r)
  (hend : ∀ s, ∃ r, (∃ K, ∀ k, K ≤ k → L (k + 1) s (n : Int) = some r) ∧ out n s r) : ∀ (d i : Nat) (s : σ), i + d = n → ∃ r, Ev (fun k => L k s (i : Int)) r ∧ out i s r := by
 intro d
 induction d with
 | zero =>
  intro i s hi
  obtain rfl : i = n := by omega
  obtain ⟨r, ⟨K, h⟩, ho⟩ := hend s
  exact ⟨r, ⟨K + 1, fun k hk => by obtain ⟨m, rfl⟩ : ∃ m, k = m + 1 := ⟨k - 1, by omega⟩; exact h m (by omega)⟩, ho⟩
 | succ d ih =>
  intro i s hi
  rcases hstep i s (by omega) with ⟨r, ⟨K, h⟩, ho⟩ | ⟨s', ⟨K, h⟩, ho⟩
  ·exact ⟨r, ⟨K + 1, fun k hk => by obtain ⟨m, rfl⟩ : ∃ m, k = m + 1 := ⟨k - 1, by omega⟩; exact h m (by omega)⟩, ho⟩
  ·obtain ⟨r, ⟨K2, h2⟩, ho2⟩ := ih (i + 1) s' (by omega)
   refine ⟨r, ⟨K + K2 + 1, fun k hk => ?_⟩, ho r ho2⟩
   obtain ⟨m, rfl⟩ : ∃ m, k = m + 1 := ⟨k - 1, by omega⟩
   show L (m + 1) s (i : Int) = some r
   rw [h m (by omega)]
   exact h2 m (by omega)
theorem map_set {α β : Type} (xs : List α) (ys : List β) (g : α → β) (i : Nat) (hi : i < xs.length) (hl : ys.length = xs.length) (hy : ys.take i = (xs.take i).map g) :
  (ys.set i (g (xs[i]'hi))).take (i + 1) = (xs.take (i + 1)).map g := by
 have e2 : (xs.take (i + 1)).map g = (xs.take i).map g ++ [g (xs[i]'hi)] := by
  rw [List.take_add_one, List.getElem?_eq_getElem hi, List.map_append]
  rfl
 have e : ((xs.take i).map g).length = i := by rw [List.length_map, List.length_take]; omega
 rw [e2, List.take_set, List.take_add_one, List.getElem?_eq_getElem (by omega), hy, List.set_append_right _ _ (by omega), e, Nat.sub_self]
 rfl
/-- A loop that fills a row of the same length. -/
theorem copy_loop {α β : Type} (L : Nat → List β → Int → Option (List β)) (xs : List α) (g : α → β)
  (hstep : ∀ (i : Nat) (ys : List β) (hi : i < xs.length), ys.length = xs.length → ∃ K, ∀ k, K ≤ k → L (k + 1) ys (i : Int) = L k (ys.set i (g (xs[i]'hi))) ((i + 1 : Nat) : Int))
  (hend : ∀ ys, ys.length = xs.length → ∃ K, ∀ k, K ≤ k → L (k + 1) ys (xs.length : Int) = some ys) :
  ∀ (d i : Nat) (ys : List β), i + d = xs.length → ys.length = xs.length → ys.take i = (xs.take i).map g → Ev (fun k => L k ys (i : Int)) (xs.map g) := by
 intro d
 induction d with
 | zero =>
  intro i ys hi hl hy
  obtain rfl : i = xs.length := by omega
  rw [List.take_of_length_le (by omega), List.take_of_length_le (Nat.le_refl _)] at hy
  subst hy
  obtain ⟨K, h⟩ := hend _ hl
  exact ⟨K + 1, fun k hk => by obtain ⟨m, rfl⟩ : ∃ m, k = m + 1 := ⟨k - 1, by omega⟩; exact h m (by omega)⟩
 | succ d ih =>
  intro i ys hi hl hy
  obtain ⟨K, h⟩ := hstep i ys (by omega) hl
  obtain ⟨K2, h2⟩ := ih (i + 1) (ys.set i (g (xs[i]'(by omega)))) (by omega) (by rw [List.length_set]; exact hl) (map_set xs ys g i (by omega) hl hy)
  refine ⟨K + K2 + 1, fun k hk => ?_⟩
  obtain ⟨m, rfl⟩ : ∃ m, k = m + 1 := ⟨k - 1, by omega⟩
  show L (m + 1) ys (i : Int) = _
  rw [h m (by omega)]
  exact h2 m (by omega)
theorem getD_nat {α : Type} (xs : List α) (z : α) (i : Nat) (h : i < xs.length) : xs.getD ((i : Nat) : Int).toNat z = xs[i]'h := by
 rw [Int.toNat_natCast, List.getD_eq_getElem?_getD, List.getElem?_eq_getElem h]; rfl
end Go.Proofs.YtcibmjgofebmdaaDoor.P
/- Lemmas of mine: a source of choices always gives one, within its bounds. Plain. -/
set_option linter.unusedVariables false
set_option linter.unusedSimpArgs false
namespace Go.Proofs.YtcibmjgofebmdaaDoor.P
open Go.RowKit Go.Proofs.YtcibmjgofebmdaaDoorW.PrintWords
/-- A source: its bytes, its place (at most B), its seed. -/
def Src (l : List Int) (a s B : Int) : Prop := (∀ y ∈ l, 0 ≤ y ∧ y ≤ 255) ∧ (0 ≤ a ∧ a ≤ B) ∧ (0 ≤ s ∧ s < 2147483648)
theorem Src.grow {l : List Int} {a s B C : Int} (h : Src l a s B) (hc : B ≤ C) : Src l a s C := ⟨h.1, ⟨h.2.1.1, by have := h.2.1.2; omega⟩, h.2.2⟩
theorem rd_mem (l : List Int) (i : Int) (h0 : 0 ≤ i) (h1 : i < (l.length : Int)) : rd l i ∈ l := by
 have h : i.toNat < l.length := by omega
 unfold rd
 rw [List.getD_eq_getElem?_getD, List.getElem?_eq_getElem h]
 exact List.getElem_mem h
theorem byte_ok {l : List Int} {a s B : Int} (h : Src l a s B) (hB : B ≤ 4611686018427387904) : ∃ r a' s', spec_l00Src_byte.f l a s = some (r, a', s') ∧ Src l a' s' (B + 1) ∧ 0 ≤ r ∧ r ≤ 255 := by
 obtain ⟨hl, ⟨h0, h1⟩, h2, h3⟩ := h
 unfold spec_l00Src_byte.f
 rw [if_pos ⟨h0, by omega, h2, h3⟩]
 by_cases c1 : a + 1 ≤ (l.length : Int)
 ·have hm := hl _ (rd_mem l a h0 (by omega))
  rw [if_pos c1, if_pos hm]
  exact ⟨_, _, _, rfl, ⟨hl, ⟨by omega, by omega⟩, by omega, by omega⟩, hm.1, hm.2⟩
 ·rw [if_neg c1]
  by_cases c2 : a + 1 > 3000
  ·rw [if_pos c2]
   exact ⟨_, _, _, rfl, ⟨hl, ⟨by omega, by omega⟩, h2, h3⟩, by omega, by omega⟩
  ·rw [if_neg c2]
   exact ⟨_, _, _, rfl, ⟨hl, ⟨by omega, by omega⟩, by omega, by omega⟩, by omega, by omega⟩
theorem tmod_in (n m : Int) (h0 : 0 ≤ n) (h1 : 0 < m) : 0 ≤ Int.tmod n m ∧ Int.tmod n m < m := ⟨Int.tmod_nonneg m h0, Int.tmod_lt_of_pos n h1⟩
theorem next_ok {l : List Int} {a s B : Int} (n : Int) (h : Src l a s B) (hB : B ≤ 4611686018427387900) : ∃ r a' s', spec_l00Src_next.f l a s n = some (r, a', s') ∧ Src l a' s' (B + 3) ∧ 0 ≤ r ∧ (1 ≤ n → r < n) := by
 unfold spec_l00Src_next.f
 by_cases c1 : n ≤ 1
 ·rw [if_pos c1]
  exact ⟨_, _, _, rfl, h.grow (by omega), by omega, fun _ => by omega⟩
 ·rw [if_neg c1]
  obtain ⟨r1, a1, s1, e1, h1, b1, d1⟩ := byte_ok h (by omega)
  by_cases c2 : n ≤ 256
  ·rw [if_pos c2, e1]
   simp only [Option.bind_some]
   rw [if_neg (by omega)]
   obtain ⟨t1, t2⟩ := tmod_in r1 n b1 (by omega)
   exact ⟨_, _, _, rfl, h1.grow (by omega), t1, fun _ => t2⟩
  ·rw [if_neg c2, e1]
   simp only [Option.bind_some]
   obtain ⟨r2, a2, s2, e2, h2, b2, d2⟩ := byte_ok h1 (by omega)
   rw [e2]
   simp only [Option.bind_some]
   obtain ⟨r3, a3, s3, e3, h3, b3, d3⟩ := byte_ok h2 (by omega)
   rw [e3]
   simp only [Option.bind_some]
   rw [if_neg (by omega), w64 (n := r1 * 65536) (by omega) (by omega), w64 (n := r2 * 256) (by omega) (by omega), w64 (n := r1 * 65536 + r2 * 256) (by omega) (by omega), w64 (n := r1 * 65536 + r2 * 256 + r3) (by omega) (by omega)]
   obtain ⟨t1, t2⟩ := tmod_in (r1 * 65536 + r2 * 256 + r3) n (by omega) (by omega)
   exact ⟨_, _, _, rfl, h3.grow (by omega), t1, fun _ => t2⟩
theorem source_ok (l : List Int) (h : ∀ y ∈ l, 0 ≤ y ∧ y ≤ 255) : ∃ s, spec_l00Source.f l = some (l, 0, s) ∧ Src l 0 s 0 := by
 refine ⟨_, rfl, h, ⟨by omega, by omega⟩, by omega, by omega⟩
theorem u8_of_wf {y : Int} (h : (Lit.int .u8 y).wf = true) : 0 ≤ y ∧ y ≤ 255 := by
 have : IntKind.u8.min ≤ y ∧ y ≤ IntKind.u8.max := by simpa [Lit.wf] using h
 have e1 : IntKind.u8.min = 0 := by decide
 have e2 : IntKind.u8.max = 255 := by decide
 rw [e1, e2] at this
 exact this
end Go.Proofs.YtcibmjgofebmdaaDoor.P
/- Lemmas of mine: a drawn text is put together out of right pieces. Plain. -/
set_option linter.unusedVariables false
set_option linter.unusedSimpArgs false
namespace Go.Proofs.YtcibmjgofebmdaaDoor.P
open Go.RowKit Go.Proofs.YtcibmjgofebmdaaDoorW.PrintWords
theorem l01In_t (a b c : Int) : spec_l01In.f a b c = some (decide (b ≤ a ∧ a ≤ c)) := by
 unfold spec_l01In.f
 by_cases h : a ≥ b
 ·rw [if_pos h]; simp [show b ≤ a from h]
 ·rw [if_neg h]; simp; omega
/-- A drawn rune. -/
def RuneR (r : Int) : Prop := (0 ≤ r ∧ r < 128) ∨ r ∈ ([228, 2047, 2048, 8364, 55295, 57344, 65535, 65536, 128512, 1114111] : List Int)
/-- A rune's bytes. -/
def Piece (p : List UInt8) : Prop := (∃ b : UInt8, b.toNat < 128 ∧ p = [b]) ∨ p ∈ ([[195, 164], [223, 191], [224, 160, 128], [226, 130, 172], [237, 159, 191], [238, 128, 128], [239, 191, 191], [240, 144, 128, 128], [240, 159, 152, 128], [244, 143, 191, 191]] : List (List UInt8))
theorem piece_len {p : List UInt8} (h : Piece p) : 1 ≤ p.length ∧ p.length ≤ 4 := by
 rcases h with ⟨b, _, rfl⟩ | h
 ·exact ⟨Nat.le_refl _, show 1 ≤ 4 by decide⟩
 ·simp only [List.mem_cons, List.not_mem_nil, or_false] at h
  rcases h with rfl | rfl | rfl | rfl | rfl | rfl | rfl | rfl | rfl | rfl <;> exact ⟨by decide, by decide⟩
theorem rune_ok {l : List Int} {a s B : Int} (h : Src l a s B) (hB : B ≤ 4611686018427387000) : ∃ r a' s', spec_l00Src_rune.f l a s = some (r, a', s') ∧ Src l a' s' (B + 9) ∧ RuneR r := by
 obtain ⟨r1, a1, s1, e1, h1, b1, c1⟩ := next_ok 128 h (by omega)
 obtain ⟨r2, a2, s2, e2, h2, b2, c2⟩ := next_ok 26 h1 (by omega)
 obtain ⟨r3, a3, s3, e3, h3, b3, c3⟩ := next_ok 12 h2 (by omega)
 have c1 := c1 (by decide)
 have c2 := c2 (by decide)
 have c3 := c3 (by decide)
 have w : wrap64 (97 + r2) = 97 + r2 := w64 (by omega) (by omega)
 have hlen : (([r1, 97 + r2, 228, 2047, 2048, 8364, 55295, 57344, 65535, 65536, 128512, 1114111] : List Int).length : Int) = 12 := rfl
 refine ⟨rd ([r1, 97 + r2, 228, 2047, 2048, 8364, 55295, 57344, 65535, 65536, 128512, 1114111] : List Int) r3, a3, s3, ?_, h3.grow (by omega), ?_⟩
 ·simp only [spec_l00Src_rune.f, e1, e2, e3, bS, w]
  rw [if_pos b3, hlen, if_pos c3]
 ·obtain ⟨i, hi⟩ : ∃ i : Nat, r3 = (i : Int) := ⟨r3.toNat, (Int.toNat_of_nonneg b3).symm⟩
  subst hi
  have hc : i = 0 ∨ i = 1 ∨ i = 2 ∨ i = 3 ∨ i = 4 ∨ i = 5 ∨ i = 6 ∨ i = 7 ∨ i = 8 ∨ i = 9 ∨ i = 10 ∨ i = 11 := by omega
  rcases hc with rfl | rfl | rfl | rfl | rfl | rfl | rfl | rfl | rfl | rfl | rfl | rfl
  ·exact .inl ⟨b1, c1⟩
  ·exact .inl (show 0 ≤ 97 + r2 ∧ 97 + r2 < 128 by omega)
  ·exact .inr (show (228 : Int) ∈ ([228, 2047, 2048, 8364, 55295, 57344, 65535, 65536, 128512, 1114111] : List Int) by decide)
  ·exact .inr (show (2047 : Int) ∈ ([228, 2047, 2048, 8364, 55295, 57344, 65535, 65536, 128512, 1114111] : List Int) by decide)
  ·exact .inr (show (2048 : Int) ∈ ([228, 2047, 2048, 8364, 55295, 57344, 65535, 65536, 128512, 1114111] : List Int) by decide)
  ·exact .inr (show (8364 : Int) ∈ ([228, 2047, 2048, 8364, 55295, 57344, 65535, 65536, 128512, 1114111] : List Int) by decide)
  ·exact .inr (show (55295 : Int) ∈ ([228, 2047, 2048, 8364, 55295, 57344, 65535, 65536, 128512, 1114111] : List Int) by decide)
  ·exact .inr (show (57344 : Int) ∈ ([228, 2047, 2048, 8364, 55295, 57344, 65535, 65536, 128512, 1114111] : List Int) by decide)
  ·exact .inr (show (65535 : Int) ∈ ([228, 2047, 2048, 8364, 55295, 57344, 65535, 65536, 128512, 1114111] : List Int) by decide)
  ·exact .inr (show (65536 : Int) ∈ ([228, 2047, 2048, 8364, 55295, 57344, 65535, 65536, 128512, 1114111] : List Int) by decide)
  ·exact .inr (show (128512 : Int) ∈ ([228, 2047, 2048, 8364, 55295, 57344, 65535, 65536, 128512, 1114111] : List Int) by decide)
  ·exact .inr (show (1114111 : Int) ∈ ([228, 2047, 2048, 8364, 55295, 57344, 65535, 65536, 128512, 1114111] : List Int) by decide)
theorem bytes_ok (r : Int) (h : RuneR r) : ∃ p, spec_l01Bytes.f r = some (nb p) ∧ Piece p := by
 rcases h with ⟨h0, h1⟩ | h
 ·obtain ⟨n, rfl⟩ : ∃ n : Nat, r = (n : Int) := ⟨r.toNat, (Int.toNat_of_nonneg h0).symm⟩
  have hb : (UInt8.ofNat n).toNat = n := by
   rw [UInt8.toNat_ofNat']
   exact Nat.mod_eq_of_lt (by omega)
  refine ⟨[UInt8.ofNat n], ?_, .inl ⟨_, by omega, rfl⟩⟩
  have hs : spec_RuneSize.f (n : Int) = some 1 := by
   unfold spec_RuneSize.f spec_l01Scalar.f
   simp only [l01In_t, bS]
   rw [decide_eq_true (show (0 : Int) ≤ (n : Int) ∧ (n : Int) ≤ 55295 by omega)]
   simp only [if_true, bS]
   rw [if_pos (by omega)]
  simp only [spec_l01Bytes.f, hs, bS, if_true]
  have e : (n : Int) % 256 = (n : Int) := by omega
  rw [e]
  simp [nb, hb]
 ·simp only [List.mem_cons, List.not_mem_nil, or_false] at h
  rcases h with rfl | rfl | rfl | rfl | rfl | rfl | rfl | rfl | rfl | rfl
  ·exact ⟨[195, 164], by decide +kernel, .inr (by decide)⟩
  ·exact ⟨[223, 191], by decide +kernel, .inr (by decide)⟩
  ·exact ⟨[224, 160, 128], by decide +kernel, .inr (by decide)⟩
  ·exact ⟨[226, 130, 172], by decide +kernel, .inr (by decide)⟩
  ·exact ⟨[237, 159, 191], by decide +kernel, .inr (by decide)⟩
  ·exact ⟨[238, 128, 128], by decide +kernel, .inr (by decide)⟩
  ·exact ⟨[239, 191, 191], by decide +kernel, .inr (by decide)⟩
  ·exact ⟨[240, 144, 128, 128], by decide +kernel, .inr (by decide)⟩
  ·exact ⟨[240, 159, 152, 128], by decide +kernel, .inr (by decide)⟩
  ·exact ⟨[244, 143, 191, 191], by decide +kernel, .inr (by decide)⟩
theorem abc_ok (i : Int) (h0 : 0 ≤ i) (h1 : i < 8) : ∃ b : UInt8, b.toNat < 128 ∧ bt (⟨#[97, 98, 99, 32, 120, 121, 122, 46]⟩ : ByteArray) i = (b.toNat : Int) := by
 obtain ⟨n, rfl⟩ : ∃ n : Nat, i = (n : Int) := ⟨i.toNat, (Int.toNat_of_nonneg h0).symm⟩
 have hl : n < (bl (⟨#[97, 98, 99, 32, 120, 121, 122, 46]⟩ : ByteArray)).length := by show n < 8; omega
 refine ⟨_, ?_, bt_eq _ n hl⟩
 have hall : ∀ b ∈ bl (⟨#[97, 98, 99, 32, 120, 121, 122, 46]⟩ : ByteArray), b.toNat < 128 := by decide
 exact hall _ (List.getElem_mem hl)
theorem text_l0 {l : List Int} : ∀ (d : Nat) (ps : List (List UInt8)) (a s B : Int), Src l a s B → B + 20 * (d : Int) ≤ 4611686018427386000 → ps.length + d ≤ 100 → (∀ p ∈ ps, Piece p) →
  ∃ (qs : List (List UInt8)) (a' s' : Int), Ev (fun k => spec_l00Src_text.l0 k (nb ps.flatten) (d : Int) l a s) (strOfNums (nb qs.flatten), a', s') ∧ (∀ p ∈ qs, Piece p) ∧ qs.length ≤ ps.length + d ∧ Src l a' s' (B + 20 * (d : Int))
 | 0, ps, a, s, B, h, hB, hl, hx => ⟨ps, a, s, Ev.step (f := fun _ => some _) (fun k => by simp only [spec_l00Src_text.l0]; rw [if_neg (by omega)]) (Ev.now _), hx, Nat.le_refl _, h.grow (by omega)⟩
 | d + 1, ps, a, s, B, h, hB, hl, hx => by
  have hfl : ps.flatten.length ≤ 400 := by
   have : ∀ qs : List (List UInt8), (∀ p ∈ qs, Piece p) → qs.flatten.length ≤ 4 * qs.length := by
    intro qs
    induction qs with
    | nil => intro _; simp
    | cons q qs ih =>
     intro hq
     have h1 := (piece_len (hq q (List.mem_cons_self ..))).2
     have h2 := ih fun p hp => hq p (List.mem_cons_of_mem _ hp)
     rw [List.flatten_cons, List.length_append, List.length_cons]
     omega
   have := this ps hx
   omega
  have e3 : Aside0 (wrap64 ((((d + 1 : Nat)) : Int) - 1) = (d : Int)) := ⟨by rw [w64 (by omega) (by omega)]; omega⟩
  obtain ⟨r1, a1, s1, e1, h1, b1, c1⟩ := next_ok 2 h (by omega)
  have hch : spec_l00Src_chance.f l a s 2 = some ((r1 == 1), a1, s1) := by
   have w1 : wrap64 (2 - 1) = 1 := w64 (by omega) (by omega)
   simp only [spec_l00Src_chance.f, e1, bS, w1]
  have hgo : ∀ (p : List UInt8) (a2 s2 : Int), Piece p → Src l a2 s2 (B + 20) → ∃ (qs : List (List UInt8)) (a' s' : Int), Ev (fun k => spec_l00Src_text.l0 k (nb ps.flatten ++ nb p) (d : Int) l a2 s2) (strOfNums (nb qs.flatten), a', s') ∧ (∀ p ∈ qs, Piece p) ∧ qs.length ≤ ps.length + (d + 1) ∧ Src l a' s' (B + 20 * (((d + 1 : Nat)) : Int)) := by
   intro p a2 s2 hp h2
   obtain ⟨qs, a', s', e, hq, hle, hsr⟩ := text_l0 d (ps ++ [p]) a2 s2 (B + 20) h2 (by omega) (by rw [List.length_append, List.length_singleton]; omega) (fun x hx' => by
    rcases List.mem_append.1 hx' with h | h
    ·exact hx x h
    ·rw [List.mem_singleton.1 h]; exact hp)
   rw [List.flatten_append, nb_append, show [p].flatten = p by simp] at e
   rw [List.length_append, List.length_singleton] at hle
   exact ⟨qs, a', s', e, hq, by omega, hsr.grow (by omega)⟩
  cases hr : (r1 == 1) with
  | true =>
   rw [hr] at hch
   obtain ⟨r2, a2, s2, e2, h2, b2, c2⟩ := next_ok 8 h1 (by omega)
   have c2 := c2 (by decide)
   obtain ⟨b, hb, hbt⟩ := abc_ok r2 b2 c2
   obtain ⟨qs, a', s', e, hq, hle, hsr⟩ := hgo [b] a2 s2 (.inl ⟨b, hb, rfl⟩) (h2.grow (by omega))
   refine ⟨qs, a', s', Ev.step (fun k => ?_) e, hq, hle, hsr⟩
   simp only [spec_l00Src_text.l0, hch, bS, e2, hbt, e3.out, nb_length]
   rw [if_pos (by omega), if_pos trivial, if_pos b2, if_pos c2, if_pos (by omega)]
   rfl
  | false =>
   rw [hr] at hch
   obtain ⟨r2, a2, s2, e2, h2, hR⟩ := rune_ok h1 (by omega)
   obtain ⟨p, hp, hP⟩ := bytes_ok r2 hR
   have hpl := piece_len hP
   obtain ⟨qs, a', s', e, hq, hle, hsr⟩ := hgo p a2 s2 hP (h2.grow (by omega))
   refine ⟨qs, a', s', Ev.step (fun k => ?_) e, hq, hle, hsr⟩
   simp only [spec_l00Src_text.l0, hch, bS, e2, hp, e3.out, nb_length]
   rw [if_pos (by omega), if_neg (by decide), if_pos (by omega)]
theorem flat_pieces (qs : List (List UInt8)) (h : ∀ p ∈ qs, Piece p) : qs.flatten.length ≤ 4 * qs.length := by
 induction qs with
 | nil => simp
 | cons q qs ih =>
  have h1 := (piece_len (h q (List.mem_cons_self ..))).2
  have h2 := ih fun p hp => h p (List.mem_cons_of_mem _ hp)
  rw [List.flatten_cons, List.length_append, List.length_cons]
  omega
theorem textOf_ok (l : List Int) (hw : ∀ y ∈ l, 0 ≤ y ∧ y ≤ 255) : ∃ qs : List (List UInt8), ∃ t, Ev (fun k => spec_TextOf.f k l) t ∧ bl t = qs.flatten ∧ (∀ p ∈ qs, Piece p) ∧ t.size ≤ 48 := by
 obtain ⟨s0, e0, h0⟩ := source_ok l hw
 obtain ⟨r, a1, s1, e1, h1, b1, c1⟩ := next_ok 12 h0 (by omega)
 have c1 := c1 (by decide)
 obtain ⟨d, hd⟩ : ∃ d : Nat, r = (d : Int) := ⟨r.toNat, (Int.toNat_of_nonneg b1).symm⟩
 subst hd
 obtain ⟨qs, a2, s2, ⟨K, e⟩, hq, hle, _⟩ := text_l0 d [] a1 s1 _ h1 (by omega) (by simp only [List.length_nil]; omega) (fun p hp => by cases hp)
 have hfl := flat_pieces qs hq
 simp only [List.length_nil] at hle
 refine ⟨qs, strOfNums (nb qs.flatten), ⟨K, fun k hk => ?_⟩, bl_strOf_nb _, hq, by rw [bl_size, bl_strOf_nb]; omega⟩
 have e2 : spec_l00Src_text.l0 k [] (d : Int) l a1 s1 = some (strOfNums (nb qs.flatten), a2, s2) := e k hk
 simp only [spec_TextOf.f, e0, bS, spec_l00Src_text.f, e1, e2]
end Go.Proofs.YtcibmjgofebmdaaDoor.P
/- Lemmas of mine: a rune at any place of any text, by the reference and by the library's own decoder. Plain. -/
set_option linter.unusedVariables false
set_option linter.unusedSimpArgs false
namespace Go.Proofs.YtcibmjgofebmdaaDoor.P
open Go.RowKit Go.Proofs.YtcibmjgofebmdaaDoorW.PrintWords
/-- How many bytes a number has as a rune; 0 if it is none. -/
def rsN (v : Nat) : Nat := if v ≤ 55295 ∨ (57344 ≤ v ∧ v ≤ 1114111) then (if v < 128 then 1 else if v < 2048 then 2 else if v < 65536 then 3 else 4) else 0
theorem rs_f (v : Nat) : spec_RuneSize.f (v : Int) = some ((rsN v : Nat) : Int) := by
 unfold spec_RuneSize.f spec_l01Scalar.f rsN
 simp only [l01In_t, bS]
 by_cases h1 : v ≤ 55295
 ·rw [if_pos (decide_eq_true (by omega)), bS, if_pos rfl, if_pos (Or.inl h1)]
  repeat' split
  all_goals first | rfl | omega
 ·rw [if_neg (by simp; omega), bS]
  by_cases h2 : 57344 ≤ v ∧ v ≤ 1114111
  ·rw [if_pos (decide_eq_true (by omega)), if_pos (Or.inr h2)]
   repeat' split
   all_goals first | rfl | omega
  ·rw [if_neg (by simp; omega), if_neg (by omega)]
   rfl
def cont (c : Nat) : Prop := 128 ≤ c ∧ c ≤ 191
instance (c : Nat) : Decidable (cont c) := by unfold cont; infer_instance
def endN (n v : Nat) : Nat × Nat × Bool := if rsN v = n then (v, n, true) else (0, 1, false)
/-- The reference's rune, by its bytes. -/
def specN (n b0 b1 b2 b3 : Nat) : Nat × Nat × Bool :=
 if b0 < 128 then (b0, 1, true)
 else if 194 ≤ b0 ∧ b0 ≤ 223 then (if n < 2 ∨ ¬ cont b1 then (0, 1, false) else endN 2 ((b0 - 192) * 64 + b1 - 128))
 else if 224 ≤ b0 ∧ b0 ≤ 239 then (if n < 3 ∨ ¬ cont b1 ∨ ¬ cont b2 then (0, 1, false) else endN 3 (((b0 - 224) * 64 + b1 - 128) * 64 + b2 - 128))
 else if 240 ≤ b0 ∧ b0 ≤ 244 then (if n < 4 ∨ ¬ cont b1 ∨ ¬ cont b2 ∨ ¬ cont b3 then (0, 1, false) else endN 4 ((((b0 - 240) * 64 + b1 - 128) * 64 + b2 - 128) * 64 + b3 - 128))
 else (0, 1, false)
def up (x : Nat × Nat × Bool) : Int × Int × Bool := ((x.1 : Int), (x.2.1 : Int), x.2.2)
theorem ru_step (t : ByteArray) (hs : t.size ≤ 65536) (at_ n j v c : Nat) (hj : j < n) (hn : n ≤ 4) (hlt : at_ + j < t.size) (hb : bt t ((at_ + j : Nat) : Int) = (c : Int)) (hc : cont c) (hv : v ≤ 1000000) (k : Nat) :
  spec_l01Rune.l0 (k + 1) t (at_ : Int) (n : Int) (v : Int) (j : Int) = spec_l01Rune.l0 k t (at_ : Int) (n : Int) ((v * 64 + c - 128 : Nat) : Int) ((j + 1 : Nat) : Int) := by
 have hc : 128 ≤ c ∧ c ≤ 191 := hc
 have w1 : Aside0 (wrap64 ((at_ : Int) + (j : Int)) = ((at_ + j : Nat) : Int)) := ⟨w64add _ _ (by omega)⟩
 have w2 : Aside0 (wrap64 (c : Int) = (c : Int)) := ⟨w64n c (by omega)⟩
 have w3 : Aside0 (wrap64 ((wrap64 ((wrap64 ((v : Int) * 64)) + (c : Int))) - 128) = ((v * 64 + c - 128 : Nat) : Int)) := ⟨by
  rw [w64 (n := (v : Int) * 64) (by omega) (by omega), w64 (n := (v : Int) * 64 + (c : Int)) (by omega) (by omega), w64 (by omega) (by omega)]
  omega⟩
 have w4 : Aside0 (wrap64 ((j : Int) + 1) = ((j + 1 : Nat) : Int)) := ⟨w64s j (by omega)⟩
 simp only [spec_l01Rune.l0, w1.out, hb, w2.out, l01In_t, bS, w3.out, w4.out]
 rw [if_pos (by omega), if_pos (by omega), if_pos (by omega), if_pos (decide_eq_true (by omega))]
theorem ru_bad (t : ByteArray) (hs : t.size ≤ 65536) (at_ n j v c : Nat) (hj : j < n) (hn : n ≤ 4) (hlt : at_ + j < t.size) (hb : bt t ((at_ + j : Nat) : Int) = (c : Int)) (hc : ¬ cont c) (h256 : c < 256) (k : Nat) :
  spec_l01Rune.l0 (k + 1) t (at_ : Int) (n : Int) (v : Int) (j : Int) = some (0, 1, false) := by
 have hc : ¬ (128 ≤ c ∧ c ≤ 191) := hc
 have w1 : Aside0 (wrap64 ((at_ : Int) + (j : Int)) = ((at_ + j : Nat) : Int)) := ⟨w64add _ _ (by omega)⟩
 have w2 : Aside0 (wrap64 (c : Int) = (c : Int)) := ⟨w64n c (by omega)⟩
 simp only [spec_l01Rune.l0, w1.out, hb, w2.out, l01In_t, bS]
 rw [if_pos (by omega), if_pos (by omega), if_pos (by omega), if_neg (fun q => hc (by have := of_decide_eq_true q; omega))]
theorem ru_end (t : ByteArray) (at_ n v : Nat) (k : Nat) : spec_l01Rune.l0 (k + 1) t (at_ : Int) (n : Int) (v : Int) (n : Int) = some (up (endN n v)) := by
 simp only [spec_l01Rune.l0, rs_f, bS]
 rw [if_neg (by omega)]
 unfold endN
 by_cases h : rsN v = n
 ·rw [if_pos (by rw [h]), if_pos h]
  rfl
 ·rw [if_neg (by omega), if_neg h]
  rfl
theorem ru_j0 (t : ByteArray) (hs : t.size ≤ 65536) (at_ n v : Nat) (ha : at_ < t.size) (hn : n ≤ 4) (k : Nat) : spec_l01Rune.j0 (k + 1) t (at_ : Int) (n : Int) (v : Int) = if t.size < at_ + n then some (0, 1, false) else spec_l01Rune.l0 k t (at_ : Int) (n : Int) (v : Int) ((1 : Nat) : Int) := by
 simp only [spec_l01Rune.j0]
 rw [w64add _ _ (by omega)]
 by_cases h : t.size < at_ + n
 ·rw [if_pos (by omega), if_pos h]
 ·rw [if_neg (by omega), if_neg h]
  rfl
theorem specRune (t : ByteArray) (hs : t.size ≤ 65536) (p : Nat) (hp : p < t.size) (b : Nat → Nat) (hb : ∀ j, p + j < t.size → bt t ((p + j : Nat) : Int) = ((b j : Nat) : Int)) (h256 : ∀ j, b j < 256) (k : Nat) :
  spec_l01Rune.f (k + 6) t (p : Int) = some (up (specN (t.size - p) (b 0) (b 1) (b 2) (b 3))) := by
 have hb0 : bt t (p : Int) = ((b 0 : Nat) : Int) := hb 0 (by omega)
 have k0 := h256 0
 have k1 := h256 1
 have k2 := h256 2
 have k3 := h256 3
 have w2 : Aside0 (wrap64 ((b 0 : Nat) : Int) = ((b 0 : Nat) : Int)) := ⟨w64n _ (by omega)⟩
 simp only [spec_l01Rune.f, hb0, w2.out, l01In_t, bS]
 rw [if_pos (by omega), if_pos (by omega)]
 unfold specN
 by_cases c0 : b 0 < 128
 ·rw [if_pos (by omega), if_pos c0]
  rfl
 rw [if_neg (by omega), if_neg c0]
 by_cases c1 : 194 ≤ b 0 ∧ b 0 ≤ 223
 ·have w3 : Aside0 (wrap64 (((b 0 : Nat) : Int) - 192) = ((b 0 - 192 : Nat) : Int)) := ⟨w64sub _ 192 (by omega) (by omega)⟩
  rw [if_pos (decide_eq_true (by omega)), if_pos c1, w3.out]
  refine (ru_j0 t hs p 2 _ hp (by omega) (k + 5)).trans ?_
  by_cases d0 : t.size - p < 2
  ·rw [if_pos (by omega), if_pos (Or.inl d0)]
   rfl
  rw [if_neg (by omega)]
  by_cases d1 : cont (b 1)
  ·have d1' : 128 ≤ b 1 ∧ b 1 ≤ 191 := d1
   rw [if_neg (by rintro (h | h); exact d0 h; exact h d1)]
   rw [ru_step t hs p 2 1 _ (b 1) (by omega) (by omega) (by omega) (hb 1 (by omega)) d1 (by omega) (k + 4)]
   exact ru_end t p 2 _ (k + 3)
  ·rw [if_pos (Or.inr d1)]
   exact ru_bad t hs p 2 1 _ (b 1) (by omega) (by omega) (by omega) (hb 1 (by omega)) d1 k1 (k + 4)
 rw [if_neg (fun q => c1 (by have := of_decide_eq_true q; omega)), if_neg c1]
 by_cases c2 : 224 ≤ b 0 ∧ b 0 ≤ 239
 ·have w3 : Aside0 (wrap64 (((b 0 : Nat) : Int) - 224) = ((b 0 - 224 : Nat) : Int)) := ⟨w64sub _ 224 (by omega) (by omega)⟩
  rw [if_pos (decide_eq_true (by omega)), if_pos c2, w3.out]
  refine (ru_j0 t hs p 3 _ hp (by omega) (k + 5)).trans ?_
  by_cases d0 : t.size - p < 3
  ·rw [if_pos (by omega), if_pos (Or.inl d0)]
   rfl
  rw [if_neg (by omega)]
  by_cases d1 : cont (b 1)
  ·have d1' : 128 ≤ b 1 ∧ b 1 ≤ 191 := d1
   rw [ru_step t hs p 3 1 _ (b 1) (by omega) (by omega) (by omega) (hb 1 (by omega)) d1 (by omega) (k + 4)]
   by_cases d2 : cont (b 2)
   ·have d2' : 128 ≤ b 2 ∧ b 2 ≤ 191 := d2
    rw [if_neg (by rintro (h | h | h); exact d0 h; exact h d1; exact h d2)]
    rw [ru_step t hs p 3 2 _ (b 2) (by omega) (by omega) (by omega) (hb 2 (by omega)) d2 (by omega) (k + 3)]
    exact ru_end t p 3 _ (k + 2)
   ·rw [if_pos (Or.inr (Or.inr d2))]
    exact ru_bad t hs p 3 2 _ (b 2) (by omega) (by omega) (by omega) (hb 2 (by omega)) d2 k2 (k + 3)
  ·rw [if_pos (Or.inr (Or.inl d1))]
   exact ru_bad t hs p 3 1 _ (b 1) (by omega) (by omega) (by omega) (hb 1 (by omega)) d1 k1 (k + 4)
 rw [if_neg (fun q => c2 (by have := of_decide_eq_true q; omega)), if_neg c2]
 by_cases c3 : 240 ≤ b 0 ∧ b 0 ≤ 244
 ·have w3 : Aside0 (wrap64 (((b 0 : Nat) : Int) - 240) = ((b 0 - 240 : Nat) : Int)) := ⟨w64sub _ 240 (by omega) (by omega)⟩
  rw [if_pos (decide_eq_true (by omega)), if_pos c3, w3.out]
  refine (ru_j0 t hs p 4 _ hp (by omega) (k + 5)).trans ?_
  by_cases d0 : t.size - p < 4
  ·rw [if_pos (by omega), if_pos (Or.inl d0)]
   rfl
  rw [if_neg (by omega)]
  by_cases d1 : cont (b 1)
  ·have d1' : 128 ≤ b 1 ∧ b 1 ≤ 191 := d1
   rw [ru_step t hs p 4 1 _ (b 1) (by omega) (by omega) (by omega) (hb 1 (by omega)) d1 (by omega) (k + 4)]
   by_cases d2 : cont (b 2)
   ·have d2' : 128 ≤ b 2 ∧ b 2 ≤ 191 := d2
    rw [ru_step t hs p 4 2 _ (b 2) (by omega) (by omega) (by omega) (hb 2 (by omega)) d2 (by omega) (k + 3)]
    by_cases d3 : cont (b 3)
    ·have d3' : 128 ≤ b 3 ∧ b 3 ≤ 191 := d3
     rw [if_neg (by rintro (h | h | h | h); exact d0 h; exact h d1; exact h d2; exact h d3)]
     rw [ru_step t hs p 4 3 _ (b 3) (by omega) (by omega) (by omega) (hb 3 (by omega)) d3 (by omega) (k + 2)]
     exact ru_end t p 4 _ (k + 1)
    ·rw [if_pos (Or.inr (Or.inr (Or.inr d3)))]
     exact ru_bad t hs p 4 3 _ (b 3) (by omega) (by omega) (by omega) (hb 3 (by omega)) d3 k3 (k + 2)
   ·rw [if_pos (Or.inr (Or.inr (Or.inl d2)))]
    exact ru_bad t hs p 4 2 _ (b 2) (by omega) (by omega) (by omega) (hb 2 (by omega)) d2 k2 (k + 3)
  ·rw [if_pos (Or.inr (Or.inl d1))]
   exact ru_bad t hs p 4 1 _ (b 1) (by omega) (by omega) (by omega) (hb 1 (by omega)) d1 k1 (k + 4)
 ·rw [if_neg (fun q => c3 (by have := of_decide_eq_true q; omega)), if_neg c3]
  rfl
/-- Not a rune's begin: the library's decoder gives U+FFFD and one byte. -/
def BadD (d : Nat × Nat) : Prop := d.1 = 65533 ∧ d.2 = 1
instance (d : Nat × Nat) : Decidable (BadD d) := by unfold BadD; infer_instance
theorem fin_bad : ((0, 1, false) : Nat × Nat × Bool) = if BadD (65533, 1) then (0, 1, false) else (((65533, 1) : Nat × Nat).1, ((65533, 1) : Nat × Nat).2, true) := (if_pos ⟨rfl, rfl⟩).symm
theorem fin_ok (v m : Nat) (h : m ≠ 1) : ((v, m, true) : Nat × Nat × Bool) = if BadD (v, m) then (0, 1, false) else (((v, m) : Nat × Nat).1, ((v, m) : Nat × Nat).2, true) := (if_neg (fun q => h q.2)).symm
theorem rsN2 (v : Nat) (h : 128 ≤ v ∧ v < 2048) : rsN v = 2 := by unfold rsN; rw [if_pos (by omega), if_neg (by omega), if_pos (by omega)]
theorem rsN3 (v : Nat) (h : v ≤ 65535) : rsN v = 3 ↔ (v ≥ 2048 ∧ (v < 55296 ∨ (57344 ≤ v ∧ v ≤ 1114111))) := by
 unfold rsN
 repeat' split
 all_goals omega
theorem rsN4 (v : Nat) : rsN v = 4 ↔ (v ≥ 65536 ∧ (v < 55296 ∨ (57344 ≤ v ∧ v ≤ 1114111))) := by
 unfold rsN
 repeat' split
 all_goals omega
set_option maxHeartbeats 2000000 in
theorem specN_dec (n b0 b1 b2 b3 : Nat) (hn : 1 ≤ n) (h0 : b0 < 256) (h1 : b1 < 256) (h2 : b2 < 256) (h3 : b3 < 256) :
  specN n b0 b1 b2 b3 = if BadD (Lib.decodeN n b0 b1 b2 b3) then (0, 1, false) else ((Lib.decodeN n b0 b1 b2 b3).1, (Lib.decodeN n b0 b1 b2 b3).2, true) := by
 by_cases c0 : b0 < 128
 ·rw [Lib.decodeN_ascii n b0 b1 b2 b3 c0, if_neg (by intro h; have := h.1; simp only at this; omega)]
  unfold specN
  rw [if_pos c0]
 by_cases c1 : 194 ≤ b0 ∧ b0 ≤ 223
 ·have hs : specN n b0 b1 b2 b3 = if n < 2 ∨ ¬ cont b1 then (0, 1, false) else endN 2 ((b0 - 192) * 64 + b1 - 128) := by unfold specN; rw [if_neg c0, if_pos c1]
  rw [hs]
  by_cases hc : n < 2 ∨ ¬ cont b1
  ·have e : Lib.decodeN n b0 b1 b2 b3 = (65533, 1) := by
    unfold cont at hc
    unfold Lib.decodeN
    rw [if_neg c0, if_neg (by omega), if_neg (by omega), if_neg (by omega)]
   rw [e, if_pos hc]
   exact fin_bad
  ·have e : Lib.decodeN n b0 b1 b2 b3 = (b0 % 32 * 64 + b1 % 64, 2) := by
    unfold cont at hc
    unfold Lib.decodeN
    rw [if_neg c0, if_pos (by omega), if_pos (by omega)]
   have hv : (b0 - 192) * 64 + b1 - 128 = b0 % 32 * 64 + b1 % 64 := by unfold cont at hc; omega
   rw [e, if_neg hc, hv]
   unfold endN
   rw [if_pos (rsN2 _ (by omega))]
   exact fin_ok _ 2 (by decide)
 by_cases c2 : 224 ≤ b0 ∧ b0 ≤ 239
 ·have hs : specN n b0 b1 b2 b3 = if n < 3 ∨ ¬ cont b1 ∨ ¬ cont b2 then (0, 1, false) else endN 3 (((b0 - 224) * 64 + b1 - 128) * 64 + b2 - 128) := by unfold specN; rw [if_neg c0, if_neg c1, if_pos c2]
  rw [hs]
  by_cases hc : n < 3 ∨ ¬ cont b1 ∨ ¬ cont b2
  ·have e : Lib.decodeN n b0 b1 b2 b3 = (65533, 1) := by
    unfold cont at hc
    unfold Lib.decodeN
    rw [if_neg c0, if_neg (by omega), if_neg (by omega), if_neg (by omega)]
   rw [e, if_pos hc]
   exact fin_bad
  ·have hv : ((b0 - 224) * 64 + b1 - 128) * 64 + b2 - 128 = b0 % 16 * 4096 + b1 % 64 * 64 + b2 % 64 := by unfold cont at hc; omega
   have hle : b0 % 16 * 4096 + b1 % 64 * 64 + b2 % 64 ≤ 65535 := by omega
   rw [if_neg hc, hv]
   unfold endN
   by_cases hr : rsN (b0 % 16 * 4096 + b1 % 64 * 64 + b2 % 64) = 3
   ·have e : Lib.decodeN n b0 b1 b2 b3 = (b0 % 16 * 4096 + b1 % 64 * 64 + b2 % 64, 3) := by
     unfold cont at hc
     unfold Lib.decodeN
     rw [if_neg c0, if_neg (by omega), if_pos (by omega), if_pos ((rsN3 _ hle).1 hr)]
    rw [e, if_pos hr]
    exact fin_ok _ 3 (by decide)
   ·have e : Lib.decodeN n b0 b1 b2 b3 = (65533, 1) := by
     unfold cont at hc
     unfold Lib.decodeN
     rw [if_neg c0, if_neg (by omega), if_pos (by omega), if_neg (fun q => hr ((rsN3 _ hle).2 q))]
    rw [e, if_neg hr]
    exact fin_bad
 by_cases c3 : 240 ≤ b0 ∧ b0 ≤ 244
 ·have hs : specN n b0 b1 b2 b3 = if n < 4 ∨ ¬ cont b1 ∨ ¬ cont b2 ∨ ¬ cont b3 then (0, 1, false) else endN 4 ((((b0 - 240) * 64 + b1 - 128) * 64 + b2 - 128) * 64 + b3 - 128) := by unfold specN; rw [if_neg c0, if_neg c1, if_neg c2, if_pos c3]
  rw [hs]
  by_cases hc : n < 4 ∨ ¬ cont b1 ∨ ¬ cont b2 ∨ ¬ cont b3
  ·have e : Lib.decodeN n b0 b1 b2 b3 = (65533, 1) := by
    unfold cont at hc
    unfold Lib.decodeN
    rw [if_neg c0, if_neg (by omega), if_neg (by omega), if_neg (by omega)]
   rw [e, if_pos hc]
   exact fin_bad
  ·have hv : (((b0 - 240) * 64 + b1 - 128) * 64 + b2 - 128) * 64 + b3 - 128 = b0 % 8 * 262144 + b1 % 64 * 4096 + b2 % 64 * 64 + b3 % 64 := by unfold cont at hc; omega
   rw [if_neg hc, hv]
   unfold endN
   by_cases hr : rsN (b0 % 8 * 262144 + b1 % 64 * 4096 + b2 % 64 * 64 + b3 % 64) = 4
   ·have e : Lib.decodeN n b0 b1 b2 b3 = (b0 % 8 * 262144 + b1 % 64 * 4096 + b2 % 64 * 64 + b3 % 64, 4) := by
     unfold cont at hc
     unfold Lib.decodeN
     rw [if_neg c0, if_neg (by omega), if_neg (by omega), if_pos (by omega), if_pos ((rsN4 _).1 hr)]
    rw [e, if_pos hr]
    exact fin_ok _ 4 (by decide)
   ·have e : Lib.decodeN n b0 b1 b2 b3 = (65533, 1) := by
     unfold cont at hc
     unfold Lib.decodeN
     rw [if_neg c0, if_neg (by omega), if_neg (by omega), if_pos (by omega), if_neg (fun q => hr ((rsN4 _).2 q))]
    rw [e, if_neg hr]
    exact fin_bad
 ·have hs : specN n b0 b1 b2 b3 = (0, 1, false) := by unfold specN; rw [if_neg c0, if_neg c1, if_neg c2, if_neg c3]
  have e : Lib.decodeN n b0 b1 b2 b3 = (65533, 1) := by
   unfold Lib.decodeN
   rw [if_neg c0]
   by_cases hx : b0 / 32 = 6 ∧ (1 < n ∧ b1 / 64 = 2)
   ·rw [if_pos hx, if_neg (by omega)]
   ·rw [if_neg hx, if_neg (by omega)]
    by_cases hy : b0 / 8 = 30 ∧ (1 < n ∧ b1 / 64 = 2) ∧ (2 < n ∧ b2 / 64 = 2) ∧ (3 < n ∧ b3 / 64 = 2)
    ·rw [if_pos hy, if_neg (by omega)]
    ·rw [if_neg hy]
  rw [hs, e]
  exact fin_bad
/-- The reference's rune at a place: what the library's decoder says of the rest there. -/
theorem rune_gen (t : ByteArray) (hs : t.size ≤ 65536) (p : Nat) (hp : p < t.size) (k : Nat) :
  spec_l01Rune.f (k + 6) t (p : Int) = some (if BadD (Lib.decodeL ((bl t).drop p)) then (0, 1, false) else (((Lib.decodeL ((bl t).drop p)).1 : Int), ((Lib.decodeL ((bl t).drop p)).2 : Int), true)) := by
 have hl := bl_size t
 obtain ⟨l, hll⟩ : ∃ l, l = (bl t).drop p := ⟨_, rfl⟩
 have hlen : l.length = t.size - p := by rw [hll, List.length_drop]; omega
 have hb : ∀ j, p + j < t.size → bt t ((p + j : Nat) : Int) = (((l.getD j 0).toNat : Nat) : Int) := fun j hj => by
  have hlt : p + j < (bl t).length := by omega
  rw [bt_eq t _ hlt, hll, List.getD_eq_getElem?_getD, List.getElem?_drop, List.getElem?_eq_getElem hlt]
  rfl
 rw [specRune t hs p hp (fun j => (l.getD j 0).toNat) hb (fun j => (l.getD j 0).toNat_lt) k, specN_dec _ _ _ _ _ (by omega) (l.getD 0 0).toNat_lt (l.getD 1 0).toNat_lt (l.getD 2 0).toNat_lt (l.getD 3 0).toNat_lt, ← hll, Lib.decodeL_N, hlen]
 generalize Lib.decodeN (t.size - p) _ _ _ _ = d
 by_cases h : BadD d
 ·rw [if_pos h, if_pos h]
  rfl
 ·rw [if_neg h, if_neg h]
  rfl
end Go.Proofs.YtcibmjgofebmdaaDoor.P
