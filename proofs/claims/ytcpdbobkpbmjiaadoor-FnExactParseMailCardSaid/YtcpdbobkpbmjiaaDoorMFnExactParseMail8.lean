/- Part 8 of what the law FnExactParseMail stands on; the last part ends with the law's row. No condition of mine. -/
import Derived.Test.YtcpdbobkpbmjiaaDoorMFnExactParseMail1
import Derived.Test.YtcpdbobkpbmjiaaDoorMFnExactParseMail3
import Derived.Test.YtcpdbobkpbmjiaaDoorMFnExactParseMail6
import Derived.Test.YtcpdbobkpbmjiaaDoorMFnExactParseMail7
import Derived.Lib.Strings
import Derived.Lib.IndexBytes
import Derived.Laws.BitsLemmas
import Derived.IntWalk
import Derived.Test.YtcpdbobkpbmjiaaDoorMFnExactParseMail2
import Derived.Test.YtcpdbobkpbmjiaaDoorMFnExactParseMail4
namespace Go.Proofs.YtcpdbobkpbmjiaaDoor.P
open Go.RowKit Go.Proofs.YtcpdbobkpbmjiaaDoorW.PrintWords Go.Proofs.YtcpdbobkpbmjiaaDoorW.PrintLast Go.Proofs.YtcpdbobkpbmjiaaDoorW.PrintMore
attribute [local go_sem] max2_int min2_int max_two min_two max_three min_three max_four min_four   -- for this text's walks alone
set_option linter.unusedVariables false
set_option linter.unusedSimpArgs false

/-! ### laws_FnExactParseMail: function 5 -/
mutual
def laws_FnExactParseMail.j0 : Nat → ByteArray → Int → Bool → List (S49) → ByteArray → List (S49) → ByteArray → Option (Bool)
 | 0, _, _, _, _, _, _, _ => none
 | k + 1, x0, x4, x32, x107000, x107001, x113000, x113001 => if x32 = true then (some false) else ((laws_markMail.f k x113000 x113001 1).bind fun bt114 => ((laws_heldMail.f k bt114.2 x113001 1).bind fun t116 => (if t116 < 0 then (some false) else (if t116 = bt114.1 then ((impl_ParseMail.f k x0).bind fun bt117 => ((laws_eqMail.f k bt117.1 bt117.2.1 x107000 x107001).bind fun t123 => (if t123 = true then (laws_FnExactParseMail.j1 k bt114.1 (bt117.2.2 != x4) bt114.2 x113001) else (laws_FnExactParseMail.j1 k bt114.1 true bt114.2 x113001)))) else (some false)))))
def laws_FnExactParseMail.j1 : Nat → Int → Bool → List (S49) → ByteArray → Option (Bool)
 | 0, _, _, _, _ => none
 | k + 1, x7, x57, x113000, x113001 => if x57 = true then (some false) else ((laws_heldMail.f k x113000 x113001 1).bind fun t124 => (if t124 < 0 then (some false) else (if t124 = x7 then (some true) else (some false))))
end
def laws_FnExactParseMail.f (k : Nat) (a0 : ByteArray) : Option (Bool) := if (a0.size : Int) > 1048576 then (some true) else ((spec_ParseMail.f k a0).bind fun bt101 => ((impl_ParseMail.f k a0).bind fun bt107 => ((laws_eqMail.f k bt107.1 bt107.2.1 bt101.1 bt101.2.1).bind fun t113 => (if t113 = true then (laws_FnExactParseMail.j0 k a0 bt101.2.2 (bt107.2.2 != bt101.2.2) bt101.1 bt101.2.1 bt107.1 bt107.2.1) else (laws_FnExactParseMail.j0 k a0 bt101.2.2 true bt101.1 bt101.2.1 bt107.1 bt107.2.1)))))
theorem laws_FnExactParseMail.mono_l : ∀ k, (∀ y0 y1 y2 y3 y4 y5 y6, LeO (laws_FnExactParseMail.j0 k y0 y1 y2 y3 y4 y5 y6) (laws_FnExactParseMail.j0 (k + 1) y0 y1 y2 y3 y4 y5 y6)) ∧ (∀ y0 y1 y2 y3, LeO (laws_FnExactParseMail.j1 k y0 y1 y2 y3) (laws_FnExactParseMail.j1 (k + 1) y0 y1 y2 y3))
 | 0 => ⟨fun _ _ _ _ _ _ _ r h => by simp [laws_FnExactParseMail.j0] at h, fun _ _ _ _ r h => by simp [laws_FnExactParseMail.j1] at h⟩
 | k + 1 => by
  obtain ⟨ih0, ih1⟩ := laws_FnExactParseMail.mono_l k
  refine ⟨?_, ?_⟩
  ·intro y0 y1 y2 y3 y4 y5 y6
   unfold laws_FnExactParseMail.j0
   repeat' first
   | (with_reducible exact ih0 _ _ _ _ _ _ _)
   | (with_reducible exact ih1 _ _ _ _)
   | (with_reducible exact impl_ParseMail.mono _ _)
   | (with_reducible exact laws_eqMail.mono _ _ _ _ _)
   | (with_reducible exact laws_heldMail.mono _ _ _ _)
   | (with_reducible exact laws_markMail.mono _ _ _ _)
   | (with_reducible exact spec_ParseMail.mono _ _)
   | (with_reducible exact LeO.refl _)
   | (with_reducible exact LeO.none _)
   | (with_reducible refine LeO.ite ?_ ?_)
   | (with_reducible refine LeO.bind ?_ (fun _ => ?_))
   | exact ih0 _ _ _ _ _ _ _
   | exact ih1 _ _ _ _
   | exact impl_ParseMail.mono _ _
   | exact laws_eqMail.mono _ _ _ _ _
   | exact laws_heldMail.mono _ _ _ _
   | exact laws_markMail.mono _ _ _ _
   | exact spec_ParseMail.mono _ _
   | exact LeO.none _
   | refine LeO.ite ?_ ?_
   | refine LeO.bind ?_ (fun _ => ?_)
  ·intro y0 y1 y2 y3
   unfold laws_FnExactParseMail.j1
   repeat' first
   | (with_reducible exact ih0 _ _ _ _ _ _ _)
   | (with_reducible exact ih1 _ _ _ _)
   | (with_reducible exact impl_ParseMail.mono _ _)
   | (with_reducible exact laws_eqMail.mono _ _ _ _ _)
   | (with_reducible exact laws_heldMail.mono _ _ _ _)
   | (with_reducible exact laws_markMail.mono _ _ _ _)
   | (with_reducible exact spec_ParseMail.mono _ _)
   | (with_reducible exact LeO.refl _)
   | (with_reducible exact LeO.none _)
   | (with_reducible refine LeO.ite ?_ ?_)
   | (with_reducible refine LeO.bind ?_ (fun _ => ?_))
   | exact ih0 _ _ _ _ _ _ _
   | exact ih1 _ _ _ _
   | exact impl_ParseMail.mono _ _
   | exact laws_eqMail.mono _ _ _ _ _
   | exact laws_heldMail.mono _ _ _ _
   | exact laws_markMail.mono _ _ _ _
   | exact spec_ParseMail.mono _ _
   | exact LeO.none _
   | refine LeO.ite ?_ ?_
   | refine LeO.bind ?_ (fun _ => ?_)
theorem laws_FnExactParseMail.mono : ∀ a0 k, LeO (laws_FnExactParseMail.f k a0) (laws_FnExactParseMail.f (k + 1) a0) := by
 intro a0 k
 obtain ⟨ih0, ih1⟩ := laws_FnExactParseMail.mono_l k
 unfold laws_FnExactParseMail.f
 repeat' first
   | (with_reducible exact ih0 _ _ _ _ _ _ _)
   | (with_reducible exact ih1 _ _ _ _)
   | (with_reducible exact impl_ParseMail.mono _ _)
   | (with_reducible exact laws_eqMail.mono _ _ _ _ _)
   | (with_reducible exact laws_heldMail.mono _ _ _ _)
   | (with_reducible exact laws_markMail.mono _ _ _ _)
   | (with_reducible exact spec_ParseMail.mono _ _)
   | (with_reducible exact LeO.refl _)
   | (with_reducible exact LeO.none _)
   | (with_reducible refine LeO.ite ?_ ?_)
   | (with_reducible refine LeO.bind ?_ (fun _ => ?_))
   | exact ih0 _ _ _ _ _ _ _
   | exact ih1 _ _ _ _
   | exact impl_ParseMail.mono _ _
   | exact laws_eqMail.mono _ _ _ _ _
   | exact laws_heldMail.mono _ _ _ _
   | exact laws_markMail.mono _ _ _ _
   | exact spec_ParseMail.mono _ _
   | exact LeO.none _
   | refine LeO.ite ?_ ?_
   | refine LeO.bind ?_ (fun _ => ?_)
set_option maxHeartbeats 8000000 in
set_option maxRecDepth 100000 in
theorem laws_FnExactParseMail.calls (k : Nat) (a0 : ByteArray) (r : Bool) (w : World) (hGWm : GWm w) (h : laws_FnExactParseMail.f k a0 = some r) :
  Calls Tryd.prog 5 #[.string a0] w fun e w' => e = .returned (.bool r) ∧ Below w.heap.size w w' := by
 have HGWm := Aside0.mk hGWm
 clear hGWm
 have hu30 := Tryd.underlying30
 have HB := Aside0.mk (Below.refl w.heap.size w)
 have H : (if (a0.size : Int) > 1048576 then (some true) else ((spec_ParseMail.f k a0).bind fun bt101 => ((impl_ParseMail.f k a0).bind fun bt107 => ((laws_eqMail.f k bt107.1 bt107.2.1 bt101.1 bt101.2.1).bind fun t113 => (if t113 = true then (laws_FnExactParseMail.j0 k a0 bt101.2.2 (bt107.2.2 != bt101.2.2) bt101.1 bt101.2.1 bt107.1 bt107.2.1) else (laws_FnExactParseMail.j0 k a0 bt101.2.2 true bt101.1 bt101.2.1 bt107.1 bt107.2.1)))))) = some r := h
 clear h
 by_cases c2 : (a0.size : Int) > 1048576
 ·rw [if_pos c2] at H
  have c2b0 : decide (1048576 < (a0.size : Int)) = true := decide_eq_true c2
  have c2b1 : decide (1048576 < a0.size) = true := decide_eq_true (by omega)
  clear c2
  obtain rfl := Option.some.inj H
  go_enter Tryd.func5, Tryd.ntmps5
  go_wp2
  go_ret
  exact ⟨by first | rfl | (simp [errW_none, errW_some] <;> rfl) | (simp [*, errW_none, errW_some] <;> rfl), by repeat (first | (with_reducible first | exact HB.out | apply below_alloc | apply pw_below_drewN | apply below_drew1) | exact HB.out)⟩
 ·rw [if_neg c2] at H
  have c2b0 : decide (1048576 < (a0.size : Int)) = false := decide_eq_false c2
  have c2b1 : decide (1048576 < a0.size) = false := decide_eq_false (by omega)
  clear c2
  replace H := Option.bind_eq_some_iff.mp H
  obtain ⟨⟨t101, t104, t105⟩, A30, H⟩ := H
  replace H : ((impl_ParseMail.f k a0).bind fun bt107 => ((laws_eqMail.f k bt107.1 bt107.2.1 t101 t104).bind fun t113 => (if t113 = true then (laws_FnExactParseMail.j0 k a0 t105 (bt107.2.2 != t105) t101 t104 bt107.1 bt107.2.1) else (laws_FnExactParseMail.j0 k a0 t105 true t101 t104 bt107.1 bt107.2.1)))) = some r := H
  have A3 := Aside0.mk A30
  clear A30
  replace H := Option.bind_eq_some_iff.mp H
  obtain ⟨⟨t107, t110, t111⟩, A40, H⟩ := H
  replace H : ((laws_eqMail.f k t107 t110 t101 t104).bind fun t113 => (if t113 = true then (laws_FnExactParseMail.j0 k a0 t105 (t111 != t105) t101 t104 t107 t110) else (laws_FnExactParseMail.j0 k a0 t105 true t101 t104 t107 t110))) = some r := H
  have A4 := Aside0.mk A40
  clear A40
  have HC5 := Aside0.mk H
  clear H
  go_enter Tryd.func5, Tryd.ntmps5
  go_upto_region 5 with (first | ((with_reducible refine gate_callee (f := 10) rfl ?_); refine goesL_ (some 16) rfl rfl Tryd.func10 (by kernel_rfl) rfl #[.string a0] rfl (by (try simp only [List.map_toArray, List.map_cons, List.map_nil]); first | done | rfl | (simp only [List.length_drop, List.length_take]; rfl)) ?_; (with_reducible refine (spec_ParseMail.calls k a0 t101 t104 t105 _ A3.out).mono ?_); rintro e w6 ⟨v102, rfl, ho0, hb⟩; refine ⟨_, rfl, ?_⟩; have n0_ := Aside0.mk (Kd.R_lower ho0 (below_size (by repeat (first | (with_reducible first | exact HB.out | apply below_alloc | apply pw_below_drewN | apply below_drew1) | exact HB.out)))); have n1_ := Aside0.mk (below_step (by repeat (first | (with_reducible first | exact HB.out | apply below_alloc | apply pw_below_drewN | apply below_drew1) | exact HB.out)) hb); clear HB; have HO103 := n0_; have HB := n1_; clear n0_ n1_; (try clear hb); (try clear hb2); (try clear hk); (try clear hi); (try clear ho0)) | ((with_reducible refine gate_dst (N := 3) rfl ?_); refine box_event ?hg (N := 3) ?hd (cs := #[.slice none 0 0, .string (⟨#[]⟩ : ByteArray)]) (t := 30) ?hr ?_; (case hd => rfl); (case hg => rfl); (case hr => first | (go_simp; done) | (go_simp; rfl)); intro gb106 hg w7 hbox hb; have n0_ := Aside0.mk (Kd.R_below (by (with_reducible repeat (first | apply Kd.R_alloc | apply Kd.R_drewN | apply Kd.R_drew)); exact HO103.out) hb); have n1_ := Aside0.mk (below_step (by repeat (first | (with_reducible first | exact HB.out | apply below_alloc | apply pw_below_drewN | apply below_drew1) | exact HB.out)) hb); have n2_ := Aside0.mk (hbox); have n3_ := Aside0.mk ((by rw [hg]; exact (below_size (by repeat (first | (with_reducible first | exact HB.out | apply below_alloc | apply pw_below_drewN | apply below_drew1) | exact HB.out))) : w.heap.size ≤ gb106)); have n4_ := Aside0.mk ((by rw [hg]; exact (below_size (by repeat (first | (with_reducible first | exact HB.out | apply below_alloc | apply pw_below_drewN | apply below_drew1) | exact HB.out))) : w.heap.size ≤ gb106)); clear HO103; clear HB; have HO103 := n0_; have HB := n1_; have BK106 := n2_; have GW106 := n3_; have GE106 := n4_; clear n0_ n1_ n2_ n3_ n4_; clear hb hbox hg; obtain ⟨Ao8, co8, eo8⟩ := Kd.R_slice HO103.out; subst eo8; have hcz9_0 : w7.cell? ⟨gb106, 0, none⟩ = some (.slice none 0 0) := (blk_cell BK106.out 0).trans rfl; have hcz9_1 : w7.cell? ⟨gb106, 1, none⟩ = some (.string (⟨#[]⟩ : ByteArray)) := (blk_cell BK106.out 1).trans rfl; have hfz9_0 := blk_frozen BK106.out 0; have hfz9_1 := blk_frozen BK106.out 1) | ((with_reducible refine gate_callee (f := 11) rfl ?_); refine goesL_ (some 21) rfl rfl Tryd.func11 (by kernel_rfl) rfl #[.string a0] rfl (by (try simp only [List.map_toArray, List.map_cons, List.map_nil]); first | done | rfl | (simp only [List.length_drop, List.length_take]; rfl)) ?_; (with_reducible refine (impl_ParseMail.calls k a0 t107 t110 t111 _ (GWm.below HGWm.out (by repeat (first | (with_reducible first | exact HB.out | apply below_alloc | apply pw_below_drewN | apply below_drew1 | refine below_set ?_ GE106.out) | exact HB.out))) A4.out).mono ?_); rintro e w10 ⟨v108, rfl, ho0, hb⟩; refine ⟨_, rfl, ?_⟩; have n0_ := Aside0.mk (Kd.R_elder' (by (with_reducible repeat (first | apply Kd.R_alloc | apply Kd.R_drewN | apply Kd.R_drew)); exact (Kd.R_mono (Kd.R_far (p := ⟨gb106, 1, none⟩) (Kd.R_far (p := ⟨gb106, 0, none⟩) (Kd.R_types HO103.out BK106.out (by decide)) (fun _ hk => hk.2) (.slice Ao8 t101.length co8)) (fun _ hk => hk.2) (.string t104)) (fun _ h_ => h_.1))) (Kd.R_base ho0) hb); have n1_ := Aside0.mk (Kd.R_lower (Kd.R_new' ho0 (Kd.R_lt (by (with_reducible repeat (first | apply Kd.R_alloc | apply Kd.R_drewN | apply Kd.R_drew)); exact (Kd.R_mono (Kd.R_far (p := ⟨gb106, 1, none⟩) (Kd.R_far (p := ⟨gb106, 0, none⟩) (Kd.R_types HO103.out BK106.out (by decide)) (fun _ hk => hk.2) (.slice Ao8 t101.length co8)) (fun _ hk => hk.2) (.string t104)) (fun _ h_ => h_.1))))) (below_size (by repeat (first | (with_reducible first | exact HB.out | apply below_alloc | apply pw_below_drewN | apply below_drew1 | refine below_set ?_ GE106.out) | exact HB.out)))); have n2_ := Aside0.mk (blk_below (g := gb106) (o := .cells #[.slice Ao8 t101.length co8, .string t104] 30 (0, 0)) (by (with_reducible repeat (first | refine blk_drewN ?_ _ | refine blk_drew ?_ | refine blk_alloc ?_ _)); refine blk_put (cs := #[.slice Ao8 t101.length co8, .string (⟨#[]⟩ : ByteArray)]) ?_ 1 _ rfl; (with_reducible repeat (first | refine blk_drewN ?_ _ | refine blk_drew ?_ | refine blk_alloc ?_ _)); refine blk_put (cs := #[.slice none 0 0, .string (⟨#[]⟩ : ByteArray)]) ?_ 0 _ rfl; (with_reducible repeat (first | refine blk_drewN ?_ _ | refine blk_drew ?_ | refine blk_alloc ?_ _)); exact BK106.out) hb); have n3_ := Aside0.mk (below_step (by repeat (first | (with_reducible first | exact HB.out | apply below_alloc | apply pw_below_drewN | apply below_drew1 | refine below_set ?_ GE106.out) | exact HB.out)) hb); clear HO103; clear BK106; clear HB; have HO103 := n0_; have HO109 := n1_; have BK106 := n2_; have HB := n3_; clear n0_ n1_ n2_ n3_; (try clear hb); (try clear hb2); (try clear hk); (try clear hi); (try clear ho0)) | ((with_reducible refine gate_dst (N := 5) rfl ?_); refine box_event ?hg (N := 5) ?hd (cs := #[.slice none 0 0, .string (⟨#[]⟩ : ByteArray)]) (t := 30) ?hr ?_; (case hd => rfl); (case hg => rfl); (case hr => first | (go_simp; done) | (go_simp; rfl)); intro gb112 hg w11 hbox hb; have n0_ := Aside0.mk (Kd.R_below (by (with_reducible repeat (first | apply Kd.R_alloc | apply Kd.R_drewN | apply Kd.R_drew)); exact HO103.out) hb); have n1_ := Aside0.mk (Kd.R_below (by (with_reducible repeat (first | apply Kd.R_alloc | apply Kd.R_drewN | apply Kd.R_drew)); exact HO109.out) hb); have n2_ := Aside0.mk (blk_below (g := gb106) (o := .cells #[.slice Ao8 t101.length co8, .string t104] 30 (0, 0)) (by (with_reducible repeat (first | refine blk_drewN ?_ _ | refine blk_drew ?_ | refine blk_alloc ?_ _)); exact BK106.out) hb); have n3_ := Aside0.mk (below_step (by repeat (first | (with_reducible first | exact HB.out | apply below_alloc | apply pw_below_drewN | apply below_drew1 | refine below_set ?_ GE106.out) | exact HB.out)) hb); have n4_ := Aside0.mk (hbox); have n5_ := Aside0.mk ((by rw [hg]; exact (below_size (by repeat (first | (with_reducible first | exact HB.out | apply below_alloc | apply pw_below_drewN | apply below_drew1 | refine below_set ?_ GE106.out) | exact HB.out))) : w.heap.size ≤ gb112)); have n6_ := Aside0.mk ((by rw [hg]; exact (below_size (by repeat (first | (with_reducible first | exact HB.out | apply below_alloc | apply pw_below_drewN | apply below_drew1 | refine below_set ?_ GE106.out) | exact HB.out))) : w.heap.size ≤ gb112)); have n7_ := Aside0.mk ((by rw [hg]; exact Nat.ne_of_lt (blk_lt (g := gb106) (o := .cells #[.slice Ao8 t101.length co8, .string t104] 30 (0, 0)) (by (with_reducible repeat (first | refine blk_drewN ?_ _ | refine blk_drew ?_ | refine blk_alloc ?_ _)); exact BK106.out)) : gb106 ≠ gb112)); have n8_ := Aside0.mk ((by rw [hg]; exact Nat.ne_of_gt (blk_lt (g := gb106) (o := .cells #[.slice Ao8 t101.length co8, .string t104] 30 (0, 0)) (by (with_reducible repeat (first | refine blk_drewN ?_ _ | refine blk_drew ?_ | refine blk_alloc ?_ _)); exact BK106.out)) : gb112 ≠ gb106)); clear HO103; clear HO109; clear BK106; clear HB; have HO103 := n0_; have HO109 := n1_; have BK106 := n2_; have HB := n3_; have BK112 := n4_; have GW112 := n5_; have GE112 := n6_; have NB106_112 := n7_; have NB112_106 := n8_; clear n0_ n1_ n2_ n3_ n4_ n5_ n6_ n7_ n8_; clear hb hbox hg; obtain ⟨Ao12, co12, eo12⟩ := Kd.R_slice HO109.out; subst eo12; have hnb13 := NB112_106.out; have hnc13 := NB106_112.out; have hcz14_0 : w11.cell? ⟨gb112, 0, none⟩ = some (.slice none 0 0) := (blk_cell BK112.out 0).trans rfl; have hcz14_1 : w11.cell? ⟨gb112, 1, none⟩ = some (.string (⟨#[]⟩ : ByteArray)) := (blk_cell BK112.out 1).trans rfl; have hfz14_0 := blk_frozen BK112.out 0; have hfz14_1 := blk_frozen BK112.out 1))
  (try simp only [Act.put, List.setIfInBounds_toArray, List.set_cons_zero, List.set_cons_succ])
  go_cut [32] (fun v32 wc => ∃ (kq : Nat) (x32_4 : Bool), v32 = .bool x32_4 ∧ Aside0 (laws_FnExactParseMail.j0 kq a0 t105 x32_4 t101 t104 t107 t110 = some r) ∧ Aside0 (kq ≤ k) ∧ Aside0 (Kd.R k49 49 wc w.heap.size (fun k_ => some k_ ≠ ((.slice Ao12 t107.length co12) : Value).ownBlock) (.slice Ao8 t101.length co8) t101) ∧ Aside0 (Kd.R k49 49 wc w.heap.size (fun k_ => some k_ ≠ ((.slice Ao8 t101.length co8) : Value).ownBlock) (.slice Ao12 t107.length co12) t107) ∧ Aside0 (wc.heap[gb106]? = some (.cells #[(.slice Ao8 t101.length co8), .string t104] 30 (0, 0))) ∧ Aside0 (wc.heap[gb112]? = some (.cells #[(.slice Ao12 t107.length co12), .string t110] 30 (0, 0))) ∧ Aside0 (Below w.heap.size w wc))
  case first =>
   have H := HC5.out
   clear HC5
   replace H := Option.bind_eq_some_iff.mp H
   obtain ⟨t113, A150, H⟩ := H
   replace H : (if t113 = true then (laws_FnExactParseMail.j0 k a0 t105 (t111 != t105) t101 t104 t107 t110) else (laws_FnExactParseMail.j0 k a0 t105 true t101 t104 t107 t110)) = some r := H
   have A15 := Aside0.mk A150
   clear A150
   by_cases c16 : t113 = true
   ·subst c16
    have H1 : (laws_FnExactParseMail.j0 k a0 t105 (t111 != t105) t101 t104 t107 t110) = some r := by rw [if_pos rfl] at H; exact H
    clear H
    have H := H1
    clear H1
    have H' := Aside0.mk H
    clear H
    have hnb17 := NB112_106.out
    have hnc17 := NB106_112.out
    have hcz18_0 : w11.cell? ⟨gb112, 0, none⟩ = some (.slice none 0 0) := (blk_cell BK112.out 0).trans rfl
    have hcz18_1 : w11.cell? ⟨gb112, 1, none⟩ = some (.string (⟨#[]⟩ : ByteArray)) := (blk_cell BK112.out 1).trans rfl
    have hfz18_0 := blk_frozen BK112.out 0
    have hfz18_1 := blk_frozen BK112.out 1
    have hcz19_0 : w11.cell? ⟨gb106, 0, none⟩ = some (.slice Ao8 t101.length co8) := (blk_cell BK106.out 0).trans rfl
    have hcz19_1 : w11.cell? ⟨gb106, 1, none⟩ = some (.string t104) := (blk_cell BK106.out 1).trans rfl
    have hfz19_0 := blk_frozen BK106.out 0
    have hfz19_1 := blk_frozen BK106.out 1
    go_wp2_with (first | ((with_reducible refine gate_callee (f := 12) rfl ?_); refine goesL_ (some 26) rfl rfl Tryd.func12 (by kernel_rfl) rfl #[.agg #[.slice Ao12 t107.length co12, .string t110], .agg #[.slice Ao8 t101.length co8, .string t104]] rfl (by (try simp only [List.map_toArray, List.map_cons, List.map_nil]); first | done | rfl | (simp only [List.length_drop, List.length_take]; rfl)) ?_; (with_reducible refine (laws_eqMail.calls k _ _ t107 t110 _ _ t101 t104 true _ ?side1 ?side2 ?side3 ?side4 A15.out).mono ?_); (case side1 => refine (Kd.R_reads' (e := 49) (base := w.heap.size) (ok := fun k_ => (True ∧ some k_ ≠ (.slice Ao8 t101.length co8 : Value).ownBlock)) (n := t107.length) (c := co12) ?_).2.2; exact (by (with_reducible repeat (first | apply Kd.R_alloc | apply Kd.R_drewN | apply Kd.R_drew)); exact (Kd.R_mono (Kd.R_far (p := ⟨gb112, 1, none⟩) (Kd.R_far (p := ⟨gb112, 0, none⟩) (Kd.R_types HO109.out BK112.out (by decide)) (fun _ hk => hk.2) (.slice Ao12 t107.length co12)) (fun _ hk => hk.2) (.string t110)) (fun _ h_ => h_.1)))); (case side2 => exact (Kd.R_reads' HO109.out).2.1); (case side3 => refine (Kd.R_reads' (e := 49) (base := w.heap.size) (ok := fun k_ => (True ∧ some k_ ≠ (.slice Ao12 t107.length co12 : Value).ownBlock)) (n := t101.length) (c := co8) ?_).2.2; exact (by (with_reducible repeat (first | apply Kd.R_alloc | apply Kd.R_drewN | apply Kd.R_drew)); exact (Kd.R_mono (Kd.R_far (p := ⟨gb112, 1, none⟩) (Kd.R_far (p := ⟨gb112, 0, none⟩) (Kd.R_types HO103.out BK112.out (by decide)) (fun _ hk => hk.2) (.slice Ao12 t107.length co12)) (fun _ hk => hk.2) (.string t110)) (fun _ h_ => h_.1)))); (case side4 => exact (Kd.R_reads' HO103.out).2.1); rintro e w20 ⟨rfl, hb⟩; refine ⟨_, rfl, ?_⟩; have n0_ := Aside0.mk (Kd.R_below (by (with_reducible repeat (first | apply Kd.R_alloc | apply Kd.R_drewN | apply Kd.R_drew)); exact (Kd.R_mono (Kd.R_far (p := ⟨gb112, 1, none⟩) (Kd.R_far (p := ⟨gb112, 0, none⟩) (Kd.R_types HO103.out BK112.out (by decide)) (fun _ hk => hk.2) (.slice Ao12 t107.length co12)) (fun _ hk => hk.2) (.string t110)) (fun _ h_ => h_.1))) hb); have n1_ := Aside0.mk (Kd.R_below (by (with_reducible repeat (first | apply Kd.R_alloc | apply Kd.R_drewN | apply Kd.R_drew)); exact (Kd.R_mono (Kd.R_far (p := ⟨gb112, 1, none⟩) (Kd.R_far (p := ⟨gb112, 0, none⟩) (Kd.R_types HO109.out BK112.out (by decide)) (fun _ hk => hk.2) (.slice Ao12 t107.length co12)) (fun _ hk => hk.2) (.string t110)) (fun _ h_ => h_.1))) hb); have n2_ := Aside0.mk (blk_below (g := gb106) (o := .cells #[.slice Ao8 t101.length co8, .string t104] 30 (0, 0)) (by (with_reducible repeat (first | refine blk_drewN ?_ _ | refine blk_drew ?_ | refine blk_alloc ?_ _)); refine blk_far ?_ NB106_112.out _; (with_reducible repeat (first | refine blk_drewN ?_ _ | refine blk_drew ?_ | refine blk_alloc ?_ _)); refine blk_far ?_ NB106_112.out _; (with_reducible repeat (first | refine blk_drewN ?_ _ | refine blk_drew ?_ | refine blk_alloc ?_ _)); exact BK106.out) hb); have n3_ := Aside0.mk (blk_below (g := gb112) (o := .cells #[.slice Ao12 t107.length co12, .string t110] 30 (0, 0)) (by (with_reducible repeat (first | refine blk_drewN ?_ _ | refine blk_drew ?_ | refine blk_alloc ?_ _)); refine blk_put (cs := #[.slice Ao12 t107.length co12, .string (⟨#[]⟩ : ByteArray)]) ?_ 1 _ rfl; (with_reducible repeat (first | refine blk_drewN ?_ _ | refine blk_drew ?_ | refine blk_alloc ?_ _)); refine blk_put (cs := #[.slice none 0 0, .string (⟨#[]⟩ : ByteArray)]) ?_ 0 _ rfl; (with_reducible repeat (first | refine blk_drewN ?_ _ | refine blk_drew ?_ | refine blk_alloc ?_ _)); exact BK112.out) hb); have n4_ := Aside0.mk (below_step (by repeat (first | (with_reducible first | exact HB.out | apply below_alloc | apply pw_below_drewN | apply below_drew1 | refine below_set ?_ GE106.out | refine below_set ?_ GE112.out) | exact HB.out)) hb); clear HO103; clear HO109; clear BK106; clear BK112; clear HB; have HO103 := n0_; have HO109 := n1_; have BK106 := n2_; have BK112 := n3_; have HB := n4_; clear n0_ n1_ n2_ n3_ n4_; (try clear hb); (try clear hb2); (try clear hk); (try clear hi)))
    go_meet
    case rel => exact ⟨_, ((t111 != t105)), (by first | rfl | (simp; done) | (simp [*]; done)), H', ⟨by first | omega | exact Nat.le_refl _⟩, ⟨by (with_reducible repeat (first | apply Kd.R_alloc | apply Kd.R_drewN | apply Kd.R_drew)); exact Kd.R_mono HO103.out (fun _ hk => hk.2)⟩, ⟨by (with_reducible repeat (first | apply Kd.R_alloc | apply Kd.R_drewN | apply Kd.R_drew)); exact Kd.R_mono HO109.out (fun _ hk => hk.2)⟩, ⟨by (with_reducible repeat (first | refine blk_drewN ?_ _ | refine blk_drew ?_ | refine blk_alloc ?_ _)); exact BK106.out⟩, ⟨by (with_reducible repeat (first | refine blk_drewN ?_ _ | refine blk_drew ?_ | refine blk_alloc ?_ _)); exact BK112.out⟩, ⟨by repeat (first | (with_reducible first | exact HB.out | apply below_alloc | apply pw_below_drewN | apply below_drew1 | refine below_set ?_ GE106.out | refine below_set ?_ GE112.out) | exact HB.out)⟩⟩
   ·replace c16 := Bool.eq_false_iff.mpr c16
    subst c16
    have H1 : (laws_FnExactParseMail.j0 k a0 t105 true t101 t104 t107 t110) = some r := by rw [if_neg (show ¬ (false = true) by decide)] at H; exact H
    clear H
    have H := H1
    clear H1
    have H' := Aside0.mk H
    clear H
    have hnb21 := NB112_106.out
    have hnc21 := NB106_112.out
    have hcz22_0 : w11.cell? ⟨gb112, 0, none⟩ = some (.slice none 0 0) := (blk_cell BK112.out 0).trans rfl
    have hcz22_1 : w11.cell? ⟨gb112, 1, none⟩ = some (.string (⟨#[]⟩ : ByteArray)) := (blk_cell BK112.out 1).trans rfl
    have hfz22_0 := blk_frozen BK112.out 0
    have hfz22_1 := blk_frozen BK112.out 1
    have hcz23_0 : w11.cell? ⟨gb106, 0, none⟩ = some (.slice Ao8 t101.length co8) := (blk_cell BK106.out 0).trans rfl
    have hcz23_1 : w11.cell? ⟨gb106, 1, none⟩ = some (.string t104) := (blk_cell BK106.out 1).trans rfl
    have hfz23_0 := blk_frozen BK106.out 0
    have hfz23_1 := blk_frozen BK106.out 1
    go_wp2_with (first | ((with_reducible refine gate_callee (f := 12) rfl ?_); refine goesL_ (some 26) rfl rfl Tryd.func12 (by kernel_rfl) rfl #[.agg #[.slice Ao12 t107.length co12, .string t110], .agg #[.slice Ao8 t101.length co8, .string t104]] rfl (by (try simp only [List.map_toArray, List.map_cons, List.map_nil]); first | done | rfl | (simp only [List.length_drop, List.length_take]; rfl)) ?_; (with_reducible refine (laws_eqMail.calls k _ _ t107 t110 _ _ t101 t104 false _ ?side1 ?side2 ?side3 ?side4 A15.out).mono ?_); (case side1 => refine (Kd.R_reads' (e := 49) (base := w.heap.size) (ok := fun k_ => (True ∧ some k_ ≠ (.slice Ao8 t101.length co8 : Value).ownBlock)) (n := t107.length) (c := co12) ?_).2.2; exact (by (with_reducible repeat (first | apply Kd.R_alloc | apply Kd.R_drewN | apply Kd.R_drew)); exact (Kd.R_mono (Kd.R_far (p := ⟨gb112, 1, none⟩) (Kd.R_far (p := ⟨gb112, 0, none⟩) (Kd.R_types HO109.out BK112.out (by decide)) (fun _ hk => hk.2) (.slice Ao12 t107.length co12)) (fun _ hk => hk.2) (.string t110)) (fun _ h_ => h_.1)))); (case side2 => exact (Kd.R_reads' HO109.out).2.1); (case side3 => refine (Kd.R_reads' (e := 49) (base := w.heap.size) (ok := fun k_ => (True ∧ some k_ ≠ (.slice Ao12 t107.length co12 : Value).ownBlock)) (n := t101.length) (c := co8) ?_).2.2; exact (by (with_reducible repeat (first | apply Kd.R_alloc | apply Kd.R_drewN | apply Kd.R_drew)); exact (Kd.R_mono (Kd.R_far (p := ⟨gb112, 1, none⟩) (Kd.R_far (p := ⟨gb112, 0, none⟩) (Kd.R_types HO103.out BK112.out (by decide)) (fun _ hk => hk.2) (.slice Ao12 t107.length co12)) (fun _ hk => hk.2) (.string t110)) (fun _ h_ => h_.1)))); (case side4 => exact (Kd.R_reads' HO103.out).2.1); rintro e w24 ⟨rfl, hb⟩; refine ⟨_, rfl, ?_⟩; have n0_ := Aside0.mk (Kd.R_below (by (with_reducible repeat (first | apply Kd.R_alloc | apply Kd.R_drewN | apply Kd.R_drew)); exact (Kd.R_mono (Kd.R_far (p := ⟨gb112, 1, none⟩) (Kd.R_far (p := ⟨gb112, 0, none⟩) (Kd.R_types HO103.out BK112.out (by decide)) (fun _ hk => hk.2) (.slice Ao12 t107.length co12)) (fun _ hk => hk.2) (.string t110)) (fun _ h_ => h_.1))) hb); have n1_ := Aside0.mk (Kd.R_below (by (with_reducible repeat (first | apply Kd.R_alloc | apply Kd.R_drewN | apply Kd.R_drew)); exact (Kd.R_mono (Kd.R_far (p := ⟨gb112, 1, none⟩) (Kd.R_far (p := ⟨gb112, 0, none⟩) (Kd.R_types HO109.out BK112.out (by decide)) (fun _ hk => hk.2) (.slice Ao12 t107.length co12)) (fun _ hk => hk.2) (.string t110)) (fun _ h_ => h_.1))) hb); have n2_ := Aside0.mk (blk_below (g := gb106) (o := .cells #[.slice Ao8 t101.length co8, .string t104] 30 (0, 0)) (by (with_reducible repeat (first | refine blk_drewN ?_ _ | refine blk_drew ?_ | refine blk_alloc ?_ _)); refine blk_far ?_ NB106_112.out _; (with_reducible repeat (first | refine blk_drewN ?_ _ | refine blk_drew ?_ | refine blk_alloc ?_ _)); refine blk_far ?_ NB106_112.out _; (with_reducible repeat (first | refine blk_drewN ?_ _ | refine blk_drew ?_ | refine blk_alloc ?_ _)); exact BK106.out) hb); have n3_ := Aside0.mk (blk_below (g := gb112) (o := .cells #[.slice Ao12 t107.length co12, .string t110] 30 (0, 0)) (by (with_reducible repeat (first | refine blk_drewN ?_ _ | refine blk_drew ?_ | refine blk_alloc ?_ _)); refine blk_put (cs := #[.slice Ao12 t107.length co12, .string (⟨#[]⟩ : ByteArray)]) ?_ 1 _ rfl; (with_reducible repeat (first | refine blk_drewN ?_ _ | refine blk_drew ?_ | refine blk_alloc ?_ _)); refine blk_put (cs := #[.slice none 0 0, .string (⟨#[]⟩ : ByteArray)]) ?_ 0 _ rfl; (with_reducible repeat (first | refine blk_drewN ?_ _ | refine blk_drew ?_ | refine blk_alloc ?_ _)); exact BK112.out) hb); have n4_ := Aside0.mk (below_step (by repeat (first | (with_reducible first | exact HB.out | apply below_alloc | apply pw_below_drewN | apply below_drew1 | refine below_set ?_ GE106.out | refine below_set ?_ GE112.out) | exact HB.out)) hb); clear HO103; clear HO109; clear BK106; clear BK112; clear HB; have HO103 := n0_; have HO109 := n1_; have BK106 := n2_; have BK112 := n3_; have HB := n4_; clear n0_ n1_ n2_ n3_ n4_; (try clear hb); (try clear hb2); (try clear hk); (try clear hi)))
    go_meet
    case rel => exact ⟨_, (true), (by first | rfl | (simp; done) | (simp [*]; done)), H', ⟨by first | omega | exact Nat.le_refl _⟩, ⟨by (with_reducible repeat (first | apply Kd.R_alloc | apply Kd.R_drewN | apply Kd.R_drew)); exact Kd.R_mono HO103.out (fun _ hk => hk.2)⟩, ⟨by (with_reducible repeat (first | apply Kd.R_alloc | apply Kd.R_drewN | apply Kd.R_drew)); exact Kd.R_mono HO109.out (fun _ hk => hk.2)⟩, ⟨by (with_reducible repeat (first | refine blk_drewN ?_ _ | refine blk_drew ?_ | refine blk_alloc ?_ _)); exact BK106.out⟩, ⟨by (with_reducible repeat (first | refine blk_drewN ?_ _ | refine blk_drew ?_ | refine blk_alloc ?_ _)); exact BK112.out⟩, ⟨by repeat (first | (with_reducible first | exact HB.out | apply below_alloc | apply pw_below_drewN | apply below_drew1 | refine below_set ?_ GE106.out | refine below_set ?_ GE112.out) | exact HB.out)⟩⟩
  case rest =>
   clear HC5
   try clear c1
   try clear c2
   try clear c2b0
   try clear c2b1
   try clear p2
   try clear c5
   try clear c10
   try clear c11
   try clear c12
   try clear c13
   try clear c16
   try clear c17
   try clear c21
   try clear hcz14_0
   try clear hcz14_1
   try clear hcz18_0
   try clear hcz18_1
   try clear hcz19_0
   try clear hcz19_1
   try clear hcz22_0
   try clear hcz22_1
   try clear hcz23_0
   try clear hcz23_1
   try clear hcz9_0
   try clear hcz9_1
   try clear hfz14_0
   try clear hfz14_1
   try clear hfz18_0
   try clear hfz18_1
   try clear hfz19_0
   try clear hfz19_1
   try clear hfz22_0
   try clear hfz22_1
   try clear hfz23_0
   try clear hfz23_1
   try clear hfz9_0
   try clear hfz9_1
   obtain ⟨kq, x32_4, rfl, HA, HJ4, HO_107000, HO_113000, BK106, BK112, HB⟩ := hcut
   cases kq with
   | zero => exact absurd HA.out (by simp [laws_FnExactParseMail.j0])
   | succ kj4 =>
    have H := HA.out
    clear HA
    simp only [laws_FnExactParseMail.j0] at H
    by_cases c25 : x32_4 = true
    ·subst c25
     have H1 : (some false) = some r := by rw [if_pos rfl] at H; exact H
     clear H
     have H := H1
     clear H1
     obtain rfl := Option.some.inj H
     go_wp2
     go_ret
     exact ⟨by first | rfl | (simp [errW_none, errW_some] <;> rfl) | (simp [*, errW_none, errW_some] <;> rfl), by repeat (first | (with_reducible first | exact HB.out | apply below_alloc | apply pw_below_drewN | apply below_drew1 | refine below_set ?_ GE106.out | refine below_set ?_ GE112.out) | exact HB.out)⟩
    ·replace c25 := Bool.eq_false_iff.mpr c25
     subst c25
     have H1 : ((laws_markMail.f kj4 t107 t110 1).bind fun bt114 => ((laws_heldMail.f kj4 bt114.2 t110 1).bind fun t116 => (if t116 < 0 then (some false) else (if t116 = bt114.1 then ((impl_ParseMail.f kj4 a0).bind fun bt117 => ((laws_eqMail.f kj4 bt117.1 bt117.2.1 t101 t104).bind fun t123 => (if t123 = true then (laws_FnExactParseMail.j1 kj4 bt114.1 (bt117.2.2 != t105) bt114.2 t110) else (laws_FnExactParseMail.j1 kj4 bt114.1 true bt114.2 t110)))) else (some false))))) = some r := by rw [if_neg (show ¬ (false = true) by decide)] at H; exact H
     clear H
     have H := H1
     clear H1
     replace H := Option.bind_eq_some_iff.mp H
     obtain ⟨⟨t114, t115⟩, A260, H⟩ := H
     replace H : ((laws_heldMail.f kj4 t115 t110 1).bind fun t116 => (if t116 < 0 then (some false) else (if t116 = t114 then ((impl_ParseMail.f kj4 a0).bind fun bt117 => ((laws_eqMail.f kj4 bt117.1 bt117.2.1 t101 t104).bind fun t123 => (if t123 = true then (laws_FnExactParseMail.j1 kj4 t114 (bt117.2.2 != t105) t115 t110) else (laws_FnExactParseMail.j1 kj4 t114 true t115 t110)))) else (some false)))) = some r := H
     have A26 := Aside0.mk A260
     clear A260
     replace H := Option.bind_eq_some_iff.mp H
     obtain ⟨t116, A270, H⟩ := H
     replace H : (if t116 < 0 then (some false) else (if t116 = t114 then ((impl_ParseMail.f kj4 a0).bind fun bt117 => ((laws_eqMail.f kj4 bt117.1 bt117.2.1 t101 t104).bind fun t123 => (if t123 = true then (laws_FnExactParseMail.j1 kj4 t114 (bt117.2.2 != t105) t115 t110) else (laws_FnExactParseMail.j1 kj4 t114 true t115 t110)))) else (some false))) = some r := H
     have A27 := Aside0.mk A270
     clear A270
     by_cases c28 : t116 < 0
     ·rw [if_pos c28] at H
      have c28b0 : decide (t116 < 0) = true := decide_eq_true c28
      clear c28
      obtain rfl := Option.some.inj H
      have hnb29 := NB112_106.out
      have hnc29 := NB106_112.out
      have hcz30_0 : wc.cell? ⟨gb112, 0, none⟩ = some (.slice Ao12 t107.length co12) := (blk_cell BK112.out 0).trans rfl
      have hcz30_1 : wc.cell? ⟨gb112, 1, none⟩ = some (.string t110) := (blk_cell BK112.out 1).trans rfl
      have hfz30_0 := blk_frozen BK112.out 0
      have hfz30_1 := blk_frozen BK112.out 1
      go_wp2_with (first | ((with_reducible refine gate_callee (f := 13) rfl ?_); refine goesL_ (some 35) rfl rfl Tryd.func13 (by kernel_rfl) rfl #[.agg #[.slice Ao12 t107.length co12, .string t110], .int .i64 1] rfl (by (try simp only [List.map_toArray, List.map_cons, List.map_nil]); first | done | rfl | (simp only [List.length_drop, List.length_take]; rfl)) ?_; (with_reducible refine (laws_markMail.calls kj4 (fun k_ => some k_ = (.slice Ao12 t107.length co12 : Value).ownBlock) (.slice Ao12 t107.length co12) t107 t110 1 t114 t115 w _ ?side1 ?side2 A26.out).mono ?_); (case side1 => repeat (first | (with_reducible first | exact HB.out | apply below_alloc | apply pw_below_drewN | apply below_drew1 | refine below_set ?_ GE106.out | refine below_set ?_ GE112.out) | exact HB.out)); (case side2 => exact Kd.R_tight rfl HO_113000.out); rintro e w31 ⟨rfl, hy0, hb, hkp⟩; refine ⟨_, rfl, ?_⟩; have n0_ := Aside0.mk (Kd.R_mono (ok' := fun k_ => some k_ ≠ (.slice Ao12 t107.length co12 : Value).ownBlock) (Kd.R_keptB (HO_107000.out) hkp (fun k_ hk_ hs_ => (hk_) hs_)) (fun k_ hk_ => hk_.1)); have n1_ := Aside0.mk (Kd.R_reok rfl hy0 (fun k_ e_ => HO_113000.out.1 k_ e_)); have n2_ := Aside0.mk (blk_kept (by (with_reducible repeat (first | refine blk_drewN ?_ _ | refine blk_drew ?_ | refine blk_alloc ?_ _)); exact BK106.out) hkp (fun hs_ => (fun e_ => (Kd.R_ne HO_113000.out BK106.out (by decide)) e_) hs_)); have n3_ := Aside0.mk (blk_kept (by (with_reducible repeat (first | refine blk_drewN ?_ _ | refine blk_drew ?_ | refine blk_alloc ?_ _)); exact BK112.out) hkp (fun hs_ => (fun e_ => (Kd.R_ne HO_113000.out BK112.out (by decide)) e_) hs_)); have n4_ := Aside0.mk (hb); clear HO_107000; clear HO_113000; clear BK106; clear BK112; clear HB; have HO_107000 := n0_; have HO_113000 := n1_; have BK106 := n2_; have BK112 := n3_; have HB := n4_; clear n0_ n1_ n2_ n3_ n4_; (try clear hb); (try clear hkp); (try clear hy0); have hcz32_0 : w31.cell? ⟨gb112, 0, none⟩ = some (.slice Ao12 t107.length co12) := (blk_cell BK112.out 0).trans rfl; have hcz32_1 : w31.cell? ⟨gb112, 1, none⟩ = some (.string t110) := (blk_cell BK112.out 1).trans rfl; have hfz32_0 := blk_frozen BK112.out 0; have hfz32_1 := blk_frozen BK112.out 1) | ((with_reducible refine gate_callee (f := 14) rfl ?_); refine goesL_ (some 38) rfl rfl Tryd.func14 (by kernel_rfl) rfl #[.agg #[.slice Ao12 t115.length co12, .string t110], .int .i64 1] rfl (by (try simp only [List.map_toArray, List.map_cons, List.map_nil]); first | done | (rw [show t115.length = t107.length from (Kd.R_reads' HO_113000.out).1.symm] <;> rfl) | rfl | (simp only [List.length_drop, List.length_take]; rfl)) ?_; (with_reducible refine (laws_heldMail.calls kj4 _ _ t115 t110 1 t116 _ ?side1 ?side2 A27.out).mono ?_); (case side1 => repeat (first | exact (Kd.R_reads' HO_113000.out).2.2 | (with_reducible refine Kd.C_alloc ?_ _) | (with_reducible refine Kd.C_drewN ?_ _) | (with_reducible refine Kd.C_drew ?_))); (case side2 => rw [show t115.length = t107.length from (Kd.R_reads' HO_113000.out).1.symm]; exact (Kd.R_reads' HO_113000.out).2.1); rintro e w33 ⟨rfl, hb⟩; refine ⟨_, rfl, ?_⟩; have n0_ := Aside0.mk (Kd.R_below (by (with_reducible repeat (first | apply Kd.R_alloc | apply Kd.R_drewN | apply Kd.R_drew)); exact HO_107000.out) hb); have n1_ := Aside0.mk (Kd.R_below (by (with_reducible repeat (first | apply Kd.R_alloc | apply Kd.R_drewN | apply Kd.R_drew)); exact HO_113000.out) hb); have n2_ := Aside0.mk (blk_below (g := gb106) (o := .cells #[.slice Ao8 t101.length co8, .string t104] 30 (0, 0)) (by (with_reducible repeat (first | refine blk_drewN ?_ _ | refine blk_drew ?_ | refine blk_alloc ?_ _)); exact BK106.out) hb); have n3_ := Aside0.mk (blk_below (g := gb112) (o := .cells #[.slice Ao12 t107.length co12, .string t110] 30 (0, 0)) (by (with_reducible repeat (first | refine blk_drewN ?_ _ | refine blk_drew ?_ | refine blk_alloc ?_ _)); exact BK112.out) hb); have n4_ := Aside0.mk (below_step (by repeat (first | (with_reducible first | exact HB.out | apply below_alloc | apply pw_below_drewN | apply below_drew1 | refine below_set ?_ GE106.out | refine below_set ?_ GE112.out) | exact HB.out)) hb); clear HO_107000; clear HO_113000; clear BK106; clear BK112; clear HB; have HO_107000 := n0_; have HO_113000 := n1_; have BK106 := n2_; have BK112 := n3_; have HB := n4_; clear n0_ n1_ n2_ n3_ n4_; (try clear hb); (try clear hb2); (try clear hk); (try clear hi)))
      go_ret
      exact ⟨by first | rfl | (simp [errW_none, errW_some] <;> rfl) | (simp [*, errW_none, errW_some] <;> rfl), by repeat (first | (with_reducible first | exact HB.out | apply below_alloc | apply pw_below_drewN | apply below_drew1 | refine below_set ?_ GE106.out | refine below_set ?_ GE112.out) | exact HB.out)⟩
     ·rw [if_neg c28] at H
      have c28b0 : decide (t116 < 0) = false := decide_eq_false c28
      clear c28
      by_cases c34 : t116 = t114
      ·rw [if_pos c34] at H
       have c34b0 : (t116 == t114) = true := beq_iff_eq.mpr c34
       have c34b1 : (t116 != t114) = false := bne_eq_false_iff_eq.mpr c34
       clear c34
       replace H := Option.bind_eq_some_iff.mp H
       obtain ⟨⟨t117, t120, t121⟩, A350, H⟩ := H
       replace H : ((laws_eqMail.f kj4 t117 t120 t101 t104).bind fun t123 => (if t123 = true then (laws_FnExactParseMail.j1 kj4 t114 (t121 != t105) t115 t110) else (laws_FnExactParseMail.j1 kj4 t114 true t115 t110))) = some r := H
       have A35 := Aside0.mk A350
       clear A350
       have HC36 := Aside0.mk H
       clear H
       have hnb37 := NB112_106.out
       have hnc37 := NB106_112.out
       have hcz38_0 : wc.cell? ⟨gb112, 0, none⟩ = some (.slice Ao12 t107.length co12) := (blk_cell BK112.out 0).trans rfl
       have hcz38_1 : wc.cell? ⟨gb112, 1, none⟩ = some (.string t110) := (blk_cell BK112.out 1).trans rfl
       have hfz38_0 := blk_frozen BK112.out 0
       have hfz38_1 := blk_frozen BK112.out 1
       go_upto_region 16 with (first | ((with_reducible refine gate_callee (f := 13) rfl ?_); refine goesL_ (some 35) rfl rfl Tryd.func13 (by kernel_rfl) rfl #[.agg #[.slice Ao12 t107.length co12, .string t110], .int .i64 1] rfl (by (try simp only [List.map_toArray, List.map_cons, List.map_nil]); first | done | rfl | (simp only [List.length_drop, List.length_take]; rfl)) ?_; (with_reducible refine (laws_markMail.calls kj4 (fun k_ => some k_ = (.slice Ao12 t107.length co12 : Value).ownBlock) (.slice Ao12 t107.length co12) t107 t110 1 t114 t115 w _ ?side1 ?side2 A26.out).mono ?_); (case side1 => repeat (first | (with_reducible first | exact HB.out | apply below_alloc | apply pw_below_drewN | apply below_drew1 | refine below_set ?_ GE106.out | refine below_set ?_ GE112.out) | exact HB.out)); (case side2 => exact Kd.R_tight rfl HO_113000.out); rintro e w39 ⟨rfl, hy0, hb, hkp⟩; refine ⟨_, rfl, ?_⟩; have n0_ := Aside0.mk (Kd.R_mono (ok' := fun k_ => some k_ ≠ (.slice Ao12 t107.length co12 : Value).ownBlock) (Kd.R_keptB (HO_107000.out) hkp (fun k_ hk_ hs_ => (hk_) hs_)) (fun k_ hk_ => hk_.1)); have n1_ := Aside0.mk (Kd.R_reok rfl hy0 (fun k_ e_ => HO_113000.out.1 k_ e_)); have n2_ := Aside0.mk (blk_kept (by (with_reducible repeat (first | refine blk_drewN ?_ _ | refine blk_drew ?_ | refine blk_alloc ?_ _)); exact BK106.out) hkp (fun hs_ => (fun e_ => (Kd.R_ne HO_113000.out BK106.out (by decide)) e_) hs_)); have n3_ := Aside0.mk (blk_kept (by (with_reducible repeat (first | refine blk_drewN ?_ _ | refine blk_drew ?_ | refine blk_alloc ?_ _)); exact BK112.out) hkp (fun hs_ => (fun e_ => (Kd.R_ne HO_113000.out BK112.out (by decide)) e_) hs_)); have n4_ := Aside0.mk (hb); clear HO_107000; clear HO_113000; clear BK106; clear BK112; clear HB; have HO_107000 := n0_; have HO_113000 := n1_; have BK106 := n2_; have BK112 := n3_; have HB := n4_; clear n0_ n1_ n2_ n3_ n4_; (try clear hb); (try clear hkp); (try clear hy0); have hcz40_0 : w39.cell? ⟨gb112, 0, none⟩ = some (.slice Ao12 t107.length co12) := (blk_cell BK112.out 0).trans rfl; have hcz40_1 : w39.cell? ⟨gb112, 1, none⟩ = some (.string t110) := (blk_cell BK112.out 1).trans rfl; have hfz40_0 := blk_frozen BK112.out 0; have hfz40_1 := blk_frozen BK112.out 1) | ((with_reducible refine gate_callee (f := 14) rfl ?_); refine goesL_ (some 38) rfl rfl Tryd.func14 (by kernel_rfl) rfl #[.agg #[.slice Ao12 t115.length co12, .string t110], .int .i64 1] rfl (by (try simp only [List.map_toArray, List.map_cons, List.map_nil]); first | done | (rw [show t115.length = t107.length from (Kd.R_reads' HO_113000.out).1.symm] <;> rfl) | rfl | (simp only [List.length_drop, List.length_take]; rfl)) ?_; (with_reducible refine (laws_heldMail.calls kj4 _ _ t115 t110 1 t116 _ ?side1 ?side2 A27.out).mono ?_); (case side1 => repeat (first | exact (Kd.R_reads' HO_113000.out).2.2 | (with_reducible refine Kd.C_alloc ?_ _) | (with_reducible refine Kd.C_drewN ?_ _) | (with_reducible refine Kd.C_drew ?_))); (case side2 => rw [show t115.length = t107.length from (Kd.R_reads' HO_113000.out).1.symm]; exact (Kd.R_reads' HO_113000.out).2.1); rintro e w41 ⟨rfl, hb⟩; refine ⟨_, rfl, ?_⟩; have n0_ := Aside0.mk (Kd.R_below (by (with_reducible repeat (first | apply Kd.R_alloc | apply Kd.R_drewN | apply Kd.R_drew)); exact HO_107000.out) hb); have n1_ := Aside0.mk (Kd.R_below (by (with_reducible repeat (first | apply Kd.R_alloc | apply Kd.R_drewN | apply Kd.R_drew)); exact HO_113000.out) hb); have n2_ := Aside0.mk (blk_below (g := gb106) (o := .cells #[.slice Ao8 t101.length co8, .string t104] 30 (0, 0)) (by (with_reducible repeat (first | refine blk_drewN ?_ _ | refine blk_drew ?_ | refine blk_alloc ?_ _)); exact BK106.out) hb); have n3_ := Aside0.mk (blk_below (g := gb112) (o := .cells #[.slice Ao12 t107.length co12, .string t110] 30 (0, 0)) (by (with_reducible repeat (first | refine blk_drewN ?_ _ | refine blk_drew ?_ | refine blk_alloc ?_ _)); exact BK112.out) hb); have n4_ := Aside0.mk (below_step (by repeat (first | (with_reducible first | exact HB.out | apply below_alloc | apply pw_below_drewN | apply below_drew1 | refine below_set ?_ GE106.out | refine below_set ?_ GE112.out) | exact HB.out)) hb); clear HO_107000; clear HO_113000; clear BK106; clear BK112; clear HB; have HO_107000 := n0_; have HO_113000 := n1_; have BK106 := n2_; have BK112 := n3_; have HB := n4_; clear n0_ n1_ n2_ n3_ n4_; (try clear hb); (try clear hb2); (try clear hk); (try clear hi)) | ((with_reducible refine gate_callee (f := 11) rfl ?_); refine goesL_ (some 46) rfl rfl Tryd.func11 (by kernel_rfl) rfl #[.string a0] rfl (by (try simp only [List.map_toArray, List.map_cons, List.map_nil]); first | done | rfl | (simp only [List.length_drop, List.length_take]; rfl)) ?_; (with_reducible refine (impl_ParseMail.calls kj4 a0 t117 t120 t121 _ (GWm.below HGWm.out (by repeat (first | (with_reducible first | exact HB.out | apply below_alloc | apply pw_below_drewN | apply below_drew1 | refine below_set ?_ GE106.out | refine below_set ?_ GE112.out) | exact HB.out))) A35.out).mono ?_); rintro e w42 ⟨v118, rfl, ho0, hb⟩; refine ⟨_, rfl, ?_⟩; have n0_ := Aside0.mk (Kd.R_elder' (by (with_reducible repeat (first | apply Kd.R_alloc | apply Kd.R_drewN | apply Kd.R_drew)); exact HO_107000.out) (Kd.R_base ho0) hb); have n1_ := Aside0.mk (Kd.R_elder' (by (with_reducible repeat (first | apply Kd.R_alloc | apply Kd.R_drewN | apply Kd.R_drew)); exact HO_113000.out) (Kd.R_base ho0) hb); have n2_ := Aside0.mk (Kd.R_lower (Kd.R_new' (Kd.R_new' ho0 (Kd.R_lt (by (with_reducible repeat (first | apply Kd.R_alloc | apply Kd.R_drewN | apply Kd.R_drew)); exact HO_107000.out))) (Kd.R_lt (by (with_reducible repeat (first | apply Kd.R_alloc | apply Kd.R_drewN | apply Kd.R_drew)); exact HO_113000.out))) (below_size (by repeat (first | (with_reducible first | exact HB.out | apply below_alloc | apply pw_below_drewN | apply below_drew1 | refine below_set ?_ GE106.out | refine below_set ?_ GE112.out) | exact HB.out)))); have n3_ := Aside0.mk (blk_below (g := gb106) (o := .cells #[.slice Ao8 t101.length co8, .string t104] 30 (0, 0)) (by (with_reducible repeat (first | refine blk_drewN ?_ _ | refine blk_drew ?_ | refine blk_alloc ?_ _)); exact BK106.out) hb); have n4_ := Aside0.mk (blk_below (g := gb112) (o := .cells #[.slice Ao12 t107.length co12, .string t110] 30 (0, 0)) (by (with_reducible repeat (first | refine blk_drewN ?_ _ | refine blk_drew ?_ | refine blk_alloc ?_ _)); exact BK112.out) hb); have n5_ := Aside0.mk (below_step (by repeat (first | (with_reducible first | exact HB.out | apply below_alloc | apply pw_below_drewN | apply below_drew1 | refine below_set ?_ GE106.out | refine below_set ?_ GE112.out) | exact HB.out)) hb); clear HO_107000; clear HO_113000; clear BK106; clear BK112; clear HB; have HO_107000 := n0_; have HO_113000 := n1_; have HO119 := n2_; have BK106 := n3_; have BK112 := n4_; have HB := n5_; clear n0_ n1_ n2_ n3_ n4_ n5_; (try clear hb); (try clear hb2); (try clear hk); (try clear hi); (try clear ho0)) | ((with_reducible refine gate_dst (N := 9) rfl ?_); refine box_event ?hg (N := 9) ?hd (cs := #[.slice none 0 0, .string (⟨#[]⟩ : ByteArray)]) (t := 30) ?hr ?_; (case hd => rfl); (case hg => rfl); (case hr => first | (go_simp; done) | (go_simp; rfl)); intro gb122 hg w43 hbox hb; have n0_ := Aside0.mk (Kd.R_below (by (with_reducible repeat (first | apply Kd.R_alloc | apply Kd.R_drewN | apply Kd.R_drew)); exact HO_107000.out) hb); have n1_ := Aside0.mk (Kd.R_below (by (with_reducible repeat (first | apply Kd.R_alloc | apply Kd.R_drewN | apply Kd.R_drew)); exact HO_113000.out) hb); have n2_ := Aside0.mk (Kd.R_below (by (with_reducible repeat (first | apply Kd.R_alloc | apply Kd.R_drewN | apply Kd.R_drew)); exact HO119.out) hb); have n3_ := Aside0.mk (blk_below (g := gb106) (o := .cells #[.slice Ao8 t101.length co8, .string t104] 30 (0, 0)) (by (with_reducible repeat (first | refine blk_drewN ?_ _ | refine blk_drew ?_ | refine blk_alloc ?_ _)); exact BK106.out) hb); have n4_ := Aside0.mk (blk_below (g := gb112) (o := .cells #[.slice Ao12 t107.length co12, .string t110] 30 (0, 0)) (by (with_reducible repeat (first | refine blk_drewN ?_ _ | refine blk_drew ?_ | refine blk_alloc ?_ _)); exact BK112.out) hb); have n5_ := Aside0.mk (below_step (by repeat (first | (with_reducible first | exact HB.out | apply below_alloc | apply pw_below_drewN | apply below_drew1 | refine below_set ?_ GE106.out | refine below_set ?_ GE112.out) | exact HB.out)) hb); have n6_ := Aside0.mk (hbox); have n7_ := Aside0.mk ((by rw [hg]; exact (below_size (by repeat (first | (with_reducible first | exact HB.out | apply below_alloc | apply pw_below_drewN | apply below_drew1 | refine below_set ?_ GE106.out | refine below_set ?_ GE112.out) | exact HB.out))) : w.heap.size ≤ gb122)); have n8_ := Aside0.mk ((by rw [hg]; exact (below_size (by repeat (first | (with_reducible first | exact HB.out | apply below_alloc | apply pw_below_drewN | apply below_drew1 | refine below_set ?_ GE106.out | refine below_set ?_ GE112.out) | exact HB.out))) : w.heap.size ≤ gb122)); have n9_ := Aside0.mk ((by rw [hg]; exact Nat.ne_of_lt (blk_lt (g := gb106) (o := .cells #[.slice Ao8 t101.length co8, .string t104] 30 (0, 0)) (by (with_reducible repeat (first | refine blk_drewN ?_ _ | refine blk_drew ?_ | refine blk_alloc ?_ _)); exact BK106.out)) : gb106 ≠ gb122)); have n10_ := Aside0.mk ((by rw [hg]; exact Nat.ne_of_gt (blk_lt (g := gb106) (o := .cells #[.slice Ao8 t101.length co8, .string t104] 30 (0, 0)) (by (with_reducible repeat (first | refine blk_drewN ?_ _ | refine blk_drew ?_ | refine blk_alloc ?_ _)); exact BK106.out)) : gb122 ≠ gb106)); have n11_ := Aside0.mk ((by rw [hg]; exact Nat.ne_of_lt (blk_lt (g := gb112) (o := .cells #[.slice Ao12 t107.length co12, .string t110] 30 (0, 0)) (by (with_reducible repeat (first | refine blk_drewN ?_ _ | refine blk_drew ?_ | refine blk_alloc ?_ _)); exact BK112.out)) : gb112 ≠ gb122)); have n12_ := Aside0.mk ((by rw [hg]; exact Nat.ne_of_gt (blk_lt (g := gb112) (o := .cells #[.slice Ao12 t107.length co12, .string t110] 30 (0, 0)) (by (with_reducible repeat (first | refine blk_drewN ?_ _ | refine blk_drew ?_ | refine blk_alloc ?_ _)); exact BK112.out)) : gb122 ≠ gb112)); clear HO_107000; clear HO_113000; clear HO119; clear BK106; clear BK112; clear HB; have HO_107000 := n0_; have HO_113000 := n1_; have HO119 := n2_; have BK106 := n3_; have BK112 := n4_; have HB := n5_; have BK122 := n6_; have GW122 := n7_; have GE122 := n8_; have NB106_122 := n9_; have NB122_106 := n10_; have NB112_122 := n11_; have NB122_112 := n12_; clear n0_ n1_ n2_ n3_ n4_ n5_ n6_ n7_ n8_ n9_ n10_ n11_ n12_; clear hb hbox hg; obtain ⟨Ao44, co44, eo44⟩ := Kd.R_slice HO119.out; subst eo44; have hnb45 := NB122_106.out; have hnc45 := NB106_122.out; have hnb46 := NB122_112.out; have hnc46 := NB112_122.out; have hcz47_0 : w43.cell? ⟨gb122, 0, none⟩ = some (.slice none 0 0) := (blk_cell BK122.out 0).trans rfl; have hcz47_1 : w43.cell? ⟨gb122, 1, none⟩ = some (.string (⟨#[]⟩ : ByteArray)) := (blk_cell BK122.out 1).trans rfl; have hfz47_0 := blk_frozen BK122.out 0; have hfz47_1 := blk_frozen BK122.out 1))
       (try simp only [Act.put, List.setIfInBounds_toArray, List.set_cons_zero, List.set_cons_succ])
       go_cut [57] (fun v57 wc => ∃ (kq : Nat) (x57_35 : Bool), v57 = .bool x57_35 ∧ Aside0 (laws_FnExactParseMail.j1 kq t114 x57_35 t115 t110 = some r) ∧ Aside0 (kq ≤ kj4) ∧ Aside0 (Kd.R k49 49 wc w.heap.size (fun k_ => some k_ ≠ ((.slice Ao12 t107.length co12) : Value).ownBlock ∧ some k_ ≠ ((.slice Ao44 t117.length co44) : Value).ownBlock) (.slice Ao8 t101.length co8) t101) ∧ Aside0 (Kd.R k49 49 wc w.heap.size (fun k_ => some k_ ≠ ((.slice Ao8 t101.length co8) : Value).ownBlock ∧ some k_ ≠ ((.slice Ao44 t117.length co44) : Value).ownBlock) (.slice Ao12 t107.length co12) t115) ∧ Aside0 (Kd.R k49 49 wc w.heap.size (fun k_ => some k_ ≠ ((.slice Ao8 t101.length co8) : Value).ownBlock ∧ some k_ ≠ ((.slice Ao12 t107.length co12) : Value).ownBlock) (.slice Ao44 t117.length co44) t117) ∧ Aside0 (wc.heap[gb106]? = some (.cells #[(.slice Ao8 t101.length co8), .string t104] 30 (0, 0))) ∧ Aside0 (wc.heap[gb112]? = some (.cells #[(.slice Ao12 t107.length co12), .string t110] 30 (0, 0))) ∧ Aside0 (wc.heap[gb122]? = some (.cells #[(.slice Ao44 t117.length co44), .string t120] 30 (0, 0))) ∧ Aside0 (Below w.heap.size w wc))
       case first =>
        have H := HC36.out
        clear HC36
        replace H := Option.bind_eq_some_iff.mp H
        obtain ⟨t123, A480, H⟩ := H
        replace H : (if t123 = true then (laws_FnExactParseMail.j1 kj4 t114 (t121 != t105) t115 t110) else (laws_FnExactParseMail.j1 kj4 t114 true t115 t110)) = some r := H
        have A48 := Aside0.mk A480
        clear A480
        by_cases c49 : t123 = true
        ·subst c49
         have H1 : (laws_FnExactParseMail.j1 kj4 t114 (t121 != t105) t115 t110) = some r := by rw [if_pos rfl] at H; exact H
         clear H
         have H := H1
         clear H1
         have H' := Aside0.mk H
         clear H
         have hnb50 := NB122_106.out
         have hnc50 := NB106_122.out
         have hnb51 := NB122_112.out
         have hnc51 := NB112_122.out
         have hcz52_0 : w43.cell? ⟨gb122, 0, none⟩ = some (.slice none 0 0) := (blk_cell BK122.out 0).trans rfl
         have hcz52_1 : w43.cell? ⟨gb122, 1, none⟩ = some (.string (⟨#[]⟩ : ByteArray)) := (blk_cell BK122.out 1).trans rfl
         have hfz52_0 := blk_frozen BK122.out 0
         have hfz52_1 := blk_frozen BK122.out 1
         have hnb53 := NB106_112.out
         have hnc53 := NB112_106.out
         have hcz54_0 : w43.cell? ⟨gb106, 0, none⟩ = some (.slice Ao8 t101.length co8) := (blk_cell BK106.out 0).trans rfl
         have hcz54_1 : w43.cell? ⟨gb106, 1, none⟩ = some (.string t104) := (blk_cell BK106.out 1).trans rfl
         have hfz54_0 := blk_frozen BK106.out 0
         have hfz54_1 := blk_frozen BK106.out 1
         go_wp2_with (first | ((with_reducible refine gate_callee (f := 12) rfl ?_); refine goesL_ (some 51) rfl rfl Tryd.func12 (by kernel_rfl) rfl #[.agg #[.slice Ao44 t117.length co44, .string t120], .agg #[.slice Ao8 t101.length co8, .string t104]] rfl (by (try simp only [List.map_toArray, List.map_cons, List.map_nil]); first | done | rfl | (simp only [List.length_drop, List.length_take]; rfl)) ?_; (with_reducible refine (laws_eqMail.calls kj4 _ _ t117 t120 _ _ t101 t104 true _ ?side1 ?side2 ?side3 ?side4 A48.out).mono ?_); (case side1 => refine (Kd.R_reads' (e := 49) (base := w.heap.size) (ok := fun k_ => ((True ∧ some k_ ≠ (.slice Ao8 t101.length co8 : Value).ownBlock) ∧ some k_ ≠ (.slice Ao12 t107.length co12 : Value).ownBlock)) (n := t117.length) (c := co44) ?_).2.2; exact (by (with_reducible repeat (first | apply Kd.R_alloc | apply Kd.R_drewN | apply Kd.R_drew)); exact (Kd.R_mono (Kd.R_far (p := ⟨gb122, 1, none⟩) (Kd.R_far (p := ⟨gb122, 0, none⟩) (Kd.R_types HO119.out BK122.out (by decide)) (fun _ hk => hk.2) (.slice Ao44 t117.length co44)) (fun _ hk => hk.2) (.string t120)) (fun _ h_ => h_.1)))); (case side2 => exact (Kd.R_reads' HO119.out).2.1); (case side3 => refine (Kd.R_reads' (e := 49) (base := w.heap.size) (ok := fun k_ => (some k_ ≠ (.slice Ao12 t107.length co12 : Value).ownBlock ∧ some k_ ≠ (.slice Ao44 t117.length co44 : Value).ownBlock)) (n := t101.length) (c := co8) ?_).2.2; exact (by (with_reducible repeat (first | apply Kd.R_alloc | apply Kd.R_drewN | apply Kd.R_drew)); exact (Kd.R_mono (Kd.R_far (p := ⟨gb122, 1, none⟩) (Kd.R_far (p := ⟨gb122, 0, none⟩) (Kd.R_types HO_107000.out BK122.out (by decide)) (fun _ hk => hk.2) (.slice Ao44 t117.length co44)) (fun _ hk => hk.2) (.string t120)) (fun _ h_ => h_.1)))); (case side4 => exact (Kd.R_reads' HO_107000.out).2.1); rintro e w55 ⟨rfl, hb⟩; refine ⟨_, rfl, ?_⟩; have n0_ := Aside0.mk (Kd.R_below (by (with_reducible repeat (first | apply Kd.R_alloc | apply Kd.R_drewN | apply Kd.R_drew)); exact (Kd.R_mono (Kd.R_far (p := ⟨gb122, 1, none⟩) (Kd.R_far (p := ⟨gb122, 0, none⟩) (Kd.R_types HO_107000.out BK122.out (by decide)) (fun _ hk => hk.2) (.slice Ao44 t117.length co44)) (fun _ hk => hk.2) (.string t120)) (fun _ h_ => h_.1))) hb); have n1_ := Aside0.mk (Kd.R_below (by (with_reducible repeat (first | apply Kd.R_alloc | apply Kd.R_drewN | apply Kd.R_drew)); exact (Kd.R_mono (Kd.R_far (p := ⟨gb122, 1, none⟩) (Kd.R_far (p := ⟨gb122, 0, none⟩) (Kd.R_types HO_113000.out BK122.out (by decide)) (fun _ hk => hk.2) (.slice Ao44 t117.length co44)) (fun _ hk => hk.2) (.string t120)) (fun _ h_ => h_.1))) hb); have n2_ := Aside0.mk (Kd.R_below (by (with_reducible repeat (first | apply Kd.R_alloc | apply Kd.R_drewN | apply Kd.R_drew)); exact (Kd.R_mono (Kd.R_far (p := ⟨gb122, 1, none⟩) (Kd.R_far (p := ⟨gb122, 0, none⟩) (Kd.R_types HO119.out BK122.out (by decide)) (fun _ hk => hk.2) (.slice Ao44 t117.length co44)) (fun _ hk => hk.2) (.string t120)) (fun _ h_ => h_.1))) hb); have n3_ := Aside0.mk (blk_below (g := gb106) (o := .cells #[.slice Ao8 t101.length co8, .string t104] 30 (0, 0)) (by (with_reducible repeat (first | refine blk_drewN ?_ _ | refine blk_drew ?_ | refine blk_alloc ?_ _)); refine blk_far ?_ NB106_122.out _; (with_reducible repeat (first | refine blk_drewN ?_ _ | refine blk_drew ?_ | refine blk_alloc ?_ _)); refine blk_far ?_ NB106_122.out _; (with_reducible repeat (first | refine blk_drewN ?_ _ | refine blk_drew ?_ | refine blk_alloc ?_ _)); exact BK106.out) hb); have n4_ := Aside0.mk (blk_below (g := gb112) (o := .cells #[.slice Ao12 t107.length co12, .string t110] 30 (0, 0)) (by (with_reducible repeat (first | refine blk_drewN ?_ _ | refine blk_drew ?_ | refine blk_alloc ?_ _)); refine blk_far ?_ NB112_122.out _; (with_reducible repeat (first | refine blk_drewN ?_ _ | refine blk_drew ?_ | refine blk_alloc ?_ _)); refine blk_far ?_ NB112_122.out _; (with_reducible repeat (first | refine blk_drewN ?_ _ | refine blk_drew ?_ | refine blk_alloc ?_ _)); exact BK112.out) hb); have n5_ := Aside0.mk (blk_below (g := gb122) (o := .cells #[.slice Ao44 t117.length co44, .string t120] 30 (0, 0)) (by (with_reducible repeat (first | refine blk_drewN ?_ _ | refine blk_drew ?_ | refine blk_alloc ?_ _)); refine blk_put (cs := #[.slice Ao44 t117.length co44, .string (⟨#[]⟩ : ByteArray)]) ?_ 1 _ rfl; (with_reducible repeat (first | refine blk_drewN ?_ _ | refine blk_drew ?_ | refine blk_alloc ?_ _)); refine blk_put (cs := #[.slice none 0 0, .string (⟨#[]⟩ : ByteArray)]) ?_ 0 _ rfl; (with_reducible repeat (first | refine blk_drewN ?_ _ | refine blk_drew ?_ | refine blk_alloc ?_ _)); exact BK122.out) hb); have n6_ := Aside0.mk (below_step (by repeat (first | (with_reducible first | exact HB.out | apply below_alloc | apply pw_below_drewN | apply below_drew1 | refine below_set ?_ GE106.out | refine below_set ?_ GE112.out | refine below_set ?_ GE122.out) | exact HB.out)) hb); clear HO_107000; clear HO_113000; clear HO119; clear BK106; clear BK112; clear BK122; clear HB; have HO_107000 := n0_; have HO_113000 := n1_; have HO119 := n2_; have BK106 := n3_; have BK112 := n4_; have BK122 := n5_; have HB := n6_; clear n0_ n1_ n2_ n3_ n4_ n5_ n6_; (try clear hb); (try clear hb2); (try clear hk); (try clear hi)))
         go_meet
         case rel => exact ⟨_, ((t121 != t105)), (by first | rfl | (simp; done) | (simp [*]; done)), H', ⟨by have := HJ4.out; first | omega | exact Nat.le_refl _⟩, ⟨by (with_reducible repeat (first | apply Kd.R_alloc | apply Kd.R_drewN | apply Kd.R_drew)); exact HO_107000.out⟩, ⟨by (with_reducible repeat (first | apply Kd.R_alloc | apply Kd.R_drewN | apply Kd.R_drew)); exact HO_113000.out⟩, ⟨by (with_reducible repeat (first | apply Kd.R_alloc | apply Kd.R_drewN | apply Kd.R_drew)); exact Kd.R_mono HO119.out (fun _ hk => ⟨hk.1.2, hk.2⟩)⟩, ⟨by (with_reducible repeat (first | refine blk_drewN ?_ _ | refine blk_drew ?_ | refine blk_alloc ?_ _)); exact BK106.out⟩, ⟨by (with_reducible repeat (first | refine blk_drewN ?_ _ | refine blk_drew ?_ | refine blk_alloc ?_ _)); exact BK112.out⟩, ⟨by (with_reducible repeat (first | refine blk_drewN ?_ _ | refine blk_drew ?_ | refine blk_alloc ?_ _)); exact BK122.out⟩, ⟨by repeat (first | (with_reducible first | exact HB.out | apply below_alloc | apply pw_below_drewN | apply below_drew1 | refine below_set ?_ GE106.out | refine below_set ?_ GE112.out | refine below_set ?_ GE122.out) | exact HB.out)⟩⟩
        ·replace c49 := Bool.eq_false_iff.mpr c49
         subst c49
         have H1 : (laws_FnExactParseMail.j1 kj4 t114 true t115 t110) = some r := by rw [if_neg (show ¬ (false = true) by decide)] at H; exact H
         clear H
         have H := H1
         clear H1
         have H' := Aside0.mk H
         clear H
         have hnb56 := NB122_106.out
         have hnc56 := NB106_122.out
         have hnb57 := NB122_112.out
         have hnc57 := NB112_122.out
         have hcz58_0 : w43.cell? ⟨gb122, 0, none⟩ = some (.slice none 0 0) := (blk_cell BK122.out 0).trans rfl
         have hcz58_1 : w43.cell? ⟨gb122, 1, none⟩ = some (.string (⟨#[]⟩ : ByteArray)) := (blk_cell BK122.out 1).trans rfl
         have hfz58_0 := blk_frozen BK122.out 0
         have hfz58_1 := blk_frozen BK122.out 1
         have hnb59 := NB106_112.out
         have hnc59 := NB112_106.out
         have hcz60_0 : w43.cell? ⟨gb106, 0, none⟩ = some (.slice Ao8 t101.length co8) := (blk_cell BK106.out 0).trans rfl
         have hcz60_1 : w43.cell? ⟨gb106, 1, none⟩ = some (.string t104) := (blk_cell BK106.out 1).trans rfl
         have hfz60_0 := blk_frozen BK106.out 0
         have hfz60_1 := blk_frozen BK106.out 1
         go_wp2_with (first | ((with_reducible refine gate_callee (f := 12) rfl ?_); refine goesL_ (some 51) rfl rfl Tryd.func12 (by kernel_rfl) rfl #[.agg #[.slice Ao44 t117.length co44, .string t120], .agg #[.slice Ao8 t101.length co8, .string t104]] rfl (by (try simp only [List.map_toArray, List.map_cons, List.map_nil]); first | done | rfl | (simp only [List.length_drop, List.length_take]; rfl)) ?_; (with_reducible refine (laws_eqMail.calls kj4 _ _ t117 t120 _ _ t101 t104 false _ ?side1 ?side2 ?side3 ?side4 A48.out).mono ?_); (case side1 => refine (Kd.R_reads' (e := 49) (base := w.heap.size) (ok := fun k_ => ((True ∧ some k_ ≠ (.slice Ao8 t101.length co8 : Value).ownBlock) ∧ some k_ ≠ (.slice Ao12 t107.length co12 : Value).ownBlock)) (n := t117.length) (c := co44) ?_).2.2; exact (by (with_reducible repeat (first | apply Kd.R_alloc | apply Kd.R_drewN | apply Kd.R_drew)); exact (Kd.R_mono (Kd.R_far (p := ⟨gb122, 1, none⟩) (Kd.R_far (p := ⟨gb122, 0, none⟩) (Kd.R_types HO119.out BK122.out (by decide)) (fun _ hk => hk.2) (.slice Ao44 t117.length co44)) (fun _ hk => hk.2) (.string t120)) (fun _ h_ => h_.1)))); (case side2 => exact (Kd.R_reads' HO119.out).2.1); (case side3 => refine (Kd.R_reads' (e := 49) (base := w.heap.size) (ok := fun k_ => (some k_ ≠ (.slice Ao12 t107.length co12 : Value).ownBlock ∧ some k_ ≠ (.slice Ao44 t117.length co44 : Value).ownBlock)) (n := t101.length) (c := co8) ?_).2.2; exact (by (with_reducible repeat (first | apply Kd.R_alloc | apply Kd.R_drewN | apply Kd.R_drew)); exact (Kd.R_mono (Kd.R_far (p := ⟨gb122, 1, none⟩) (Kd.R_far (p := ⟨gb122, 0, none⟩) (Kd.R_types HO_107000.out BK122.out (by decide)) (fun _ hk => hk.2) (.slice Ao44 t117.length co44)) (fun _ hk => hk.2) (.string t120)) (fun _ h_ => h_.1)))); (case side4 => exact (Kd.R_reads' HO_107000.out).2.1); rintro e w61 ⟨rfl, hb⟩; refine ⟨_, rfl, ?_⟩; have n0_ := Aside0.mk (Kd.R_below (by (with_reducible repeat (first | apply Kd.R_alloc | apply Kd.R_drewN | apply Kd.R_drew)); exact (Kd.R_mono (Kd.R_far (p := ⟨gb122, 1, none⟩) (Kd.R_far (p := ⟨gb122, 0, none⟩) (Kd.R_types HO_107000.out BK122.out (by decide)) (fun _ hk => hk.2) (.slice Ao44 t117.length co44)) (fun _ hk => hk.2) (.string t120)) (fun _ h_ => h_.1))) hb); have n1_ := Aside0.mk (Kd.R_below (by (with_reducible repeat (first | apply Kd.R_alloc | apply Kd.R_drewN | apply Kd.R_drew)); exact (Kd.R_mono (Kd.R_far (p := ⟨gb122, 1, none⟩) (Kd.R_far (p := ⟨gb122, 0, none⟩) (Kd.R_types HO_113000.out BK122.out (by decide)) (fun _ hk => hk.2) (.slice Ao44 t117.length co44)) (fun _ hk => hk.2) (.string t120)) (fun _ h_ => h_.1))) hb); have n2_ := Aside0.mk (Kd.R_below (by (with_reducible repeat (first | apply Kd.R_alloc | apply Kd.R_drewN | apply Kd.R_drew)); exact (Kd.R_mono (Kd.R_far (p := ⟨gb122, 1, none⟩) (Kd.R_far (p := ⟨gb122, 0, none⟩) (Kd.R_types HO119.out BK122.out (by decide)) (fun _ hk => hk.2) (.slice Ao44 t117.length co44)) (fun _ hk => hk.2) (.string t120)) (fun _ h_ => h_.1))) hb); have n3_ := Aside0.mk (blk_below (g := gb106) (o := .cells #[.slice Ao8 t101.length co8, .string t104] 30 (0, 0)) (by (with_reducible repeat (first | refine blk_drewN ?_ _ | refine blk_drew ?_ | refine blk_alloc ?_ _)); refine blk_far ?_ NB106_122.out _; (with_reducible repeat (first | refine blk_drewN ?_ _ | refine blk_drew ?_ | refine blk_alloc ?_ _)); refine blk_far ?_ NB106_122.out _; (with_reducible repeat (first | refine blk_drewN ?_ _ | refine blk_drew ?_ | refine blk_alloc ?_ _)); exact BK106.out) hb); have n4_ := Aside0.mk (blk_below (g := gb112) (o := .cells #[.slice Ao12 t107.length co12, .string t110] 30 (0, 0)) (by (with_reducible repeat (first | refine blk_drewN ?_ _ | refine blk_drew ?_ | refine blk_alloc ?_ _)); refine blk_far ?_ NB112_122.out _; (with_reducible repeat (first | refine blk_drewN ?_ _ | refine blk_drew ?_ | refine blk_alloc ?_ _)); refine blk_far ?_ NB112_122.out _; (with_reducible repeat (first | refine blk_drewN ?_ _ | refine blk_drew ?_ | refine blk_alloc ?_ _)); exact BK112.out) hb); have n5_ := Aside0.mk (blk_below (g := gb122) (o := .cells #[.slice Ao44 t117.length co44, .string t120] 30 (0, 0)) (by (with_reducible repeat (first | refine blk_drewN ?_ _ | refine blk_drew ?_ | refine blk_alloc ?_ _)); refine blk_put (cs := #[.slice Ao44 t117.length co44, .string (⟨#[]⟩ : ByteArray)]) ?_ 1 _ rfl; (with_reducible repeat (first | refine blk_drewN ?_ _ | refine blk_drew ?_ | refine blk_alloc ?_ _)); refine blk_put (cs := #[.slice none 0 0, .string (⟨#[]⟩ : ByteArray)]) ?_ 0 _ rfl; (with_reducible repeat (first | refine blk_drewN ?_ _ | refine blk_drew ?_ | refine blk_alloc ?_ _)); exact BK122.out) hb); have n6_ := Aside0.mk (below_step (by repeat (first | (with_reducible first | exact HB.out | apply below_alloc | apply pw_below_drewN | apply below_drew1 | refine below_set ?_ GE106.out | refine below_set ?_ GE112.out | refine below_set ?_ GE122.out) | exact HB.out)) hb); clear HO_107000; clear HO_113000; clear HO119; clear BK106; clear BK112; clear BK122; clear HB; have HO_107000 := n0_; have HO_113000 := n1_; have HO119 := n2_; have BK106 := n3_; have BK112 := n4_; have BK122 := n5_; have HB := n6_; clear n0_ n1_ n2_ n3_ n4_ n5_ n6_; (try clear hb); (try clear hb2); (try clear hk); (try clear hi)))
         go_meet
         case rel => exact ⟨_, (true), (by first | rfl | (simp; done) | (simp [*]; done)), H', ⟨by have := HJ4.out; first | omega | exact Nat.le_refl _⟩, ⟨by (with_reducible repeat (first | apply Kd.R_alloc | apply Kd.R_drewN | apply Kd.R_drew)); exact HO_107000.out⟩, ⟨by (with_reducible repeat (first | apply Kd.R_alloc | apply Kd.R_drewN | apply Kd.R_drew)); exact HO_113000.out⟩, ⟨by (with_reducible repeat (first | apply Kd.R_alloc | apply Kd.R_drewN | apply Kd.R_drew)); exact Kd.R_mono HO119.out (fun _ hk => ⟨hk.1.2, hk.2⟩)⟩, ⟨by (with_reducible repeat (first | refine blk_drewN ?_ _ | refine blk_drew ?_ | refine blk_alloc ?_ _)); exact BK106.out⟩, ⟨by (with_reducible repeat (first | refine blk_drewN ?_ _ | refine blk_drew ?_ | refine blk_alloc ?_ _)); exact BK112.out⟩, ⟨by (with_reducible repeat (first | refine blk_drewN ?_ _ | refine blk_drew ?_ | refine blk_alloc ?_ _)); exact BK122.out⟩, ⟨by repeat (first | (with_reducible first | exact HB.out | apply below_alloc | apply pw_below_drewN | apply below_drew1 | refine below_set ?_ GE106.out | refine below_set ?_ GE112.out | refine below_set ?_ GE122.out) | exact HB.out)⟩⟩
       case rest =>
        clear HC36
        try clear c1
        try clear c2
        try clear c2b0
        try clear c2b1
        try clear p2
        try clear c3
        try clear c4
        try clear c5
        try clear c10
        try clear c11
        try clear c12
        try clear c13
        try clear c14
        try clear c16
        try clear c17
        try clear c21
        try clear c25
        try clear c28
        try clear c28b0
        try clear c29
        try clear c34
        try clear c34b0
        try clear c34b1
        try clear c37
        try clear c45
        try clear c46
        try clear c49
        try clear c50
        try clear c51
        try clear c53
        try clear c56
        try clear c57
        try clear c59
        try clear hcz14_0
        try clear hcz14_1
        try clear hcz18_0
        try clear hcz18_1
        try clear hcz19_0
        try clear hcz19_1
        try clear hcz22_0
        try clear hcz22_1
        try clear hcz23_0
        try clear hcz23_1
        try clear hcz30_0
        try clear hcz30_1
        try clear hcz32_0
        try clear hcz32_1
        try clear hcz38_0
        try clear hcz38_1
        try clear hcz40_0
        try clear hcz40_1
        try clear hcz47_0
        try clear hcz47_1
        try clear hcz52_0
        try clear hcz52_1
        try clear hcz54_0
        try clear hcz54_1
        try clear hcz58_0
        try clear hcz58_1
        try clear hcz60_0
        try clear hcz60_1
        try clear hcz9_0
        try clear hcz9_1
        try clear hfz14_0
        try clear hfz14_1
        try clear hfz18_0
        try clear hfz18_1
        try clear hfz19_0
        try clear hfz19_1
        try clear hfz22_0
        try clear hfz22_1
        try clear hfz23_0
        try clear hfz23_1
        try clear hfz30_0
        try clear hfz30_1
        try clear hfz32_0
        try clear hfz32_1
        try clear hfz38_0
        try clear hfz38_1
        try clear hfz40_0
        try clear hfz40_1
        try clear hfz47_0
        try clear hfz47_1
        try clear hfz52_0
        try clear hfz52_1
        try clear hfz54_0
        try clear hfz54_1
        try clear hfz58_0
        try clear hfz58_1
        try clear hfz60_0
        try clear hfz60_1
        try clear hfz9_0
        try clear hfz9_1
        try clear p2
        obtain ⟨kq, x57_35, rfl, HA, HJ35, HO_107000, HO_113000, HO_123000, BK106, BK112, BK122, HB⟩ := hcut
        have hl113000_35 := (Kd.R_reads' HO_113000.out).1
        rw [hl113000_35] at HO_113000
        (try simp only [hl113000_35])
        (try simp only [hl113000_35] at BK106)
        (try simp only [hl113000_35] at BK112)
        (try simp only [hl113000_35] at BK122)
        (try simp only [hl113000_35] at HO_107000)
        (try simp only [hl113000_35] at HO_123000)
        cases kq with
        | zero => exact absurd HA.out (by simp [laws_FnExactParseMail.j1])
        | succ kj35 =>
         have H := HA.out
         clear HA
         simp only [laws_FnExactParseMail.j1] at H
         by_cases c62 : x57_35 = true
         ·subst c62
          have H1 : (some false) = some r := by rw [if_pos rfl] at H; exact H
          clear H
          have H := H1
          clear H1
          obtain rfl := Option.some.inj H
          go_wp2
          go_ret
          exact ⟨by first | rfl | (simp [errW_none, errW_some] <;> rfl) | (simp [*, errW_none, errW_some] <;> rfl), by repeat (first | (with_reducible first | exact HB.out | apply below_alloc | apply pw_below_drewN | apply below_drew1 | refine below_set ?_ GE106.out | refine below_set ?_ GE112.out | refine below_set ?_ GE122.out) | exact HB.out)⟩
         ·replace c62 := Bool.eq_false_iff.mpr c62
          subst c62
          have H1 : ((laws_heldMail.f kj35 t115 t110 1).bind fun t124 => (if t124 < 0 then (some false) else (if t124 = t114 then (some true) else (some false)))) = some r := by rw [if_neg (show ¬ (false = true) by decide)] at H; exact H
          clear H
          have H := H1
          clear H1
          replace H := Option.bind_eq_some_iff.mp H
          obtain ⟨t124, A630, H⟩ := H
          replace H : (if t124 < 0 then (some false) else (if t124 = t114 then (some true) else (some false))) = some r := H
          have A63 := Aside0.mk A630
          clear A630
          by_cases c64 : t124 < 0
          ·rw [if_pos c64] at H
           have c64b0 : decide (t124 < 0) = true := decide_eq_true c64
           clear c64
           obtain rfl := Option.some.inj H
           have hnb65 := NB112_106.out
           have hnc65 := NB106_112.out
           have hnb66 := NB112_122.out
           have hnc66 := NB122_112.out
           have hcz67_0 : wc.cell? ⟨gb112, 0, none⟩ = some (.slice Ao12 t115.length co12) := (blk_cell BK112.out 0).trans rfl
           have hcz67_1 : wc.cell? ⟨gb112, 1, none⟩ = some (.string t110) := (blk_cell BK112.out 1).trans rfl
           have hfz67_0 := blk_frozen BK112.out 0
           have hfz67_1 := blk_frozen BK112.out 1
           go_wp2_with (first | ((with_reducible refine gate_callee (f := 14) rfl ?_); refine goesL_ (some 60) rfl rfl Tryd.func14 (by kernel_rfl) rfl #[.agg #[.slice Ao12 t115.length co12, .string t110], .int .i64 1] rfl (by (try simp only [List.map_toArray, List.map_cons, List.map_nil]); first | done | rfl | (simp only [List.length_drop, List.length_take]; rfl)) ?_; (with_reducible refine (laws_heldMail.calls kj35 _ _ t115 t110 1 t124 _ ?side1 ?side2 A63.out).mono ?_); (case side1 => repeat (first | exact (Kd.R_reads' HO_113000.out).2.2 | (with_reducible refine Kd.C_alloc ?_ _) | (with_reducible refine Kd.C_drewN ?_ _) | (with_reducible refine Kd.C_drew ?_))); (case side2 => exact (Kd.R_reads' HO_113000.out).2.1); rintro e w68 ⟨rfl, hb⟩; refine ⟨_, rfl, ?_⟩; have n0_ := Aside0.mk (Kd.R_below (by (with_reducible repeat (first | apply Kd.R_alloc | apply Kd.R_drewN | apply Kd.R_drew)); exact HO_107000.out) hb); have n1_ := Aside0.mk (Kd.R_below (by (with_reducible repeat (first | apply Kd.R_alloc | apply Kd.R_drewN | apply Kd.R_drew)); exact HO_113000.out) hb); have n2_ := Aside0.mk (Kd.R_below (by (with_reducible repeat (first | apply Kd.R_alloc | apply Kd.R_drewN | apply Kd.R_drew)); exact HO_123000.out) hb); have n3_ := Aside0.mk (blk_below (g := gb106) (o := .cells #[.slice Ao8 t101.length co8, .string t104] 30 (0, 0)) (by (with_reducible repeat (first | refine blk_drewN ?_ _ | refine blk_drew ?_ | refine blk_alloc ?_ _)); exact BK106.out) hb); have n4_ := Aside0.mk (blk_below (g := gb112) (o := .cells #[.slice Ao12 t115.length co12, .string t110] 30 (0, 0)) (by (with_reducible repeat (first | refine blk_drewN ?_ _ | refine blk_drew ?_ | refine blk_alloc ?_ _)); exact BK112.out) hb); have n5_ := Aside0.mk (blk_below (g := gb122) (o := .cells #[.slice Ao44 t117.length co44, .string t120] 30 (0, 0)) (by (with_reducible repeat (first | refine blk_drewN ?_ _ | refine blk_drew ?_ | refine blk_alloc ?_ _)); exact BK122.out) hb); have n6_ := Aside0.mk (below_step (by repeat (first | (with_reducible first | exact HB.out | apply below_alloc | apply pw_below_drewN | apply below_drew1 | refine below_set ?_ GE106.out | refine below_set ?_ GE112.out | refine below_set ?_ GE122.out) | exact HB.out)) hb); clear HO_107000; clear HO_113000; clear HO_123000; clear BK106; clear BK112; clear BK122; clear HB; have HO_107000 := n0_; have HO_113000 := n1_; have HO_123000 := n2_; have BK106 := n3_; have BK112 := n4_; have BK122 := n5_; have HB := n6_; clear n0_ n1_ n2_ n3_ n4_ n5_ n6_; (try clear hb); (try clear hb2); (try clear hk); (try clear hi)))
           go_ret
           exact ⟨by first | rfl | (simp [errW_none, errW_some] <;> rfl) | (simp [*, errW_none, errW_some] <;> rfl), by repeat (first | (with_reducible first | exact HB.out | apply below_alloc | apply pw_below_drewN | apply below_drew1 | refine below_set ?_ GE106.out | refine below_set ?_ GE112.out | refine below_set ?_ GE122.out) | exact HB.out)⟩
          ·rw [if_neg c64] at H
           have c64b0 : decide (t124 < 0) = false := decide_eq_false c64
           clear c64
           by_cases c69 : t124 = t114
           ·rw [if_pos c69] at H
            have c69b0 : (t124 == t114) = true := beq_iff_eq.mpr c69
            have c69b1 : (t124 != t114) = false := bne_eq_false_iff_eq.mpr c69
            clear c69
            obtain rfl := Option.some.inj H
            have hnb70 := NB112_106.out
            have hnc70 := NB106_112.out
            have hnb71 := NB112_122.out
            have hnc71 := NB122_112.out
            have hcz72_0 : wc.cell? ⟨gb112, 0, none⟩ = some (.slice Ao12 t115.length co12) := (blk_cell BK112.out 0).trans rfl
            have hcz72_1 : wc.cell? ⟨gb112, 1, none⟩ = some (.string t110) := (blk_cell BK112.out 1).trans rfl
            have hfz72_0 := blk_frozen BK112.out 0
            have hfz72_1 := blk_frozen BK112.out 1
            go_wp2_with (first | ((with_reducible refine gate_callee (f := 14) rfl ?_); refine goesL_ (some 60) rfl rfl Tryd.func14 (by kernel_rfl) rfl #[.agg #[.slice Ao12 t115.length co12, .string t110], .int .i64 1] rfl (by (try simp only [List.map_toArray, List.map_cons, List.map_nil]); first | done | rfl | (simp only [List.length_drop, List.length_take]; rfl)) ?_; (with_reducible refine (laws_heldMail.calls kj35 _ _ t115 t110 1 t124 _ ?side1 ?side2 A63.out).mono ?_); (case side1 => repeat (first | exact (Kd.R_reads' HO_113000.out).2.2 | (with_reducible refine Kd.C_alloc ?_ _) | (with_reducible refine Kd.C_drewN ?_ _) | (with_reducible refine Kd.C_drew ?_))); (case side2 => exact (Kd.R_reads' HO_113000.out).2.1); rintro e w73 ⟨rfl, hb⟩; refine ⟨_, rfl, ?_⟩; have n0_ := Aside0.mk (Kd.R_below (by (with_reducible repeat (first | apply Kd.R_alloc | apply Kd.R_drewN | apply Kd.R_drew)); exact HO_107000.out) hb); have n1_ := Aside0.mk (Kd.R_below (by (with_reducible repeat (first | apply Kd.R_alloc | apply Kd.R_drewN | apply Kd.R_drew)); exact HO_113000.out) hb); have n2_ := Aside0.mk (Kd.R_below (by (with_reducible repeat (first | apply Kd.R_alloc | apply Kd.R_drewN | apply Kd.R_drew)); exact HO_123000.out) hb); have n3_ := Aside0.mk (blk_below (g := gb106) (o := .cells #[.slice Ao8 t101.length co8, .string t104] 30 (0, 0)) (by (with_reducible repeat (first | refine blk_drewN ?_ _ | refine blk_drew ?_ | refine blk_alloc ?_ _)); exact BK106.out) hb); have n4_ := Aside0.mk (blk_below (g := gb112) (o := .cells #[.slice Ao12 t115.length co12, .string t110] 30 (0, 0)) (by (with_reducible repeat (first | refine blk_drewN ?_ _ | refine blk_drew ?_ | refine blk_alloc ?_ _)); exact BK112.out) hb); have n5_ := Aside0.mk (blk_below (g := gb122) (o := .cells #[.slice Ao44 t117.length co44, .string t120] 30 (0, 0)) (by (with_reducible repeat (first | refine blk_drewN ?_ _ | refine blk_drew ?_ | refine blk_alloc ?_ _)); exact BK122.out) hb); have n6_ := Aside0.mk (below_step (by repeat (first | (with_reducible first | exact HB.out | apply below_alloc | apply pw_below_drewN | apply below_drew1 | refine below_set ?_ GE106.out | refine below_set ?_ GE112.out | refine below_set ?_ GE122.out) | exact HB.out)) hb); clear HO_107000; clear HO_113000; clear HO_123000; clear BK106; clear BK112; clear BK122; clear HB; have HO_107000 := n0_; have HO_113000 := n1_; have HO_123000 := n2_; have BK106 := n3_; have BK112 := n4_; have BK122 := n5_; have HB := n6_; clear n0_ n1_ n2_ n3_ n4_ n5_ n6_; (try clear hb); (try clear hb2); (try clear hk); (try clear hi)))
            go_ret
            exact ⟨by first | rfl | (simp [errW_none, errW_some] <;> rfl) | (simp [*, errW_none, errW_some] <;> rfl), by repeat (first | (with_reducible first | exact HB.out | apply below_alloc | apply pw_below_drewN | apply below_drew1 | refine below_set ?_ GE106.out | refine below_set ?_ GE112.out | refine below_set ?_ GE122.out) | exact HB.out)⟩
           ·rw [if_neg c69] at H
            have c69b0 : (t124 == t114) = false := beq_eq_false_iff_ne.mpr c69
            have c69b1 : (t124 != t114) = true := bne_iff_ne.mpr c69
            obtain rfl := Option.some.inj H
            have hnb74 := NB112_106.out
            have hnc74 := NB106_112.out
            have hnb75 := NB112_122.out
            have hnc75 := NB122_112.out
            have hcz76_0 : wc.cell? ⟨gb112, 0, none⟩ = some (.slice Ao12 t115.length co12) := (blk_cell BK112.out 0).trans rfl
            have hcz76_1 : wc.cell? ⟨gb112, 1, none⟩ = some (.string t110) := (blk_cell BK112.out 1).trans rfl
            have hfz76_0 := blk_frozen BK112.out 0
            have hfz76_1 := blk_frozen BK112.out 1
            go_wp2_with (first | ((with_reducible refine gate_callee (f := 14) rfl ?_); refine goesL_ (some 60) rfl rfl Tryd.func14 (by kernel_rfl) rfl #[.agg #[.slice Ao12 t115.length co12, .string t110], .int .i64 1] rfl (by (try simp only [List.map_toArray, List.map_cons, List.map_nil]); first | done | rfl | (simp only [List.length_drop, List.length_take]; rfl)) ?_; (with_reducible refine (laws_heldMail.calls kj35 _ _ t115 t110 1 t124 _ ?side1 ?side2 A63.out).mono ?_); (case side1 => repeat (first | exact (Kd.R_reads' HO_113000.out).2.2 | (with_reducible refine Kd.C_alloc ?_ _) | (with_reducible refine Kd.C_drewN ?_ _) | (with_reducible refine Kd.C_drew ?_))); (case side2 => exact (Kd.R_reads' HO_113000.out).2.1); rintro e w77 ⟨rfl, hb⟩; refine ⟨_, rfl, ?_⟩; have n0_ := Aside0.mk (Kd.R_below (by (with_reducible repeat (first | apply Kd.R_alloc | apply Kd.R_drewN | apply Kd.R_drew)); exact HO_107000.out) hb); have n1_ := Aside0.mk (Kd.R_below (by (with_reducible repeat (first | apply Kd.R_alloc | apply Kd.R_drewN | apply Kd.R_drew)); exact HO_113000.out) hb); have n2_ := Aside0.mk (Kd.R_below (by (with_reducible repeat (first | apply Kd.R_alloc | apply Kd.R_drewN | apply Kd.R_drew)); exact HO_123000.out) hb); have n3_ := Aside0.mk (blk_below (g := gb106) (o := .cells #[.slice Ao8 t101.length co8, .string t104] 30 (0, 0)) (by (with_reducible repeat (first | refine blk_drewN ?_ _ | refine blk_drew ?_ | refine blk_alloc ?_ _)); exact BK106.out) hb); have n4_ := Aside0.mk (blk_below (g := gb112) (o := .cells #[.slice Ao12 t115.length co12, .string t110] 30 (0, 0)) (by (with_reducible repeat (first | refine blk_drewN ?_ _ | refine blk_drew ?_ | refine blk_alloc ?_ _)); exact BK112.out) hb); have n5_ := Aside0.mk (blk_below (g := gb122) (o := .cells #[.slice Ao44 t117.length co44, .string t120] 30 (0, 0)) (by (with_reducible repeat (first | refine blk_drewN ?_ _ | refine blk_drew ?_ | refine blk_alloc ?_ _)); exact BK122.out) hb); have n6_ := Aside0.mk (below_step (by repeat (first | (with_reducible first | exact HB.out | apply below_alloc | apply pw_below_drewN | apply below_drew1 | refine below_set ?_ GE106.out | refine below_set ?_ GE112.out | refine below_set ?_ GE122.out) | exact HB.out)) hb); clear HO_107000; clear HO_113000; clear HO_123000; clear BK106; clear BK112; clear BK122; clear HB; have HO_107000 := n0_; have HO_113000 := n1_; have HO_123000 := n2_; have BK106 := n3_; have BK112 := n4_; have BK122 := n5_; have HB := n6_; clear n0_ n1_ n2_ n3_ n4_ n5_ n6_; (try clear hb); (try clear hb2); (try clear hk); (try clear hi)))
            go_ret
            exact ⟨by first | rfl | (simp [errW_none, errW_some] <;> rfl) | (simp [*, errW_none, errW_some] <;> rfl), by repeat (first | (with_reducible first | exact HB.out | apply below_alloc | apply pw_below_drewN | apply below_drew1 | refine below_set ?_ GE106.out | refine below_set ?_ GE112.out | refine below_set ?_ GE122.out) | exact HB.out)⟩
      ·rw [if_neg c34] at H
       have c34b0 : (t116 == t114) = false := beq_eq_false_iff_ne.mpr c34
       have c34b1 : (t116 != t114) = true := bne_iff_ne.mpr c34
       obtain rfl := Option.some.inj H
       have hnb78 := NB112_106.out
       have hnc78 := NB106_112.out
       have hcz79_0 : wc.cell? ⟨gb112, 0, none⟩ = some (.slice Ao12 t107.length co12) := (blk_cell BK112.out 0).trans rfl
       have hcz79_1 : wc.cell? ⟨gb112, 1, none⟩ = some (.string t110) := (blk_cell BK112.out 1).trans rfl
       have hfz79_0 := blk_frozen BK112.out 0
       have hfz79_1 := blk_frozen BK112.out 1
       go_wp2_with (first | ((with_reducible refine gate_callee (f := 13) rfl ?_); refine goesL_ (some 35) rfl rfl Tryd.func13 (by kernel_rfl) rfl #[.agg #[.slice Ao12 t107.length co12, .string t110], .int .i64 1] rfl (by (try simp only [List.map_toArray, List.map_cons, List.map_nil]); first | done | rfl | (simp only [List.length_drop, List.length_take]; rfl)) ?_; (with_reducible refine (laws_markMail.calls kj4 (fun k_ => some k_ = (.slice Ao12 t107.length co12 : Value).ownBlock) (.slice Ao12 t107.length co12) t107 t110 1 t114 t115 w _ ?side1 ?side2 A26.out).mono ?_); (case side1 => repeat (first | (with_reducible first | exact HB.out | apply below_alloc | apply pw_below_drewN | apply below_drew1 | refine below_set ?_ GE106.out | refine below_set ?_ GE112.out) | exact HB.out)); (case side2 => exact Kd.R_tight rfl HO_113000.out); rintro e w80 ⟨rfl, hy0, hb, hkp⟩; refine ⟨_, rfl, ?_⟩; have n0_ := Aside0.mk (Kd.R_mono (ok' := fun k_ => some k_ ≠ (.slice Ao12 t107.length co12 : Value).ownBlock) (Kd.R_keptB (HO_107000.out) hkp (fun k_ hk_ hs_ => (hk_) hs_)) (fun k_ hk_ => hk_.1)); have n1_ := Aside0.mk (Kd.R_reok rfl hy0 (fun k_ e_ => HO_113000.out.1 k_ e_)); have n2_ := Aside0.mk (blk_kept (by (with_reducible repeat (first | refine blk_drewN ?_ _ | refine blk_drew ?_ | refine blk_alloc ?_ _)); exact BK106.out) hkp (fun hs_ => (fun e_ => (Kd.R_ne HO_113000.out BK106.out (by decide)) e_) hs_)); have n3_ := Aside0.mk (blk_kept (by (with_reducible repeat (first | refine blk_drewN ?_ _ | refine blk_drew ?_ | refine blk_alloc ?_ _)); exact BK112.out) hkp (fun hs_ => (fun e_ => (Kd.R_ne HO_113000.out BK112.out (by decide)) e_) hs_)); have n4_ := Aside0.mk (hb); clear HO_107000; clear HO_113000; clear BK106; clear BK112; clear HB; have HO_107000 := n0_; have HO_113000 := n1_; have BK106 := n2_; have BK112 := n3_; have HB := n4_; clear n0_ n1_ n2_ n3_ n4_; (try clear hb); (try clear hkp); (try clear hy0); have hcz81_0 : w80.cell? ⟨gb112, 0, none⟩ = some (.slice Ao12 t107.length co12) := (blk_cell BK112.out 0).trans rfl; have hcz81_1 : w80.cell? ⟨gb112, 1, none⟩ = some (.string t110) := (blk_cell BK112.out 1).trans rfl; have hfz81_0 := blk_frozen BK112.out 0; have hfz81_1 := blk_frozen BK112.out 1) | ((with_reducible refine gate_callee (f := 14) rfl ?_); refine goesL_ (some 38) rfl rfl Tryd.func14 (by kernel_rfl) rfl #[.agg #[.slice Ao12 t115.length co12, .string t110], .int .i64 1] rfl (by (try simp only [List.map_toArray, List.map_cons, List.map_nil]); first | done | (rw [show t115.length = t107.length from (Kd.R_reads' HO_113000.out).1.symm] <;> rfl) | rfl | (simp only [List.length_drop, List.length_take]; rfl)) ?_; (with_reducible refine (laws_heldMail.calls kj4 _ _ t115 t110 1 t116 _ ?side1 ?side2 A27.out).mono ?_); (case side1 => repeat (first | exact (Kd.R_reads' HO_113000.out).2.2 | (with_reducible refine Kd.C_alloc ?_ _) | (with_reducible refine Kd.C_drewN ?_ _) | (with_reducible refine Kd.C_drew ?_))); (case side2 => rw [show t115.length = t107.length from (Kd.R_reads' HO_113000.out).1.symm]; exact (Kd.R_reads' HO_113000.out).2.1); rintro e w82 ⟨rfl, hb⟩; refine ⟨_, rfl, ?_⟩; have n0_ := Aside0.mk (Kd.R_below (by (with_reducible repeat (first | apply Kd.R_alloc | apply Kd.R_drewN | apply Kd.R_drew)); exact HO_107000.out) hb); have n1_ := Aside0.mk (Kd.R_below (by (with_reducible repeat (first | apply Kd.R_alloc | apply Kd.R_drewN | apply Kd.R_drew)); exact HO_113000.out) hb); have n2_ := Aside0.mk (blk_below (g := gb106) (o := .cells #[.slice Ao8 t101.length co8, .string t104] 30 (0, 0)) (by (with_reducible repeat (first | refine blk_drewN ?_ _ | refine blk_drew ?_ | refine blk_alloc ?_ _)); exact BK106.out) hb); have n3_ := Aside0.mk (blk_below (g := gb112) (o := .cells #[.slice Ao12 t107.length co12, .string t110] 30 (0, 0)) (by (with_reducible repeat (first | refine blk_drewN ?_ _ | refine blk_drew ?_ | refine blk_alloc ?_ _)); exact BK112.out) hb); have n4_ := Aside0.mk (below_step (by repeat (first | (with_reducible first | exact HB.out | apply below_alloc | apply pw_below_drewN | apply below_drew1 | refine below_set ?_ GE106.out | refine below_set ?_ GE112.out) | exact HB.out)) hb); clear HO_107000; clear HO_113000; clear BK106; clear BK112; clear HB; have HO_107000 := n0_; have HO_113000 := n1_; have BK106 := n2_; have BK112 := n3_; have HB := n4_; clear n0_ n1_ n2_ n3_ n4_; (try clear hb); (try clear hb2); (try clear hk); (try clear hi)))
       go_ret
       exact ⟨by first | rfl | (simp [errW_none, errW_some] <;> rfl) | (simp [*, errW_none, errW_some] <;> rfl), by repeat (first | (with_reducible first | exact HB.out | apply below_alloc | apply pw_below_drewN | apply below_drew1 | refine below_set ?_ GE106.out | refine below_set ?_ GE112.out) | exact HB.out)⟩

end Go.Proofs.YtcpdbobkpbmjiaaDoor.P
namespace Go.Proofs.YtcpdbobkpbmjiaaDoor.P
open Go.RowKit Go.ChangeShapes Go.WideShapes Go.Proofs.YtcpdbobkpbmjiaaDoorW.PrintWords

end Go.Proofs.YtcpdbobkpbmjiaaDoor.P
namespace Go.Proofs.YtcpdbobkpbmjiaaDoor.P
open Go.RowKit Go.ChangeShapes Go.WideShapes Go.Proofs.YtcpdbobkpbmjiaaDoorW.PrintWords

/-- What is to be proved of the law FnExactParseMail, over numbers and lists alone. -/
def laws_FnExactParseMail.Pure : Prop := ∀ (x0 : ByteArray), x0.size ≤ 140737488351232 → ∃ k, laws_FnExactParseMail.f k x0 = some true
end Go.Proofs.YtcpdbobkpbmjiaaDoor.P
/- Lemmas of mine: strings as lists of bytes; whole numbers of 64 bits; rounds. Plain. -/
set_option linter.unusedVariables false
set_option linter.unusedSimpArgs false
namespace Go.Proofs.YtcpdbobkpbmjiaaDoor.P
open Go.RowKit Go.Proofs.YtcpdbobkpbmjiaaDoorW.PrintWords
/-- As Option.bind_some, but no equation by computing: for terms that are not to be computed by the kernel. -/
theorem bS {α β : Type} (a : α) (f : α → Option β) : (some a).bind f = f a := Eq.trans (Option.bind_some a f) (Eq.refl (f a))
/-- A string's bytes. -/
def bl (s : ByteArray) : List UInt8 := s.data.toList
/-- Bytes as numbers. -/
def nb (l : List UInt8) : List Int := l.map fun b => (b.toNat : Int)
theorem bl_inj {a b : ByteArray} (h : bl a = bl b) : a = b := WideShapes.bytes_inj h
theorem toList_bl (s : ByteArray) : s.toList = bl s := Lib.toList_data s
theorem toList_iff {a b : ByteArray} : a.toList = b.toList ↔ a = b := ⟨fun h => bl_inj (by rw [← toList_bl, ← toList_bl, h]), fun h => by rw [h]⟩
theorem bl_size (s : ByteArray) : s.size = (bl s).length := Lib.size_eq s
theorem bl_append (a b : ByteArray) : bl (a ++ b) = bl a ++ bl b := by simp [bl]
theorem bl_extract (s : ByteArray) (i j : Nat) : bl (s.extract i j) = ((bl s).drop i).take (j - i) := Lib.extract_data s i j
theorem bl_mk (l : List UInt8) : bl ⟨l.toArray⟩ = l := by simp [bl]
theorem bl_empty : bl (⟨#[]⟩ : ByteArray) = [] := rfl
theorem mk_bl (s : ByteArray) : (⟨(bl s).toArray⟩ : ByteArray) = s := bl_inj (bl_mk _)
theorem bytesOf_bl (s : ByteArray) : bytesOf s = nb (bl s) := rfl
theorem nb_length (l : List UInt8) : (nb l).length = l.length := by simp [nb]
theorem nb_append (l m : List UInt8) : nb (l ++ m) = nb l ++ nb m := by simp [nb]
theorem strOf_nb (l : List UInt8) : strOfNums (nb l) = ⟨l.toArray⟩ := by
 simp [strOfNums, nb, Function.comp_def]
theorem bl_strOf_nb (l : List UInt8) : bl (strOfNums (nb l)) = l := by rw [strOf_nb, bl_mk]
theorem bt_eq (s : ByteArray) (i : Nat) (h : i < (bl s).length) : bt s (i : Int) = (((bl s)[i]'h).toNat : Int) := by
 have hs : i < s.size := by rw [bl_size]; exact h
 unfold bt
 rw [dif_pos (by simpa using hs)]
 have h1 := Lib.data_getElem? s i hs
 have h2 : (bl s)[i]? = some ((bl s)[i]'h) := List.getElem?_eq_getElem h
 have h3 : s[i]'hs = (bl s)[i]'h := Option.some.inj (h1.symm.trans h2)
 simp only [Int.toNat_natCast]
 rw [← h3]
theorem rd_nb (l : List UInt8) (i : Nat) (h : i < l.length) : rd (nb l) (i : Int) = ((l[i]'h).toNat : Int) := by
 simp [rd, nb, List.getD_eq_getElem?_getD, List.getElem?_map, List.getElem?_eq_getElem h]
theorem byte_lt (b : UInt8) : b.toNat < 256 := b.toNat_lt
/-- No wrap within the bounds. -/
theorem w64 {n : Int} (h0 : -9223372036854775808 ≤ n) (h1 : n ≤ 9223372036854775807) : wrap64 n = n := by unfold wrap64; omega
theorem w64n (n : Nat) (h1 : n ≤ 9223372036854775807) : wrap64 (n : Int) = n := w64 (by omega) (by omega)
theorem w64s (n : Nat) (h1 : n + 1 ≤ 9223372036854775807) : wrap64 ((n : Int) + 1) = ((n + 1 : Nat) : Int) := by rw [w64 (by omega) (by omega)]; rfl
theorem w64add (a b : Nat) (h : a + b ≤ 9223372036854775807) : wrap64 ((a : Int) + (b : Int)) = ((a + b : Nat) : Int) := by rw [w64 (by omega) (by omega)]; rfl
theorem w64lit (a b : Nat) (h : a + b ≤ 9223372036854775807) : wrap64 ((a : Int) + wrap64 ((b : Int))) = ((a + b : Nat) : Int) := by rw [w64n b (by omega), w64add a b h]
theorem w64sub (a b : Nat) (h : b ≤ a) (h2 : a ≤ 9223372036854775807) : wrap64 ((a : Int) - (b : Int)) = ((a - b : Nat) : Int) := by rw [w64 (by omega) (by omega)]; omega
theorem bits_xor_nat (k : IntKind) (j : Nat) (hj : j ≤ k.bits) (hk : ∀ n : Int, 0 ≤ n → n < 2 ^ j → k.wrap n = n) (a b : Nat) (ha : a < 2 ^ j) (hb : b < 2 ^ j) : bits .xor k a b = ((a ^^^ b : Nat) : Int) := by
 have hp : 2 ^ j ≤ 2 ^ k.bits := Nat.pow_le_pow_right (by decide) hj
 have ha' : a % 2 ^ k.bits = a := Nat.mod_eq_of_lt (Nat.lt_of_lt_of_le ha hp)
 have hb' : b % 2 ^ k.bits = b := Nat.mod_eq_of_lt (Nat.lt_of_lt_of_le hb hp)
 simp only [bits, BitVec.ofInt_natCast, BitVec.toNat_xor, BitVec.toNat_ofNat, ha', hb']
 exact hk _ (Int.natCast_nonneg _) (by exact_mod_cast Nat.xor_lt_two_pow ha hb)
theorem u32_in (n : Int) (h0 : 0 ≤ n) (h1 : n < 2 ^ 32) : IntKind.u32.wrap n = n := by rw [IntKind.wrap_u32]; omega
theorem i64_in32 (n : Int) (h0 : 0 ≤ n) (h1 : n < 2 ^ 32) : IntKind.i64.wrap n = n := by rw [IntKind.wrap_i64]; omega
theorem xor_u32 (a b : Nat) (ha : a < 4294967296) (hb : b < 4294967296) : bits .xor .u32 a b = ((a ^^^ b : Nat) : Int) := bits_xor_nat .u32 32 (by decide) u32_in a b ha hb
theorem xor_i64 (a b : Nat) (ha : a < 4294967296) (hb : b < 4294967296) : bits .xor .i64 a b = ((a ^^^ b : Nat) : Int) := bits_xor_nat .i64 32 (by decide) i64_in32 a b ha hb
/-- Rounds: what is told for all numbers of rounds from some on. -/
theorem Ev.k {α : Type} {g : Nat → Option α} {r : α} (h : Ev g r) : ∃ k, g k = some r := h.rounds
theorem Ev.and {α β : Type} {g : Nat → Option α} {f : Nat → Option β} {r : α} {q : β} (h : Ev g r) (h' : Ev f q) : ∃ K, ∀ k, K ≤ k → g k = some r ∧ f k = some q := by
 obtain ⟨K, h⟩ := h
 obtain ⟨K', h'⟩ := h'
 exact ⟨max K K', fun k hk => ⟨h k (by omega), h' k (by omega)⟩⟩
theorem Ev.uniq {α : Type} {g : Nat → Option α} {r q : α} (h : Ev g r) (h' : Ev g q) : r = q := by
 obtain ⟨K, hk⟩ := Ev.and h h'
 have h1 := hk K (Nat.le_refl _)
 exact Option.some.inj (h1.1.symm.trans h1.2)
end Go.Proofs.YtcpdbobkpbmjiaaDoor.P
/- Lemmas of mine: loops that count up: over any function of rounds. Plain. -/
set_option linter.unusedVariables false
set_option linter.unusedSimpArgs false
namespace Go.Proofs.YtcpdbobkpbmjiaaDoor.P
open Go.RowKit Go.Proofs.YtcpdbobkpbmjiaaDoorW.PrintWords
/-- A loop whose rounds change the place alone. -/
theorem up_loop {R : Type} (L : Nat → Int → Option R) (n : Nat) (r : R)
  (hstep : ∀ i : Nat, i < n → ∃ K, ∀ k, K ≤ k → L (k + 1) (i : Int) = L k ((i + 1 : Nat) : Int))
  (hend : ∃ K, ∀ k, K ≤ k → L (k + 1) (n : Int) = some r) : ∀ d i : Nat, i + d = n → Ev (fun k => L k (i : Int)) r := by
 intro d
 induction d with
 | zero =>
  intro i hi
  obtain rfl : i = n := by omega
  obtain ⟨K, h⟩ := hend
  exact ⟨K + 1, fun k hk => by obtain ⟨m, rfl⟩ : ∃ m, k = m + 1 := ⟨k - 1, by omega⟩; exact h m (by omega)⟩
 | succ d ih =>
  intro i hi
  obtain ⟨K, h⟩ := hstep i (by omega)
  obtain ⟨K2, h2⟩ := ih (i + 1) (by omega)
  refine ⟨K + K2 + 1, fun k hk => ?_⟩
  obtain ⟨m, rfl⟩ : ∃ m, k = m + 1 := ⟨k - 1, by omega⟩
  show L (m + 1) (i : Int) = some r
  rw [h m (by omega)]
  exact h2 m (by omega)
/-- A loop with a state: what holds of the state says what comes out. -/
theorem st_loop {σ R : Type} (L : Nat → σ → Int → Option R) (n : Nat) (out : Nat → σ → R → Prop)
  (hstep : ∀ (i : Nat) (s : σ), i < n → (∃ r, (∃ K, ∀ k, K ≤ k → L (k + 1) s (i : Int) = some r) ∧ out i s r) ∨ ∃ s', (∃ K, ∀ k, K ≤ k → L (k + 1) s (i : Int) = L k s' ((i + 1 : Nat) : Int)) ∧ ∀ r, out (i + 1) s' r → out i s r)
  (hend : ∀ s, ∃ r, (∃ K, ∀ k, K ≤ k → L (k + 1) s (n : Int) = some r) ∧ out n s r) : ∀ (d i : Nat) (s : σ), i + d = n → ∃ r, Ev (fun k => L k s (i : Int)) r ∧ out i s r := by
 intro d
 induction d with
 | zero =>
  intro i s hi
  obtain rfl : i = n := by omega
  obtain ⟨r, ⟨K, h⟩, ho⟩ := hend s
  exact ⟨r, ⟨K + 1, fun k hk => by obtain ⟨m, rfl⟩ : ∃ m, k = m + 1 := ⟨k - 1, by omega⟩; exact h m (by omega)⟩, ho⟩
 | succ d ih =>
  intro i s hi
  rcases hstep i s (by omega) with ⟨r, ⟨K, h⟩, ho⟩ | ⟨s', ⟨K, h⟩, ho⟩
  ·exact ⟨r, ⟨K + 1, fun k hk => by obtain ⟨m, rfl⟩ : ∃ m, k = m + 1 := ⟨k - 1, by omega⟩; exact h m (by omega)⟩, ho⟩
  ·obtain ⟨r, ⟨K2, h2⟩, ho2⟩ := ih (i + 1) s' (by omega)
   refine ⟨r, ⟨K + K2 + 1, fun k hk => ?_⟩, ho r ho2⟩
   obtain ⟨m, rfl⟩ : ∃ m, k = m + 1 := ⟨k - 1, by omega⟩
   show L (m + 1) s (i : Int) = some r
   rw [h m (by omega)]
   exact h2 m (by omega)
theorem map_set {α β : Type} (xs : List α) (ys : List β) (g : α → β) (i : Nat) (hi : i < xs.length) (hl : ys.length = xs.length) (hy : ys.take i = (xs.take i).map g) :
  (ys.set i (g (xs[i]'hi))).take (i + 1) = (xs.take (i + 1)).map g := by
 have e2 : (xs.take (i + 1)).map g = (xs.take i).map g ++ [g (xs[i]'hi)] := by
  rw [List.take_add_one, List.getElem?_eq_getElem hi, List.map_append]
  rfl
 have e : ((xs.take i).map g).length = i := by rw [List.length_map, List.length_take]; omega
 rw [e2, List.take_set, List.take_add_one, List.getElem?_eq_getElem (by omega), hy, List.set_append_right _ _ (by omega), e, Nat.sub_self]
 rfl
/-- A loop that fills a row of the same length. -/
theorem copy_loop {α β : Type} (L : Nat → List β → Int → Option (List β)) (xs : List α) (g : α → β)
  (hstep : ∀ (i : Nat) (ys : List β) (hi : i < xs.length), ys.length = xs.length → ∃ K, ∀ k, K ≤ k → L (k + 1) ys (i : Int) = L k (ys.set i (g (xs[i]'hi))) ((i + 1 : Nat) : Int))
  (hend : ∀ ys, ys.length = xs.length → ∃ K, ∀ k, K ≤ k → L (k + 1) ys (xs.length : Int) = some ys) :
  ∀ (d i : Nat) (ys : List β), i + d = xs.length → ys.length = xs.length → ys.take i = (xs.take i).map g → Ev (fun k => L k ys (i : Int)) (xs.map g) := by
 intro d
 induction d with
 | zero =>
  intro i ys hi hl hy
  obtain rfl : i = xs.length := by omega
  rw [List.take_of_length_le (by omega), List.take_of_length_le (Nat.le_refl _)] at hy
  subst hy
  obtain ⟨K, h⟩ := hend _ hl
  exact ⟨K + 1, fun k hk => by obtain ⟨m, rfl⟩ : ∃ m, k = m + 1 := ⟨k - 1, by omega⟩; exact h m (by omega)⟩
 | succ d ih =>
  intro i ys hi hl hy
  obtain ⟨K, h⟩ := hstep i ys (by omega) hl
  obtain ⟨K2, h2⟩ := ih (i + 1) (ys.set i (g (xs[i]'(by omega)))) (by omega) (by rw [List.length_set]; exact hl) (map_set xs ys g i (by omega) hl hy)
  refine ⟨K + K2 + 1, fun k hk => ?_⟩
  obtain ⟨m, rfl⟩ : ∃ m, k = m + 1 := ⟨k - 1, by omega⟩
  show L (m + 1) ys (i : Int) = _
  rw [h m (by omega)]
  exact h2 m (by omega)
theorem getD_nat {α : Type} (xs : List α) (z : α) (i : Nat) (h : i < xs.length) : xs.getD ((i : Nat) : Int).toNat z = xs[i]'h := by
 rw [Int.toNat_natCast, List.getD_eq_getElem?_getD, List.getElem?_eq_getElem h]; rfl
end Go.Proofs.YtcpdbobkpbmjiaaDoor.P
/- Lemmas of mine: bounds, the fields of a log. Plain. -/
set_option linter.unusedVariables false
set_option linter.unusedSimpArgs false
namespace Go.Proofs.YtcpdbobkpbmjiaaDoor.P
open Go.RowKit Go.Proofs.YtcpdbobkpbmjiaaDoorW.PrintWords
theorem l01In_eq (a b c : Int) : spec_l01In.f a b c = some (decide (b ≤ a ∧ a ≤ c)) := by
 unfold spec_l01In.f
 by_cases h : a ≥ b
 ·rw [if_pos h]; simp [show b ≤ a from h]
 ·rw [if_neg h]; simp; omega
theorem within_eq (a b c : Int) : impl_within.f a b c = some (decide (b ≤ a ∧ a ≤ c)) := l01In_eq a b c
end Go.Proofs.YtcpdbobkpbmjiaaDoor.P
