/- Part 3 of what the law FnFlagTexts stands on; the last part ends with the law's row. No condition of mine. -/
import Derived.Test.YtcmifdcgmalnlaaDoorMFnFlagTexts1
import Derived.Test.YtcmifdcgmalnlaaDoorMFnFlagTexts2
import Derived.Shelf.Abstract
import Derived.Deep.RegionWith
import Derived.Laws.EntriesVeiled
import Derived.Shelf.Strings.OnBuilder
namespace Go.Proofs.YtcmifdcgmalnlaaDoor.P
open Go.RowKit Go.Proofs.YtcmifdcgmalnlaaDoorW.PrintWords Go.Proofs.YtcmifdcgmalnlaaDoorW.PrintLast Go.Proofs.YtcmifdcgmalnlaaDoorW.PrintMore
attribute [local go_sem] max2_int min2_int max_two min_two max_three min_three max_four min_four   -- for this text's walks alone
set_option linter.unusedVariables false
set_option linter.unusedSimpArgs false

/-! ### impl_ReadFlags: function 14 (a text of mine) -/
/-- A text in small letters. -/
def lowS (s : ByteArray) : ByteArray := ⟨(s.data.toList.map lowB).toArray⟩
/-- Of two texts: they are the same in small letters. -/
def sameLow (word x : ByteArray) : Bool := (lowS x).toList == (lowS word).toList
/-- The flags of words, some flags being there. -/
def flagsFold (names : List ByteArray) : List ByteArray → Int → Option (Int × Int)
 | [], fl => some (fl, 0)
 | w :: ws, fl => if w.size ≤ 9223372036854775807 ∧ idxOf (sameLow w) names ≤ 4 ∧ 0 ≤ fl ∧ fl ≤ 31 then (if idxOf (sameLow w) names < 0 then some (0, 16) else flagsFold names ws (Go.bits .or .i64 fl (2 ^ (idxOf (sameLow w) names).toNat))) else none
def impl_ReadFlags.f (k : Nat) (a0 : ByteArray) : Option (Int × Int) :=
 if (a0.size : Int) > 65536 then some (0, 2) else (impl_inBrackets.f a0).bind fun bt => (if bt.2 = true then (if bt.1.toList = ([] : List UInt8) then some (0, 0) else (strings_Split.f k bt.1 (⟨#[32]⟩ : ByteArray)).bind fun t => (impl_flagNames.f).bind fun names => (if names.length ≤ 9223372036854775807 ∧ t.length ≤ 9223372036854775807 ∧ (names.all fun x => decide (x.size ≤ 9223372036854775807)) = true then flagsFold names t 0 else none)) else some (0, 3))
theorem impl_ReadFlags.mono : ∀ a0 k, LeO (impl_ReadFlags.f k a0) (impl_ReadFlags.f (k + 1) a0) := by
 intro a0 k
 unfold impl_ReadFlags.f
 repeat' first
   | (with_reducible exact strings_Split.mono _ _ _)
   | (with_reducible exact LeO.refl _)
   | (with_reducible exact LeO.none _)
   | (with_reducible refine LeO.ite ?_ ?_)
   | (with_reducible refine LeO.bind ?_ (fun _ => ?_))
set_option maxHeartbeats 8000000 in
set_option maxRecDepth 100000 in
theorem readFlags_in (x word : ByteArray) (b : Nat) (w : World) (hx : x.size ≤ 9223372036854775807) (hw : word.size ≤ 9223372036854775807) (hb : w.cell? ⟨b, 0, none⟩ = some (.string word)) :
  Calls Tryd.prog 53 #[.string x, .pointer (some ⟨b, 0, none⟩)] w fun e w' => e = .returned (.bool (sameLow word x)) ∧ Below w.heap.size w w' := by
 have e1 : impl_lower.f x = some (lowS x) := by unfold impl_lower.f; rw [if_pos hx]; rfl
 have e2 : impl_lower.f word = some (lowS word) := by unfold impl_lower.f; rw [if_pos hw]; rfl
 have E1 := Aside0.mk e1
 have E2 := Aside0.mk e2
 have hl := World.block_lt_of_cell? _ _ hb
 have HH : Aside0 (∀ W, Below w.heap.size w W → W.cell? ⟨b, 0, none⟩ = some (.string word)) := ⟨fun W hB => (hB.cell hl).trans hb⟩
 have HB := Aside0.mk (Below.refl w.heap.size w)
 clear e1 e2 hx hw hl
 go_enter Tryd.func53, Tryd.ntmps53
 go_wp2
 go_region_with (first | (go_at_call_of 54 (Value.string x); refine (impl_lower.calls x _ _ E1.out).mono ?_; rintro e w1 ⟨rfl, hb1⟩; have hb2 : Below w.heap.size w w1 := (below_step (by repeat (first | (with_reducible first | exact HB.out | apply below_alloc | apply pw_below_drewN | apply below_drew1) | exact HB.out)) hb1); have hc2 := HH.out w1 hb2; have HB2 := Aside0.mk hb2; clear hb1 hb2) | (go_at_call_of 54 (Value.string word); refine (impl_lower.calls word _ _ E2.out).mono ?_; rintro e w1 ⟨rfl, hb1⟩))
 all_goals go_wp2
 all_goals go_ret
 all_goals exact ⟨rfl, below_step HB2.out hb1⟩
theorem readFlags_call (names : List ByteArray) (word : ByteArray) (A0 : Option Addr) (c0 : Nat) (b : Nat) (w : World) (q : Int) (hq : idxOf (sameLow word) names = q) (hC : Kd.C Kd.string w A0 names.length names) (hb : w.cell? ⟨b, 0, none⟩ = some (.string word)) (hn : names.length ≤ 9223372036854775807) (hw : word.size ≤ 9223372036854775807) (hnm : (names.all fun x => decide (x.size ≤ 9223372036854775807)) = true) :
  Calls Tryd.prog 51 #[.slice A0 names.length c0, .func (.func 53) #[] #[.pointer (some ⟨b, 0, none⟩)]] w fun e w' => e = .returned (.int .i64 q) ∧ Below w.heap.size w w' := by
 rw [← hq]
 refine slices_IndexFunc_string.calls0 (sameLow word) 53 #[.pointer (some ⟨b, 0, none⟩)] (enters_ Tryd.func53 (by kernel_rfl) rfl) A0 c0 names w (fun W i_ h0_ h1_ hB_ => ?_) hC hn
 exact (readFlags_in (rdOf ByteArray.empty names i_) word b W (of_decide_eq_true (List.all_eq_true.1 hnm _ (mem_getD names ByteArray.empty i_ h0_ h1_))) hw ((hB_.cell (World.block_lt_of_cell? _ _ hb)).trans hb)).mono (fun e w' ⟨he, hb⟩ => ⟨he, below_step hB_ hb⟩)
set_option maxHeartbeats 8000000 in
set_option maxRecDepth 100000 in
theorem impl_ReadFlags.calls (k : Nat) (a0 : ByteArray) (r1 : Int) (r2 : Int) (w : World) (h : impl_ReadFlags.f k a0 = some (r1, r2)) :
  Calls Tryd.prog 14 #[.string a0] w fun e w' => e = .returned (.tuple #[.int .i64 r1, .int .i64 r2]) ∧ Below w.heap.size w w' := by
 have HB := Aside0.mk (Below.refl w.heap.size w)
 unfold impl_ReadFlags.f at h
 by_cases c1 : (a0.size : Int) > 65536
 ·rw [if_pos c1] at h
  simp only [Option.some.injEq, Prod.mk.injEq] at h
  obtain ⟨rfl, rfl⟩ := h
  have d1 : decide ((a0.size : Int) > 65536) = true := decide_eq_true c1
  have d2 : (65536 < a0.size) = True := eq_true (by omega)
  clear c1
  go_enter Tryd.func14, Tryd.ntmps14
  go_wp2
  go_ret2
  exact ⟨rfl, by repeat (first | (with_reducible first | exact HB.out | apply below_alloc | apply pw_below_drewN | apply below_drew1) | exact HB.out)⟩
 ·rw [if_neg c1] at h
  have d1 : decide ((a0.size : Int) > 65536) = false := decide_eq_false c1
  have d2 : (65536 < a0.size) = False := eq_false (by omega)
  clear c1
  replace h := Option.bind_eq_some_iff.mp h
  obtain ⟨⟨x, b⟩, A10, h⟩ := h
  have A1 := Aside0.mk A10
  clear A10
  cases b with
  | false =>
   simp only [Bool.false_eq_true, if_false, Option.some.injEq, Prod.mk.injEq] at h
   obtain ⟨rfl, rfl⟩ := h
   go_enter Tryd.func14, Tryd.ntmps14
   go_wp2_with (go_at_call 49; refine (impl_inBrackets.calls a0 x false _ A1.out).mono ?_; rintro e w' ⟨rfl, ⟨nd, rfl⟩⟩)
   go_ret2
   exact ⟨rfl, by repeat (first | (with_reducible first | exact HB.out | apply below_alloc | apply pw_below_drewN | apply below_drew1) | exact HB.out)⟩
  | true =>
   simp only [if_true] at h
   by_cases c2 : x.toList = ([] : List UInt8)
   ·rw [if_pos c2] at h
    simp only [Option.some.injEq, Prod.mk.injEq] at h
    obtain ⟨rfl, rfl⟩ := h
    have e1 : (x.toList == ([] : List UInt8)) = true := beq_iff_eq.mpr c2
    have e2 : (x.toList != ([] : List UInt8)) = false := bne_eq_false_iff_eq.mpr c2
    clear c2
    go_enter Tryd.func14, Tryd.ntmps14
    go_wp2_with (go_at_call 49; refine (impl_inBrackets.calls a0 x true _ A1.out).mono ?_; rintro e w' ⟨rfl, ⟨nd, rfl⟩⟩)
    go_ret2
    exact ⟨rfl, by repeat (first | (with_reducible first | exact HB.out | apply below_alloc | apply pw_below_drewN | apply below_drew1) | exact HB.out)⟩
   ·rw [if_neg c2] at h
    have e1 : (x.toList == ([] : List UInt8)) = false := beq_eq_false_iff_ne.mpr c2
    have e2 : (x.toList != ([] : List UInt8)) = true := bne_iff_ne.mpr c2
    clear c2
    replace h := Option.bind_eq_some_iff.mp h
    obtain ⟨l, A20, h⟩ := h
    have A2 := Aside0.mk A20
    clear A20
    replace h := Option.bind_eq_some_iff.mp h
    obtain ⟨names, A30, h⟩ := h
    have A3 := Aside0.mk A30
    clear A30
    split at h
    ·rename_i hh
     have HN := Aside0.mk hh
     have HF := Aside0.mk h
     clear hh h
     go_enter Tryd.func14, Tryd.ntmps14
     go_wp2_with (first | (go_at_call 49; refine (impl_inBrackets.calls a0 x true _ A1.out).mono ?_; rintro e w' ⟨rfl, ⟨nd, rfl⟩⟩) | (go_at_call 50; refine (strings_Split.calls k x _ l _ A2.out).mono ?_; rintro e w1 ⟨v0, rfl, ho, hb⟩; obtain ⟨A0, c0, rfl, hle0, hC0⟩ := Kd.R_reads ho; have HC0 := Aside0.mk hC0; have hb2 : Below w.heap.size w w1 := (below_step (by repeat (first | (with_reducible first | exact HB.out | apply below_alloc | apply pw_below_drewN | apply below_drew1) | exact HB.out)) hb); have HB2 := Aside0.mk hb2; clear ho hle0 hC0 hb hb2))
     go_loopg [6, 25] l.length (fun gg s6 s25 wr => ∃ (x : Nat) (fl : Int), s6 = .int .i64 fl ∧ s25 = .int .i64 (x : Int) ∧ Aside0 (x ≤ l.length ∧ l.length - x ≤ gg) ∧ Aside0 (flagsFold names (l.drop x) fl = some (r1, r2)) ∧ Aside0 (Below w.heap.size w wr ∧ Below w1.heap.size w1 wr))
     case atStart => exact ⟨0, 0, rfl, rfl, ⟨by omega, by omega⟩, ⟨by rw [List.drop_zero]; exact HF.out⟩, ⟨HB2.out, Below.refl _ _⟩⟩
     case round =>
      obtain ⟨j, fl, rfl, rfl, HK, HF2, HW2⟩ := hrel
      have HV := HW2
      by_cases hlt : j < l.length
      ·have p0 : 0 ≤ (j : Int) := by omega
       have q0 : (j : Int) < (l.length : Int) := by omega
       obtain ⟨ad, e1, hx⟩ := Kd.at_string HC0.out (j : Int) p0 q0
       cases e1
       replace hx := (HV.out.2.cell (World.block_lt_of_cell? _ _ hx)).trans hx
       rw [Int.toNat_natCast] at hx
       have hcons : l.drop j = rdOf ByteArray.empty l (j : Int) :: l.drop (j + 1) := by
        rw [List.drop_eq_getElem_cons hlt]
        unfold rdOf
        rw [Int.toNat_natCast, List.getD_eq_getElem?_getD, List.getElem?_eq_getElem hlt]; rfl
       have hf := HF2.out
       rw [hcons] at hf
       generalize rdOf ByteArray.empty l (j : Int) = word at hx hf
       simp only [flagsFold] at hf
       split at hf
       ·rename_i hg
        obtain ⟨hws, hq4, hf0, hf31⟩ := hg
        have HWS := Aside0.mk hws
        have HWR : Aside0 (wrap64 ((j : Int) + 1) = ((j + 1 : Nat) : Int)) := ⟨by have := HN.out.2.1; unfold wrap64; omega⟩
        have H1 := Aside0.mk hlt
        have dl : decide ((j : Int) < (l.length : Int)) = true := decide_eq_true q0
        have dn : (j < l.length) = True := eq_true hlt
        replace p0 := eq_true p0
        replace q0 := eq_true q0
        clear hws hlt hcons
        split at hf
        ·rename_i hneg
         simp only [Option.some.injEq, Prod.mk.injEq] at hf
         obtain ⟨rfl, rfl⟩ := hf
         obtain ⟨q, hq⟩ : ∃ q, idxOf (sameLow word) names = q := ⟨_, rfl⟩
         rw [hq] at hneg
         have HQ := Aside0.mk hq
         have dq : decide (q < 0) = true := decide_eq_true hneg
         clear hneg hq4 hf0 hf31 hq
         go_wp2_with (first | ((with_reducible refine gate_dst (N := 8) rfl ?_); refine box_event ?hg (N := 8) ?hd (cs := #[.string (⟨#[]⟩ : ByteArray)]) (t := 9) ?hr ?_; (case hd => rfl); (case hg => rfl); (case hr => first | (go_simp; done) | (go_simp; rfl)); intro gb hg w7 hbox hb; have n0 := Aside0.mk (And.intro (below_step (by repeat (first | (with_reducible first | exact HV.out.1 | apply below_alloc | apply pw_below_drewN | apply below_drew1) | exact HV.out.1)) hb) (below_step (by repeat (first | (with_reducible first | exact HV.out.2 | apply below_alloc | apply pw_below_drewN | apply below_drew1) | exact HV.out.2)) hb)); have GE := Aside0.mk (And.intro (by rw [hg]; exact below_size (by repeat (first | (with_reducible first | exact HV.out.1 | apply below_alloc | apply pw_below_drewN | apply below_drew1) | exact HV.out.1)) : w.heap.size ≤ gb) (by rw [hg]; exact below_size (by repeat (first | (with_reducible first | exact HV.out.2 | apply below_alloc | apply pw_below_drewN | apply below_drew1) | exact HV.out.2)) : w1.heap.size ≤ gb)); have BK := Aside0.mk hbox; clear HV; have HV := n0; have hcz := (blk_cell BK.out 0).trans (show _ = some (.string (⟨#[]⟩ : ByteArray)) from rfl); have hfz := blk_frozen BK.out 0; clear n0 hb hbox hg) | ((with_reducible refine gate_store (t := 9) (p := 8) rfl ?_); refine store_event (t := 9) (p := 8) (v := ?vo) (w1 := (w7.setCell ⟨gb, 0, none⟩ (.string word))) ?hg ?ho ?hn ?hr ?_; (case ho => rfl); (case hg => rfl); (case hn => rfl); (case hr => first | (go_simp; done) | (go_simp; rfl)); intro w8 hw8; have n0 : Aside0 (w8.heap[gb]? = some (.cells #[.string word] 9 (0, 0))) := ⟨by rw [hw8]; exact blk_put BK.out 0 _ rfl⟩; have n1 : Aside0 (Below w.heap.size w w8 ∧ Below w1.heap.size w1 w8) := ⟨by rw [hw8]; exact ⟨below_set HV.out.1 GE.out.1, below_set HV.out.2 GE.out.2⟩⟩; clear BK HV hcz hfz hw8; have BK := n0; have HV := n1; clear n0 n1) | (go_at_call 52; refine (impl_flagNames.calls names _ A3.out).mono ?_; rintro e w9 ⟨v1, rfl, ho, hb⟩; obtain ⟨A1_, c1_, rfl, hle1, hC1⟩ := Kd.R_reads ho; have HC1 := Aside0.mk hC1; have n0 := Aside0.mk (blk_below (by (with_reducible repeat (first | refine blk_drewN ?_ _ | refine blk_drew ?_ | refine blk_alloc ?_ _)); exact BK.out) hb); have n1 := Aside0.mk (And.intro (below_step (by repeat (first | (with_reducible first | exact HV.out.1 | apply below_alloc | apply pw_below_drewN | apply below_drew1) | exact HV.out.1)) hb) (below_step (by repeat (first | (with_reducible first | exact HV.out.2 | apply below_alloc | apply pw_below_drewN | apply below_drew1) | exact HV.out.2)) hb)); clear BK HV ho hle1 hC1 hb; have BK := n0; have HV := n1; clear n0 n1) | (go_at_call 51; refine (readFlags_call names word A1_ c1_ gb _ q HQ.out (by (with_reducible repeat (first | refine Kd.C_alloc ?_ _ | refine Kd.C_drewN ?_ _ | refine Kd.C_drew ?_)); exact HC1.out) ((blk_cell (by (with_reducible repeat (first | refine blk_drewN ?_ _ | refine blk_drew ?_ | refine blk_alloc ?_ _)); exact BK.out) 0).trans rfl) HN.out.1 HWS.out HN.out.2.2).mono ?_; rintro e w10 ⟨rfl, hb⟩; have n1 := Aside0.mk (And.intro (below_step (by repeat (first | (with_reducible first | exact HV.out.1 | apply below_alloc | apply pw_below_drewN | apply below_drew1) | exact HV.out.1)) hb) (below_step (by repeat (first | (with_reducible first | exact HV.out.2 | apply below_alloc | apply pw_below_drewN | apply below_drew1) | exact HV.out.2)) hb)); clear HV hb; have HV := n1; clear n1))
         go_ret2
         exact ⟨rfl, (by repeat (first | (with_reducible first | exact HV.out.1 | apply below_alloc | apply pw_below_drewN | apply below_drew1) | exact HV.out.1))⟩
        ·rename_i hpos
         obtain ⟨i, hi⟩ : ∃ i : Nat, idxOf (sameLow word) names = (i : Int) := ⟨(idxOf (sameLow word) names).toNat, by omega⟩
         rw [hi] at hq4 hpos hf
         have hi4 : i = 0 ∨ i = 1 ∨ i = 2 ∨ i = 3 ∨ i = 4 := by omega
         clear hq4 hpos hf0 hf31
         rcases hi4 with rfl | rfl | rfl | rfl | rfl
         ·have HQ : Aside0 (idxOf (sameLow word) names = 0) := ⟨hi⟩
          have HF3 : Aside0 (flagsFold names (l.drop (j + 1)) (Go.bits .or .i64 fl 1) = some (r1, r2)) := ⟨hf⟩
          clear hi hf
          go_wp2_with (first | ((with_reducible refine gate_dst (N := 8) rfl ?_); refine box_event ?hg (N := 8) ?hd (cs := #[.string (⟨#[]⟩ : ByteArray)]) (t := 9) ?hr ?_; (case hd => rfl); (case hg => rfl); (case hr => first | (go_simp; done) | (go_simp; rfl)); intro gb hg w7 hbox hb; have n0 := Aside0.mk (And.intro (below_step (by repeat (first | (with_reducible first | exact HV.out.1 | apply below_alloc | apply pw_below_drewN | apply below_drew1) | exact HV.out.1)) hb) (below_step (by repeat (first | (with_reducible first | exact HV.out.2 | apply below_alloc | apply pw_below_drewN | apply below_drew1) | exact HV.out.2)) hb)); have GE := Aside0.mk (And.intro (by rw [hg]; exact below_size (by repeat (first | (with_reducible first | exact HV.out.1 | apply below_alloc | apply pw_below_drewN | apply below_drew1) | exact HV.out.1)) : w.heap.size ≤ gb) (by rw [hg]; exact below_size (by repeat (first | (with_reducible first | exact HV.out.2 | apply below_alloc | apply pw_below_drewN | apply below_drew1) | exact HV.out.2)) : w1.heap.size ≤ gb)); have BK := Aside0.mk hbox; clear HV; have HV := n0; have hcz := (blk_cell BK.out 0).trans (show _ = some (.string (⟨#[]⟩ : ByteArray)) from rfl); have hfz := blk_frozen BK.out 0; clear n0 hb hbox hg) | ((with_reducible refine gate_store (t := 9) (p := 8) rfl ?_); refine store_event (t := 9) (p := 8) (v := ?vo) (w1 := (w7.setCell ⟨gb, 0, none⟩ (.string word))) ?hg ?ho ?hn ?hr ?_; (case ho => rfl); (case hg => rfl); (case hn => rfl); (case hr => first | (go_simp; done) | (go_simp; rfl)); intro w8 hw8; have n0 : Aside0 (w8.heap[gb]? = some (.cells #[.string word] 9 (0, 0))) := ⟨by rw [hw8]; exact blk_put BK.out 0 _ rfl⟩; have n1 : Aside0 (Below w.heap.size w w8 ∧ Below w1.heap.size w1 w8) := ⟨by rw [hw8]; exact ⟨below_set HV.out.1 GE.out.1, below_set HV.out.2 GE.out.2⟩⟩; clear BK HV hcz hfz hw8; have BK := n0; have HV := n1; clear n0 n1) | (go_at_call 52; refine (impl_flagNames.calls names _ A3.out).mono ?_; rintro e w9 ⟨v1, rfl, ho, hb⟩; obtain ⟨A1_, c1_, rfl, hle1, hC1⟩ := Kd.R_reads ho; have HC1 := Aside0.mk hC1; have n0 := Aside0.mk (blk_below (by (with_reducible repeat (first | refine blk_drewN ?_ _ | refine blk_drew ?_ | refine blk_alloc ?_ _)); exact BK.out) hb); have n1 := Aside0.mk (And.intro (below_step (by repeat (first | (with_reducible first | exact HV.out.1 | apply below_alloc | apply pw_below_drewN | apply below_drew1) | exact HV.out.1)) hb) (below_step (by repeat (first | (with_reducible first | exact HV.out.2 | apply below_alloc | apply pw_below_drewN | apply below_drew1) | exact HV.out.2)) hb)); clear BK HV ho hle1 hC1 hb; have BK := n0; have HV := n1; clear n0 n1) | (go_at_call 51; refine (readFlags_call names word A1_ c1_ gb _ 0 HQ.out (by (with_reducible repeat (first | refine Kd.C_alloc ?_ _ | refine Kd.C_drewN ?_ _ | refine Kd.C_drew ?_)); exact HC1.out) ((blk_cell (by (with_reducible repeat (first | refine blk_drewN ?_ _ | refine blk_drew ?_ | refine blk_alloc ?_ _)); exact BK.out) 0).trans rfl) HN.out.1 HWS.out HN.out.2.2).mono ?_; rintro e w10 ⟨rfl, hb⟩; have n1 := Aside0.mk (And.intro (below_step (by repeat (first | (with_reducible first | exact HV.out.1 | apply below_alloc | apply pw_below_drewN | apply below_drew1) | exact HV.out.1)) hb) (below_step (by repeat (first | (with_reducible first | exact HV.out.2 | apply below_alloc | apply pw_below_drewN | apply below_drew1) | exact HV.out.2)) hb)); clear HV hb; have HV := n1; clear n1))
          go_roundg (l.length - (j + 1))
          case measure => have := HK.out; have := H1.out; omega
          case rel => exact ⟨j + 1, Go.bits .or .i64 fl 1, (by first | rfl | (rw [HWR.out]; done) | (simp [HWR.out]; done)), (by first | rfl | (rw [HWR.out]; done) | (simp [HWR.out]; done)), ⟨by have := H1.out; omega, by omega⟩, HF3, ⟨(by repeat (first | (with_reducible first | exact HV.out.1 | apply below_alloc | apply pw_below_drewN | apply below_drew1) | exact HV.out.1)), (by repeat (first | (with_reducible first | exact HV.out.2 | apply below_alloc | apply pw_below_drewN | apply below_drew1) | exact HV.out.2))⟩⟩
         ·have HQ : Aside0 (idxOf (sameLow word) names = 1) := ⟨hi⟩
          have HF3 : Aside0 (flagsFold names (l.drop (j + 1)) (Go.bits .or .i64 fl 2) = some (r1, r2)) := ⟨hf⟩
          clear hi hf
          go_wp2_with (first | ((with_reducible refine gate_dst (N := 8) rfl ?_); refine box_event ?hg (N := 8) ?hd (cs := #[.string (⟨#[]⟩ : ByteArray)]) (t := 9) ?hr ?_; (case hd => rfl); (case hg => rfl); (case hr => first | (go_simp; done) | (go_simp; rfl)); intro gb hg w7 hbox hb; have n0 := Aside0.mk (And.intro (below_step (by repeat (first | (with_reducible first | exact HV.out.1 | apply below_alloc | apply pw_below_drewN | apply below_drew1) | exact HV.out.1)) hb) (below_step (by repeat (first | (with_reducible first | exact HV.out.2 | apply below_alloc | apply pw_below_drewN | apply below_drew1) | exact HV.out.2)) hb)); have GE := Aside0.mk (And.intro (by rw [hg]; exact below_size (by repeat (first | (with_reducible first | exact HV.out.1 | apply below_alloc | apply pw_below_drewN | apply below_drew1) | exact HV.out.1)) : w.heap.size ≤ gb) (by rw [hg]; exact below_size (by repeat (first | (with_reducible first | exact HV.out.2 | apply below_alloc | apply pw_below_drewN | apply below_drew1) | exact HV.out.2)) : w1.heap.size ≤ gb)); have BK := Aside0.mk hbox; clear HV; have HV := n0; have hcz := (blk_cell BK.out 0).trans (show _ = some (.string (⟨#[]⟩ : ByteArray)) from rfl); have hfz := blk_frozen BK.out 0; clear n0 hb hbox hg) | ((with_reducible refine gate_store (t := 9) (p := 8) rfl ?_); refine store_event (t := 9) (p := 8) (v := ?vo) (w1 := (w7.setCell ⟨gb, 0, none⟩ (.string word))) ?hg ?ho ?hn ?hr ?_; (case ho => rfl); (case hg => rfl); (case hn => rfl); (case hr => first | (go_simp; done) | (go_simp; rfl)); intro w8 hw8; have n0 : Aside0 (w8.heap[gb]? = some (.cells #[.string word] 9 (0, 0))) := ⟨by rw [hw8]; exact blk_put BK.out 0 _ rfl⟩; have n1 : Aside0 (Below w.heap.size w w8 ∧ Below w1.heap.size w1 w8) := ⟨by rw [hw8]; exact ⟨below_set HV.out.1 GE.out.1, below_set HV.out.2 GE.out.2⟩⟩; clear BK HV hcz hfz hw8; have BK := n0; have HV := n1; clear n0 n1) | (go_at_call 52; refine (impl_flagNames.calls names _ A3.out).mono ?_; rintro e w9 ⟨v1, rfl, ho, hb⟩; obtain ⟨A1_, c1_, rfl, hle1, hC1⟩ := Kd.R_reads ho; have HC1 := Aside0.mk hC1; have n0 := Aside0.mk (blk_below (by (with_reducible repeat (first | refine blk_drewN ?_ _ | refine blk_drew ?_ | refine blk_alloc ?_ _)); exact BK.out) hb); have n1 := Aside0.mk (And.intro (below_step (by repeat (first | (with_reducible first | exact HV.out.1 | apply below_alloc | apply pw_below_drewN | apply below_drew1) | exact HV.out.1)) hb) (below_step (by repeat (first | (with_reducible first | exact HV.out.2 | apply below_alloc | apply pw_below_drewN | apply below_drew1) | exact HV.out.2)) hb)); clear BK HV ho hle1 hC1 hb; have BK := n0; have HV := n1; clear n0 n1) | (go_at_call 51; refine (readFlags_call names word A1_ c1_ gb _ 1 HQ.out (by (with_reducible repeat (first | refine Kd.C_alloc ?_ _ | refine Kd.C_drewN ?_ _ | refine Kd.C_drew ?_)); exact HC1.out) ((blk_cell (by (with_reducible repeat (first | refine blk_drewN ?_ _ | refine blk_drew ?_ | refine blk_alloc ?_ _)); exact BK.out) 0).trans rfl) HN.out.1 HWS.out HN.out.2.2).mono ?_; rintro e w10 ⟨rfl, hb⟩; have n1 := Aside0.mk (And.intro (below_step (by repeat (first | (with_reducible first | exact HV.out.1 | apply below_alloc | apply pw_below_drewN | apply below_drew1) | exact HV.out.1)) hb) (below_step (by repeat (first | (with_reducible first | exact HV.out.2 | apply below_alloc | apply pw_below_drewN | apply below_drew1) | exact HV.out.2)) hb)); clear HV hb; have HV := n1; clear n1))
          go_roundg (l.length - (j + 1))
          case measure => have := HK.out; have := H1.out; omega
          case rel => exact ⟨j + 1, Go.bits .or .i64 fl 2, (by first | rfl | (rw [HWR.out]; done) | (simp [HWR.out]; done)), (by first | rfl | (rw [HWR.out]; done) | (simp [HWR.out]; done)), ⟨by have := H1.out; omega, by omega⟩, HF3, ⟨(by repeat (first | (with_reducible first | exact HV.out.1 | apply below_alloc | apply pw_below_drewN | apply below_drew1) | exact HV.out.1)), (by repeat (first | (with_reducible first | exact HV.out.2 | apply below_alloc | apply pw_below_drewN | apply below_drew1) | exact HV.out.2))⟩⟩
         ·have HQ : Aside0 (idxOf (sameLow word) names = 2) := ⟨hi⟩
          have HF3 : Aside0 (flagsFold names (l.drop (j + 1)) (Go.bits .or .i64 fl 4) = some (r1, r2)) := ⟨hf⟩
          clear hi hf
          go_wp2_with (first | ((with_reducible refine gate_dst (N := 8) rfl ?_); refine box_event ?hg (N := 8) ?hd (cs := #[.string (⟨#[]⟩ : ByteArray)]) (t := 9) ?hr ?_; (case hd => rfl); (case hg => rfl); (case hr => first | (go_simp; done) | (go_simp; rfl)); intro gb hg w7 hbox hb; have n0 := Aside0.mk (And.intro (below_step (by repeat (first | (with_reducible first | exact HV.out.1 | apply below_alloc | apply pw_below_drewN | apply below_drew1) | exact HV.out.1)) hb) (below_step (by repeat (first | (with_reducible first | exact HV.out.2 | apply below_alloc | apply pw_below_drewN | apply below_drew1) | exact HV.out.2)) hb)); have GE := Aside0.mk (And.intro (by rw [hg]; exact below_size (by repeat (first | (with_reducible first | exact HV.out.1 | apply below_alloc | apply pw_below_drewN | apply below_drew1) | exact HV.out.1)) : w.heap.size ≤ gb) (by rw [hg]; exact below_size (by repeat (first | (with_reducible first | exact HV.out.2 | apply below_alloc | apply pw_below_drewN | apply below_drew1) | exact HV.out.2)) : w1.heap.size ≤ gb)); have BK := Aside0.mk hbox; clear HV; have HV := n0; have hcz := (blk_cell BK.out 0).trans (show _ = some (.string (⟨#[]⟩ : ByteArray)) from rfl); have hfz := blk_frozen BK.out 0; clear n0 hb hbox hg) | ((with_reducible refine gate_store (t := 9) (p := 8) rfl ?_); refine store_event (t := 9) (p := 8) (v := ?vo) (w1 := (w7.setCell ⟨gb, 0, none⟩ (.string word))) ?hg ?ho ?hn ?hr ?_; (case ho => rfl); (case hg => rfl); (case hn => rfl); (case hr => first | (go_simp; done) | (go_simp; rfl)); intro w8 hw8; have n0 : Aside0 (w8.heap[gb]? = some (.cells #[.string word] 9 (0, 0))) := ⟨by rw [hw8]; exact blk_put BK.out 0 _ rfl⟩; have n1 : Aside0 (Below w.heap.size w w8 ∧ Below w1.heap.size w1 w8) := ⟨by rw [hw8]; exact ⟨below_set HV.out.1 GE.out.1, below_set HV.out.2 GE.out.2⟩⟩; clear BK HV hcz hfz hw8; have BK := n0; have HV := n1; clear n0 n1) | (go_at_call 52; refine (impl_flagNames.calls names _ A3.out).mono ?_; rintro e w9 ⟨v1, rfl, ho, hb⟩; obtain ⟨A1_, c1_, rfl, hle1, hC1⟩ := Kd.R_reads ho; have HC1 := Aside0.mk hC1; have n0 := Aside0.mk (blk_below (by (with_reducible repeat (first | refine blk_drewN ?_ _ | refine blk_drew ?_ | refine blk_alloc ?_ _)); exact BK.out) hb); have n1 := Aside0.mk (And.intro (below_step (by repeat (first | (with_reducible first | exact HV.out.1 | apply below_alloc | apply pw_below_drewN | apply below_drew1) | exact HV.out.1)) hb) (below_step (by repeat (first | (with_reducible first | exact HV.out.2 | apply below_alloc | apply pw_below_drewN | apply below_drew1) | exact HV.out.2)) hb)); clear BK HV ho hle1 hC1 hb; have BK := n0; have HV := n1; clear n0 n1) | (go_at_call 51; refine (readFlags_call names word A1_ c1_ gb _ 2 HQ.out (by (with_reducible repeat (first | refine Kd.C_alloc ?_ _ | refine Kd.C_drewN ?_ _ | refine Kd.C_drew ?_)); exact HC1.out) ((blk_cell (by (with_reducible repeat (first | refine blk_drewN ?_ _ | refine blk_drew ?_ | refine blk_alloc ?_ _)); exact BK.out) 0).trans rfl) HN.out.1 HWS.out HN.out.2.2).mono ?_; rintro e w10 ⟨rfl, hb⟩; have n1 := Aside0.mk (And.intro (below_step (by repeat (first | (with_reducible first | exact HV.out.1 | apply below_alloc | apply pw_below_drewN | apply below_drew1) | exact HV.out.1)) hb) (below_step (by repeat (first | (with_reducible first | exact HV.out.2 | apply below_alloc | apply pw_below_drewN | apply below_drew1) | exact HV.out.2)) hb)); clear HV hb; have HV := n1; clear n1))
          go_roundg (l.length - (j + 1))
          case measure => have := HK.out; have := H1.out; omega
          case rel => exact ⟨j + 1, Go.bits .or .i64 fl 4, (by first | rfl | (rw [HWR.out]; done) | (simp [HWR.out]; done)), (by first | rfl | (rw [HWR.out]; done) | (simp [HWR.out]; done)), ⟨by have := H1.out; omega, by omega⟩, HF3, ⟨(by repeat (first | (with_reducible first | exact HV.out.1 | apply below_alloc | apply pw_below_drewN | apply below_drew1) | exact HV.out.1)), (by repeat (first | (with_reducible first | exact HV.out.2 | apply below_alloc | apply pw_below_drewN | apply below_drew1) | exact HV.out.2))⟩⟩
         ·have HQ : Aside0 (idxOf (sameLow word) names = 3) := ⟨hi⟩
          have HF3 : Aside0 (flagsFold names (l.drop (j + 1)) (Go.bits .or .i64 fl 8) = some (r1, r2)) := ⟨hf⟩
          clear hi hf
          go_wp2_with (first | ((with_reducible refine gate_dst (N := 8) rfl ?_); refine box_event ?hg (N := 8) ?hd (cs := #[.string (⟨#[]⟩ : ByteArray)]) (t := 9) ?hr ?_; (case hd => rfl); (case hg => rfl); (case hr => first | (go_simp; done) | (go_simp; rfl)); intro gb hg w7 hbox hb; have n0 := Aside0.mk (And.intro (below_step (by repeat (first | (with_reducible first | exact HV.out.1 | apply below_alloc | apply pw_below_drewN | apply below_drew1) | exact HV.out.1)) hb) (below_step (by repeat (first | (with_reducible first | exact HV.out.2 | apply below_alloc | apply pw_below_drewN | apply below_drew1) | exact HV.out.2)) hb)); have GE := Aside0.mk (And.intro (by rw [hg]; exact below_size (by repeat (first | (with_reducible first | exact HV.out.1 | apply below_alloc | apply pw_below_drewN | apply below_drew1) | exact HV.out.1)) : w.heap.size ≤ gb) (by rw [hg]; exact below_size (by repeat (first | (with_reducible first | exact HV.out.2 | apply below_alloc | apply pw_below_drewN | apply below_drew1) | exact HV.out.2)) : w1.heap.size ≤ gb)); have BK := Aside0.mk hbox; clear HV; have HV := n0; have hcz := (blk_cell BK.out 0).trans (show _ = some (.string (⟨#[]⟩ : ByteArray)) from rfl); have hfz := blk_frozen BK.out 0; clear n0 hb hbox hg) | ((with_reducible refine gate_store (t := 9) (p := 8) rfl ?_); refine store_event (t := 9) (p := 8) (v := ?vo) (w1 := (w7.setCell ⟨gb, 0, none⟩ (.string word))) ?hg ?ho ?hn ?hr ?_; (case ho => rfl); (case hg => rfl); (case hn => rfl); (case hr => first | (go_simp; done) | (go_simp; rfl)); intro w8 hw8; have n0 : Aside0 (w8.heap[gb]? = some (.cells #[.string word] 9 (0, 0))) := ⟨by rw [hw8]; exact blk_put BK.out 0 _ rfl⟩; have n1 : Aside0 (Below w.heap.size w w8 ∧ Below w1.heap.size w1 w8) := ⟨by rw [hw8]; exact ⟨below_set HV.out.1 GE.out.1, below_set HV.out.2 GE.out.2⟩⟩; clear BK HV hcz hfz hw8; have BK := n0; have HV := n1; clear n0 n1) | (go_at_call 52; refine (impl_flagNames.calls names _ A3.out).mono ?_; rintro e w9 ⟨v1, rfl, ho, hb⟩; obtain ⟨A1_, c1_, rfl, hle1, hC1⟩ := Kd.R_reads ho; have HC1 := Aside0.mk hC1; have n0 := Aside0.mk (blk_below (by (with_reducible repeat (first | refine blk_drewN ?_ _ | refine blk_drew ?_ | refine blk_alloc ?_ _)); exact BK.out) hb); have n1 := Aside0.mk (And.intro (below_step (by repeat (first | (with_reducible first | exact HV.out.1 | apply below_alloc | apply pw_below_drewN | apply below_drew1) | exact HV.out.1)) hb) (below_step (by repeat (first | (with_reducible first | exact HV.out.2 | apply below_alloc | apply pw_below_drewN | apply below_drew1) | exact HV.out.2)) hb)); clear BK HV ho hle1 hC1 hb; have BK := n0; have HV := n1; clear n0 n1) | (go_at_call 51; refine (readFlags_call names word A1_ c1_ gb _ 3 HQ.out (by (with_reducible repeat (first | refine Kd.C_alloc ?_ _ | refine Kd.C_drewN ?_ _ | refine Kd.C_drew ?_)); exact HC1.out) ((blk_cell (by (with_reducible repeat (first | refine blk_drewN ?_ _ | refine blk_drew ?_ | refine blk_alloc ?_ _)); exact BK.out) 0).trans rfl) HN.out.1 HWS.out HN.out.2.2).mono ?_; rintro e w10 ⟨rfl, hb⟩; have n1 := Aside0.mk (And.intro (below_step (by repeat (first | (with_reducible first | exact HV.out.1 | apply below_alloc | apply pw_below_drewN | apply below_drew1) | exact HV.out.1)) hb) (below_step (by repeat (first | (with_reducible first | exact HV.out.2 | apply below_alloc | apply pw_below_drewN | apply below_drew1) | exact HV.out.2)) hb)); clear HV hb; have HV := n1; clear n1))
          go_roundg (l.length - (j + 1))
          case measure => have := HK.out; have := H1.out; omega
          case rel => exact ⟨j + 1, Go.bits .or .i64 fl 8, (by first | rfl | (rw [HWR.out]; done) | (simp [HWR.out]; done)), (by first | rfl | (rw [HWR.out]; done) | (simp [HWR.out]; done)), ⟨by have := H1.out; omega, by omega⟩, HF3, ⟨(by repeat (first | (with_reducible first | exact HV.out.1 | apply below_alloc | apply pw_below_drewN | apply below_drew1) | exact HV.out.1)), (by repeat (first | (with_reducible first | exact HV.out.2 | apply below_alloc | apply pw_below_drewN | apply below_drew1) | exact HV.out.2))⟩⟩
         ·have HQ : Aside0 (idxOf (sameLow word) names = 4) := ⟨hi⟩
          have HF3 : Aside0 (flagsFold names (l.drop (j + 1)) (Go.bits .or .i64 fl 16) = some (r1, r2)) := ⟨hf⟩
          clear hi hf
          go_wp2_with (first | ((with_reducible refine gate_dst (N := 8) rfl ?_); refine box_event ?hg (N := 8) ?hd (cs := #[.string (⟨#[]⟩ : ByteArray)]) (t := 9) ?hr ?_; (case hd => rfl); (case hg => rfl); (case hr => first | (go_simp; done) | (go_simp; rfl)); intro gb hg w7 hbox hb; have n0 := Aside0.mk (And.intro (below_step (by repeat (first | (with_reducible first | exact HV.out.1 | apply below_alloc | apply pw_below_drewN | apply below_drew1) | exact HV.out.1)) hb) (below_step (by repeat (first | (with_reducible first | exact HV.out.2 | apply below_alloc | apply pw_below_drewN | apply below_drew1) | exact HV.out.2)) hb)); have GE := Aside0.mk (And.intro (by rw [hg]; exact below_size (by repeat (first | (with_reducible first | exact HV.out.1 | apply below_alloc | apply pw_below_drewN | apply below_drew1) | exact HV.out.1)) : w.heap.size ≤ gb) (by rw [hg]; exact below_size (by repeat (first | (with_reducible first | exact HV.out.2 | apply below_alloc | apply pw_below_drewN | apply below_drew1) | exact HV.out.2)) : w1.heap.size ≤ gb)); have BK := Aside0.mk hbox; clear HV; have HV := n0; have hcz := (blk_cell BK.out 0).trans (show _ = some (.string (⟨#[]⟩ : ByteArray)) from rfl); have hfz := blk_frozen BK.out 0; clear n0 hb hbox hg) | ((with_reducible refine gate_store (t := 9) (p := 8) rfl ?_); refine store_event (t := 9) (p := 8) (v := ?vo) (w1 := (w7.setCell ⟨gb, 0, none⟩ (.string word))) ?hg ?ho ?hn ?hr ?_; (case ho => rfl); (case hg => rfl); (case hn => rfl); (case hr => first | (go_simp; done) | (go_simp; rfl)); intro w8 hw8; have n0 : Aside0 (w8.heap[gb]? = some (.cells #[.string word] 9 (0, 0))) := ⟨by rw [hw8]; exact blk_put BK.out 0 _ rfl⟩; have n1 : Aside0 (Below w.heap.size w w8 ∧ Below w1.heap.size w1 w8) := ⟨by rw [hw8]; exact ⟨below_set HV.out.1 GE.out.1, below_set HV.out.2 GE.out.2⟩⟩; clear BK HV hcz hfz hw8; have BK := n0; have HV := n1; clear n0 n1) | (go_at_call 52; refine (impl_flagNames.calls names _ A3.out).mono ?_; rintro e w9 ⟨v1, rfl, ho, hb⟩; obtain ⟨A1_, c1_, rfl, hle1, hC1⟩ := Kd.R_reads ho; have HC1 := Aside0.mk hC1; have n0 := Aside0.mk (blk_below (by (with_reducible repeat (first | refine blk_drewN ?_ _ | refine blk_drew ?_ | refine blk_alloc ?_ _)); exact BK.out) hb); have n1 := Aside0.mk (And.intro (below_step (by repeat (first | (with_reducible first | exact HV.out.1 | apply below_alloc | apply pw_below_drewN | apply below_drew1) | exact HV.out.1)) hb) (below_step (by repeat (first | (with_reducible first | exact HV.out.2 | apply below_alloc | apply pw_below_drewN | apply below_drew1) | exact HV.out.2)) hb)); clear BK HV ho hle1 hC1 hb; have BK := n0; have HV := n1; clear n0 n1) | (go_at_call 51; refine (readFlags_call names word A1_ c1_ gb _ 4 HQ.out (by (with_reducible repeat (first | refine Kd.C_alloc ?_ _ | refine Kd.C_drewN ?_ _ | refine Kd.C_drew ?_)); exact HC1.out) ((blk_cell (by (with_reducible repeat (first | refine blk_drewN ?_ _ | refine blk_drew ?_ | refine blk_alloc ?_ _)); exact BK.out) 0).trans rfl) HN.out.1 HWS.out HN.out.2.2).mono ?_; rintro e w10 ⟨rfl, hb⟩; have n1 := Aside0.mk (And.intro (below_step (by repeat (first | (with_reducible first | exact HV.out.1 | apply below_alloc | apply pw_below_drewN | apply below_drew1) | exact HV.out.1)) hb) (below_step (by repeat (first | (with_reducible first | exact HV.out.2 | apply below_alloc | apply pw_below_drewN | apply below_drew1) | exact HV.out.2)) hb)); clear HV hb; have HV := n1; clear n1))
          go_roundg (l.length - (j + 1))
          case measure => have := HK.out; have := H1.out; omega
          case rel => exact ⟨j + 1, Go.bits .or .i64 fl 16, (by first | rfl | (rw [HWR.out]; done) | (simp [HWR.out]; done)), (by first | rfl | (rw [HWR.out]; done) | (simp [HWR.out]; done)), ⟨by have := H1.out; omega, by omega⟩, HF3, ⟨(by repeat (first | (with_reducible first | exact HV.out.1 | apply below_alloc | apply pw_below_drewN | apply below_drew1) | exact HV.out.1)), (by repeat (first | (with_reducible first | exact HV.out.2 | apply below_alloc | apply pw_below_drewN | apply below_drew1) | exact HV.out.2))⟩⟩
       ·cases hf
      ·have dl : decide ((j : Int) < (l.length : Int)) = false := decide_eq_false (by omega)
       have dn : (j < l.length) = False := eq_false hlt
       have hf := HF2.out
       rw [List.drop_eq_nil_of_le (by omega)] at hf
       simp only [flagsFold, Option.some.injEq, Prod.mk.injEq] at hf
       obtain ⟨rfl, rfl⟩ := hf
       clear hlt
       go_wp2
       go_ret2
       exact ⟨rfl, (by repeat (first | (with_reducible first | exact HV.out.1 | apply below_alloc | apply pw_below_drewN | apply below_drew1) | exact HV.out.1))⟩
    ·cases h


/-! ### laws_at: function 25 -/
def laws_at.f (l0 : List Int) (a1 : Int) (a2 : Int) : Option (Int) := if a2 ≤ 1 then (some 0) else (if (l0.length : Int) = 0 then (if a2 = 0 then (none) else (some (Int.tmod (wrap64 (a1 * 7)) a2))) else (if 0 ≤ (Int.tmod a1 (l0.length : Int)) then (if (Int.tmod a1 (l0.length : Int)) < (l0.length : Int) then (if 0 ≤ (Int.tmod (wrap64 (a1 + 1)) (l0.length : Int)) then (if (Int.tmod (wrap64 (a1 + 1)) (l0.length : Int)) < (l0.length : Int) then (if a2 = 0 then (none) else (some (Int.tmod (wrap64 ((wrap64 ((wrap64 ((wrap64 (rd l0 (Int.tmod a1 (l0.length : Int)))) * 31)) + (wrap64 (rd l0 (Int.tmod (wrap64 (a1 + 1)) (l0.length : Int)))))) + (wrap64 (Int.tdiv a1 (l0.length : Int))))) a2))) else (none)) else (none)) else (none)) else (none)))
set_option maxHeartbeats 8000000 in
set_option maxRecDepth 100000 in
theorem laws_at.calls (A0 : Option Addr) (c0 : Nat) (l0 : List Int) (a1 : Int) (a2 : Int) (r : Int) (w : World) (hr0 : Kd.C (Kd.int .u8) w A0 l0.length l0) (hc0 : l0.length ≤ c0) (h : laws_at.f l0 a1 a2 = some r) :
  Calls Tryd.prog 25 #[.slice A0 l0.length c0, .int .i64 a1, .int .i64 a2] w fun e w' => e = .returned (.int .i64 r) ∧ Drawn0 w w' := by
 have HR0 := Aside0.mk hr0
 have HC0 := Aside0.mk hc0
 clear hr0 hc0
 have H : (if a2 ≤ 1 then (some 0) else (if (l0.length : Int) = 0 then (if a2 = 0 then (none) else (some (Int.tmod (wrap64 (a1 * 7)) a2))) else (if 0 ≤ (Int.tmod a1 (l0.length : Int)) then (if (Int.tmod a1 (l0.length : Int)) < (l0.length : Int) then (if 0 ≤ (Int.tmod (wrap64 (a1 + 1)) (l0.length : Int)) then (if (Int.tmod (wrap64 (a1 + 1)) (l0.length : Int)) < (l0.length : Int) then (if a2 = 0 then (none) else (some (Int.tmod (wrap64 ((wrap64 ((wrap64 ((wrap64 (rd l0 (Int.tmod a1 (l0.length : Int)))) * 31)) + (wrap64 (rd l0 (Int.tmod (wrap64 (a1 + 1)) (l0.length : Int)))))) + (wrap64 (Int.tdiv a1 (l0.length : Int))))) a2))) else (none)) else (none)) else (none)) else (none)))) = some r := h
 clear h
 by_cases c4 : a2 ≤ 1
 ·rw [if_pos c4] at H
  have c4b0 : decide (a2 ≤ 1) = true := decide_eq_true c4
  clear c4
  obtain rfl := Option.some.inj H
  go_enter Tryd.func25, Tryd.ntmps25
  go_wp2
  repeat (go_quiet (fail); try go_wp2)
  go_ret
  exact ⟨by first | rfl | (simp; done) | (simp [*]; done), by repeat (first | exact Drawn0.refl _ | apply Drawn0.step)⟩
 ·rw [if_neg c4] at H
  have c4b0 : decide (a2 ≤ 1) = false := decide_eq_false c4
  clear c4
  by_cases c5 : (l0.length : Int) = 0
  ·rw [if_pos c5] at H
   have c5b0 : ((l0.length : Int) == 0) = true := beq_iff_eq.mpr c5
   have c5b1 : ((l0.length : Int) != 0) = false := bne_eq_false_iff_eq.mpr c5
   clear c5
   by_cases c6 : a2 = 0
   ·rw [if_pos c6] at H
    exact absurd H (by simp)
   ·rw [if_neg c6] at H
    have c6b0 : (a2 == 0) = false := beq_eq_false_iff_ne.mpr c6
    have c6b1 : (a2 != 0) = true := bne_iff_ne.mpr c6
    obtain rfl := Option.some.inj H
    go_enter Tryd.func25, Tryd.ntmps25
    go_wp2
    repeat (go_quiet (fail); try go_wp2)
    go_ret
    exact ⟨by first | rfl | (simp; done) | (simp [*]; done), by repeat (first | exact Drawn0.refl _ | apply Drawn0.step)⟩
  ·rw [if_neg c5] at H
   have c5b0 : ((l0.length : Int) == 0) = false := beq_eq_false_iff_ne.mpr c5
   have c5b1 : ((l0.length : Int) != 0) = true := bne_iff_ne.mpr c5
   have c5b2 : ¬ (l0 = []) := fun h_ => c5 (by rw [h_]; rfl)
   obtain ⟨ji7, hji7⟩ : ∃ j_ : Int, (Int.tmod a1 (l0.length : Int)) = j_ := ⟨_, rfl⟩
   replace H : (if 0 ≤ (ji7) then (if (ji7) < (l0.length : Int) then (if 0 ≤ (Int.tmod (wrap64 (a1 + 1)) (l0.length : Int)) then (if (Int.tmod (wrap64 (a1 + 1)) (l0.length : Int)) < (l0.length : Int) then (if a2 = 0 then (none) else (some (Int.tmod (wrap64 ((wrap64 ((wrap64 ((wrap64 (rd l0 (ji7))) * 31)) + (wrap64 (rd l0 (Int.tmod (wrap64 (a1 + 1)) (l0.length : Int)))))) + (wrap64 (Int.tdiv a1 (l0.length : Int))))) a2))) else (none)) else (none)) else (none)) else (none)) = some r := by first | (rw [hji7] at H; exact H) | (simp only [hji7] at H ⊢; exact H)
   by_cases c8 : 0 ≤ (ji7)
   ·rw [if_pos c8] at H
    have c8b0 : decide (0 ≤ (ji7)) = true := decide_eq_true c8
    clear c8
    by_cases c9 : (ji7) < (l0.length : Int)
    ·rw [if_pos c9] at H
     have c9b0 : decide ((ji7) < (l0.length : Int)) = true := decide_eq_true c9
     clear c9
     obtain ⟨ji10, hji10⟩ : ∃ j_ : Int, (Int.tmod (wrap64 (a1 + 1)) (l0.length : Int)) = j_ := ⟨_, rfl⟩
     replace H : (if 0 ≤ (ji10) then (if (ji10) < (l0.length : Int) then (if a2 = 0 then (none) else (some (Int.tmod (wrap64 ((wrap64 ((wrap64 ((wrap64 (rd l0 (ji7))) * 31)) + (wrap64 (rd l0 (ji10))))) + (wrap64 (Int.tdiv a1 (l0.length : Int))))) a2))) else (none)) else (none)) = some r := by first | (rw [hji10] at H; exact H) | (simp only [hji10] at H ⊢; exact H)
     by_cases c11 : 0 ≤ (ji10)
     ·rw [if_pos c11] at H
      have c11b0 : decide (0 ≤ (ji10)) = true := decide_eq_true c11
      clear c11
      by_cases c12 : (ji10) < (l0.length : Int)
      ·rw [if_pos c12] at H
       have c12b0 : decide ((ji10) < (l0.length : Int)) = true := decide_eq_true c12
       clear c12
       by_cases c13 : a2 = 0
       ·rw [if_pos c13] at H
        exact absurd H (by simp)
       ·rw [if_neg c13] at H
        have c13b0 : (a2 == 0) = false := beq_eq_false_iff_ne.mpr c13
        have c13b1 : (a2 != 0) = true := bne_iff_ne.mpr c13
        obtain rfl := Option.some.inj H
        have p101 : 0 ≤ ((ji7) : Int) := of_decide_eq_true (by first | (with_reducible assumption) | assumption)
        have q101 : (ji7) < (l0.length : Int) := of_decide_eq_true (by first | (with_reducible assumption) | assumption)
        obtain ⟨ad101, e101, hx101_0⟩ := Kd.at_int HR0.out (ji7) p101 q101
        cases e101
        replace p101 := eq_true p101
        replace q101 := eq_true q101
        have p102 : 0 ≤ ((ji10) : Int) := of_decide_eq_true (by first | (with_reducible assumption) | assumption)
        have q102 : (ji10) < (l0.length : Int) := of_decide_eq_true (by first | (with_reducible assumption) | assumption)
        obtain ⟨ad102, e102, hx102_0⟩ := Kd.at_int HR0.out (ji10) p102 q102
        obtain rfl : ad101 = ad102 := (by injection e102)
        replace p102 := eq_true p102
        replace q102 := eq_true q102
        go_enter Tryd.func25, Tryd.ntmps25
        go_wp2
        repeat (go_quiet (fail); try go_wp2)
        go_ret
        exact ⟨by first | rfl | (simp; done) | (simp only [← hji7, ← hji10] <;> (first | rfl | simp)) | (simp [*]; done), by repeat (first | exact Drawn0.refl _ | apply Drawn0.step)⟩
      ·rw [if_neg c12] at H
       exact absurd H (by simp)
     ·rw [if_neg c11] at H
      exact absurd H (by simp)
    ·rw [if_neg c9] at H
     exact absurd H (by simp)
   ·rw [if_neg c8] at H
    exact absurd H (by simp)


/-! ### impl_within: function 65 -/
def impl_within.f (a0 : Int) (a1 : Int) (a2 : Int) : Option (Bool) := if a0 ≥ a1 then (some (decide (a0 ≤ a2))) else (some false)
set_option maxHeartbeats 8000000 in
set_option maxRecDepth 100000 in
theorem impl_within.calls (a0 : Int) (a1 : Int) (a2 : Int) (r : Bool) (w : World) (h : impl_within.f a0 a1 a2 = some r) :
  Calls Tryd.prog 65 #[.int .i64 a0, .int .i64 a1, .int .i64 a2] w fun e w' => e = .returned (.bool r) ∧ Drawn0 w w' := by
 have H : (if a0 ≥ a1 then (some (decide (a0 ≤ a2))) else (some false)) = some r := h
 clear h
 by_cases c4 : a0 ≥ a1
 ·rw [if_pos c4] at H
  have c4b0 : decide (a1 ≤ a0) = true := decide_eq_true c4
  clear c4
  obtain rfl := Option.some.inj H
  go_enter Tryd.func65, Tryd.ntmps65
  go_wp2
  go_ret
  exact ⟨by first | rfl | (simp; done) | (simp [*]; done), by repeat (first | exact Drawn0.refl _ | apply Drawn0.step)⟩
 ·rw [if_neg c4] at H
  have c4b0 : decide (a1 ≤ a0) = false := decide_eq_false c4
  clear c4
  obtain rfl := Option.some.inj H
  go_enter Tryd.func65, Tryd.ntmps65
  go_wp2
  go_ret
  exact ⟨by first | rfl | (simp; done) | (simp [*]; done), by repeat (first | exact Drawn0.refl _ | apply Drawn0.step)⟩


/-! ### strings_Join: function 63 (a text of mine) -/
section
open Go.Shelf
def sh63_lays156_ren : Go.Shelf.Ren := ⟨fun | 156 => 63 | 165 => 96 | 166 => 97 | 169 => 98 | 240 => 125 | 241 => 126 | 276 => 144 | 277 => 145 | n => n, fun | 31 => 25 | 9 => 9 | 3 => 3 | 4 => 4 | 0 => 0 | 20 => 20 | 72 => 98 | 76 => 102 | 70 => 96 | 37 => 38 | 75 => 101 | 127 => 120 | 164 => 146 | 5 => 5 | 80 => 81 | n => n, fun | n => n⟩
theorem sh63_lays156 : Go.Proofs.Lays.n156 Tryd.prog sh63_lays156_ren := {
 mixed := by kernel_rfl
 f156 := Tryd.func63.trans (congrArg some (by kernel_rfl))
 f165 := Tryd.func96.trans (congrArg some (by kernel_rfl))
 f166 := Tryd.func97.trans (congrArg some (by kernel_rfl))
 f169 := Tryd.func98.trans (congrArg some (by kernel_rfl))
 f240 := Tryd.func125.trans (congrArg some (by kernel_rfl))
 f241 := Tryd.func126.trans (congrArg some (by kernel_rfl))
 f276 := Tryd.func144.trans (congrArg some (by kernel_rfl))
 f277 := Tryd.func145.trans (congrArg some (by kernel_rfl))
 t0 := Tryd.underlying0
 a0 := Tryd.isAgg0
 z0 := Tryd.sizeOf0
 v0 := Tryd.zeroValue0
 t3 := Tryd.underlying3
 a3 := Tryd.isAgg3
 z3 := Tryd.sizeOf3
 v3 := Tryd.zeroValue3
 t4 := Tryd.underlying4
 a4 := Tryd.isAgg4
 z4 := Tryd.sizeOf4
 v4 := Tryd.zeroValue4
 t9 := Tryd.underlying9
 a9 := Tryd.isAgg9
 z9 := Tryd.sizeOf9
 v9 := Tryd.zeroValue9
 t20 := Tryd.underlying20
 a20 := Tryd.isAgg20
 z20 := Tryd.sizeOf20
 v20 := Tryd.zeroValue20
 t31 := Tryd.underlying25
 a31 := Tryd.isAgg25
 z31 := Tryd.sizeOf25
 v31 := Tryd.zeroValue25
 t37 := Tryd.underlying38
 a37 := Tryd.isAgg38
 z37 := Tryd.sizeOf38
 v37 := Tryd.zeroValue38
 t70 := Tryd.underlying96
 a70 := Tryd.isAgg96
 z70 := Tryd.sizeOf96
 v70 := Tryd.zeroValue96
 t72 := Tryd.underlying98
 a72 := Tryd.isAgg98
 z72 := Tryd.sizeOf98
 v72 := Tryd.zeroValue98
 t75 := Tryd.underlying101
 a75 := Tryd.isAgg101
 z75 := Tryd.sizeOf101
 v75 := Tryd.zeroValue101
 t76 := Tryd.underlying102
 a76 := Tryd.isAgg102
 z76 := Tryd.sizeOf102
 v76 := Tryd.zeroValue102
 t127 := Tryd.underlying120
 a127 := Tryd.isAgg120
 z127 := Tryd.sizeOf120
 v127 := Tryd.zeroValue120
 t164 := Tryd.underlying146
 a164 := Tryd.isAgg146
 z164 := Tryd.sizeOf146
 v164 := Tryd.zeroValue146 }
theorem sh63_Builder_Extra_156 : Builder.Extra Tryd.prog sh63_lays156_ren := {
 sizeBuilder := by kernel_rfl
 liesBuilder := by kernel_rfl
 t5 := Tryd.underlying5
 a5 := Tryd.isAgg5
 z5 := Tryd.sizeOf5
 v5 := Tryd.zeroValue5
 infoByte := by kernel_rfl
 cellsByte := by kernel_rfl
 sizeByte := by kernel_rfl
 neB5 := by decide }
open Go.RowKit in
theorem sh63_strings_Join_none (a : Option Addr) (c : Nat) (sep : ByteArray) (w : World) :
  Calls Tryd.prog 63 #[.slice a 0 c, .string sep] w fun e w' => e = .returned (.string ⟨#[]⟩) ∧ w' = w := Any.strings_Join_none sh63_lays156 sh63_Builder_Extra_156 a c sep w
open Go.RowKit in
theorem sh63_strings_Join (bk o c : Nat) (xs : List ByteArray) (sep : ByteArray) (w : World) (hcells : ∀ (j : Nat) x, xs[j]? = some x → w.cell? ⟨bk, o + j, none⟩ = some (.string x)) (hbk : bk < w.heap.size) (hN : xs.length ≤ 140737488355328) (hcap : xs.length ≤ c) (hlen : (Lib.join (xs.map (·.data.toList)) sep.data.toList).length ≤ 140737488355328) :
  Calls Tryd.prog 63 #[.slice (some ⟨bk, o, none⟩) xs.length c, .string sep] w fun e w' => e = .returned (.string ⟨(Lib.join (xs.map (·.data.toList)) sep.data.toList).toArray⟩) ∧ Below w.heap.size w w' := Any.strings_Join sh63_lays156 sh63_Builder_Extra_156 bk o c xs sep w hcells hbk hN hcap hlen
end
/-- The texts of a list, put together. -/
def joinB (l : List ByteArray) (s : ByteArray) : List UInt8 := Lib.join (l.map (·.data.toList)) s.data.toList
def strings_Join.f (l0 : List ByteArray) (a1 : ByteArray) : Option ByteArray := if l0.length ≤ 140737488355328 ∧ (joinB l0 a1).length ≤ 140737488355328 then some ⟨(joinB l0 a1).toArray⟩ else none
theorem strings_Join.calls (A0 : Option Addr) (c0 : Nat) (l0 : List ByteArray) (a1 : ByteArray) (r : ByteArray) (w : World) (hr0 : Kd.C Kd.string w A0 l0.length l0) (hc0 : l0.length ≤ c0) (h : strings_Join.f l0 a1 = some r) :
  Calls Tryd.prog 63 #[.slice A0 l0.length c0, .string a1] w fun e w' => e = .returned (.string r) ∧ Below w.heap.size w w' := by
 unfold strings_Join.f at h
 split at h
 ·rename_i hh
  obtain ⟨hn, hj⟩ := hh
  obtain rfl := Option.some.inj h
  cases l0 with
  | nil =>
   refine (sh63_strings_Join_none A0 c0 a1 w).mono fun e w' ⟨he, hw⟩ => ⟨?_, hw ▸ Below.refl _ _⟩
   rw [he]
   rfl
  | cons x xs =>
   obtain ⟨ad, rfl, hcell⟩ := hr0.2.2 (by simp)
   have hat : ∀ j p, (x :: xs)[j]? = some p → w.cell? (ad.add j) = some (.string p) := fun j p hp => by
    obtain ⟨c, hc, hK, hu⟩ := hcell j p hp
    have hK' : c = [.string p] := hK
    subst hK'
    have := hu 0 _ rfl
    have e : j * Kd.string.sz + 0 = j := by show j * 1 + 0 = j; omega
    rw [e] at this
    exact this
   have h0 := hat 0 x rfl
   obtain ⟨bk, o, spot⟩ := ad
   have hs : spot = none := by
    cases spot with
    | none => rfl
    | some s =>
     exfalso
     unfold World.cell? Addr.add at h0
     simp only [if_true] at h0
     split at h0 <;> simp at h0
   subst hs
   have hadd : ∀ j, (⟨bk, o, none⟩ : Addr).add j = ⟨bk, o + j, none⟩ := fun j => by unfold Addr.add; split <;> simp_all
   refine sh63_strings_Join bk o c0 (x :: xs) a1 w (fun j p hp => ?_) (World.block_lt_of_cell? _ _ h0) hn hc0 hj
   rw [← hadd]
   exact hat j p hp
 ·cases h


/-! ### impl_flagsText: function 66 -/
def impl_flagsText.l0 : Nat → Int → List ByteArray → List ByteArray → Int → Int → Option (ByteArray)
 | 0, _, _, _, _, _ => none
 | k + 1, x0, x3, x7, x8, x9 => if x9 < x8 then (if 0 ≤ x9 then (if x9 < (x7.length : Int) then (if (Go.bits .and .i64 (shr .i64 x0 x9) 1) = 1 then (if x3.length < 8796093022208 then (impl_flagsText.l0 k x0 (x3 ++ [rdOf ByteArray.empty x7 x9]) x7 x8 (wrap64 (x9 + 1))) else (none)) else (impl_flagsText.l0 k x0 x3 x7 x8 (wrap64 (x9 + 1)))) else (none)) else (none)) else ((strings_Join.f x3 (⟨#[32]⟩ : ByteArray)).bind fun t111 => (if 1 + t111.size ≤ 9223372036854775807 then (if ((⟨#[40]⟩ : ByteArray) ++ t111).size + 1 ≤ 9223372036854775807 then (some (((⟨#[40]⟩ : ByteArray) ++ t111) ++ (⟨#[41]⟩ : ByteArray))) else (none)) else (none)))
def impl_flagsText.f (k : Nat) (a0 : Int) : Option (ByteArray) := (impl_flagNames.f).bind fun t104 => (impl_flagsText.l0 k a0 (([] : List ByteArray)) t104 (t104.length : Int) 0)
theorem impl_flagsText.mono_l : ∀ k, (∀ y0 y1 y2 y3 y4, LeO (impl_flagsText.l0 k y0 y1 y2 y3 y4) (impl_flagsText.l0 (k + 1) y0 y1 y2 y3 y4))
 | 0 => fun _ _ _ _ _ r h => by simp [impl_flagsText.l0] at h
 | k + 1 => by
  have ih0 := impl_flagsText.mono_l k
  ·intro y0 y1 y2 y3 y4
   unfold impl_flagsText.l0
   repeat' first
   | (with_reducible exact ih0 _ _ _ _ _)
   | (with_reducible exact LeO.refl _)
   | (with_reducible exact LeO.none _)
   | (with_reducible refine LeO.ite ?_ ?_)
   | (with_reducible refine LeO.bind ?_ (fun _ => ?_))
   | exact ih0 _ _ _ _ _
   | exact LeO.none _
   | refine LeO.ite ?_ ?_
   | refine LeO.bind ?_ (fun _ => ?_)
theorem impl_flagsText.mono : ∀ a0 k, LeO (impl_flagsText.f k a0) (impl_flagsText.f (k + 1) a0) := by
 intro a0 k
 have ih0 := impl_flagsText.mono_l k
 unfold impl_flagsText.f
 repeat' first
   | (with_reducible exact ih0 _ _ _ _ _)
   | (with_reducible exact LeO.refl _)
   | (with_reducible exact LeO.none _)
   | (with_reducible refine LeO.ite ?_ ?_)
   | (with_reducible refine LeO.bind ?_ (fun _ => ?_))
   | exact ih0 _ _ _ _ _
   | exact LeO.none _
   | refine LeO.ite ?_ ?_
   | refine LeO.bind ?_ (fun _ => ?_)
set_option maxHeartbeats 8000000 in
set_option maxRecDepth 100000 in
theorem impl_flagsText.calls (k : Nat) (a0 : Int) (r : ByteArray) (w : World) (h : impl_flagsText.f k a0 = some r) :
  Calls Tryd.prog 66 #[.int .i64 a0] w fun e w' => e = .returned (.string r) ∧ Below w.heap.size w w' := by
 have HB := Aside0.mk (Below.refl w.heap.size w)
 have H : ((impl_flagNames.f).bind fun t104 => (impl_flagsText.l0 k a0 (([] : List ByteArray)) t104 (t104.length : Int) 0)) = some r := h
 clear h
 obtain ⟨y101, hy101⟩ : ∃ y_ : List ByteArray, y_ = (([] : List ByteArray)) := ⟨_, rfl⟩
 replace H : ((impl_flagNames.f).bind fun t104 => (impl_flagsText.l0 k a0 y101 t104 (t104.length : Int) 0)) = some r := by first | (rw [hy101]; with_reducible exact H) | (have H2_ := (Option.bind_some _ _).symm.trans H; rw [hy101]; with_reducible exact H2_) | (have H2_ := (Option.bind_some _ _).symm.trans H; with_reducible exact H2_) | with_reducible exact H | (rw [hy101]; exact H) | exact H
 have Ny101 := Aside0.mk hy101
 clear hy101
 replace H := Option.bind_eq_some_iff.mp H
 obtain ⟨t104, A20, H⟩ := H
 replace H : (impl_flagsText.l0 k a0 y101 t104 (t104.length : Int) 0) = some r := H
 have A2 := Aside0.mk A20
 clear A20
 have H' := Aside0.mk H
 clear H
 go_enter Tryd.func66, Tryd.ntmps66
 go_wp2_with (first | ((with_reducible refine gate_dst (N := 6) rfl ?_); refine Kd.R_lit Kd.string _ 9 ?hg (N := 6) ?hd (xs := ([] : List ByteArray)) (inner := []) (ok := fun _ => True) (okp := fun _ => True) ?hr ?hp (fun _ hk => hk) trivial (Below.refl _ _) (Nat.le_refl _) (by simp) ?_; (case hd => rfl); (case hg => rfl); (case hr => first | (go_simp; done) | (go_simp; rfl)); (case hp => exact (Reps.none _ _)); intro v102 w3 ho4 hb hg_ hnew_; clear hg_ hnew_; (first | rw [← Ny101.out] at ho4 | (simp only [Int.reduceToNat] at ho4; rw [← Ny101.out] at ho4)); have n0_ := Aside0.mk (Kd.R_lower ho4 (below_size (by repeat (first | (with_reducible first | exact HB.out | apply below_alloc | apply pw_below_drewN | apply below_drew1) | exact HB.out)))); have n1_ := Aside0.mk (below_step (by repeat (first | (with_reducible first | exact HB.out | apply below_alloc | apply pw_below_drewN | apply below_drew1) | exact HB.out)) hb); clear HB; have HO103 := n0_; have HB := n1_; clear n0_ n1_; clear hb ho4) | ((with_reducible refine gate_callee (f := 52) rfl ?_); refine goesL_ (some 7) rfl rfl Tryd.func52 (by kernel_rfl) rfl #[] rfl (by (try simp only [List.map_toArray, List.map_cons, List.map_nil]); first | done | rfl | (simp only [List.length_drop, List.length_take]; rfl)) ?_; (with_reducible refine (impl_flagNames.calls  t104 _ A2.out).mono ?_); rintro e w5 ⟨v105, rfl, ho0, hb⟩; refine ⟨_, rfl, ?_⟩; have n0_ := Aside0.mk (Kd.R_elder' (by (with_reducible repeat (first | apply Kd.R_alloc | apply Kd.R_drewN | apply Kd.R_drew)); exact HO103.out) (Kd.R_base ho0) hb); have n1_ := Aside0.mk (Kd.R_lower (Kd.R_new' ho0 (Kd.R_lt (by (with_reducible repeat (first | apply Kd.R_alloc | apply Kd.R_drewN | apply Kd.R_drew)); exact HO103.out))) (below_size (by repeat (first | (with_reducible first | exact HB.out | apply below_alloc | apply pw_below_drewN | apply below_drew1) | exact HB.out)))); have n2_ := Aside0.mk (below_step (by repeat (first | (with_reducible first | exact HB.out | apply below_alloc | apply pw_below_drewN | apply below_drew1) | exact HB.out)) hb); clear HO103; clear HB; have HO103 := n0_; have HO106 := n1_; have HB := n2_; clear n0_ n1_ n2_; (try clear hb); (try clear hb2); (try clear hk); (try clear hi); (try clear ho0); obtain ⟨Ao6, co6, eo6⟩ := Kd.R_slice HO106.out; subst eo6))
 go_loopg [3, 9] k (fun kq v3 v9 w' => ∃ (x3_1 : List ByteArray) (x9_1 : Int), v9 = .int .i64 x9_1 ∧ Aside0 (impl_flagsText.l0 kq a0 x3_1 t104 (t104.length : Int) x9_1 = some r) ∧ Aside0 (kq ≤ k) ∧ Aside0 (Kd.R Kd.string 9 w' w.heap.size (fun k_ => some k_ ≠ ((.slice Ao6 t104.length co6) : Value).ownBlock) v3 x3_1) ∧ Aside0 (Kd.R Kd.string 9 w' w.heap.size (fun k_ => some k_ ≠ (v3 : Value).ownBlock) (.slice Ao6 t104.length co6) t104) ∧ Aside0 (Below w.heap.size w w'))
 case atStart => exact ⟨(y101), (0), (by first | rfl | (simp; done) | (simp [*]; done)), H', ⟨Nat.le_refl _⟩, ⟨by (with_reducible repeat (first | apply Kd.R_alloc | apply Kd.R_drewN | apply Kd.R_drew)); exact Kd.R_mono HO103.out (fun _ hk => hk.2)⟩, ⟨by (with_reducible repeat (first | apply Kd.R_alloc | apply Kd.R_drewN | apply Kd.R_drew)); exact Kd.R_mono HO106.out (fun _ hk => hk.2)⟩, ⟨by repeat (first | (with_reducible first | exact HB.out | apply below_alloc | apply pw_below_drewN | apply below_drew1) | exact HB.out)⟩⟩
 case round =>
  clear H'
  try clear p2
  try clear c5
  try clear c6
  obtain ⟨x3_1, x9_1, rfl, HA, HK1, HO_3, HO_7, HB⟩ := hrel
  cases gk with
  | zero => exact absurd HA.out (by simp [impl_flagsText.l0])
  | succ k1 =>
   have H := HA.out
   clear HA
   simp only [impl_flagsText.l0] at H
   by_cases c7 : x9_1 < (t104.length : Int)
   ·rw [if_pos c7] at H
    have c7b0 : decide (x9_1 < (t104.length : Int)) = true := decide_eq_true c7
    clear c7
    by_cases c8 : 0 ≤ x9_1
    ·rw [if_pos c8] at H
     have c8b0 : decide (0 ≤ x9_1) = true := decide_eq_true c8
     clear c8
     by_cases c9 : x9_1 < (t104.length : Int)
     ·rw [if_pos c9] at H
      have c9b0 : decide (x9_1 < (t104.length : Int)) = true := decide_eq_true c9
      clear c9
      have c10b0 := eq_true (of_decide_eq_true (by first | (with_reducible assumption) | assumption) : 0 ≤ x9_1)
      obtain ⟨ji11, hji11⟩ : ∃ j_ : Int, (shr .i64 a0 x9_1) = j_ := ⟨_, rfl⟩
      replace H : (if (Go.bits .and .i64 (ji11) 1) = 1 then (if x3_1.length < 8796093022208 then (impl_flagsText.l0 k1 a0 (x3_1 ++ [rdOf ByteArray.empty t104 x9_1]) t104 (t104.length : Int) (wrap64 (x9_1 + 1))) else (none)) else (impl_flagsText.l0 k1 a0 x3_1 t104 (t104.length : Int) (wrap64 (x9_1 + 1)))) = some r := by first | (rw [hji11] at H; exact H) | (simp only [hji11] at H ⊢; exact H)
      have hji11_ : (a0 / 2 ^ min x9_1.toNat 64) = ji11 := hji11
      have hji11z : x9_1 ≤ 64 → (a0 / 2 ^ x9_1.toNat) = ji11 := shr_small hji11
      by_cases c12 : (Go.bits .and .i64 (ji11) 1) = 1
      ·rw [if_pos c12] at H
       have c12b0 : ((Go.bits .and .i64 (ji11) 1) == 1) = true := beq_iff_eq.mpr c12
       have c12b1 : ((Go.bits .and .i64 (ji11) 1) != 1) = false := bne_eq_false_iff_eq.mpr c12
       clear c12
       by_cases c13 : x3_1.length < 8796093022208
       ·rw [if_pos c13] at H
        have LMc13 := Aside0.mk c13
        clear c13
        obtain ⟨y108, hy108⟩ : ∃ y_ : List ByteArray, y_ = (x3_1 ++ [rdOf ByteArray.empty t104 x9_1]) := ⟨_, rfl⟩
        replace H : (impl_flagsText.l0 k1 a0 y108 t104 (t104.length : Int) (wrap64 (x9_1 + 1))) = some r := by first | (rw [hy108]; with_reducible exact H) | (have H2_ := (Option.bind_some _ _).symm.trans H; rw [hy108]; with_reducible exact H2_) | (have H2_ := (Option.bind_some _ _).symm.trans H; with_reducible exact H2_) | with_reducible exact H | (rw [hy108]; exact H) | exact H
        have Ny108 := Aside0.mk hy108
        clear hy108
        have H' := Aside0.mk H
        clear H
        have p107 : 0 ≤ (x9_1 : Int) := of_decide_eq_true (by first | (with_reducible assumption) | assumption)
        have q107 : x9_1 < (t104.length : Int) := of_decide_eq_true (by first | (with_reducible assumption) | assumption)
        obtain ⟨ad107, e107, hx107_0⟩ := Kd.at_string (Kd.R_reads' HO_7.out).2.2 x9_1 p107 q107
        cases e107
        replace p107 := eq_true p107
        replace q107 := eq_true q107
        go_wp2_with (first | ((with_reducible refine gate_builtin (b := .append) (xs := #[.tmp 19, .tmp 21]) rfl ?_); at_builtin; refine Kd.R_append Kd.string (w0 := w) w.heap.size rfl (.tmp 19) (.tmp 21) 25 9 (.string ⟨#[]⟩) 16 rfl Tryd.underlying25 info9 rfl (by decide) (by omega) u3 x3_1 (rdOf ByteArray.empty t104 x9_1) [.string (rdOf ByteArray.empty t104 x9_1)] (fun k_ => some k_ ≠ (.slice (some ad107) t104.length co6 : Value).ownBlock) (fun _ => False) rfl rfl ?aP (fun _ hk => hk.elim) ?aF ?aO ?aB ?aS ?aL ?_; (case aP => exact rfl); (case aB => exact (by repeat (first | (with_reducible first | exact HB.out | apply below_alloc | apply pw_below_drewN | apply below_drew1) | exact HB.out))); (case aF => exact (fun k_ hk => Kd.fresh' (Kd.R_lt (by (with_reducible repeat (first | apply Kd.R_alloc | apply Kd.R_drewN | apply Kd.R_drew)); exact HO_7.out)) k_ hk)); (case aO => exact (by (with_reducible repeat (first | apply Kd.R_alloc | apply Kd.R_drewN | apply Kd.R_drew)); exact HO_3.out)); (case aS => exact (below_size (by repeat (first | (with_reducible first | exact HB.out | apply below_alloc | apply pw_below_drewN | apply below_drew1) | exact HB.out)))); (case aL => have := LMc13.out; omega); intro v109 w14 ho hb hg hat; rw [← Ny108.out] at ho; have n0_ := Aside0.mk (Kd.R_after (ok := (fun _ => True)) (by (with_reducible repeat (first | apply Kd.R_alloc | apply Kd.R_drewN | apply Kd.R_drew)); exact Kd.R_mono HO_7.out (fun _ hk => ⟨trivial, hk⟩)) hg hat); have n1_ := Aside0.mk (hb); have n2_ := Aside0.mk (ho); clear HO_7; clear HB; clear HO_3; have HO_7 := n0_; have HB := n1_; have HO110 := n2_; clear n0_ n1_ n2_; clear ho hb hg hat))
        go_roundg k1
        case measure => have := HK1.out; omega
        case rel => exact ⟨(y108), (wrap64 (x9_1 + 1)), (by first | rfl | (simp; done) | (simp [*]; done)), H', ⟨by have := HK1.out; omega⟩, ⟨by (with_reducible repeat (first | apply Kd.R_alloc | apply Kd.R_drewN | apply Kd.R_drew)); exact HO110.out⟩, ⟨by (with_reducible repeat (first | apply Kd.R_alloc | apply Kd.R_drewN | apply Kd.R_drew)); exact Kd.R_mono HO_7.out (fun _ hk => hk.2)⟩, ⟨by repeat (first | (with_reducible first | exact HB.out | apply below_alloc | apply pw_below_drewN | apply below_drew1) | exact HB.out)⟩⟩
       ·rw [if_neg c13] at H
        exact absurd H (by simp)
      ·rw [if_neg c12] at H
       have c12b0 : ((Go.bits .and .i64 (ji11) 1) == 1) = false := beq_eq_false_iff_ne.mpr c12
       have c12b1 : ((Go.bits .and .i64 (ji11) 1) != 1) = true := bne_iff_ne.mpr c12
       have H' := Aside0.mk H
       clear H
       have p107 : 0 ≤ (x9_1 : Int) := of_decide_eq_true (by first | (with_reducible assumption) | assumption)
       have q107 : x9_1 < (t104.length : Int) := of_decide_eq_true (by first | (with_reducible assumption) | assumption)
       obtain ⟨ad107, e107, hx107_0⟩ := Kd.at_string (Kd.R_reads' HO_7.out).2.2 x9_1 p107 q107
       cases e107
       replace p107 := eq_true p107
       replace q107 := eq_true q107
       go_wp2
       go_roundg k1
       case measure => have := HK1.out; omega
       case rel => exact ⟨(x3_1), (wrap64 (x9_1 + 1)), (by first | rfl | (simp; done) | (simp [*]; done)), H', ⟨by have := HK1.out; omega⟩, ⟨by (with_reducible repeat (first | apply Kd.R_alloc | apply Kd.R_drewN | apply Kd.R_drew)); exact HO_3.out⟩, ⟨by (with_reducible repeat (first | apply Kd.R_alloc | apply Kd.R_drewN | apply Kd.R_drew)); exact HO_7.out⟩, ⟨by repeat (first | (with_reducible first | exact HB.out | apply below_alloc | apply pw_below_drewN | apply below_drew1) | exact HB.out)⟩⟩
     ·rw [if_neg c9] at H
      exact absurd H (by simp)
    ·rw [if_neg c8] at H
     exact absurd H (by simp)
   ·rw [if_neg c7] at H
    have c7b0 : decide (x9_1 < (t104.length : Int)) = false := decide_eq_false c7
    clear c7
    replace H := Option.bind_eq_some_iff.mp H
    obtain ⟨t111, A150, H⟩ := H
    replace H : (if 1 + t111.size ≤ 9223372036854775807 then (if ((⟨#[40]⟩ : ByteArray) ++ t111).size + 1 ≤ 9223372036854775807 then (some (((⟨#[40]⟩ : ByteArray) ++ t111) ++ (⟨#[41]⟩ : ByteArray))) else (none)) else (none)) = some r := H
    have A15 := Aside0.mk A150
    clear A150
    by_cases c16 : 1 + t111.size ≤ 9223372036854775807
    ·rw [if_pos c16] at H
     have c16b0 := eq_true c16
     have c16b1 : decide (1 + t111.size ≤ 9223372036854775807) = true := decide_eq_true c16
     try have c16b2 : (9223372036854775807 < 1 + t111.size) = False := eq_false (Nat.not_lt.2 c16)
     by_cases c17 : ((⟨#[40]⟩ : ByteArray) ++ t111).size + 1 ≤ 9223372036854775807
     ·rw [if_pos c17] at H
      have c17b0 := eq_true c17
      have c17b1 : decide (((⟨#[40]⟩ : ByteArray) ++ t111).size + 1 ≤ 9223372036854775807) = true := decide_eq_true c17
      try have c17b2 : (9223372036854775807 < ((⟨#[40]⟩ : ByteArray) ++ t111).size + 1) = False := eq_false (Nat.not_lt.2 c17)
      try (have hz_ := c17; have ez_ : ((⟨#[40]⟩ : ByteArray) ++ t111).size + 1 = 1 + t111.size + 1 := (by simp only [ByteArray.size_append] <;> rfl); rw [ez_] at hz_; clear ez_; have c17z0 := eq_false (Nat.not_lt.2 hz_); have c17z1 := eq_true hz_; clear hz_)
      obtain rfl := Option.some.inj H
      obtain ⟨Ao18, co18, eo18⟩ := Kd.R_slice HO_3.out
      subst eo18
      go_wp2_with (first | ((with_reducible refine gate_callee (f := 63) rfl ?_); refine goesL_ (some 25) rfl rfl Tryd.func63 (by kernel_rfl) rfl #[.slice Ao18 x3_1.length co18, .string (⟨#[32]⟩ : ByteArray)] rfl (by (try simp only [List.map_toArray, List.map_cons, List.map_nil]); first | done | rfl | (simp only [List.length_drop, List.length_take]; rfl)) ?_; (with_reducible refine (strings_Join.calls _ _ x3_1 (⟨#[32]⟩ : ByteArray) t111 _ ?side1 ?side2 A15.out).mono ?_); (case side1 => repeat (first | exact (Kd.R_reads' HO_3.out).2.2 | (with_reducible refine Kd.C_alloc ?_ _) | (with_reducible refine Kd.C_drewN ?_ _) | (with_reducible refine Kd.C_drew ?_))); (case side2 => exact (Kd.R_reads' HO_3.out).2.1); rintro e w19 ⟨rfl, hb⟩; refine ⟨_, rfl, ?_⟩; have n0_ := Aside0.mk (Kd.R_below (by (with_reducible repeat (first | apply Kd.R_alloc | apply Kd.R_drewN | apply Kd.R_drew)); exact HO_3.out) hb); have n1_ := Aside0.mk (Kd.R_below (by (with_reducible repeat (first | apply Kd.R_alloc | apply Kd.R_drewN | apply Kd.R_drew)); exact HO_7.out) hb); have n2_ := Aside0.mk (below_step (by repeat (first | (with_reducible first | exact HB.out | apply below_alloc | apply pw_below_drewN | apply below_drew1) | exact HB.out)) hb); clear HO_3; clear HO_7; clear HB; have HO_3 := n0_; have HO_7 := n1_; have HB := n2_; clear n0_ n1_ n2_; (try clear hb); (try clear hb2); (try clear hk); (try clear hi)))
      go_ret
      exact ⟨by first | rfl | (simp [errW_none, errW_some] <;> rfl) | (simp [*, errW_none, errW_some] <;> rfl), by repeat (first | (with_reducible first | exact HB.out | apply below_alloc | apply pw_below_drewN | apply below_drew1) | exact HB.out)⟩
     ·rw [if_neg c17] at H
      exact absurd H (by simp)
    ·rw [if_neg c16] at H
     exact absurd H (by simp)


/-! ### impl_FlagsText: function 26 -/
def impl_FlagsText.f (k : Nat) (a0 : Int) : Option (ByteArray × Int) := (impl_within.f a0 0 31).bind fun t101 => (if t101 = true then ((impl_flagsText.f k a0).bind fun t102 => (some (t102, 0))) else (some ((⟨#[]⟩ : ByteArray), 4)))
theorem impl_FlagsText.mono : ∀ a0 k, LeO (impl_FlagsText.f k a0) (impl_FlagsText.f (k + 1) a0) := by
 intro a0 k
 unfold impl_FlagsText.f
 repeat' first
   | (with_reducible exact impl_flagsText.mono _ _)
   | (with_reducible exact LeO.refl _)
   | (with_reducible exact LeO.none _)
   | (with_reducible refine LeO.ite ?_ ?_)
   | (with_reducible refine LeO.bind ?_ (fun _ => ?_))
   | exact impl_flagsText.mono _ _
   | exact LeO.none _
   | refine LeO.ite ?_ ?_
   | refine LeO.bind ?_ (fun _ => ?_)
set_option maxHeartbeats 8000000 in
set_option maxRecDepth 100000 in
theorem impl_FlagsText.calls (k : Nat) (a0 : Int) (r1 : ByteArray) (r2 : Int) (w : World) (h : impl_FlagsText.f k a0 = some (r1, r2)) :
  Calls Tryd.prog 26 #[.int .i64 a0] w fun e w' => e = .returned (.tuple #[.string r1, .int .i64 r2]) ∧ Below w.heap.size w w' := by
 have HB := Aside0.mk (Below.refl w.heap.size w)
 have H : ((impl_within.f a0 0 31).bind fun t101 => (if t101 = true then ((impl_flagsText.f k a0).bind fun t102 => (some (t102, 0))) else (some ((⟨#[]⟩ : ByteArray), 4)))) = some (r1, r2) := h
 clear h
 replace H := Option.bind_eq_some_iff.mp H
 obtain ⟨t101, A20, H⟩ := H
 replace H : (if t101 = true then ((impl_flagsText.f k a0).bind fun t102 => (some (t102, 0))) else (some ((⟨#[]⟩ : ByteArray), 4))) = some (r1, r2) := H
 have A2 := Aside0.mk A20
 clear A20
 by_cases c3 : t101 = true
 ·subst c3
  have H1 : ((impl_flagsText.f k a0).bind fun t102 => (some (t102, 0))) = some (r1, r2) := by rw [if_pos rfl] at H; exact H
  clear H
  have H := H1
  clear H1
  replace H := Option.bind_eq_some_iff.mp H
  obtain ⟨t102, A40, H⟩ := H
  replace H : (some (t102, 0)) = some (r1, r2) := H
  have A4 := Aside0.mk A40
  clear A40
  simp only [Option.some.injEq, Prod.mk.injEq] at H
  obtain ⟨rfl, rfl⟩ := H
  go_enter Tryd.func26, Tryd.ntmps26
  go_wp2_with (first | ((with_reducible refine gate_callee (f := 65) rfl ?_); refine goesL_ (some 5) rfl rfl Tryd.func65 (by kernel_rfl) rfl #[.int .i64 a0, .int .i64 0, .int .i64 31] rfl (by (try simp only [List.map_toArray, List.map_cons, List.map_nil]); first | done | rfl | (simp only [List.length_drop, List.length_take]; rfl)) ?_; (with_reducible refine (impl_within.calls a0 0 31 true _ A2.out).mono ?_); rintro e w' ⟨rfl, ⟨nd, rfl⟩⟩; refine ⟨_, rfl, ?_⟩) | ((with_reducible refine gate_callee (f := 66) rfl ?_); refine goesL_ (some 8) rfl rfl Tryd.func66 (by kernel_rfl) rfl #[.int .i64 a0] rfl (by (try simp only [List.map_toArray, List.map_cons, List.map_nil]); first | done | rfl | (simp only [List.length_drop, List.length_take]; rfl)) ?_; (with_reducible refine (impl_flagsText.calls k a0 t102 _ A4.out).mono ?_); rintro e w5 ⟨rfl, hb⟩; refine ⟨_, rfl, ?_⟩; have n0_ := Aside0.mk (below_step (by repeat (first | (with_reducible first | exact HB.out | apply below_alloc | apply pw_below_drewN | apply below_drew1) | exact HB.out)) hb); clear HB; have HB := n0_; clear n0_; (try clear hb); (try clear hb2); (try clear hk); (try clear hi)))
  go_ret2
  exact ⟨by first | rfl | (simp [errW_none, errW_some] <;> rfl) | (simp [*, errW_none, errW_some] <;> rfl), by repeat (first | (with_reducible first | exact HB.out | apply below_alloc | apply pw_below_drewN | apply below_drew1) | exact HB.out)⟩
 ·replace c3 := Bool.eq_false_iff.mpr c3
  subst c3
  have H1 : (some ((⟨#[]⟩ : ByteArray), 4)) = some (r1, r2) := by rw [if_neg (show ¬ (false = true) by decide)] at H; exact H
  clear H
  have H := H1
  clear H1
  simp only [Option.some.injEq, Prod.mk.injEq] at H
  obtain ⟨rfl, rfl⟩ := H
  go_enter Tryd.func26, Tryd.ntmps26
  go_wp2_with (first | ((with_reducible refine gate_callee (f := 65) rfl ?_); refine goesL_ (some 5) rfl rfl Tryd.func65 (by kernel_rfl) rfl #[.int .i64 a0, .int .i64 0, .int .i64 31] rfl (by (try simp only [List.map_toArray, List.map_cons, List.map_nil]); first | done | rfl | (simp only [List.length_drop, List.length_take]; rfl)) ?_; (with_reducible refine (impl_within.calls a0 0 31 false _ A2.out).mono ?_); rintro e w' ⟨rfl, ⟨nd, rfl⟩⟩; refine ⟨_, rfl, ?_⟩))
  go_ret2
  exact ⟨by first | rfl | (simp [errW_none, errW_some] <;> rfl) | (simp [*, errW_none, errW_some] <;> rfl), by repeat (first | (with_reducible first | exact HB.out | apply below_alloc | apply pw_below_drewN | apply below_drew1) | exact HB.out)⟩


/-! ### spec_l01In: function 67 -/
def spec_l01In.f (a0 : Int) (a1 : Int) (a2 : Int) : Option (Bool) := if a0 ≥ a1 then (some (decide (a0 ≤ a2))) else (some false)
set_option maxHeartbeats 8000000 in
set_option maxRecDepth 100000 in
theorem spec_l01In.calls (a0 : Int) (a1 : Int) (a2 : Int) (r : Bool) (w : World) (h : spec_l01In.f a0 a1 a2 = some r) :
  Calls Tryd.prog 67 #[.int .i64 a0, .int .i64 a1, .int .i64 a2] w fun e w' => e = .returned (.bool r) ∧ Drawn0 w w' := by
 have H : (if a0 ≥ a1 then (some (decide (a0 ≤ a2))) else (some false)) = some r := h
 clear h
 by_cases c4 : a0 ≥ a1
 ·rw [if_pos c4] at H
  have c4b0 : decide (a1 ≤ a0) = true := decide_eq_true c4
  clear c4
  obtain rfl := Option.some.inj H
  go_enter Tryd.func67, Tryd.ntmps67
  go_wp2
  go_ret
  exact ⟨by first | rfl | (simp; done) | (simp [*]; done), by repeat (first | exact Drawn0.refl _ | apply Drawn0.step)⟩
 ·rw [if_neg c4] at H
  have c4b0 : decide (a1 ≤ a0) = false := decide_eq_false c4
  clear c4
  obtain rfl := Option.some.inj H
  go_enter Tryd.func67, Tryd.ntmps67
  go_wp2
  go_ret
  exact ⟨by first | rfl | (simp; done) | (simp [*]; done), by repeat (first | exact Drawn0.refl _ | apply Drawn0.step)⟩


/-! ### spec_l11FlagNames: function 83 -/
def spec_l11FlagNames.f  : Option (List ByteArray) := some (([(⟨#[92, 83, 101, 101, 110]⟩ : ByteArray), (⟨#[92, 65, 110, 115, 119, 101, 114, 101, 100]⟩ : ByteArray), (⟨#[92, 70, 108, 97, 103, 103, 101, 100]⟩ : ByteArray), (⟨#[92, 68, 101, 108, 101, 116, 101, 100]⟩ : ByteArray), (⟨#[92, 68, 114, 97, 102, 116]⟩ : ByteArray)] : List ByteArray))
set_option maxHeartbeats 8000000 in
set_option maxRecDepth 100000 in
theorem spec_l11FlagNames.calls  (r : List ByteArray) (w : World) (h : spec_l11FlagNames.f  = some r) :
  Calls Tryd.prog 83 #[] w fun e w' => ∃ v0_ : Value, e = .returned (v0_) ∧ Kd.R Kd.string 9 w' w.heap.size (fun _ => True) v0_ r ∧ Below w.heap.size w w' := by
 have HB := Aside0.mk (Below.refl w.heap.size w)
 have H : (some (([(⟨#[92, 83, 101, 101, 110]⟩ : ByteArray), (⟨#[92, 65, 110, 115, 119, 101, 114, 101, 100]⟩ : ByteArray), (⟨#[92, 70, 108, 97, 103, 103, 101, 100]⟩ : ByteArray), (⟨#[92, 68, 101, 108, 101, 116, 101, 100]⟩ : ByteArray), (⟨#[92, 68, 114, 97, 102, 116]⟩ : ByteArray)] : List ByteArray))) = some r := h
 clear h
 obtain ⟨y101, hy101⟩ : ∃ y_ : List ByteArray, y_ = (([(⟨#[92, 83, 101, 101, 110]⟩ : ByteArray), (⟨#[92, 65, 110, 115, 119, 101, 114, 101, 100]⟩ : ByteArray), (⟨#[92, 70, 108, 97, 103, 103, 101, 100]⟩ : ByteArray), (⟨#[92, 68, 101, 108, 101, 116, 101, 100]⟩ : ByteArray), (⟨#[92, 68, 114, 97, 102, 116]⟩ : ByteArray)] : List ByteArray)) := ⟨_, rfl⟩
 replace H : (some y101) = some r := by first | (rw [hy101]; with_reducible exact H) | (have H2_ := (Option.bind_some _ _).symm.trans H; rw [hy101]; with_reducible exact H2_) | (have H2_ := (Option.bind_some _ _).symm.trans H; with_reducible exact H2_) | with_reducible exact H | (rw [hy101]; exact H) | exact H
 have Ny101 := Aside0.mk hy101
 clear hy101
 obtain rfl := Option.some.inj H
 go_enter Tryd.func83, Tryd.ntmps83
 go_wp2_with (first | ((with_reducible refine gate_dst (N := 1) rfl ?_); refine Kd.R_lit Kd.string _ 9 ?hg (N := 1) ?hd (xs := ([(⟨#[92, 83, 101, 101, 110]⟩ : ByteArray), (⟨#[92, 65, 110, 115, 119, 101, 114, 101, 100]⟩ : ByteArray), (⟨#[92, 70, 108, 97, 103, 103, 101, 100]⟩ : ByteArray), (⟨#[92, 68, 101, 108, 101, 116, 101, 100]⟩ : ByteArray), (⟨#[92, 68, 114, 97, 102, 116]⟩ : ByteArray)] : List ByteArray)) (inner := [.string (⟨#[92, 83, 101, 101, 110]⟩ : ByteArray), .string (⟨#[92, 65, 110, 115, 119, 101, 114, 101, 100]⟩ : ByteArray), .string (⟨#[92, 70, 108, 97, 103, 103, 101, 100]⟩ : ByteArray), .string (⟨#[92, 68, 101, 108, 101, 116, 101, 100]⟩ : ByteArray), .string (⟨#[92, 68, 114, 97, 102, 116]⟩ : ByteArray)]) (ok := fun _ => True) (okp := fun _ => True) ?hr ?hp (fun _ hk => hk) trivial (Below.refl _ _) (Nat.le_refl _) (by simp) ?_; (case hd => rfl); (case hg => rfl); (case hr => first | (go_simp; done) | (go_simp; rfl)); (case hp => exact (Reps.one (show Kd.M Kd.string _ _ _ (⟨#[92, 83, 101, 101, 110]⟩ : ByteArray) [.string (⟨#[92, 83, 101, 101, 110]⟩ : ByteArray)] from rfl) (Reps.one (show Kd.M Kd.string _ _ _ (⟨#[92, 65, 110, 115, 119, 101, 114, 101, 100]⟩ : ByteArray) [.string (⟨#[92, 65, 110, 115, 119, 101, 114, 101, 100]⟩ : ByteArray)] from rfl) (Reps.one (show Kd.M Kd.string _ _ _ (⟨#[92, 70, 108, 97, 103, 103, 101, 100]⟩ : ByteArray) [.string (⟨#[92, 70, 108, 97, 103, 103, 101, 100]⟩ : ByteArray)] from rfl) (Reps.one (show Kd.M Kd.string _ _ _ (⟨#[92, 68, 101, 108, 101, 116, 101, 100]⟩ : ByteArray) [.string (⟨#[92, 68, 101, 108, 101, 116, 101, 100]⟩ : ByteArray)] from rfl) (Reps.one (show Kd.M Kd.string _ _ _ (⟨#[92, 68, 114, 97, 102, 116]⟩ : ByteArray) [.string (⟨#[92, 68, 114, 97, 102, 116]⟩ : ByteArray)] from rfl) (Reps.none _ _))))))); intro v102 w1 ho2 hb hg_ hnew_; clear hg_ hnew_; (first | rw [← Ny101.out] at ho2 | (simp only [Int.reduceToNat] at ho2; rw [← Ny101.out] at ho2)); have n0_ := Aside0.mk (Kd.R_lower ho2 (below_size (by repeat (first | (with_reducible first | exact HB.out | apply below_alloc | apply pw_below_drewN | apply below_drew1) | exact HB.out)))); have n1_ := Aside0.mk (below_step (by repeat (first | (with_reducible first | exact HB.out | apply below_alloc | apply pw_below_drewN | apply below_drew1) | exact HB.out)) hb); clear HB; have HO103 := n0_; have HB := n1_; clear n0_ n1_; clear hb ho2))
 go_ret
 exact ⟨_, by first | rfl | (simp [errW_none, errW_some] <;> rfl) | (simp [*, errW_none, errW_some] <;> rfl), by (with_reducible repeat (first | apply Kd.R_alloc | apply Kd.R_drewN | apply Kd.R_drew)); exact HO103.out, by repeat (first | (with_reducible first | exact HB.out | apply below_alloc | apply pw_below_drewN | apply below_drew1) | exact HB.out)⟩


/-! ### spec_l11Flags: function 68 -/
def spec_l11Flags.l0 : Nat → Int → ByteArray → List ByteArray → Int → Option (ByteArray)
 | 0, _, _, _, _ => none
 | k + 1, x0, x3, x4, x5 => if x5 < 5 then (if 0 ≤ (IntKind.u64.wrap (x5)) then (if (Go.bits .and .i64 (shr .i64 x0 (IntKind.u64.wrap (x5))) 1) = 0 then (spec_l11Flags.l0 k x0 x3 x4 (wrap64 (x5 + 1))) else (if x3.toList = ([] : List UInt8) then (if 0 ≤ x5 then (if x5 < (x4.length : Int) then (if x3.size + (rdOf ByteArray.empty x4 x5).size ≤ 9223372036854775807 then (spec_l11Flags.l0 k x0 (x3 ++ (rdOf ByteArray.empty x4 x5)) x4 (wrap64 (x5 + 1))) else (none)) else (none)) else (none)) else (if x3.size + 1 ≤ 9223372036854775807 then (if 0 ≤ x5 then (if x5 < (x4.length : Int) then (if (x3 ++ (⟨#[32]⟩ : ByteArray)).size + (rdOf ByteArray.empty x4 x5).size ≤ 9223372036854775807 then (spec_l11Flags.l0 k x0 ((x3 ++ (⟨#[32]⟩ : ByteArray)) ++ (rdOf ByteArray.empty x4 x5)) x4 (wrap64 (x5 + 1))) else (none)) else (none)) else (none)) else (none)))) else (none)) else (if 1 + x3.size ≤ 9223372036854775807 then (if ((⟨#[40]⟩ : ByteArray) ++ x3).size + 1 ≤ 9223372036854775807 then (some (((⟨#[40]⟩ : ByteArray) ++ x3) ++ (⟨#[41]⟩ : ByteArray))) else (none)) else (none))
def spec_l11Flags.f (k : Nat) (a0 : Int) : Option (ByteArray) := (spec_l11FlagNames.f).bind fun t101 => (spec_l11Flags.l0 k a0 (⟨#[]⟩ : ByteArray) t101 0)
theorem spec_l11Flags.mono_l : ∀ k, (∀ y0 y1 y2 y3, LeO (spec_l11Flags.l0 k y0 y1 y2 y3) (spec_l11Flags.l0 (k + 1) y0 y1 y2 y3))
 | 0 => fun _ _ _ _ r h => by simp [spec_l11Flags.l0] at h
 | k + 1 => by
  have ih0 := spec_l11Flags.mono_l k
  ·intro y0 y1 y2 y3
   unfold spec_l11Flags.l0
   repeat' first
   | (with_reducible exact ih0 _ _ _ _)
   | (with_reducible exact LeO.refl _)
   | (with_reducible exact LeO.none _)
   | (with_reducible refine LeO.ite ?_ ?_)
   | (with_reducible refine LeO.bind ?_ (fun _ => ?_))
   | exact ih0 _ _ _ _
   | exact LeO.none _
   | refine LeO.ite ?_ ?_
   | refine LeO.bind ?_ (fun _ => ?_)
theorem spec_l11Flags.mono : ∀ a0 k, LeO (spec_l11Flags.f k a0) (spec_l11Flags.f (k + 1) a0) := by
 intro a0 k
 have ih0 := spec_l11Flags.mono_l k
 unfold spec_l11Flags.f
 repeat' first
   | (with_reducible exact ih0 _ _ _ _)
   | (with_reducible exact LeO.refl _)
   | (with_reducible exact LeO.none _)
   | (with_reducible refine LeO.ite ?_ ?_)
   | (with_reducible refine LeO.bind ?_ (fun _ => ?_))
   | exact ih0 _ _ _ _
   | exact LeO.none _
   | refine LeO.ite ?_ ?_
   | refine LeO.bind ?_ (fun _ => ?_)
set_option maxHeartbeats 8000000 in
set_option maxRecDepth 100000 in
theorem spec_l11Flags.calls (k : Nat) (a0 : Int) (r : ByteArray) (w : World) (h : spec_l11Flags.f k a0 = some r) :
  Calls Tryd.prog 68 #[.int .i64 a0] w fun e w' => e = .returned (.string r) ∧ Below w.heap.size w w' := by
 have HB := Aside0.mk (Below.refl w.heap.size w)
 have H : ((spec_l11FlagNames.f).bind fun t101 => (spec_l11Flags.l0 k a0 (⟨#[]⟩ : ByteArray) t101 0)) = some r := h
 clear h
 replace H := Option.bind_eq_some_iff.mp H
 obtain ⟨t101, A20, H⟩ := H
 replace H : (spec_l11Flags.l0 k a0 (⟨#[]⟩ : ByteArray) t101 0) = some r := H
 have A2 := Aside0.mk A20
 clear A20
 have H' := Aside0.mk H
 clear H
 go_enter Tryd.func68, Tryd.ntmps68
 go_wp2_with (first | ((with_reducible refine gate_callee (f := 83) rfl ?_); refine goesL_ (some 6) rfl rfl Tryd.func83 (by kernel_rfl) rfl #[] rfl (by (try simp only [List.map_toArray, List.map_cons, List.map_nil]); first | done | rfl | (simp only [List.length_drop, List.length_take]; rfl)) ?_; (with_reducible refine (spec_l11FlagNames.calls  t101 _ A2.out).mono ?_); rintro e w3 ⟨v102, rfl, ho0, hb⟩; refine ⟨_, rfl, ?_⟩; have n0_ := Aside0.mk (Kd.R_lower ho0 (below_size (by repeat (first | (with_reducible first | exact HB.out | apply below_alloc | apply pw_below_drewN | apply below_drew1) | exact HB.out)))); have n1_ := Aside0.mk (below_step (by repeat (first | (with_reducible first | exact HB.out | apply below_alloc | apply pw_below_drewN | apply below_drew1) | exact HB.out)) hb); clear HB; have HO103 := n0_; have HB := n1_; clear n0_ n1_; (try clear hb); (try clear hb2); (try clear hk); (try clear hi); (try clear ho0)))
 go_loopg [3, 5] k (fun kq v3 v5 w' => ∃ (x3_1 : ByteArray) (x5_1 : Int), v3 = .string x3_1 ∧ v5 = .int .i64 x5_1 ∧ Aside0 (spec_l11Flags.l0 kq a0 x3_1 t101 x5_1 = some r) ∧ Aside0 (kq ≤ k) ∧ Aside0 (Kd.R Kd.string 9 w' w.heap.size (fun _ => True) v102 t101) ∧ Aside0 (Below w.heap.size w w'))
 case atStart => exact ⟨((⟨#[]⟩ : ByteArray)), (0), (by first | rfl | (simp; done) | (simp [*]; done)), (by first | rfl | (simp; done) | (simp [*]; done)), H', ⟨Nat.le_refl _⟩, ⟨by (with_reducible repeat (first | apply Kd.R_alloc | apply Kd.R_drewN | apply Kd.R_drew)); exact HO103.out⟩, ⟨by repeat (first | (with_reducible first | exact HB.out | apply below_alloc | apply pw_below_drewN | apply below_drew1) | exact HB.out)⟩⟩
 case round =>
  clear H'
  try clear p2
  obtain ⟨x3_1, x5_1, rfl, rfl, HA, HK1, HO_4, HB⟩ := hrel
  cases gk with
  | zero => exact absurd HA.out (by simp [spec_l11Flags.l0])
  | succ k1 =>
   have H := HA.out
   clear HA
   simp only [spec_l11Flags.l0] at H
   by_cases c4 : x5_1 < 5
   ·rw [if_pos c4] at H
    have c4b0 : decide (x5_1 < 5) = true := decide_eq_true c4
    clear c4
    obtain ⟨ji5, hji5⟩ : ∃ j_ : Int, (IntKind.u64.wrap (x5_1)) = j_ := ⟨_, rfl⟩
    replace H : (if 0 ≤ (ji5) then (if (Go.bits .and .i64 (shr .i64 a0 (ji5)) 1) = 0 then (spec_l11Flags.l0 k1 a0 x3_1 t101 (wrap64 (x5_1 + 1))) else (if x3_1.toList = ([] : List UInt8) then (if 0 ≤ x5_1 then (if x5_1 < (t101.length : Int) then (if x3_1.size + (rdOf ByteArray.empty t101 x5_1).size ≤ 9223372036854775807 then (spec_l11Flags.l0 k1 a0 (x3_1 ++ (rdOf ByteArray.empty t101 x5_1)) t101 (wrap64 (x5_1 + 1))) else (none)) else (none)) else (none)) else (if x3_1.size + 1 ≤ 9223372036854775807 then (if 0 ≤ x5_1 then (if x5_1 < (t101.length : Int) then (if (x3_1 ++ (⟨#[32]⟩ : ByteArray)).size + (rdOf ByteArray.empty t101 x5_1).size ≤ 9223372036854775807 then (spec_l11Flags.l0 k1 a0 ((x3_1 ++ (⟨#[32]⟩ : ByteArray)) ++ (rdOf ByteArray.empty t101 x5_1)) t101 (wrap64 (x5_1 + 1))) else (none)) else (none)) else (none)) else (none)))) else (none)) = some r := by first | (rw [hji5] at H; exact H) | (simp only [hji5] at H ⊢; exact H)
    by_cases c6 : 0 ≤ (ji5)
    ·rw [if_pos c6] at H
     have c6b0 := eq_true c6
     have c6b1 : decide (0 ≤ (ji5)) = true := decide_eq_true c6
     clear c6
     obtain ⟨ji7, hji7⟩ : ∃ j_ : Int, (shr .i64 a0 (ji5)) = j_ := ⟨_, rfl⟩
     replace H : (if (Go.bits .and .i64 (ji7) 1) = 0 then (spec_l11Flags.l0 k1 a0 x3_1 t101 (wrap64 (x5_1 + 1))) else (if x3_1.toList = ([] : List UInt8) then (if 0 ≤ x5_1 then (if x5_1 < (t101.length : Int) then (if x3_1.size + (rdOf ByteArray.empty t101 x5_1).size ≤ 9223372036854775807 then (spec_l11Flags.l0 k1 a0 (x3_1 ++ (rdOf ByteArray.empty t101 x5_1)) t101 (wrap64 (x5_1 + 1))) else (none)) else (none)) else (none)) else (if x3_1.size + 1 ≤ 9223372036854775807 then (if 0 ≤ x5_1 then (if x5_1 < (t101.length : Int) then (if (x3_1 ++ (⟨#[32]⟩ : ByteArray)).size + (rdOf ByteArray.empty t101 x5_1).size ≤ 9223372036854775807 then (spec_l11Flags.l0 k1 a0 ((x3_1 ++ (⟨#[32]⟩ : ByteArray)) ++ (rdOf ByteArray.empty t101 x5_1)) t101 (wrap64 (x5_1 + 1))) else (none)) else (none)) else (none)) else (none)))) = some r := by first | (rw [hji7] at H; exact H) | (simp only [hji7] at H ⊢; exact H)
     have hji7_ : (a0 / 2 ^ min (ji5).toNat 64) = ji7 := hji7
     have hji7z : (ji5) ≤ 64 → (a0 / 2 ^ (ji5).toNat) = ji7 := shr_small hji7
     by_cases c8 : (Go.bits .and .i64 (ji7) 1) = 0
     ·rw [if_pos c8] at H
      have c8b0 : ((Go.bits .and .i64 (ji7) 1) == 0) = true := beq_iff_eq.mpr c8
      have c8b1 : ((Go.bits .and .i64 (ji7) 1) != 0) = false := bne_eq_false_iff_eq.mpr c8
      clear c8
      have H' := Aside0.mk H
      clear H
      go_wp2
      go_roundg k1
      case measure => have := HK1.out; omega
      case rel => exact ⟨(x3_1), (wrap64 (x5_1 + 1)), (by first | rfl | (simp; done) | (simp [*]; done)), (by first | rfl | (simp; done) | (simp [*]; done)), H', ⟨by have := HK1.out; omega⟩, ⟨by (with_reducible repeat (first | apply Kd.R_alloc | apply Kd.R_drewN | apply Kd.R_drew)); exact HO_4.out⟩, ⟨by repeat (first | (with_reducible first | exact HB.out | apply below_alloc | apply pw_below_drewN | apply below_drew1) | exact HB.out)⟩⟩
     ·rw [if_neg c8] at H
      have c8b0 : ((Go.bits .and .i64 (ji7) 1) == 0) = false := beq_eq_false_iff_ne.mpr c8
      have c8b1 : ((Go.bits .and .i64 (ji7) 1) != 0) = true := bne_iff_ne.mpr c8
      by_cases c9 : x3_1.toList = ([] : List UInt8)
      ·rw [if_pos c9] at H
       have c9b0 : (x3_1.toList == ([] : List UInt8)) = true := beq_iff_eq.mpr c9
       have c9b1 : (x3_1.toList != ([] : List UInt8)) = false := bne_eq_false_iff_eq.mpr c9
       clear c9
       by_cases c10 : 0 ≤ x5_1
       ·rw [if_pos c10] at H
        have c10b0 : decide (0 ≤ x5_1) = true := decide_eq_true c10
        clear c10
        by_cases c11 : x5_1 < (t101.length : Int)
        ·rw [if_pos c11] at H
         have c11b0 : decide (x5_1 < (t101.length : Int)) = true := decide_eq_true c11
         clear c11
         by_cases c12 : x3_1.size + (rdOf ByteArray.empty t101 x5_1).size ≤ 9223372036854775807
         ·rw [if_pos c12] at H
          have c12b0 := eq_true c12
          have c12b1 : decide (x3_1.size + (rdOf ByteArray.empty t101 x5_1).size ≤ 9223372036854775807) = true := decide_eq_true c12
          try have c12b2 : (9223372036854775807 < x3_1.size + (rdOf ByteArray.empty t101 x5_1).size) = False := eq_false (Nat.not_lt.2 c12)
          have H' := Aside0.mk H
          clear H
          obtain ⟨Ao13, co13, eo13⟩ := Kd.R_slice HO_4.out
          subst eo13
          have p104 : 0 ≤ (x5_1 : Int) := of_decide_eq_true (by first | (with_reducible assumption) | assumption)
          have q104 : x5_1 < (t101.length : Int) := of_decide_eq_true (by first | (with_reducible assumption) | assumption)
          obtain ⟨ad104, e104, hx104_0⟩ := Kd.at_string (Kd.R_reads' HO_4.out).2.2 x5_1 p104 q104
          cases e104
          replace p104 := eq_true p104
          replace q104 := eq_true q104
          go_wp2
          go_roundg k1
          case measure => have := HK1.out; omega
          case rel => exact ⟨(x3_1 ++ (rdOf ByteArray.empty t101 x5_1)), (wrap64 (x5_1 + 1)), (by first | rfl | (simp; done) | (simp [*]; done)), (by first | rfl | (simp; done) | (simp [*]; done)), H', ⟨by have := HK1.out; omega⟩, ⟨by (with_reducible repeat (first | apply Kd.R_alloc | apply Kd.R_drewN | apply Kd.R_drew)); exact HO_4.out⟩, ⟨by repeat (first | (with_reducible first | exact HB.out | apply below_alloc | apply pw_below_drewN | apply below_drew1) | exact HB.out)⟩⟩
         ·rw [if_neg c12] at H
          exact absurd H (by simp)
        ·rw [if_neg c11] at H
         exact absurd H (by simp)
       ·rw [if_neg c10] at H
        exact absurd H (by simp)
      ·rw [if_neg c9] at H
       have c9b0 : (x3_1.toList == ([] : List UInt8)) = false := beq_eq_false_iff_ne.mpr c9
       have c9b1 : (x3_1.toList != ([] : List UInt8)) = true := bne_iff_ne.mpr c9
       by_cases c14 : x3_1.size + 1 ≤ 9223372036854775807
       ·rw [if_pos c14] at H
        have c14b0 := eq_true c14
        have c14b1 : decide (x3_1.size + 1 ≤ 9223372036854775807) = true := decide_eq_true c14
        try have c14b2 : (9223372036854775807 < x3_1.size + 1) = False := eq_false (Nat.not_lt.2 c14)
        by_cases c15 : 0 ≤ x5_1
        ·rw [if_pos c15] at H
         have c15b0 : decide (0 ≤ x5_1) = true := decide_eq_true c15
         clear c15
         by_cases c16 : x5_1 < (t101.length : Int)
         ·rw [if_pos c16] at H
          have c16b0 : decide (x5_1 < (t101.length : Int)) = true := decide_eq_true c16
          clear c16
          by_cases c17 : (x3_1 ++ (⟨#[32]⟩ : ByteArray)).size + (rdOf ByteArray.empty t101 x5_1).size ≤ 9223372036854775807
          ·rw [if_pos c17] at H
           have c17b0 := eq_true c17
           have c17b1 : decide ((x3_1 ++ (⟨#[32]⟩ : ByteArray)).size + (rdOf ByteArray.empty t101 x5_1).size ≤ 9223372036854775807) = true := decide_eq_true c17
           try have c17b2 : (9223372036854775807 < (x3_1 ++ (⟨#[32]⟩ : ByteArray)).size + (rdOf ByteArray.empty t101 x5_1).size) = False := eq_false (Nat.not_lt.2 c17)
           try (have hz_ := c17; have ez_ : (x3_1 ++ (⟨#[32]⟩ : ByteArray)).size + (rdOf ByteArray.empty t101 x5_1).size = x3_1.size + 1 + (rdOf ByteArray.empty t101 x5_1).size := (by simp only [ByteArray.size_append] <;> rfl); rw [ez_] at hz_; clear ez_; have c17z0 := eq_false (Nat.not_lt.2 hz_); have c17z1 := eq_true hz_; clear hz_)
           have H' := Aside0.mk H
           clear H
           obtain ⟨Ao18, co18, eo18⟩ := Kd.R_slice HO_4.out
           subst eo18
           have p105 : 0 ≤ (x5_1 : Int) := of_decide_eq_true (by first | (with_reducible assumption) | assumption)
           have q105 : x5_1 < (t101.length : Int) := of_decide_eq_true (by first | (with_reducible assumption) | assumption)
           obtain ⟨ad105, e105, hx105_0⟩ := Kd.at_string (Kd.R_reads' HO_4.out).2.2 x5_1 p105 q105
           cases e105
           replace p105 := eq_true p105
           replace q105 := eq_true q105
           go_wp2
           go_roundg k1
           case measure => have := HK1.out; omega
           case rel => exact ⟨((x3_1 ++ (⟨#[32]⟩ : ByteArray)) ++ (rdOf ByteArray.empty t101 x5_1)), (wrap64 (x5_1 + 1)), (by first | rfl | (simp; done) | (simp [*]; done)), (by first | rfl | (simp; done) | (simp [*]; done)), H', ⟨by have := HK1.out; omega⟩, ⟨by (with_reducible repeat (first | apply Kd.R_alloc | apply Kd.R_drewN | apply Kd.R_drew)); exact HO_4.out⟩, ⟨by repeat (first | (with_reducible first | exact HB.out | apply below_alloc | apply pw_below_drewN | apply below_drew1) | exact HB.out)⟩⟩
          ·rw [if_neg c17] at H
           exact absurd H (by simp)
         ·rw [if_neg c16] at H
          exact absurd H (by simp)
        ·rw [if_neg c15] at H
         exact absurd H (by simp)
       ·rw [if_neg c14] at H
        exact absurd H (by simp)
    ·rw [if_neg c6] at H
     exact absurd H (by simp)
   ·rw [if_neg c4] at H
    have c4b0 : decide (x5_1 < 5) = false := decide_eq_false c4
    clear c4
    by_cases c19 : 1 + x3_1.size ≤ 9223372036854775807
    ·rw [if_pos c19] at H
     have c19b0 := eq_true c19
     have c19b1 : decide (1 + x3_1.size ≤ 9223372036854775807) = true := decide_eq_true c19
     try have c19b2 : (9223372036854775807 < 1 + x3_1.size) = False := eq_false (Nat.not_lt.2 c19)
     by_cases c20 : ((⟨#[40]⟩ : ByteArray) ++ x3_1).size + 1 ≤ 9223372036854775807
     ·rw [if_pos c20] at H
      have c20b0 := eq_true c20
      have c20b1 : decide (((⟨#[40]⟩ : ByteArray) ++ x3_1).size + 1 ≤ 9223372036854775807) = true := decide_eq_true c20
      try have c20b2 : (9223372036854775807 < ((⟨#[40]⟩ : ByteArray) ++ x3_1).size + 1) = False := eq_false (Nat.not_lt.2 c20)
      try (have hz_ := c20; have ez_ : ((⟨#[40]⟩ : ByteArray) ++ x3_1).size + 1 = 1 + x3_1.size + 1 := (by simp only [ByteArray.size_append] <;> rfl); rw [ez_] at hz_; clear ez_; have c20z0 := eq_false (Nat.not_lt.2 hz_); have c20z1 := eq_true hz_; clear hz_)
      obtain rfl := Option.some.inj H
      go_wp2
      go_ret
      exact ⟨by first | rfl | (simp [errW_none, errW_some] <;> rfl) | (simp [*, errW_none, errW_some] <;> rfl), by repeat (first | (with_reducible first | exact HB.out | apply below_alloc | apply pw_below_drewN | apply below_drew1) | exact HB.out)⟩
     ·rw [if_neg c20] at H
      exact absurd H (by simp)
    ·rw [if_neg c19] at H
     exact absurd H (by simp)


/-! ### spec_FlagsText: function 27 -/
def spec_FlagsText.f (k : Nat) (a0 : Int) : Option (ByteArray × Int) := (spec_l01In.f a0 0 31).bind fun t101 => (if t101 = true then ((spec_l11Flags.f k a0).bind fun t102 => (some (t102, 0))) else (some ((⟨#[]⟩ : ByteArray), 4)))
theorem spec_FlagsText.mono : ∀ a0 k, LeO (spec_FlagsText.f k a0) (spec_FlagsText.f (k + 1) a0) := by
 intro a0 k
 unfold spec_FlagsText.f
 repeat' first
   | (with_reducible exact spec_l11Flags.mono _ _)
   | (with_reducible exact LeO.refl _)
   | (with_reducible exact LeO.none _)
   | (with_reducible refine LeO.ite ?_ ?_)
   | (with_reducible refine LeO.bind ?_ (fun _ => ?_))
   | exact spec_l11Flags.mono _ _
   | exact LeO.none _
   | refine LeO.ite ?_ ?_
   | refine LeO.bind ?_ (fun _ => ?_)
set_option maxHeartbeats 8000000 in
set_option maxRecDepth 100000 in
theorem spec_FlagsText.calls (k : Nat) (a0 : Int) (r1 : ByteArray) (r2 : Int) (w : World) (h : spec_FlagsText.f k a0 = some (r1, r2)) :
  Calls Tryd.prog 27 #[.int .i64 a0] w fun e w' => e = .returned (.tuple #[.string r1, .int .i64 r2]) ∧ Below w.heap.size w w' := by
 have HB := Aside0.mk (Below.refl w.heap.size w)
 have H : ((spec_l01In.f a0 0 31).bind fun t101 => (if t101 = true then ((spec_l11Flags.f k a0).bind fun t102 => (some (t102, 0))) else (some ((⟨#[]⟩ : ByteArray), 4)))) = some (r1, r2) := h
 clear h
 replace H := Option.bind_eq_some_iff.mp H
 obtain ⟨t101, A20, H⟩ := H
 replace H : (if t101 = true then ((spec_l11Flags.f k a0).bind fun t102 => (some (t102, 0))) else (some ((⟨#[]⟩ : ByteArray), 4))) = some (r1, r2) := H
 have A2 := Aside0.mk A20
 clear A20
 by_cases c3 : t101 = true
 ·subst c3
  have H1 : ((spec_l11Flags.f k a0).bind fun t102 => (some (t102, 0))) = some (r1, r2) := by rw [if_pos rfl] at H; exact H
  clear H
  have H := H1
  clear H1
  replace H := Option.bind_eq_some_iff.mp H
  obtain ⟨t102, A40, H⟩ := H
  replace H : (some (t102, 0)) = some (r1, r2) := H
  have A4 := Aside0.mk A40
  clear A40
  simp only [Option.some.injEq, Prod.mk.injEq] at H
  obtain ⟨rfl, rfl⟩ := H
  go_enter Tryd.func27, Tryd.ntmps27
  go_wp2_with (first | ((with_reducible refine gate_callee (f := 67) rfl ?_); refine goesL_ (some 5) rfl rfl Tryd.func67 (by kernel_rfl) rfl #[.int .i64 a0, .int .i64 0, .int .i64 31] rfl (by (try simp only [List.map_toArray, List.map_cons, List.map_nil]); first | done | rfl | (simp only [List.length_drop, List.length_take]; rfl)) ?_; (with_reducible refine (spec_l01In.calls a0 0 31 true _ A2.out).mono ?_); rintro e w' ⟨rfl, ⟨nd, rfl⟩⟩; refine ⟨_, rfl, ?_⟩) | ((with_reducible refine gate_callee (f := 68) rfl ?_); refine goesL_ (some 8) rfl rfl Tryd.func68 (by kernel_rfl) rfl #[.int .i64 a0] rfl (by (try simp only [List.map_toArray, List.map_cons, List.map_nil]); first | done | rfl | (simp only [List.length_drop, List.length_take]; rfl)) ?_; (with_reducible refine (spec_l11Flags.calls k a0 t102 _ A4.out).mono ?_); rintro e w5 ⟨rfl, hb⟩; refine ⟨_, rfl, ?_⟩; have n0_ := Aside0.mk (below_step (by repeat (first | (with_reducible first | exact HB.out | apply below_alloc | apply pw_below_drewN | apply below_drew1) | exact HB.out)) hb); clear HB; have HB := n0_; clear n0_; (try clear hb); (try clear hb2); (try clear hk); (try clear hi)))
  go_ret2
  exact ⟨by first | rfl | (simp [errW_none, errW_some] <;> rfl) | (simp [*, errW_none, errW_some] <;> rfl), by repeat (first | (with_reducible first | exact HB.out | apply below_alloc | apply pw_below_drewN | apply below_drew1) | exact HB.out)⟩
 ·replace c3 := Bool.eq_false_iff.mpr c3
  subst c3
  have H1 : (some ((⟨#[]⟩ : ByteArray), 4)) = some (r1, r2) := by rw [if_neg (show ¬ (false = true) by decide)] at H; exact H
  clear H
  have H := H1
  clear H1
  simp only [Option.some.injEq, Prod.mk.injEq] at H
  obtain ⟨rfl, rfl⟩ := H
  go_enter Tryd.func27, Tryd.ntmps27
  go_wp2_with (first | ((with_reducible refine gate_callee (f := 67) rfl ?_); refine goesL_ (some 5) rfl rfl Tryd.func67 (by kernel_rfl) rfl #[.int .i64 a0, .int .i64 0, .int .i64 31] rfl (by (try simp only [List.map_toArray, List.map_cons, List.map_nil]); first | done | rfl | (simp only [List.length_drop, List.length_take]; rfl)) ?_; (with_reducible refine (spec_l01In.calls a0 0 31 false _ A2.out).mono ?_); rintro e w' ⟨rfl, ⟨nd, rfl⟩⟩; refine ⟨_, rfl, ?_⟩))
  go_ret2
  exact ⟨by first | rfl | (simp [errW_none, errW_some] <;> rfl) | (simp [*, errW_none, errW_some] <;> rfl), by repeat (first | (with_reducible first | exact HB.out | apply below_alloc | apply pw_below_drewN | apply below_drew1) | exact HB.out)⟩


/-! ### laws_FnFlagTexts: function 6 (a text of mine) -/
/-- A text in great letters. -/
def upS (s : ByteArray) : ByteArray := ⟨(s.data.toList.map upB).toArray⟩
/-- Told where all is as it should be. -/
def laws_FnFlagTexts.f (k : Nat) (l0 : List Int) : Option Bool :=
 if (l0.length : Int) > 1048576 then some true else (laws_at.f l0 0 32).bind fun n => (impl_FlagsText.f k n).bind fun t => (spec_FlagsText.f k n).bind fun u => (impl_ReadFlags.f k t.1).bind fun b => (impl_ReadFlags.f k (upS t.1)).bind fun g => (if t.2 = 0 ∧ t.1 = u.1 ∧ b = (n, 0) ∧ g = (n, 0) ∧ t.1.size ≤ 9223372036854775807 then some true else none)
theorem laws_FnFlagTexts.mono : ∀ a0 k, LeO (laws_FnFlagTexts.f k a0) (laws_FnFlagTexts.f (k + 1) a0) := by
 intro a0 k
 unfold laws_FnFlagTexts.f
 repeat' first
   | (with_reducible exact impl_FlagsText.mono _ _)
   | (with_reducible exact spec_FlagsText.mono _ _)
   | (with_reducible exact impl_ReadFlags.mono _ _)
   | (with_reducible exact LeO.refl _)
   | (with_reducible exact LeO.none _)
   | (with_reducible refine LeO.ite ?_ ?_)
   | (with_reducible refine LeO.bind ?_ (fun _ => ?_))
set_option maxHeartbeats 8000000 in
set_option maxRecDepth 100000 in
theorem laws_FnFlagTexts.calls (k : Nat) (A0 : Option Addr) (c0 : Nat) (l0 : List Int) (r : Bool) (w : World) (hr0 : Kd.C (Kd.int .u8) w A0 l0.length l0) (hc0 : l0.length ≤ c0) (h : laws_FnFlagTexts.f k l0 = some r) :
  Calls Tryd.prog 6 #[.slice A0 l0.length c0] w fun e w' => e = .returned (.bool r) ∧ Below w.heap.size w w' := by
 have HV := Aside0.mk (Below.refl w.heap.size w)
 have HR0 := Aside0.mk hr0
 have HC0 := Aside0.mk hc0
 clear hr0 hc0
 unfold laws_FnFlagTexts.f at h
 by_cases c1 : (l0.length : Int) > 1048576
 ·rw [if_pos c1] at h
  obtain rfl := Option.some.inj h
  have d1 : decide ((l0.length : Int) > 1048576) = true := decide_eq_true c1
  have d2 : (1048576 < l0.length) = True := eq_true (by omega)
  clear c1
  go_enter Tryd.func6, Tryd.ntmps6
  go_wp2
  go_ret
  exact ⟨rfl, (by repeat (first | (with_reducible first | exact HV.out | apply below_alloc | apply pw_below_drewN | apply below_drew1) | exact HV.out))⟩
 ·rw [if_neg c1] at h
  have d1 : decide ((l0.length : Int) > 1048576) = false := decide_eq_false c1
  have d2 : (1048576 < l0.length) = False := eq_false (by omega)
  clear c1
  replace h := Option.bind_eq_some_iff.mp h
  obtain ⟨n, A10, h⟩ := h
  have A1 := Aside0.mk A10
  replace h := Option.bind_eq_some_iff.mp h
  obtain ⟨⟨t, tc⟩, A20, h⟩ := h
  have A2 := Aside0.mk A20
  replace h := Option.bind_eq_some_iff.mp h
  obtain ⟨⟨u, uc⟩, A30, h⟩ := h
  have A3 := Aside0.mk A30
  replace h := Option.bind_eq_some_iff.mp h
  obtain ⟨⟨b1, b2⟩, A40, h⟩ := h
  have A4 := Aside0.mk A40
  replace h := Option.bind_eq_some_iff.mp h
  obtain ⟨⟨g1, g2⟩, A50, h⟩ := h
  have A5 := Aside0.mk A50
  clear A10 A20 A30 A40 A50
  split at h
  ·rename_i hh
   obtain rfl := Option.some.inj h
   obtain ⟨k1, k2, k3, k4, k5⟩ := hh
   simp only [Prod.mk.injEq] at k1 k2 k3 k4 k5
   subst k1; subst k2
   obtain ⟨e3, rfl⟩ := k3
   obtain ⟨e1, rfl⟩ := k4
   replace e3 := e3.symm
   replace e1 := e1.symm
   subst e3
   subst e1
   obtain ⟨l, hl⟩ : ∃ l, l = t.data.toList := ⟨_, rfl⟩
   have HS : Aside0 (l.length = t.size) := ⟨by rw [hl]; simp⟩
   have HE := Aside0.mk hl
   have HN := Aside0.mk k5
   have HU : Aside0 (upS t = ⟨(l.map upB).toArray⟩) := ⟨by rw [hl]; rfl⟩
   clear h k5 hl
   go_enter Tryd.func6, Tryd.ntmps6
   go_wp2_with (first | (go_at_call 25; refine (laws_at.calls A0 c0 l0 0 32 n _ ?sA HC0.out A1.out).mono ?_; (case sA => first | exact HR0.out | exact Kd.C_drewN HR0.out _ | exact Kd.C_drew HR0.out); rintro e w2 ⟨rfl, ⟨nd, rfl⟩⟩) | (go_at_call 26; refine (impl_FlagsText.calls k n t _ _ A2.out).mono ?_; rintro e w1 ⟨rfl, hb⟩; have n0 := Aside0.mk (below_step (by repeat (first | (with_reducible first | exact HV.out | apply below_alloc | apply pw_below_drewN | apply below_drew1) | exact HV.out)) hb); clear HV hb; have HV := n0; clear n0) | (go_at_call 27; refine (spec_FlagsText.calls k n t uc _ A3.out).mono ?_; rintro e w1 ⟨rfl, hb⟩; have n0 := Aside0.mk (below_step (by repeat (first | (with_reducible first | exact HV.out | apply below_alloc | apply pw_below_drewN | apply below_drew1) | exact HV.out)) hb); clear HV hb; have HV := n0; clear n0) | (go_at_call 14; refine (impl_ReadFlags.calls k t _ _ _ A4.out).mono ?_; rintro e w1 ⟨rfl, hb⟩; have n0 := Aside0.mk (below_step (by repeat (first | (with_reducible first | exact HV.out | apply below_alloc | apply pw_below_drewN | apply below_drew1) | exact HV.out)) hb); clear HV hb; have HV := n0; clear n0) | ((with_reducible refine gate_dst (N := 35) rfl ?_); refine Kd.B_conv rfl (N' := 35) rfl 9 38 5 _ rfl t rfl Tryd.underlying9 Tryd.underlying38 Tryd.underlying5 ?_; intro c9 w9 hR hb; rw [← HE.out] at hR; have HR := Aside0.mk hR; have n0 := Aside0.mk (below_step (by repeat (first | (with_reducible first | exact HV.out | apply below_alloc | apply pw_below_drewN | apply below_drew1) | exact HV.out)) hb); have HG := Aside0.mk (below_size (by repeat (first | (with_reducible first | exact HV.out | apply below_alloc | apply pw_below_drewN | apply below_drew1) | exact HV.out))); clear hR hb HV; have HV := n0; clear n0))
   have A6 : Aside0 (impl_ReadFlags.f k ⟨(l.map upB).toArray⟩ = some (n, 0)) := ⟨by rw [← HU.out]; exact A5.out⟩
   clear A1 A2 A3 A4 A5
   go_loopg [11] l.length (fun gg s11 wr => ∃ x : Nat, s11 = .int .i64 (x : Int) ∧ Aside0 (x ≤ l.length ∧ l.length - x ≤ gg) ∧ Aside0 (RowB wr w1.heap.size (midB upB l x)) ∧ Aside0 (Below w.heap.size w wr))
   case atStart => exact ⟨0, rfl, ⟨by omega, by omega⟩, ⟨by rw [midB_zero]; exact HR.out⟩, HV⟩
   case round =>
    obtain ⟨x, rfl, HK, HR2, HB2⟩ := hrel
    clear HV
    have HV := HB2
    by_cases hlt : x < l.length
    ·have hs := HS.out
     have hp : decide ((x : Int) < (t.size : Int)) = true := decide_eq_true (by omega)
     have q0 : ((0 : Int) ≤ (x : Int)) = True := eq_true (by omega)
     have hq : (x < t.size) = True := eq_true (by omega)
     have q1 : ((x : Int) < (t.size : Int)) = True := eq_true (by omega)
     have HW : Aside0 (wrap64 ((x : Int) + 1) = ((x + 1 : Nat) : Int)) := ⟨by have := HN.out; unfold wrap64; omega⟩
     obtain ⟨b, hb⟩ : ∃ b, l[x]? = some b := ⟨_, List.getElem?_eq_getElem hlt⟩
     obtain ⟨hc, hf⟩ := HR2.out.midCell hb
     have HX := Aside0.mk hb
     have H1 := Aside0.mk hlt
     clear hb hlt hs
     by_cases h1 : 97 ≤ b.toNat ∧ b.toNat ≤ 122
     ·have d3 : decide ((b.toNat : Int) ≥ 97) = true := decide_eq_true (by omega)
      have d4 : decide ((b.toNat : Int) ≤ 122) = true := decide_eq_true (by omega)
      have HL := Aside0.mk (upB_hit b h1)
      have HM : Aside0 (IntKind.u8.wrap ((b.toNat : Int) - 32) = (b.toNat : Int) - 32) := ⟨by rw [IntKind.wrap_u8]; omega⟩
      clear h1
      go_wp2
      go_roundg (l.length - (x + 1))
      case measure => have := H1.out; have := HK.out; omega
      case rel =>
       exact ⟨x + 1, (by first | rfl | (rw [HW.out]; done) | (simp [HW.out]; done)), ⟨by have := H1.out; omega, by omega⟩, ⟨HR2.out.midNext HX.out _ (by first | (rw [HM.out, HL.out]; done) | (rw [HL.out]; exact HM.out))⟩, ⟨below_set HB2.out HG.out⟩⟩
     ·by_cases h2 : 97 ≤ b.toNat
      ·have d3 : decide ((b.toNat : Int) ≥ 97) = true := decide_eq_true (by omega)
       have d4 : decide ((b.toNat : Int) ≤ 122) = false := decide_eq_false (by omega)
       have HL := Aside0.mk (upB_miss b h1)
       clear h1 h2
       go_wp2
       go_roundg (l.length - (x + 1))
       case measure => have := H1.out; have := HK.out; omega
       case rel => exact ⟨x + 1, (by first | rfl | (rw [HW.out]; done) | (simp [HW.out]; done)), ⟨by have := H1.out; omega, by omega⟩, ⟨HR2.out.midStay HX.out HL.out⟩, HB2⟩
      ·have d3 : decide ((b.toNat : Int) ≥ 97) = false := decide_eq_false (by omega)
       have HL := Aside0.mk (upB_miss b h1)
       clear h1 h2
       go_wp2
       go_roundg (l.length - (x + 1))
       case measure => have := H1.out; have := HK.out; omega
       case rel => exact ⟨x + 1, (by first | rfl | (rw [HW.out]; done) | (simp [HW.out]; done)), ⟨by have := H1.out; omega, by omega⟩, ⟨HR2.out.midStay HX.out HL.out⟩, HB2⟩
    ·have hp : decide ((x : Int) < (t.size : Int)) = false := decide_eq_false (by have := HS.out; omega)
     have hq : (x < t.size) = False := eq_false (by have := HS.out; omega)
     have hR3 : Aside0 (RowB wr w1.heap.size (l.map upB)) := ⟨by have := HR2.out; rwa [show x = l.length by have := HK.out; omega, midB_all] at this⟩
     clear hlt
     go_wp2_with (first | ((with_reducible refine gate_dst (N := 62) rfl ?_); refine Kd.B_back rfl (N' := 62) rfl 38 9 5 _ rfl w1.heap.size t.size c9 (l.map upB) rfl (by rw [List.length_map]; exact HS.out.symm) hR3.out Tryd.underlying38 Tryd.underlying9 Tryd.underlying5 ?_) | (go_at_call 14; refine (impl_ReadFlags.calls k _ _ _ _ A6.out).mono ?_; rintro e w3 ⟨rfl, hb⟩; have n0 := Aside0.mk (below_step (by repeat (first | (with_reducible first | exact HV.out | apply below_alloc | apply pw_below_drewN | apply below_drew1) | exact HV.out)) hb); clear HV hb; have HV := n0; clear n0))
     go_ret
     exact ⟨rfl, (by repeat (first | (with_reducible first | exact HV.out | apply below_alloc | apply pw_below_drewN | apply below_drew1) | exact HV.out))⟩
  ·cases h

end Go.Proofs.YtcmifdcgmalnlaaDoor.P
namespace Go.Proofs.YtcmifdcgmalnlaaDoor.P
open Go.RowKit Go.ChangeShapes Go.WideShapes Go.Proofs.YtcmifdcgmalnlaaDoorW.PrintWords

end Go.Proofs.YtcmifdcgmalnlaaDoor.P
namespace Go.Proofs.YtcmifdcgmalnlaaDoor.P
open Go.RowKit Go.ChangeShapes Go.WideShapes Go.Proofs.YtcmifdcgmalnlaaDoorW.PrintWords

/-- What is to be proved of the law FnFlagTexts, over numbers and lists alone. -/
def laws_FnFlagTexts.Pure : Prop := ∀ (x0 : List Int), (x0.length ≤ maxLen ∧ x0.length * 1 ≤ 140737488351232 ∧ ∀ y ∈ x0, (Lit.int .u8 y).wf = true) → ∃ k, laws_FnFlagTexts.f k x0 = some true
end Go.Proofs.YtcmifdcgmalnlaaDoor.P
