/- Part 3 of what the law FnText stands on; the last part ends with the law's row. No condition of mine. -/
import Derived.Test.YtcibmjgofebmdaaDoorMFnText1
import Derived.Test.YtcibmjgofebmdaaDoorMFnText2
import Derived.Shelf.Unicode.DecodeAny
import Derived.Shelf.Strings.Builder1
import Derived.Shelf.Utf8.AppendRunePlain
import Derived.Lib.OthersKept
import Derived.Lib.MapLaws
namespace Go.Proofs.YtcibmjgofebmdaaDoor.P
open Go.RowKit Go.Proofs.YtcibmjgofebmdaaDoorW.PrintWords Go.Proofs.YtcibmjgofebmdaaDoorW.PrintLast Go.Proofs.YtcibmjgofebmdaaDoorW.PrintMore
attribute [local go_sem] max2_int min2_int max_two min_two max_three min_three max_four min_four   -- for this text's walks alone
set_option linter.unusedVariables false
set_option linter.unusedSimpArgs false

/-! ### utf8_DecodeRuneInString: function 22 (a text of mine) -/
section
open Go.Shelf
def sh22_lays197_ren : Go.Shelf.Ren := ⟨fun | 197 => 22 | 260 => 36 | n => n, fun | 9 => 9 | 21 => 21 | 3 => 3 | 4 => 4 | 5 => 5 | 105 => 45 | 119 => 57 | 0 => 0 | 46 => 61 | 139 => 60 | 138 => 59 | n => n, fun | 3 => 0 | 4 => 1 | n => n⟩
theorem sh22_lays197 : Go.Proofs.Lays.n197 Tryd.prog sh22_lays197_ren := {
 mixed := by kernel_rfl
 f197 := Tryd.func22.trans (congrArg some qK)
 f260 := Tryd.func36.trans (congrArg some qK)
 t0 := Tryd.underlying0
 a0 := Tryd.isAgg0
 z0 := Tryd.sizeOf0
 v0 := Tryd.zeroValue0
 t3 := Tryd.underlying3
 a3 := Tryd.isAgg3
 z3 := Tryd.sizeOf3
 v3 := Tryd.zeroValue3
 t4 := Tryd.underlying4
 a4 := Tryd.isAgg4
 z4 := Tryd.sizeOf4
 v4 := Tryd.zeroValue4
 t5 := Tryd.underlying5
 a5 := Tryd.isAgg5
 z5 := Tryd.sizeOf5
 v5 := Tryd.zeroValue5
 t9 := Tryd.underlying9
 a9 := Tryd.isAgg9
 z9 := Tryd.sizeOf9
 v9 := Tryd.zeroValue9
 t21 := Tryd.underlying21
 a21 := Tryd.isAgg21
 z21 := Tryd.sizeOf21
 v21 := Tryd.zeroValue21
 t46 := Tryd.underlying61
 a46 := Tryd.isAgg61
 z46 := Tryd.sizeOf61
 v46 := Tryd.zeroValue61
 t105 := Tryd.underlying45
 a105 := Tryd.isAgg45
 z105 := Tryd.sizeOf45
 v105 := Tryd.zeroValue45
 t119 := Tryd.underlying57
 a119 := Tryd.isAgg57
 z119 := Tryd.sizeOf57
 t138 := Tryd.underlying59
 a138 := Tryd.isAgg59
 z138 := Tryd.sizeOf59
 v138 := Tryd.zeroValue59
 t139 := Tryd.underlying60
 a139 := Tryd.isAgg60
 z139 := Tryd.sizeOf60
 v139 := Tryd.zeroValue60
 g3 := by kernel_rfl
 g4 := by kernel_rfl }
open Go.RowKit Go.Lib in
theorem sh22_utf8_DecodeRuneInString (s : ByteArray) (w : World) (hT : Lib.Utf8Tabs 0 1 w) :
  Calls Tryd.prog 22 #[.string s] w fun e w' => e = .returned (.tuple #[.int .i32 (Lib.decodeGo s).1, .int .i64 (Lib.decodeGo s).2]) ∧ Below w.heap.size w w' := Any.utf8_DecodeRuneInString sh22_lays197 s w hT
end
def utf8_DecodeRuneInString.f (a0 : ByteArray) : Option (Int × Int) := some (((Lib.decodeGo a0).1 : Int), ((Lib.decodeGo a0).2 : Int))
theorem utf8_DecodeRuneInString.calls (a0 : ByteArray) (r1 r2 : Int) (w : World) (hGWu : GWu w) (h : utf8_DecodeRuneInString.f a0 = some (r1, r2)) :
  Calls Tryd.prog 22 #[.string a0] w fun e w' => e = .returned (.tuple #[.int .i32 r1, .int .i64 r2]) ∧ Below w.heap.size w w' := by
 unfold utf8_DecodeRuneInString.f at h
 simp only [Option.some.injEq, Prod.mk.injEq] at h
 obtain ⟨rfl, rfl⟩ := h
 exact sh22_utf8_DecodeRuneInString a0 w hGWu


/-! ### strings_Builder_copyCheck: function 37 (a text of mine) -/
/-- All blocks but a builder's own and rows of bytes are as they were. -/
def K5 (b : Nat) (w w' : World) : Prop := ∀ k c t, w.heap[k]? = some (.cells c t (0, 0)) → t ≠ 5 → k ≠ b → w'.heap[k]? = some (.cells c t (0, 0))
theorem lt_of_blk {w : World} {k : Nat} {o : Obj} (h : w.heap[k]? = some o) : k < w.heap.size := by
 rcases Nat.lt_or_ge k w.heap.size with h' | h'
 ·exact h'
 ·rw [Array.getElem?_eq_none h'] at h; cases h
theorem other_own {w : World} {B n : Nat} {v : Value} {xs : List Value} (hown : w.ownsRow B 5 1 v n xs) {k t : Nat} {c : Array Value} (h : w.heap[k]? = some (.cells c t (0, 0))) (ht : t ≠ 5) : some k ≠ v.ownBlock := by
 intro e
 obtain ⟨cells, hc⟩ := own_typed hown k e.symm
 rw [h] at hc
 injection hc with hc
 injection hc with _ hc
 exact ht hc
set_option maxHeartbeats 1000000 in
set_option maxRecDepth 100000 in
theorem bCheck_used (b : Nat) (w : World) (h0 : w.cell? ⟨b, 0, none⟩ = some (.pointer (some ⟨b, 0, none⟩))) :
  Calls Tryd.prog 37 #[.pointer (some ⟨b, 0, none⟩)] w fun e w' => e = .returned (.tuple #[]) ∧ w' = w := by
 obtain ⟨j, hj, _⟩ := Option.map_eq_some_iff.1 (show (Tryd.prog.info? 44).map (·.size) = some 2 by kernel_rfl)
 go_enter Tryd.func37, Tryd.ntmps37
 go_wp2
 rw [Lib.run_neq_ptr_same w _ Tryd.underlying42 hj]
 go_wp2
 go_end0
 exact ⟨rfl, rfl⟩
set_option maxHeartbeats 1000000 in
set_option maxRecDepth 100000 in
theorem bCheck_fresh (b : Nat) (w : World) (h0 : w.cell? ⟨b, 0, none⟩ = some (.pointer none)) (hsh : w.shape? b = some (44, 2)) (hfz : w.frozen? ⟨b, 0, none⟩ = false) :
  Calls Tryd.prog 37 #[.pointer (some ⟨b, 0, none⟩)] w fun e w' => e = .returned (.tuple #[]) ∧ w' = w.setCell ⟨b, 0, none⟩ (.pointer (some ⟨b, 0, none⟩)) := by
 obtain ⟨j, hj, hjs⟩ := Option.map_eq_some_iff.1 (show (Tryd.prog.info? 44).map (·.size) = some 2 by kernel_rfl)
 go_enter Tryd.func37, Tryd.ntmps37
 go_wp2
 rw [Lib.run_to_unsafe w ⟨b, 0, none⟩ Tryd.underlying42 Tryd.underlying68 hj (by rw [hjs]; decide) hsh (Nat.zero_lt_succ 1)]
 simp only [Result.andThen]
 rw [Oper.upon_value]
 go_wp2
 rw [run_callFunc_extern Tryd.func40 qK qK qK (e := Extern.AbiNoEscape.same) qK]
 rw [Lib.run_noEscape]
 simp only [Result.andThen]
 rw [Oper.upon_value]
 go_wp2
 rw [Lib.run_from_unsafe w ⟨b, 0, none⟩ Tryd.underlying68 Tryd.underlying42 hj hsh qK]
 simp only [Result.andThen]
 rw [Oper.upon_value]
 go_wp2
 go_end0
 exact ⟨rfl, rfl⟩
theorem bCheck (B b : Nat) (bs : List Value) (w : World) (h : Lib.IsBuilder 44 5 B b bs w) :
  Calls Tryd.prog 37 #[.pointer (some ⟨b, 0, none⟩)] w fun e w' => e = .returned (.tuple #[]) ∧ (Lib.BuilderAt 44 5 B b (.pointer (some ⟨b, 0, none⟩)) bs w' ∧ Below B w w' ∧ K5 b w w') := by
 rcases h with h | h
 ·refine (bCheck_fresh b w h.cell0 h.shape h.frozen0).mono ?_
  rintro e w' ⟨rfl, rfl⟩
  exact ⟨rfl, h.used _, (Below.refl B w).setCell (p := ⟨b, 0, none⟩) h.1 _, fun k c t hk _ hne => (heap_setCell_other w ⟨b, 0, none⟩ k _ hne).trans hk⟩
 ·refine (bCheck_used b w h.cell0).mono ?_
  rintro e w' ⟨rfl, rfl⟩
  exact ⟨rfl, h, Below.refl B _, fun k c t hk _ _ => hk⟩
theorem bBelow {B b : Nat} {bs : List Value} {w w' : World} (h : Lib.IsBuilder 44 5 B b bs w) (hb : Below w.heap.size w w') : Lib.IsBuilder 44 5 B b bs w' := by
 have go : ∀ p, Lib.BuilderAt 44 5 B b p bs w → Lib.BuilderAt 44 5 B b p bs w' := by
  rintro p ⟨hB, v, hk, hown, hne⟩
  exact ⟨hB, v, (hb.block b (lt_of_blk hk)).trans hk, hown.kept (row := none) ⟨hb.os, hb.tape, hb.output, hb.size, fun k hk _ => hb.block k hk⟩ (Classical.em _), hne⟩
 exact h.imp (go _) (go _)
theorem bNew {B b : Nat} {w : World} (hB : B ≤ b) (hk : w.heap[b]? = some (.cells #[.pointer none, .slice none 0 0] 44 (0, 0))) : Lib.IsBuilder 44 5 B b [] w :=
 .inl ⟨hB, .slice none 0 0, hk, ⟨rfl, .inl ⟨rfl, rfl⟩⟩, by simp [Value.ownBlock]⟩


/-! ### strings_Builder_WriteRune: function 23 (a text of mine) -/
section
open Go.Shelf
def sh23_lays242_ren : Go.Shelf.Ren := ⟨fun | 242 => 19 | 278 => 34 | n => n, fun | 37 => 22 | 21 => 21 | 51 => 63 | 4 => 4 | 5 => 5 | 46 => 61 | n => n, fun | n => n⟩
theorem sh23_lays242 : Go.Proofs.Lays.n242 Tryd.prog sh23_lays242_ren := {
 mixed := by kernel_rfl
 f242 := Tryd.func19.trans (congrArg some qK)
 f278 := Tryd.func34.trans (congrArg some qK)
 t4 := Tryd.underlying4
 a4 := Tryd.isAgg4
 z4 := Tryd.sizeOf4
 v4 := Tryd.zeroValue4
 t5 := Tryd.underlying5
 a5 := Tryd.isAgg5
 z5 := Tryd.sizeOf5
 v5 := Tryd.zeroValue5
 t21 := Tryd.underlying21
 a21 := Tryd.isAgg21
 z21 := Tryd.sizeOf21
 v21 := Tryd.zeroValue21
 t37 := Tryd.underlying22
 a37 := Tryd.isAgg22
 z37 := Tryd.sizeOf22
 v37 := Tryd.zeroValue22
 t46 := Tryd.underlying61
 a46 := Tryd.isAgg61
 z46 := Tryd.sizeOf61
 v46 := Tryd.zeroValue61
 t51 := Tryd.underlying63
 a51 := Tryd.isAgg63
 z51 := Tryd.sizeOf63
 v51 := Tryd.zeroValue63 }
open Go.RowKit in
theorem sh23_utf8_AppendRune_plain (B : Nat) (v : Value) (n : Nat) (xs : List Value) (r : Int) (hr0 : -2147483648 ≤ r) (hr1 : r ≤ 2147483647) (w : World) (hown : w.ownsRow B 5 1 v n xs) (hlen : n + 4 ≤ 140737488355328) (hBw : B ≤ w.heap.size) :
  Calls Tryd.prog 19 #[v, .int .i32 r] w fun e w' => ∃ v', e = .returned v' ∧ w'.ownsRow B 5 1 v' (n + (Lib.runeCells r).length) (xs ++ Lib.runeCells r) ∧ ∃ o, (w.alloc o).grownBy w' v.ownBlock := Any.utf8_AppendRune_plain sh23_lays242 qK B v n xs r hr0 hr1 w hown hlen hBw
end
set_option maxHeartbeats 2000000 in
set_option maxRecDepth 100000 in
theorem bWriteRune (B b : Nat) (bs : List Value) (r : Int) (hr0 : -2147483648 ≤ r) (hr1 : r ≤ 2147483647) (w : World) (h : Lib.IsBuilder 44 5 B b bs w) (hlen : bs.length + 4 ≤ 140737488355328) (hBw : B ≤ w.heap.size) :
  Calls Tryd.prog 23 #[.pointer (some ⟨b, 0, none⟩), .int .i32 r] w fun e w' => e = .returned (.tuple #[.int .i64 (Lib.runeCells r).length, .nilIface]) ∧ (Lib.BuilderAt 44 5 B b (.pointer (some ⟨b, 0, none⟩)) (bs ++ Lib.runeCells r) w' ∧ Below B w w' ∧ K5 b w w') := by
 have hk4 := Lib.runeCells_le r
 go_enter Tryd.func23, Tryd.ntmps23
 go_wp2_with (go_at_call 37; refine (bCheck B b bs _ h).mono ?_)
 rintro e w1 ⟨rfl, h1, hb1, hk1⟩
 obtain ⟨hB, v, hbk, hown, hne⟩ := h1
 obtain ⟨ao, cap, rfl⟩ : ∃ ao cap, v = .slice ao bs.length cap := by
  rcases hown.2 with ⟨hv, h0⟩ | ⟨g, cap, cur, hv, _⟩
  ·exact ⟨none, 0, by rw [hv, h0]⟩
  ·exact ⟨_, _, hv⟩
 have c0 : w1.cell? ⟨b, 0, none⟩ = some (.pointer (some ⟨b, 0, none⟩)) := by rw [Lib.cell_of_heap hbk]; rfl
 have c1 : w1.cell? ⟨b, 1, none⟩ = some (.slice ao bs.length cap) := by rw [Lib.cell_of_heap hbk]; rfl
 go_wp2_with (go_at_call 19; refine (sh23_utf8_AppendRune_plain B _ bs.length bs r hr0 hr1 _ hown hlen (by have := hb1.size; omega)).mono ?_)
 rintro e w2 ⟨v', rfl, hown', o, hgrow⟩
 have hlt : b < w1.heap.size := lt_of_blk hbk
 have hb2 : w2.heap[b]? = some (.cells #[.pointer (some ⟨b, 0, none⟩), .slice ao bs.length cap] 44 (0, 0)) := by
  rw [hgrow.block b (by simp; omega) (fun e => hne e.symm), Lib.alloc_old w1 _ b hlt]
  exact hbk
 have d0 : w2.cell? ⟨b, 0, none⟩ = some (.pointer (some ⟨b, 0, none⟩)) := by rw [Lib.cell_of_heap hb2]; rfl
 have d1 : w2.cell? ⟨b, 1, none⟩ = some (.slice ao bs.length cap) := by rw [Lib.cell_of_heap hb2]; rfl
 have f1 : w2.frozen? ⟨b, 1, none⟩ = false := Lib.frozen_of_heap hb2 1
 obtain ⟨g, cap', rfl⟩ : ∃ g cap', v' = .slice (some ⟨g, 0, none⟩) (bs.length + (Lib.runeCells r).length) cap' := by
  rcases hown'.2 with ⟨_, h0⟩ | ⟨g, cap', cur, hv, _⟩
  ·omega
  ·exact ⟨g, cap', hv⟩
 go_wp2
 go_ret2
 refine ⟨?_, ?_, ?_, ?_⟩
 ·have e : ((bs.length : Int) + ((Lib.runeCells r).length : Int) - (bs.length : Int)) = ((Lib.runeCells r).length : Int) := by omega
  simp [e]
 ·exact Lib.BuilderAt.put (T := 44) (e := 5) hB hb2 (bs' := bs ++ Lib.runeCells r) (by simpa using hown') (by decide)
 ·exact ((hb1.alloc (by have := hb1.size; omega) _).grown hgrow (by have := hb1.size; simp; omega) (fun k hk => (hown.lt k hk).1)).setCell (p := ⟨b, 1, none⟩) hB _
 ·intro k c t hk ht hkb
  have g1 := hk1 k c t hk ht hkb
  have g2 := (Lib.alloc_old w1 o k (lt_of_blk g1)).trans g1
  have g3 := (hgrow.block k (lt_of_blk g2) (other_own hown g1 ht)).trans g2
  exact (heap_setCell_other w2 ⟨b, 1, none⟩ k _ hkb).trans g3


/-! ### strings_Builder_String: function 24 (a text of mine) -/
section
open Go.Shelf
def sh24_lays169_ren : Go.Shelf.Ren := ⟨fun | 169 => 24 | n => n, fun | 70 => 42 | 9 => 9 | 0 => 0 | 72 => 44 | 37 => 22 | 127 => 66 | 3 => 3 | 5 => 5 | n => n, fun | n => n⟩
theorem sh24_lays169 : Go.Proofs.Lays.n169 Tryd.prog sh24_lays169_ren := {
 mixed := by kernel_rfl
 f169 := Tryd.func24.trans (congrArg some qK)
 t0 := Tryd.underlying0
 a0 := Tryd.isAgg0
 z0 := Tryd.sizeOf0
 v0 := Tryd.zeroValue0
 t3 := Tryd.underlying3
 a3 := Tryd.isAgg3
 z3 := Tryd.sizeOf3
 v3 := Tryd.zeroValue3
 t9 := Tryd.underlying9
 a9 := Tryd.isAgg9
 z9 := Tryd.sizeOf9
 v9 := Tryd.zeroValue9
 t37 := Tryd.underlying22
 a37 := Tryd.isAgg22
 z37 := Tryd.sizeOf22
 v37 := Tryd.zeroValue22
 t70 := Tryd.underlying42
 a70 := Tryd.isAgg42
 z70 := Tryd.sizeOf42
 v70 := Tryd.zeroValue42
 t72 := Tryd.underlying44
 a72 := Tryd.isAgg44
 z72 := Tryd.sizeOf44
 v72 := Tryd.zeroValue44
 t127 := Tryd.underlying66
 a127 := Tryd.isAgg66
 z127 := Tryd.sizeOf66
 v127 := Tryd.zeroValue66 }
theorem sh24_Builder_Extra_169 : Builder.Extra Tryd.prog sh24_lays169_ren := {
 sizeBuilder := by kernel_rfl
 liesBuilder := by kernel_rfl
 t5 := Tryd.underlying5
 a5 := Tryd.isAgg5
 z5 := Tryd.sizeOf5
 v5 := Tryd.zeroValue5
 infoByte := by kernel_rfl
 cellsByte := by kernel_rfl
 sizeByte := by kernel_rfl
 neB5 := by decide }
open Go.RowKit in
theorem sh24_Builder_String_any (B b : Nat) (l : List UInt8) (w : World) (h : Lib.IsBuilder 44 5 B b (Lib.byteCells l) w) (hBw : B ≤ w.heap.size) :
  Calls Tryd.prog 24 #[.pointer (some ⟨b, 0, none⟩)] w fun e w' => e = .returned (.string ⟨l.toArray⟩) ∧ Below B w w' := Any.Builder_String_any sh24_lays169 sh24_Builder_Extra_169 B b l w h hBw
end
theorem bString (B b : Nat) (l : List UInt8) (w : World) (h : Lib.IsBuilder 44 5 B b (Lib.byteCells l) w) (hBw : B ≤ w.heap.size) :
  Calls Tryd.prog 24 #[.pointer (some ⟨b, 0, none⟩)] w fun e w' => e = .returned (.string ⟨l.toArray⟩) ∧ Below B w w' := sh24_Builder_String_any B b l w h hBw


/-! ### impl_RunesOf: function 5 (a text of mine) -/
/-- The runes of a text, one by one. -/
def runesGo : Nat → List UInt8 → List Int
 | 0, _ => []
 | n + 1, l => if l = [] then [] else ((Lib.decodeL l).1 : Int) :: runesGo n (l.drop (Lib.decodeL l).2)
theorem runesGo_fuel : ∀ (n m : Nat) (l : List UInt8), l.length ≤ n → l.length ≤ m → runesGo n l = runesGo m l
 | 0, 0, _, _, _ => rfl
 | 0, m + 1, l, hn, _ => by
  have : l = [] := List.eq_nil_of_length_eq_zero (by omega); subst this; rfl
 | n + 1, 0, l, _, hm => by
  have : l = [] := List.eq_nil_of_length_eq_zero (by omega); subst this; rfl
 | n + 1, m + 1, l, hn, hm => by
  by_cases hne : l = []
  ·subst hne
   rfl
  ·have hw := Lib.decodeL_width l
   have hl : 0 < l.length := List.length_pos_iff.2 hne; simp only [runesGo, if_neg hne]; rw [runesGo_fuel n m _ (by rw [List.length_drop]; omega) (by rw [List.length_drop]; omega)]
def runesD (l : List UInt8) : List Int := runesGo l.length l
theorem runesD_nil : runesD [] = [] := rfl
theorem runesD_step (l : List UInt8) (hne : l ≠ []) : runesD l = ((Lib.decodeL l).1 : Int) :: runesD (l.drop (Lib.decodeL l).2) := by
 have hw := Lib.decodeL_width l
 have hl : 0 < l.length := List.length_pos_iff.2 hne
 unfold runesD
 obtain ⟨n, hn⟩ : ∃ n, l.length = n + 1 := ⟨l.length - 1, by omega⟩
 rw [hn]
 simp only [runesGo, if_neg hne]
 rw [runesGo_fuel n _ _ (by rw [List.length_drop]; omega) (Nat.le_refl _)]
def impl_RunesOf.f (a0 : ByteArray) : Option (List Int × Int) := if (a0.size : Int) > 65536 then some ([], 2) else if Lib.validD a0.data.toList = true then some (runesD a0.data.toList, 0) else some ([], 3)
set_option maxHeartbeats 8000000 in
set_option maxRecDepth 100000 in
theorem impl_RunesOf.calls (a0 : ByteArray) (r1 : List Int) (r2 : Int) (w : World) (hGWu : GWu w) (h : impl_RunesOf.f a0 = some (r1, r2)) :
  Calls Tryd.prog 5 #[.string a0] w fun e w' => ∃ v0_ : Value, e = .returned (.tuple #[v0_, .int .i64 r2]) ∧ Kd.R (Kd.int .i64) 3 w' w.heap.size (fun _ => True) v0_ r1 ∧ Below w.heap.size w w' := by
 unfold impl_RunesOf.f at h
 by_cases c1 : (a0.size : Int) > 65536
 ·rw [if_pos c1] at h
  simp only [Option.some.injEq, Prod.mk.injEq] at h; obtain ⟨rfl, rfl⟩ := h; have c2b0 : decide (65536 < (a0.size : Int)) = true := decide_eq_true c1; have c2b1 : decide (65536 < a0.size) = true := decide_eq_true (by omega); clear c1; go_enter Tryd.func5, Tryd.ntmps5
  go_wp2
  go_ret2
  exact ⟨_, rfl, Kd.R_nil _ _ _ _ _, Below.refl _ _⟩
 ·rw [if_neg c1] at h
  have c2b0 : decide (65536 < (a0.size : Int)) = false := decide_eq_false c1; have c2b1 : decide (65536 < a0.size) = false := decide_eq_false (by omega)
  obtain ⟨l, hl⟩ : ∃ l, l = a0.data.toList := ⟨_, rfl⟩
  have HS : Aside0 (l.length = a0.size) := ⟨by rw [hl]; simp⟩; have HZ : Aside0 (a0.size ≤ 65536) := ⟨by omega⟩; clear c1; rw [← hl] at h; by_cases c3 : Lib.validD l = true
  ·rw [if_pos c3] at h
   simp only [Option.some.injEq, Prod.mk.injEq] at h; obtain ⟨rfl, rfl⟩ := h
   have HV : Aside0 (utf8_ValidString.f a0 = some true) := ⟨by
    unfold utf8_ValidString.f
    rw [if_pos (by have := HZ.out; omega), ← hl, c3]⟩
   have HE := Aside0.mk hl; clear c3 hl; go_enter Tryd.func5, Tryd.ntmps5
   go_wp2_with (first | (go_at_call 16; refine (utf8_ValidString.calls a0 true w hGWu HV.out).mono ?_; rintro e w1 ⟨rfl, hb1⟩; have HB := Aside0.mk hb1; clear hb1) | ((with_reducible refine gate_dst (N := 13) rfl ?_); refine Kd.R_lit (Kd.int .i64) _ 3 ?hg (N := 13) ?hd (xs := ([] : List Int)) (inner := []) (ok := fun _ => True) (okp := fun _ => True) ?hr ?hp (fun _ hk => hk) trivial (Below.refl _ _) (Nat.le_refl _) (by simp) ?_; (case hd => rfl); (case hg => rfl); (case hr => first | (go_simp; done) | (go_simp; rfl)); (case hp => exact (Reps.none _ _)); intro v105 w5 ho6 hb hg_ hnew_; clear hg_ hnew_; have HO106 := Aside0.mk (Kd.R_lower ho6 (below_size HB.out)); replace HB := Aside0.mk (below_step HB.out hb); clear hb ho6))
   have HW5 : Aside0 (w.heap.size ≤ w5.heap.size) := ⟨HB.out.size⟩
   obtain ⟨k0, hk0⟩ : ∃ k0, k0 = w5.heap.size := ⟨_, rfl⟩
   rw [← hk0]; have HK0 := Aside0.mk hk0; clear hk0
   go_loopg [4] a0.size (fun gg s4 wr => ∃ (pos : Nat) (acc : List Int), Aside0 (pos ≤ a0.size ∧ a0.size - pos ≤ gg) ∧ Aside0 (acc ++ runesD (l.drop pos) = runesD l ∧ acc.length ≤ pos) ∧ Aside0 (Kd.R (Kd.int .i64) 3 wr w.heap.size (fun _ => True) s4 acc) ∧ Aside0 (wr.heap[k0]? = some (.stringIter a0 pos)) ∧ Aside0 (Below w.heap.size w wr))
   case atStart =>
    refine ⟨0, [], ⟨by omega, by omega⟩, ⟨by simp, by simp⟩, ⟨Kd.R_alloc HO106.out _⟩, ⟨?_⟩, ⟨below_alloc HB.out _⟩⟩; rw [HK0.out]; exact World.iter_heap w5 a0 0
   case round =>
    obtain ⟨pos, acc, HX, HA, HO, HIt, HBr⟩ := hrel; by_cases hp : pos < a0.size
    ·obtain ⟨⟨R, W⟩, hd⟩ : ∃ d, d = Utf8.decode a0 pos := ⟨_, rfl⟩
     have hnx : ∀ ty, (Instr.next (.pointer (some ⟨k0, 0, none⟩)) true ty).run Tryd.prog wr = .ok (.tuple #[.bool true, .int .i64 pos, .int .i32 (R : Int)]) (wr.iterAt k0 a0 (pos + W)) := fun ty => by
      rw [Lib.run_next_any_at wr k0 a0 pos ty HIt.out hp, ← hd]
     have hdl : Lib.decodeL (l.drop pos) = (R, W) := by rw [HE.out, Lib.decodeL_drop, hd]
     have hls := HS.out
     have hne : l.drop pos ≠ [] := fun q => by have := congrArg List.length q; rw [List.length_drop, List.length_nil] at this; omega
     have hW1 := Lib.decodeL_width (l.drop pos); have hW2 := Lib.decodeL_le (l.drop pos) hne; have hR := Lib.decodeL_rune (l.drop pos); have hst := runesD_step (l.drop pos) hne; rw [hdl] at hW1 hW2 hR hst; rw [List.drop_drop] at hst; rw [List.length_drop] at hW2; have HST := Aside0.mk hst; have hR0 : (0 : Int) ≤ (R : Int) := Int.natCast_nonneg R
     have hR1 : (R : Int) ≤ 1114111 := by simp only at hR; omega
     have HW := Aside0.mk (show 1 ≤ W ∧ pos + W ≤ a0.size from ⟨hW1, by simp only at hW2; omega⟩)
     have hO2 : Kd.R (Kd.int .i64) 3 (wr.iterAt k0 a0 (pos + W)) w.heap.size (fun _ => True) u4 acc := Kd.R_mono (Kd.R_step (Kd.R_bound HO.out) (fun k hk _ => Lib.iterAt_other wr k0 k a0 _ (by
      rintro rfl
      obtain ⟨_, _, _, q, _, cells, hc⟩ := hk; rw [HIt.out] at hc
      cases hc))) (fun _ _ => trivial)
     have HO2 := Aside0.mk hO2; have HB2 := Aside0.mk (Lib.below_iterAt HBr.out (k := k0) (by rw [HK0.out]; exact HW5.out) a0 (pos + W))
     have HIt2 := Aside0.mk (Lib.iterAt_heap wr k0 a0 pos (pos + W) HIt.out); clear hd hdl hls hne hW1 hW2 hR hst hO2
     go_wp2_with ((with_reducible refine gate_builtin (b := .append) (xs := #[.tmp 19, .tmp 22]) rfl ?_); at_builtin; refine Kd.R_append (Kd.int .i64) (w0 := w) w.heap.size rfl (.tmp 19) (.tmp 22) 24 3 (.int .i64 0) 8 rfl Tryd.underlying24 info3 rfl (by decide) (by omega) u4 acc (R : Int) [.int .i64 (R : Int)] (fun _ => True) (fun _ => False) rfl rfl ?aP (fun _ hk => hk.elim) ?aF ?aO ?aB ?aS ?aL ?_; (case aP => exact rfl); (case aB => exact HB2.out); (case aF => exact (fun _ _ => trivial)); (case aO => exact HO2.out); (case aS => exact HB2.out.size); (case aL => have := HA.out; have := HX.out; have := HZ.out; omega); intro v111 w11 ho hb hg hat; have HO3 := Aside0.mk ho; have HB3 := Aside0.mk hb; have HG := Aside0.mk hg; clear ho hb hg hat)
     go_roundg (a0.size - (pos + W))
     case measure => have := HX.out; have := HW.out; omega
     case rel =>
      refine ⟨pos + W, acc ++ [(R : Int)], ⟨HW.out.2, Nat.le_refl _⟩, ⟨?_, ?_⟩, HO3, ⟨?_⟩, HB3⟩
      ·rw [List.append_assoc]
       exact (congrArg (acc ++ ·) HST.out.symm).trans HA.out.1
      ·rw [List.length_append]
       have := HA.out.2; have := HW.out.1; simp only [List.length_cons, List.length_nil]
       omega
      ·refine (HG.out.block k0 ?_ ?_).trans HIt2.out
       ·exact (Array.getElem?_eq_some_iff.1 HIt2.out).1
       ·intro he
        obtain ⟨cells, hc⟩ := Kd.R_typed HO2.out k0 he.symm; rw [HIt2.out] at hc; cases hc
    ·have hnx : ∀ ty, (Instr.next (.pointer (some ⟨k0, 0, none⟩)) true ty).run Tryd.prog wr = .ok (.tuple #[.bool false]) wr := fun ty => Lib.run_next_end_at wr k0 a0 pos ty HIt.out hp
     have hac : acc = runesD l := by
      have h1 := HA.out.1; rw [List.drop_eq_nil_of_le (by rw [HS.out]; omega), runesD_nil, List.append_nil] at h1
      exact h1
     have HO4 : Aside0 (Kd.R (Kd.int .i64) 3 wr w.heap.size (fun _ => True) u4 (runesD l)) := ⟨hac ▸ HO.out⟩; clear hac
     go_wp2
     go_ret2
     exact ⟨_, rfl, HO4.out, HBr.out⟩
  ·rw [if_neg c3] at h
   simp only [Option.some.injEq, Prod.mk.injEq] at h; obtain ⟨rfl, rfl⟩ := h
   have HV : Aside0 (utf8_ValidString.f a0 = some false) := ⟨by
    unfold utf8_ValidString.f
    rw [if_pos (by have := HZ.out; omega), ← hl, Bool.eq_false_iff.mpr c3]⟩
   clear c3 hl; go_enter Tryd.func5, Tryd.ntmps5
   go_wp2_with (first | (go_at_call 16; refine (utf8_ValidString.calls a0 false w hGWu HV.out).mono ?_; rintro e w1 ⟨rfl, hb1⟩; have HB := Aside0.mk hb1; clear hb1))
   go_ret2
   exact ⟨_, rfl, Kd.R_nil _ _ _ _ _, HB.out⟩


/-! ### impl_RepairText: function 12 (a text of mine) -/
def repairD (l : List UInt8) : List UInt8 := (runesD l).flatMap Lib.encodeRune
theorem repairD_nil : repairD [] = [] := rfl
theorem repairD_step (l : List UInt8) (hne : l ≠ []) : repairD l = Lib.encodeRune ((Lib.decodeL l).1 : Int) ++ repairD (l.drop (Lib.decodeL l).2) := by
 unfold repairD
 rw [runesD_step l hne, List.flatMap_cons]
def impl_RepairText.f (a0 : ByteArray) : Option (ByteArray × Int) := if (a0.size : Int) > 65536 then some (⟨#[]⟩, 2) else some (⟨(repairD a0.data.toList).toArray⟩, 0)
set_option maxHeartbeats 8000000 in
set_option maxRecDepth 100000 in
theorem impl_RepairText.calls (a0 : ByteArray) (r1 : ByteArray) (r2 : Int) (w : World) (hGWu : GWu w) (h : impl_RepairText.f a0 = some (r1, r2)) :
  Calls Tryd.prog 12 #[.string a0] w fun e w' => e = .returned (.tuple #[.string r1, .int .i64 r2]) ∧ Below w.heap.size w w' := by
 unfold impl_RepairText.f at h
 by_cases c1 : (a0.size : Int) > 65536
 ·rw [if_pos c1] at h
  simp only [Option.some.injEq, Prod.mk.injEq] at h; obtain ⟨rfl, rfl⟩ := h; have c2b0 : decide (65536 < (a0.size : Int)) = true := decide_eq_true c1; have c2b1 : decide (65536 < a0.size) = true := decide_eq_true (by omega); clear c1; go_enter Tryd.func12, Tryd.ntmps12
  go_wp2
  go_ret2
  exact ⟨rfl, Below.refl _ _⟩
 ·rw [if_neg c1] at h
  simp only [Option.some.injEq, Prod.mk.injEq] at h; obtain ⟨rfl, rfl⟩ := h; have c2b0 : decide (65536 < (a0.size : Int)) = false := decide_eq_false c1; have c2b1 : decide (65536 < a0.size) = false := decide_eq_false (by omega); have HZ : Aside0 (a0.size ≤ 65536) := ⟨by omega⟩; clear c1; have huB := Tryd.underlying44; have HG := Aside0.mk hGWu; clear hGWu; go_enter Tryd.func12, Tryd.ntmps12
  go_wp2_with (first | ((with_reducible refine gate_dst (N := 4) rfl ?_); refine box_event ?hg (N := 4) ?hd (cs := #[.pointer none, .slice none 0 0]) (t := 44) ?hr ?_; (case hd => rfl); (case hg => rfl); (case hr => first | (go_simp; done) | (go_simp; rfl)); intro bb hg2 w2 hbox2 hb2; have HB2 := Aside0.mk hb2; have BB := Aside0.mk hbox2; have GB := Aside0.mk ((by rw [hg2]; exact Nat.le_refl _ : w.heap.size ≤ bb)); have k0 : w2.cell? ⟨bb, 0, none⟩ = some (.pointer none) := (blk_cell BB.out 0).trans rfl; have k1 : w2.cell? ⟨bb, 1, none⟩ = some (.slice none 0 0) := (blk_cell BB.out 1).trans rfl; have f0 : w2.frozen? ⟨bb, 0, none⟩ = false := blk_frozen BB.out 0; have f1 : w2.frozen? ⟨bb, 1, none⟩ = false := blk_frozen BB.out 1; clear hb2 hbox2 hg2))
  clear k0 k1 f0 f1
  go_loopg [0] a0.size (fun gg s0 wr => ∃ (x : ByteArray) (acc : List UInt8), s0 = .string x ∧ Aside0 (x.size ≤ gg) ∧ Aside0 (acc ++ repairD x.data.toList = repairD a0.data.toList ∧ acc.length + 4 * x.size ≤ 4 * a0.size) ∧ Aside0 (Lib.IsBuilder 44 5 w.heap.size bb (Lib.byteCells acc) wr) ∧ Aside0 (Below w.heap.size w wr))
  case atStart =>
   refine ⟨a0, [], rfl, ⟨Nat.le_refl _⟩, ⟨rfl, by simp⟩, ⟨bNew GB.out ?_⟩, ⟨?_⟩⟩
   ·refine blk_put (cs := #[.pointer none, .slice none 0 0]) ?_ 1 _ rfl
    refine blk_put (cs := #[.pointer none, .slice none 0 0]) ?_ 0 _ rfl; exact BB.out
   ·refine below_set ?_ GB.out
    refine below_set ?_ GB.out; exact HB2.out
  case round =>
   obtain ⟨x, acc, rfl, HX, HA, HI, HBr⟩ := hrel; by_cases hz : x.size = 0
   ·obtain rfl : x = ⟨#[]⟩ := ByteArray.size_eq_zero_iff.1 hz
    clear hz
    go_wp2_with (go_at_call 24; refine (bString w.heap.size bb acc _ HI.out HBr.out.size).mono ?_; rintro e w3 ⟨rfl, hb3⟩; have HB3 := Aside0.mk hb3; clear hb3)
    go_ret2
    have h1 := HA.out.1; have e1 : repairD [] = [] := rfl; rw [e1, List.append_nil] at h1; subst h1; exact ⟨rfl, HBr.out.trans HB3.out⟩
   ·have hnl : x.toList ≠ [] := fun q => hz (by rw [Lib.toList_data] at q; exact congrArg List.length q)
    have hq1 : x.toList.isEmpty = false := by cases hh : x.toList with
     | nil => exact absurd hh hnl
     | cons a t => rfl
    have hq2 : (!x.toList.isEmpty) = true := by rw [hq1]; rfl
    have hq3 : (x.toList == []) = false := beq_eq_false_iff_ne.mpr hnl; have hq4 : (x.toList != []) = true := bne_iff_ne.mpr hnl; have hq5 : (x.toList = []) = False := eq_false hnl; clear hnl
    obtain ⟨R, W, HD⟩ : ∃ (R W : Nat), Aside0 (Lib.decodeGo x = (R, W)) := ⟨_, _, ⟨rfl⟩⟩
    have hdl : Lib.decodeL x.data.toList = (R, W) := by rw [← HD.out]; unfold Lib.decodeGo Lib.decodeL; rw [if_neg hz]
    have HF : Aside0 (utf8_DecodeRuneInString.f x = some ((R : Int), (W : Int))) := ⟨by unfold utf8_DecodeRuneInString.f; rw [HD.out]⟩; have hls : x.data.toList.length = x.size := rfl
    have hne : x.data.toList ≠ [] := fun q => hz (by rw [← hls, q]; rfl)
    have hW1 := Lib.decodeL_width x.data.toList; have hW2 := Lib.decodeL_le x.data.toList hne; have hR := Lib.decodeL_rune x.data.toList; have hst := repairD_step x.data.toList hne; rw [hdl] at hW1 hW2 hR hst; have HST := Aside0.mk hst; have hR0 : (0 : Int) ≤ (R : Int) := Int.natCast_nonneg R
    have hR1 : (R : Int) ≤ 1114111 := by simp only at hR; omega
    have hw0 : (0 : Int) ≤ (W : Int) := Int.natCast_nonneg W
    have hw2 : W ≤ x.size := by simp only at hW2; omega
    have hw1 : (W : Int) ≤ (x.size : Int) := by omega
    have HW := Aside0.mk (show 1 ≤ W from hW1); have HW2 := Aside0.mk hw2; clear hdl hls hne hW1 hW2 hR hst hz
    go_wp2_with (first | (go_at_call 22; refine (utf8_DecodeRuneInString.calls x (R : Int) (W : Int) wr (GWu.below HG.out HBr.out) HF.out).mono ?_; rintro e w3 ⟨rfl, hb3⟩; have HI3 := Aside0.mk (bBelow HI.out hb3); have HB3 := Aside0.mk (below_step HBr.out hb3); clear hb3) | (go_at_call 23; refine (bWriteRune w.heap.size bb _ (R : Int) (by omega) (by omega) _ HI3.out ?hl ?hz).mono ?_; (case hl => rw [Lib.byteCells_length]; have := HA.out.2; have := HW2.out; have := HZ.out; omega); (case hz => exact HB3.out.size); rintro e w4 ⟨rfl, hBA, hBB, _⟩; have HI4 := Aside0.mk hBA; have HB4 := Aside0.mk (HB3.out.trans hBB); clear hBA hBB))
    go_roundg (x.size - W)
    case measure => have := HX.out; have := HW.out; have := HW2.out; omega
    case rel =>
     refine ⟨_, acc ++ Lib.encodeRune (R : Int), rfl, ⟨?_⟩, ⟨?_, ?_⟩, ⟨?_⟩, HB4⟩
     ·have := HX.out; rw [ByteArray.size_extract]; omega
     ·have e1 : (x.extract W x.size).data.toList = x.data.toList.drop W := by
       rw [ByteArray.data_extract, Array.toList_extract]; simp only [List.extract_eq_take_drop]; exact List.take_of_length_le (by rw [List.length_drop]; exact Nat.le_refl _)
      rw [e1, List.append_assoc, ← HST.out]; exact HA.out.1
     ·have h1 := HA.out.2
      have h2 := Lib.runeCells_le (R : Int); have h3 := HW.out; have h4 := HW2.out; rw [Lib.runeCells_length] at h2; rw [List.length_append, ByteArray.size_extract]
      omega
     ·rw [Lib.byteCells_append, Lib.byteCells_encodeRune]
      exact .inr HI4.out


/-! ### spec_l01Rune: function 17 -/
mutual
def spec_l01Rune.j0 : Nat → ByteArray → Int → Int → Int → Option (Int × Int × Bool)
 | 0, _, _, _, _ => none
 | k + 1, x0, x1, x8, x9 => if (wrap64 (x1 + x8)) > (x0.size : Int) then (some (0, 1, false)) else (spec_l01Rune.l0 k x0 x1 x8 x9 1)
def spec_l01Rune.l0 : Nat → ByteArray → Int → Int → Int → Int → Option (Int × Int × Bool)
 | 0, _, _, _, _, _ => none
 | k + 1, x0, x1, x8, x9, x10 => if x10 < x8 then (if 0 ≤ (wrap64 (x1 + x10)) then (if (wrap64 (x1 + x10)) < (x0.size : Int) then ((spec_l01In.f (wrap64 (bt x0 (wrap64 (x1 + x10)))) 128 191).bind fun t104 => (if t104 = true then (spec_l01Rune.l0 k x0 x1 x8 (wrap64 ((wrap64 ((wrap64 (x9 * 64)) + (wrap64 (bt x0 (wrap64 (x1 + x10)))))) - 128)) (wrap64 (x10 + 1))) else (some (0, 1, false)))) else (none)) else (none)) else ((spec_RuneSize.f x9).bind fun t105 => (if t105 = x8 then (some (x9, x8, true)) else (some (0, 1, false))))
end
def spec_l01Rune.f (k : Nat) (a0 : ByteArray) (a1 : Int) : Option (Int × Int × Bool) := if 0 ≤ a1 then (if a1 < (a0.size : Int) then (if (wrap64 (bt a0 a1)) < 128 then (some (wrap64 (bt a0 a1), 1, true)) else ((spec_l01In.f (wrap64 (bt a0 a1)) 194 223).bind fun t101 => (if t101 = true then (spec_l01Rune.j0 k a0 a1 2 (wrap64 ((wrap64 (bt a0 a1)) - 192))) else ((spec_l01In.f (wrap64 (bt a0 a1)) 224 239).bind fun t102 => (if t102 = true then (spec_l01Rune.j0 k a0 a1 3 (wrap64 ((wrap64 (bt a0 a1)) - 224))) else ((spec_l01In.f (wrap64 (bt a0 a1)) 240 244).bind fun t103 => (if t103 = true then (spec_l01Rune.j0 k a0 a1 4 (wrap64 ((wrap64 (bt a0 a1)) - 240))) else (some (0, 1, false))))))))) else (none)) else (none)
theorem spec_l01Rune.mono_l : ∀ k, (∀ y0 y1 y2 y3, LeO (spec_l01Rune.j0 k y0 y1 y2 y3) (spec_l01Rune.j0 (k + 1) y0 y1 y2 y3)) ∧ (∀ y0 y1 y2 y3 y4, LeO (spec_l01Rune.l0 k y0 y1 y2 y3 y4) (spec_l01Rune.l0 (k + 1) y0 y1 y2 y3 y4))
 | 0 => ⟨fun _ _ _ _ r h => by simp [spec_l01Rune.j0] at h, fun _ _ _ _ _ r h => by simp [spec_l01Rune.l0] at h⟩
 | k + 1 => by
  obtain ⟨ih0, ih1⟩ := spec_l01Rune.mono_l k; refine ⟨?_, ?_⟩
  ·intro y0 y1 y2 y3
   unfold spec_l01Rune.j0
   repeat' first
   | (with_reducible exact ih0 _ _ _ _)
   | (with_reducible exact ih1 _ _ _ _ _)
   | (with_reducible exact LeO.refl _)
   | (with_reducible exact LeO.none _)
   | (with_reducible refine LeO.ite ?_ ?_)
   | (with_reducible refine LeO.bind ?_ (fun _ => ?_))
   | exact ih0 _ _ _ _
   | exact ih1 _ _ _ _ _
   | exact LeO.none _
   | refine LeO.ite ?_ ?_
   | refine LeO.bind ?_ (fun _ => ?_)
  ·intro y0 y1 y2 y3 y4
   unfold spec_l01Rune.l0
   repeat' first
   | (with_reducible exact ih0 _ _ _ _)
   | (with_reducible exact ih1 _ _ _ _ _)
   | (with_reducible exact LeO.refl _)
   | (with_reducible exact LeO.none _)
   | (with_reducible refine LeO.ite ?_ ?_)
   | (with_reducible refine LeO.bind ?_ (fun _ => ?_))
   | exact ih0 _ _ _ _
   | exact ih1 _ _ _ _ _
   | exact LeO.none _
   | refine LeO.ite ?_ ?_
   | refine LeO.bind ?_ (fun _ => ?_)
theorem spec_l01Rune.mono : ∀ a0 a1 k, LeO (spec_l01Rune.f k a0 a1) (spec_l01Rune.f (k + 1) a0 a1) := by
 intro a0 a1 k
 obtain ⟨ih0, ih1⟩ := spec_l01Rune.mono_l k
 unfold spec_l01Rune.f
 repeat' first
   | (with_reducible exact ih0 _ _ _ _)
   | (with_reducible exact ih1 _ _ _ _ _)
   | (with_reducible exact LeO.refl _)
   | (with_reducible exact LeO.none _)
   | (with_reducible refine LeO.ite ?_ ?_)
   | (with_reducible refine LeO.bind ?_ (fun _ => ?_))
   | exact ih0 _ _ _ _
   | exact ih1 _ _ _ _ _
   | exact LeO.none _
   | refine LeO.ite ?_ ?_
   | refine LeO.bind ?_ (fun _ => ?_)
set_option maxHeartbeats 8000000 in
set_option maxRecDepth 100000 in
theorem spec_l01Rune.calls (k : Nat) (a0 : ByteArray) (a1 : Int) (r1 : Int) (r2 : Int) (r3 : Bool) (w : World) (h : spec_l01Rune.f k a0 a1 = some (r1, r2, r3)) :
  Calls Tryd.prog 17 #[.string a0, .int .i64 a1] w fun e w' => e = .returned (.tuple #[.int .i64 r1, .int .i64 r2, .bool r3]) ∧ Drawn0 w w' := by
 have H : (if 0 ≤ a1 then (if a1 < (a0.size : Int) then (if (wrap64 (bt a0 a1)) < 128 then (some (wrap64 (bt a0 a1), 1, true)) else ((spec_l01In.f (wrap64 (bt a0 a1)) 194 223).bind fun t101 => (if t101 = true then (spec_l01Rune.j0 k a0 a1 2 (wrap64 ((wrap64 (bt a0 a1)) - 192))) else ((spec_l01In.f (wrap64 (bt a0 a1)) 224 239).bind fun t102 => (if t102 = true then (spec_l01Rune.j0 k a0 a1 3 (wrap64 ((wrap64 (bt a0 a1)) - 224))) else ((spec_l01In.f (wrap64 (bt a0 a1)) 240 244).bind fun t103 => (if t103 = true then (spec_l01Rune.j0 k a0 a1 4 (wrap64 ((wrap64 (bt a0 a1)) - 240))) else (some (0, 1, false))))))))) else (none)) else (none)) = some (r1, r2, r3) := h
 clear h
 by_cases c3 : 0 ≤ a1
 ·rw [if_pos c3] at H
  have c3b0 : decide (0 ≤ a1) = true := decide_eq_true c3; clear c3; by_cases c4 : a1 < (a0.size : Int)
  ·rw [if_pos c4] at H
   have c4b0 : decide (a1 < (a0.size : Int)) = true := decide_eq_true c4; clear c4; have HC6 := Aside0.mk H; clear H; have p5 : 0 ≤ (a1 : Int) := qd_; have q5 : a1 < (a0.size : Int) := qd_; have hx5 := bt_at a0 a1; replace p5 := eq_true p5; replace q5 := eq_true q5; go_enter Tryd.func17, Tryd.ntmps17
   go_upto_block 0 with (fail)
   go_cut [8, 9] (fun v8 v9 wc => ∃ (kq : Nat) (x8_5 : Int) (x9_5 : Int), v8 = .int .i64 x8_5 ∧ v9 = .int .i64 x9_5 ∧ Aside0 (spec_l01Rune.j0 kq a0 a1 x8_5 x9_5 = some (r1, r2, r3)) ∧ Aside0 (kq ≤ k) ∧ Drawn0 w wc)
   case first =>
    have H := HC6.out; clear HC6; by_cases c7 : (wrap64 (bt a0 a1)) < 128
    ·rw [if_pos c7] at H
     have c7b0 : decide ((wrap64 (bt a0 a1)) < 128) = true := decide_eq_true c7; clear c7
     (first | rw [c7b0] | (simp only [i64_w, i32_w]; rw [c7b0]) | skip)
     simp only [Option.some.injEq, Prod.mk.injEq] at H; obtain ⟨rfl, rfl, rfl⟩ := H
     go_wp2
     go_ret3
     exact ⟨by first | rfl | (simp; done) | (simp [*]; done), by repeat (first | exact Drawn0.refl _ | apply Drawn0.step)⟩
    ·rw [if_neg c7] at H
     have c7b0 : decide ((wrap64 (bt a0 a1)) < 128) = false := decide_eq_false c7; clear c7
     (first | rw [c7b0] | (simp only [i64_w, i32_w]; rw [c7b0]) | skip)
     replace H := Option.bind_eq_some_iff.mp H; obtain ⟨t101, A80, H⟩ := H; have A8 := Aside0.mk A80; clear A80; by_cases c9 : t101 = true
     ·subst c9
      have H1 : (spec_l01Rune.j0 k a0 a1 2 (wrap64 ((wrap64 (bt a0 a1)) - 192))) = some (r1, r2, r3) := by rw [if_pos rfl] at H; exact H
      clear H; have H := H1; clear H1; have H' := Aside0.mk H; clear H
      go_wp2_with (first | ((with_reducible refine gate_callee (f := 31) rfl ?_); refine goesL_ (some 22) rfl rfl Tryd.func31 qK rfl #[.int .i64 (wrap64 (bt a0 a1)), .int .i64 194, .int .i64 223] rfl qll_ ?_; (with_reducible refine (spec_l01In.calls (wrap64 (bt a0 a1)) 194 223 true _ A8.out).mono ?_); rintro e w' ⟨rfl, ⟨nd, rfl⟩⟩; refine ⟨_, rfl, ?_⟩))
      go_meet
      case rel => exact ⟨_, (2), (wrap64 ((wrap64 (bt a0 a1)) - 192)), qff_, qff_, H', ⟨by first | omega | exact Nat.le_refl _⟩, by repeat (first | exact Drawn0.refl _ | apply Drawn0.step)⟩
     ·replace c9 := Bool.eq_false_iff.mpr c9
      subst c9
      have H1 : ((spec_l01In.f (wrap64 (bt a0 a1)) 224 239).bind fun t102 => (if t102 = true then (spec_l01Rune.j0 k a0 a1 3 (wrap64 ((wrap64 (bt a0 a1)) - 224))) else ((spec_l01In.f (wrap64 (bt a0 a1)) 240 244).bind fun t103 => (if t103 = true then (spec_l01Rune.j0 k a0 a1 4 (wrap64 ((wrap64 (bt a0 a1)) - 240))) else (some (0, 1, false)))))) = some (r1, r2, r3) := by rw [if_neg (show ¬ (false = true) by decide)] at H; exact H
      clear H; have H := H1; clear H1; replace H := Option.bind_eq_some_iff.mp H; obtain ⟨t102, A100, H⟩ := H; have A10 := Aside0.mk A100; clear A100; by_cases c11 : t102 = true
      ·subst c11
       have H1 : (spec_l01Rune.j0 k a0 a1 3 (wrap64 ((wrap64 (bt a0 a1)) - 224))) = some (r1, r2, r3) := by rw [if_pos rfl] at H; exact H
       clear H; have H := H1; clear H1; have H' := Aside0.mk H; clear H
       go_wp2_with (first | ((with_reducible refine gate_callee (f := 31) rfl ?_); refine goesL_ (some 22) rfl rfl Tryd.func31 qK rfl #[.int .i64 (wrap64 (bt a0 a1)), .int .i64 194, .int .i64 223] rfl qll_ ?_; (with_reducible refine (spec_l01In.calls (wrap64 (bt a0 a1)) 194 223 false _ A8.out).mono ?_); rintro e w' ⟨rfl, ⟨nd, rfl⟩⟩; refine ⟨_, rfl, ?_⟩) | ((with_reducible refine gate_callee (f := 31) rfl ?_); refine goesL_ (some 27) rfl rfl Tryd.func31 qK rfl #[.int .i64 (wrap64 (bt a0 a1)), .int .i64 224, .int .i64 239] rfl qll_ ?_; (with_reducible refine (spec_l01In.calls (wrap64 (bt a0 a1)) 224 239 true _ A10.out).mono ?_); rintro e w' ⟨rfl, ⟨nd, rfl⟩⟩; refine ⟨_, rfl, ?_⟩))
       go_meet
       case rel => exact ⟨_, (3), (wrap64 ((wrap64 (bt a0 a1)) - 224)), qff_, qff_, H', ⟨by first | omega | exact Nat.le_refl _⟩, by repeat (first | exact Drawn0.refl _ | apply Drawn0.step)⟩
      ·replace c11 := Bool.eq_false_iff.mpr c11
       subst c11
       have H1 : ((spec_l01In.f (wrap64 (bt a0 a1)) 240 244).bind fun t103 => (if t103 = true then (spec_l01Rune.j0 k a0 a1 4 (wrap64 ((wrap64 (bt a0 a1)) - 240))) else (some (0, 1, false)))) = some (r1, r2, r3) := by rw [if_neg (show ¬ (false = true) by decide)] at H; exact H
       clear H; have H := H1; clear H1; replace H := Option.bind_eq_some_iff.mp H; obtain ⟨t103, A120, H⟩ := H; have A12 := Aside0.mk A120; clear A120; by_cases c13 : t103 = true
       ·subst c13
        have H1 : (spec_l01Rune.j0 k a0 a1 4 (wrap64 ((wrap64 (bt a0 a1)) - 240))) = some (r1, r2, r3) := by rw [if_pos rfl] at H; exact H
        clear H; have H := H1; clear H1; have H' := Aside0.mk H; clear H
        go_wp2_with (first | ((with_reducible refine gate_callee (f := 31) rfl ?_); refine goesL_ (some 22) rfl rfl Tryd.func31 qK rfl #[.int .i64 (wrap64 (bt a0 a1)), .int .i64 194, .int .i64 223] rfl qll_ ?_; (with_reducible refine (spec_l01In.calls (wrap64 (bt a0 a1)) 194 223 false _ A8.out).mono ?_); rintro e w' ⟨rfl, ⟨nd, rfl⟩⟩; refine ⟨_, rfl, ?_⟩) | ((with_reducible refine gate_callee (f := 31) rfl ?_); refine goesL_ (some 27) rfl rfl Tryd.func31 qK rfl #[.int .i64 (wrap64 (bt a0 a1)), .int .i64 224, .int .i64 239] rfl qll_ ?_; (with_reducible refine (spec_l01In.calls (wrap64 (bt a0 a1)) 224 239 false _ A10.out).mono ?_); rintro e w' ⟨rfl, ⟨nd, rfl⟩⟩; refine ⟨_, rfl, ?_⟩) | ((with_reducible refine gate_callee (f := 31) rfl ?_); refine goesL_ (some 32) rfl rfl Tryd.func31 qK rfl #[.int .i64 (wrap64 (bt a0 a1)), .int .i64 240, .int .i64 244] rfl qll_ ?_; (with_reducible refine (spec_l01In.calls (wrap64 (bt a0 a1)) 240 244 true _ A12.out).mono ?_); rintro e w' ⟨rfl, ⟨nd, rfl⟩⟩; refine ⟨_, rfl, ?_⟩))
        go_meet
        case rel => exact ⟨_, (4), (wrap64 ((wrap64 (bt a0 a1)) - 240)), qff_, qff_, H', ⟨by first | omega | exact Nat.le_refl _⟩, by repeat (first | exact Drawn0.refl _ | apply Drawn0.step)⟩
       ·replace c13 := Bool.eq_false_iff.mpr c13
        subst c13
        have H1 : (some (0, 1, false)) = some (r1, r2, r3) := by rw [if_neg (show ¬ (false = true) by decide)] at H; exact H
        clear H; have H := H1; clear H1; simp only [Option.some.injEq, Prod.mk.injEq] at H; obtain ⟨rfl, rfl, rfl⟩ := H
        go_wp2_with (first | ((with_reducible refine gate_callee (f := 31) rfl ?_); refine goesL_ (some 22) rfl rfl Tryd.func31 qK rfl #[.int .i64 (wrap64 (bt a0 a1)), .int .i64 194, .int .i64 223] rfl qll_ ?_; (with_reducible refine (spec_l01In.calls (wrap64 (bt a0 a1)) 194 223 false _ A8.out).mono ?_); rintro e w' ⟨rfl, ⟨nd, rfl⟩⟩; refine ⟨_, rfl, ?_⟩) | ((with_reducible refine gate_callee (f := 31) rfl ?_); refine goesL_ (some 27) rfl rfl Tryd.func31 qK rfl #[.int .i64 (wrap64 (bt a0 a1)), .int .i64 224, .int .i64 239] rfl qll_ ?_; (with_reducible refine (spec_l01In.calls (wrap64 (bt a0 a1)) 224 239 false _ A10.out).mono ?_); rintro e w' ⟨rfl, ⟨nd, rfl⟩⟩; refine ⟨_, rfl, ?_⟩) | ((with_reducible refine gate_callee (f := 31) rfl ?_); refine goesL_ (some 32) rfl rfl Tryd.func31 qK rfl #[.int .i64 (wrap64 (bt a0 a1)), .int .i64 240, .int .i64 244] rfl qll_ ?_; (with_reducible refine (spec_l01In.calls (wrap64 (bt a0 a1)) 240 244 false _ A12.out).mono ?_); rintro e w' ⟨rfl, ⟨nd, rfl⟩⟩; refine ⟨_, rfl, ?_⟩))
        go_ret3
        exact ⟨by first | rfl | (simp; done) | (simp [*]; done), by repeat (first | exact Drawn0.refl _ | apply Drawn0.step)⟩
   case rest =>
    clear HC6
    try clear c1
    try clear p2
    try clear c3
    try clear c3b0
    try clear c4
    try clear c4b0
    try clear p5
    try clear q5
    try clear hx5
    try clear p6
    try clear c7
    try clear c7b0
    try clear c9
    try clear c11
    try clear c13
    try clear p5
    try clear q5
    obtain ⟨kq, x8_5, x9_5, rfl, rfl, HA, HJ5, ⟨mc5, rfl⟩⟩ := hcut
    cases kq with
    | zero => exact absurd HA.out (by simp [spec_l01Rune.j0])
    | succ kj5 =>
     have H := HA.out; clear HA; simp only [spec_l01Rune.j0] at H; by_cases c14 : (wrap64 (a1 + x8_5)) > (a0.size : Int)
     ·rw [if_pos c14] at H
      have c14b0 : decide ((a0.size : Int) < (wrap64 (a1 + x8_5))) = true := decide_eq_true c14; clear c14; simp only [Option.some.injEq, Prod.mk.injEq] at H; obtain ⟨rfl, rfl, rfl⟩ := H
      go_wp2
      go_ret3
      exact ⟨by first | rfl | (simp; done) | (simp [*]; done), by repeat (first | exact Drawn0.refl _ | apply Drawn0.step)⟩
     ·rw [if_neg c14] at H
      have c14b0 : decide ((a0.size : Int) < (wrap64 (a1 + x8_5))) = false := decide_eq_false c14; clear c14; have H' := Aside0.mk H; clear H
      go_wp2
      go_loopg [9, 10] kj5 (fun kq v9 v10 w' => ∃ (x9_2 : Int) (x10_2 : Int), v9 = .int .i64 x9_2 ∧ v10 = .int .i64 x10_2 ∧ Aside0 (spec_l01Rune.l0 kq a0 a1 x8_5 x9_2 x10_2 = some (r1, r2, r3)) ∧ Aside0 (kq ≤ kj5) ∧ Drawn0 w w')
      case atStart => exact ⟨(x9_5), (1), qff_, qff_, H', ⟨Nat.le_refl _⟩, by repeat (first | exact Drawn0.refl _ | apply Drawn0.step)⟩
      case round =>
       clear H'
       try clear c1
       try clear p2
       try clear c3
       try clear c3b0
       try clear c4
       try clear c4b0
       try clear c5
       try clear p5
       try clear q5
       try clear hx5
       try clear p6
       try clear c7
       try clear c7b0
       try clear c9
       try clear c11
       try clear c13
       try clear c14
       try clear c14b0
       try clear p2
       try clear p5
       try clear p6
       try clear q5
       obtain ⟨x9_2, x10_2, rfl, rfl, HA, HK2, ⟨m2, rfl⟩⟩ := hrel
       cases gk with
       | zero => exact absurd HA.out (by simp [spec_l01Rune.l0])
       | succ k2 =>
        have H := HA.out; clear HA; simp only [spec_l01Rune.l0] at H; by_cases c15 : x10_2 < x8_5
        ·rw [if_pos c15] at H
         have c15b0 : decide (x10_2 < x8_5) = true := decide_eq_true c15; clear c15
         obtain ⟨ji16, hji16⟩ : ∃ j_ : Int, (wrap64 (a1 + x10_2)) = j_ := ⟨_, rfl⟩
         replace H : (if 0 ≤ (ji16) then (if (ji16) < (a0.size : Int) then ((spec_l01In.f (wrap64 (bt a0 (ji16))) 128 191).bind fun t104 => (if t104 = true then (spec_l01Rune.l0 k2 a0 a1 x8_5 (wrap64 ((wrap64 ((wrap64 (x9_2 * 64)) + (wrap64 (bt a0 (ji16))))) - 128)) (wrap64 (x10_2 + 1))) else (some (0, 1, false)))) else (none)) else (none)) = some (r1, r2, r3) := qj_ hji16 H; have hji16w : (IntKind.i64.wrap (a1 + x10_2)) = ji16 := (i64_w _).trans hji16; by_cases c17 : 0 ≤ (ji16)
         ·rw [if_pos c17] at H
          have c17b0 : decide (0 ≤ (ji16)) = true := decide_eq_true c17; clear c17; by_cases c18 : (ji16) < (a0.size : Int)
          ·rw [if_pos c18] at H
           have c18b0 : decide ((ji16) < (a0.size : Int)) = true := decide_eq_true c18; clear c18; replace H := Option.bind_eq_some_iff.mp H; obtain ⟨t104, A200, H⟩ := H; have A20 := Aside0.mk A200; clear A200; by_cases c21 : t104 = true
           ·subst c21
            have H1 : (spec_l01Rune.l0 k2 a0 a1 x8_5 (wrap64 ((wrap64 ((wrap64 (x9_2 * 64)) + (wrap64 (bt a0 (ji16))))) - 128)) (wrap64 (x10_2 + 1))) = some (r1, r2, r3) := by rw [if_pos rfl] at H; exact H
            clear H; have H := H1; clear H1; have H' := Aside0.mk H; clear H; have p19 : 0 ≤ ((ji16) : Int) := qd_; have q19 : (ji16) < (a0.size : Int) := qd_; have hx19 := bt_at a0 (ji16); replace p19 := eq_true p19; replace q19 := eq_true q19
            go_wp2_with (first | ((with_reducible refine gate_callee (f := 31) rfl ?_); refine goesL_ (some 53) rfl rfl Tryd.func31 qK rfl #[.int .i64 (wrap64 (bt a0 (ji16))), .int .i64 128, .int .i64 191] rfl (by (try simp only [List.map_toArray, List.map_cons, List.map_nil]); first | done | (simp only [hji16]; rfl) | rfl | (simp only [List.length_drop, List.length_take]; rfl)) ?_; (with_reducible refine (spec_l01In.calls (wrap64 (bt a0 (ji16))) 128 191 true _ A20.out).mono ?_); rintro e w' ⟨rfl, ⟨nd, rfl⟩⟩; refine ⟨_, rfl, ?_⟩))
            go_roundg k2
            case measure => have := HJ5.out; have := HK2.out; omega
            case rel => exact ⟨(wrap64 ((wrap64 ((wrap64 (x9_2 * 64)) + (wrap64 (bt a0 (ji16))))) - 128)), (wrap64 (x10_2 + 1)), (by first | rfl | (simp; done) | (simp only [← hji16] <;> (first | rfl | simp)) | (simp [*]; done)), qff_, H', ⟨by have := HJ5.out; have := HK2.out; omega⟩, by repeat (first | exact Drawn0.refl _ | apply Drawn0.step)⟩
           ·replace c21 := Bool.eq_false_iff.mpr c21
            subst c21
            have H1 : (some (0, 1, false)) = some (r1, r2, r3) := by rw [if_neg (show ¬ (false = true) by decide)] at H; exact H
            clear H; have H := H1; clear H1; simp only [Option.some.injEq, Prod.mk.injEq] at H; obtain ⟨rfl, rfl, rfl⟩ := H; have p19 : 0 ≤ ((ji16) : Int) := qd_; have q19 : (ji16) < (a0.size : Int) := qd_; have hx19 := bt_at a0 (ji16); replace p19 := eq_true p19; replace q19 := eq_true q19
            go_wp2_with (first | ((with_reducible refine gate_callee (f := 31) rfl ?_); refine goesL_ (some 53) rfl rfl Tryd.func31 qK rfl #[.int .i64 (wrap64 (bt a0 (ji16))), .int .i64 128, .int .i64 191] rfl (by (try simp only [List.map_toArray, List.map_cons, List.map_nil]); first | done | (simp only [hji16]; rfl) | rfl | (simp only [List.length_drop, List.length_take]; rfl)) ?_; (with_reducible refine (spec_l01In.calls (wrap64 (bt a0 (ji16))) 128 191 false _ A20.out).mono ?_); rintro e w' ⟨rfl, ⟨nd, rfl⟩⟩; refine ⟨_, rfl, ?_⟩))
            go_ret3
            exact ⟨by first | rfl | (simp; done) | (simp only [← hji16] <;> (first | rfl | simp)) | (simp [*]; done), by repeat (first | exact Drawn0.refl _ | apply Drawn0.step)⟩
          ·rw [if_neg c18] at H
           exact absurd H (by simp)
         ·rw [if_neg c17] at H
          exact absurd H (by simp)
        ·rw [if_neg c15] at H
         have c15b0 : decide (x10_2 < x8_5) = false := decide_eq_false c15; clear c15; replace H := Option.bind_eq_some_iff.mp H; obtain ⟨t105, A220, H⟩ := H; have A22 := Aside0.mk A220; clear A220; by_cases c23 : t105 = x8_5
         ·rw [if_pos c23] at H
          have c23b0 : (t105 == x8_5) = true := beq_iff_eq.mpr c23; have c23b1 : (t105 != x8_5) = false := bne_eq_false_iff_eq.mpr c23; clear c23; simp only [Option.some.injEq, Prod.mk.injEq] at H; obtain ⟨rfl, rfl, rfl⟩ := H
          go_wp2_with (first | ((with_reducible refine gate_callee (f := 32) rfl ?_); refine goesL_ (some 61) rfl rfl Tryd.func32 qK rfl #[.int .i64 x9_2] rfl qll_ ?_; (with_reducible refine (spec_RuneSize.calls x9_2 t105 _ A22.out).mono ?_); rintro e w' ⟨rfl, ⟨nd, rfl⟩⟩; refine ⟨_, rfl, ?_⟩))
          go_ret3
          exact ⟨by first | rfl | (simp; done) | (simp [*]; done), by repeat (first | exact Drawn0.refl _ | apply Drawn0.step)⟩
         ·rw [if_neg c23] at H
          have c23b0 : (t105 == x8_5) = false := beq_eq_false_iff_ne.mpr c23; have c23b1 : (t105 != x8_5) = true := bne_iff_ne.mpr c23; simp only [Option.some.injEq, Prod.mk.injEq] at H; obtain ⟨rfl, rfl, rfl⟩ := H
          go_wp2_with (first | ((with_reducible refine gate_callee (f := 32) rfl ?_); refine goesL_ (some 61) rfl rfl Tryd.func32 qK rfl #[.int .i64 x9_2] rfl qll_ ?_; (with_reducible refine (spec_RuneSize.calls x9_2 t105 _ A22.out).mono ?_); rintro e w' ⟨rfl, ⟨nd, rfl⟩⟩; refine ⟨_, rfl, ?_⟩))
          go_ret3
          exact ⟨by first | rfl | (simp; done) | (simp [*]; done), by repeat (first | exact Drawn0.refl _ | apply Drawn0.step)⟩
  ·rw [if_neg c4] at H
   exact absurd H (by simp)
 ·rw [if_neg c3] at H
  exact absurd H (by simp)


/-! ### spec_l01Repair: function 25 -/
def spec_l01Repair.l0 : Nat → ByteArray → List Int → Int → Option (ByteArray)
 | 0, _, _, _ => none
 | k + 1, x0, x3, x4 => if x4 < (x0.size : Int) then ((spec_l01Rune.f k x0 x4).bind fun bt104 => (if bt104.2.2 = true then (if 0 ≤ x4 then (if x4 ≤ (wrap64 (x4 + bt104.2.1)) then (if (wrap64 (x4 + bt104.2.1)) ≤ (x0.size : Int) then (if x3.length + (x0.extract (x4 : Int).toNat ((wrap64 (x4 + bt104.2.1)) : Int).toNat).size < 140737488355328 then (spec_l01Repair.l0 k x0 (x3 ++ bytesOf (x0.extract (x4 : Int).toNat ((wrap64 (x4 + bt104.2.1)) : Int).toNat)) (wrap64 (x4 + bt104.2.1))) else (none)) else (none)) else (none)) else (none)) else ((some (([239, 191, 189] : List Int) : List Int)).bind fun y110 => (if x3.length + y110.length < 140737488355328 then (spec_l01Repair.l0 k x0 (x3 ++ y110) (wrap64 (x4 + bt104.2.1))) else (none))))) else (some (strOfNums x3))
def spec_l01Repair.f (k : Nat) (a0 : ByteArray) : Option (ByteArray) := spec_l01Repair.l0 k a0 (([] : List Int)) 0
theorem spec_l01Repair.mono_l : ∀ k, (∀ y0 y1 y2, LeO (spec_l01Repair.l0 k y0 y1 y2) (spec_l01Repair.l0 (k + 1) y0 y1 y2))
 | 0 => fun _ _ _ r h => by simp [spec_l01Repair.l0] at h
 | k + 1 => by
  have ih0 := spec_l01Repair.mono_l k
  ·intro y0 y1 y2
   unfold spec_l01Repair.l0
   repeat' first
   | (with_reducible exact ih0 _ _ _)
   | (with_reducible exact spec_l01Rune.mono _ _ _)
   | (with_reducible exact LeO.refl _)
   | (with_reducible exact LeO.none _)
   | (with_reducible refine LeO.ite ?_ ?_)
   | (with_reducible refine LeO.bind ?_ (fun _ => ?_))
   | exact ih0 _ _ _
   | exact spec_l01Rune.mono _ _ _
   | exact LeO.none _
   | refine LeO.ite ?_ ?_
   | refine LeO.bind ?_ (fun _ => ?_)
theorem spec_l01Repair.mono : ∀ a0 k, LeO (spec_l01Repair.f k a0) (spec_l01Repair.f (k + 1) a0) := by
 intro a0 k
 have ih0 := spec_l01Repair.mono_l k
 unfold spec_l01Repair.f
 repeat' first
   | (with_reducible exact ih0 _ _ _)
   | (with_reducible exact spec_l01Rune.mono _ _ _)
   | (with_reducible exact LeO.refl _)
   | (with_reducible exact LeO.none _)
   | (with_reducible refine LeO.ite ?_ ?_)
   | (with_reducible refine LeO.bind ?_ (fun _ => ?_))
   | exact ih0 _ _ _
   | exact spec_l01Rune.mono _ _ _
   | exact LeO.none _
   | refine LeO.ite ?_ ?_
   | refine LeO.bind ?_ (fun _ => ?_)
set_option maxHeartbeats 8000000 in
set_option maxRecDepth 100000 in
theorem spec_l01Repair.calls (k : Nat) (a0 : ByteArray) (r : ByteArray) (w : World) (h : spec_l01Repair.f k a0 = some r) :
  Calls Tryd.prog 25 #[.string a0] w fun e w' => e = .returned (.string r) ∧ Below w.heap.size w w' := by
 have HB := Aside0.mk (Below.refl w.heap.size w)
 have H : (spec_l01Repair.l0 k a0 (([] : List Int)) 0) = some r := h
 clear h
 obtain ⟨y101, hy101⟩ : ∃ y_ : List Int, y_ = (([] : List Int)) := ⟨_, rfl⟩
 replace H : (spec_l01Repair.l0 k a0 y101 0) = some r := qh_ hy101 H
 have Ny101 := Aside0.mk hy101
 clear hy101
 have H' := Aside0.mk H
 clear H
 go_enter Tryd.func25, Tryd.ntmps25
 go_wp2_with (first | ((with_reducible refine gate_dst (N := 8) rfl ?_); refine Kd.R_lit (Kd.int .u8) _ 5 ?hg (N := 8) ?hd (xs := ([] : List Int)) (inner := []) (ok := fun _ => True) (okp := fun _ => True) ?hr ?hp (fun _ hk => hk) trivial (Below.refl _ _) (Nat.le_refl _) (by simp) ?_; (case hd => rfl); (case hg => rfl); (case hr => first | (go_simp; done) | (go_simp; rfl)); (case hp => exact (Reps.none _ _)); intro v102 w2 ho3 hb hg_ hnew_; clear hg_ hnew_; (first | rw [← Ny101.out] at ho3 | (simp only [Int.reduceToNat] at ho3; rw [← Ny101.out] at ho3)); have HO103 := Aside0.mk (Kd.R_lower ho3 (below_size qBHB)); replace HB := Aside0.mk (below_step qBHB hb); clear hb ho3))
 go_loopg [3, 4] k (fun kq v3 v4 w' => ∃ (x3_1 : List Int) (x4_1 : Int), v4 = .int .i64 x4_1 ∧ Aside0 (spec_l01Repair.l0 kq a0 x3_1 x4_1 = some r) ∧ Aside0 (kq ≤ k) ∧ Aside0 (Kd.R (Kd.int .u8) 5 w' w.heap.size (fun _ => True) v3 x3_1) ∧ Aside0 (Below w.heap.size w w'))
 case atStart => exact ⟨(y101), (0), qff_, H', ⟨Nat.le_refl _⟩, ⟨qr_ HO103⟩, ⟨qBHB⟩⟩
 case round =>
  clear H'
  try clear c2
  try clear p2
  obtain ⟨x3_1, x4_1, rfl, HA, HK1, HO_3, HB⟩ := hrel
  cases gk with
  | zero => exact absurd HA.out (by simp [spec_l01Repair.l0])
  | succ k1 =>
   have H := HA.out; clear HA; simp only [spec_l01Repair.l0] at H; by_cases c4 : x4_1 < (a0.size : Int)
   ·rw [if_pos c4] at H
    have c4b0 : decide (x4_1 < (a0.size : Int)) = true := decide_eq_true c4; clear c4; replace H := Option.bind_eq_some_iff.mp H; obtain ⟨⟨t104, t105, t106⟩, A50, H⟩ := H; dsimp only at H; have A5 := Aside0.mk A50; clear A50; by_cases c6 : t106 = true
    ·subst c6
     have H1 : (if 0 ≤ x4_1 then (if x4_1 ≤ (wrap64 (x4_1 + t105)) then (if (wrap64 (x4_1 + t105)) ≤ (a0.size : Int) then (if x3_1.length + (a0.extract (x4_1 : Int).toNat ((wrap64 (x4_1 + t105)) : Int).toNat).size < 140737488355328 then (spec_l01Repair.l0 k1 a0 (x3_1 ++ bytesOf (a0.extract (x4_1 : Int).toNat ((wrap64 (x4_1 + t105)) : Int).toNat)) (wrap64 (x4_1 + t105))) else (none)) else (none)) else (none)) else (none)) = some r := by rw [if_pos rfl] at H; exact H
     clear H; have H := H1; clear H1; by_cases c7 : 0 ≤ x4_1
     ·rw [if_pos c7] at H
      have c7b0 := eq_true c7; have c7b1 : decide (0 ≤ x4_1) = true := decide_eq_true c7; clear c7; by_cases c8 : x4_1 ≤ (wrap64 (x4_1 + t105))
      ·rw [if_pos c8] at H
       have c8b0 := eq_true c8; have c8b1 : decide (x4_1 ≤ (wrap64 (x4_1 + t105))) = true := decide_eq_true c8; by_cases c9 : (wrap64 (x4_1 + t105)) ≤ (a0.size : Int)
       ·rw [if_pos c9] at H
        have c9b0 := eq_true c9; have c9b1 : decide ((wrap64 (x4_1 + t105)) ≤ (a0.size : Int)) = true := decide_eq_true c9; by_cases c10 : x3_1.length + (a0.extract (x4_1 : Int).toNat ((wrap64 (x4_1 + t105)) : Int).toNat).size < 140737488355328
        ·rw [if_pos c10] at H
         have LMc10 := Aside0.mk c10; clear c10
         obtain ⟨y107, hy107⟩ : ∃ y_ : List Int, y_ = (x3_1 ++ bytesOf (a0.extract (x4_1 : Int).toNat ((wrap64 (x4_1 + t105)) : Int).toNat)) := ⟨_, rfl⟩
         replace H : (spec_l01Repair.l0 k1 a0 y107 (wrap64 (x4_1 + t105))) = some r := qh_ hy107 H; have Ny107 := Aside0.mk hy107; clear hy107; have H' := Aside0.mk H; clear H
         go_wp2_with (first | ((with_reducible refine gate_callee (f := 17) rfl ?_); refine goesL_ (some 16) rfl rfl Tryd.func17 qK rfl #[.string a0, .int .i64 x4_1] rfl qll_ ?_; (with_reducible refine (spec_l01Rune.calls k1 a0 x4_1 t104 t105 true _ A5.out).mono ?_); rintro e w' ⟨rfl, ⟨nd, rfl⟩⟩; refine ⟨_, rfl, ?_⟩) | (at_builtin; refine print_append_str (w0 := w) w.heap.size rfl (.tmp 21) _ 22 9 5 rfl Tryd.underlying22 Tryd.underlying9 info5 u3 x3_1 (a0.extract (x4_1 : Int).toNat ((wrap64 (x4_1 + t105)) : Int).toNat) rfl rfl ?aO ?aB ?aS ?aL ?_; (case aB => exact qBHB); (case aO => exact (Kd.own_of_R (qr_ HO_3))); (case aS => exact (below_size qBHB)); (case aL => have := LMc10.out; omega); intro v108 w11 ho0 hb hg; have ho := Kd.R_of_own (h1 := fun _ => rfl) (ok := fun _ => True) ho0 (fun _ _ => trivial); clear ho0; have hat := True.intro; rw [← Ny107.out] at ho; change Kd.R (Kd.int .u8) 5 w11 w.heap.size (fun _ => True) v108 y107 at ho; replace HB := Aside0.mk (hb); have HO109 := Aside0.mk (ho); clear HO_3; clear ho hb hg hat))
         go_roundg k1
         case measure => have := HK1.out; omega
         case rel => exact ⟨(y107), (wrap64 (x4_1 + t105)), qff_, H', ⟨by have := HK1.out; omega⟩, ⟨qr_ HO109⟩, ⟨qBHB⟩⟩
        ·rw [if_neg c10] at H
         exact absurd H (by simp)
       ·rw [if_neg c9] at H
        exact absurd H (by simp)
      ·rw [if_neg c8] at H
       exact absurd H (by simp)
     ·rw [if_neg c7] at H
      exact absurd H (by simp)
    ·replace c6 := Bool.eq_false_iff.mpr c6
     subst c6
     have H1 : ((some (([239, 191, 189] : List Int) : List Int)).bind fun y110 => (if x3_1.length + y110.length < 140737488355328 then (spec_l01Repair.l0 k1 a0 (x3_1 ++ y110) (wrap64 (x4_1 + t105))) else (none))) = some r := by rw [if_neg (show ¬ (false = true) by decide)] at H; exact H
     clear H; have H := H1; clear H1
     obtain ⟨y110, hy110⟩ : ∃ y_ : List Int, y_ = (([239, 191, 189] : List Int)) := ⟨_, rfl⟩
     replace H : (if x3_1.length + y110.length < 140737488355328 then (spec_l01Repair.l0 k1 a0 (x3_1 ++ y110) (wrap64 (x4_1 + t105))) else (none)) = some r := qh_ hy110 H; have Ny110 := Aside0.mk hy110; clear hy110; by_cases c12 : x3_1.length + y110.length < 140737488355328
     ·rw [if_pos c12] at H
      have LMc12 := Aside0.mk c12; clear c12
      obtain ⟨y113, hy113⟩ : ∃ y_ : List Int, y_ = (x3_1 ++ y110) := ⟨_, rfl⟩
      replace H : (spec_l01Repair.l0 k1 a0 y113 (wrap64 (x4_1 + t105))) = some r := qh_ hy113 H; have Ny113 := Aside0.mk hy113; clear hy113; have H' := Aside0.mk H; clear H
      go_wp2_with (first | ((with_reducible refine gate_callee (f := 17) rfl ?_); refine goesL_ (some 16) rfl rfl Tryd.func17 qK rfl #[.string a0, .int .i64 x4_1] rfl qll_ ?_; (with_reducible refine (spec_l01Rune.calls k1 a0 x4_1 t104 t105 false _ A5.out).mono ?_); rintro e w' ⟨rfl, ⟨nd, rfl⟩⟩; refine ⟨_, rfl, ?_⟩) | ((with_reducible refine gate_dst (N := 30) rfl ?_); refine Kd.R_lit (Kd.int .u8) _ 5 ?hg (N := 30) ?hd (xs := ([239, 191, 189] : List Int)) (inner := [.int .u8 239, .int .u8 191, .int .u8 189]) (ok := fun _ => True) (okp := fun _ => True) ?hr ?hp (fun _ hk => hk) trivial (Below.refl _ _) (Nat.le_refl _) (by simp) ?_; (case hd => rfl); (case hg => rfl); (case hr => first | (go_simp; done) | (go_simp; rfl)); (case hp => exact (Reps.one rfl (Reps.one rfl (Reps.one rfl (Reps.none _ _))))); intro v111 w13 ho14 hb hg_ hnew_; clear hg_ hnew_; (first | rw [← Ny110.out] at ho14 | (simp only [Int.reduceToNat] at ho14; rw [← Ny110.out] at ho14)); have HO112 := Aside0.mk (Kd.R_lower (Kd.R_new' ho14 (Kd.R_lt (qr_ HO_3))) (below_size qBHB)); replace HO_3 := Aside0.mk (Kd.R_elder' (qr_ HO_3) (Kd.R_base ho14) hb); replace HB := Aside0.mk (below_step qBHB hb); clear hb ho14; obtain ⟨Ao16, co16, eo16⟩ := Kd.R_slice HO112.out; subst eo16) | ((with_reducible refine gate_builtin (b := .append) (xs := #[.tmp 29, .tmp 30]) rfl ?_); at_builtin; refine Kd.R_append_rows (Kd.int .u8) (w0 := w) w.heap.size rfl (.tmp 29) (.tmp 30) 22 5 (.int .u8 0) 1 rfl Tryd.underlying22 info5 rfl (by decide) (by omega) u3 x3_1 y110 _ _ _ (fun k_ => some k_ ≠ (.slice Ao16 y110.length co16 : Value).ownBlock) (fun _ => False) rfl rfl ?aO ?aR (fun _ _ h => h) (fun _ h => h.elim) ?aF ?aB ?aS ?aL ?_; (case aR => repeat (first | exact (Kd.R_reads' HO112.out).2.2 | (with_reducible refine Kd.C_alloc ?_ _) | (with_reducible refine Kd.C_drewN ?_ _) | (with_reducible refine Kd.C_drew ?_))); (case aB => exact qBHB); (case aF => exact (fun k_ hk => Kd.fresh' (Kd.R_lt (qr_ HO112)) k_ hk)); (case aO => exact (by (with_reducible repeat (first | apply Kd.R_alloc | apply Kd.R_drewN | apply Kd.R_drew)); exact Kd.R_mono HO_3.out (fun _ hk => hk.2))); (case aS => exact (below_size qBHB)); (case aL => have := LMc12.out; omega); intro v114 w15 ho hb hg hat; rw [← Ny113.out] at ho; replace HO112 := Aside0.mk (Kd.R_after (ok := (fun _ => True)) (qr_ HO112) hg hat); replace HB := Aside0.mk (hb); have HO115 := Aside0.mk (ho); clear HO_3; clear ho hb hg hat))
      go_roundg k1
      case measure => have := HK1.out; omega
      case rel => exact ⟨(y113), (wrap64 (x4_1 + t105)), qff_, H', ⟨by have := HK1.out; omega⟩, ⟨by (with_reducible repeat (first | apply Kd.R_alloc | apply Kd.R_drewN | apply Kd.R_drew)); exact Kd.R_mono HO115.out (fun _ hk => trivial)⟩, ⟨qBHB⟩⟩
     ·rw [if_neg c12] at H
      exact absurd H (by simp)
   ·rw [if_neg c4] at H
    have c4b0 : decide (x4_1 < (a0.size : Int)) = false := decide_eq_false c4; clear c4; obtain rfl := Option.some.inj H; have hcv17 := own_string (P := Tryd.prog) Tryd.underlying22 Tryd.underlying5 Tryd.underlying9 (Kd.own_of_R HO_3.out)
    go_wp2
    go_ret; exact ⟨qee_, qBHB⟩


/-! ### spec_RepairText: function 13 -/
def spec_RepairText.f (k : Nat) (a0 : ByteArray) : Option (ByteArray × Int) := if (a0.size : Int) > 65536 then (some ((⟨#[]⟩ : ByteArray), 2)) else ((spec_l01Repair.f k a0).bind fun t101 => (some (t101, 0)))
theorem spec_RepairText.mono : ∀ a0 k, LeO (spec_RepairText.f k a0) (spec_RepairText.f (k + 1) a0) := by
 intro a0 k
 unfold spec_RepairText.f
 repeat' first
   | (with_reducible exact spec_l01Repair.mono _ _)
   | (with_reducible exact LeO.refl _)
   | (with_reducible exact LeO.none _)
   | (with_reducible refine LeO.ite ?_ ?_)
   | (with_reducible refine LeO.bind ?_ (fun _ => ?_))
   | exact spec_l01Repair.mono _ _
   | exact LeO.none _
   | refine LeO.ite ?_ ?_
   | refine LeO.bind ?_ (fun _ => ?_)
set_option maxHeartbeats 8000000 in
set_option maxRecDepth 100000 in
theorem spec_RepairText.calls (k : Nat) (a0 : ByteArray) (r1 : ByteArray) (r2 : Int) (w : World) (h : spec_RepairText.f k a0 = some (r1, r2)) :
  Calls Tryd.prog 13 #[.string a0] w fun e w' => e = .returned (.tuple #[.string r1, .int .i64 r2]) ∧ Below w.heap.size w w' := by
 have HB := Aside0.mk (Below.refl w.heap.size w)
 have H : (if (a0.size : Int) > 65536 then (some ((⟨#[]⟩ : BA_), 2)) else ((spec_l01Repair.f k a0).bind fun t101 => (some (t101, 0)))) = some (r1, r2) := h
 clear h
 by_cases c2 : (a0.size : Int) > 65536
 ·rw [if_pos c2] at H
  have c2b0 : decide (65536 < (a0.size : Int)) = true := decide_eq_true c2; have c2b1 : decide (65536 < a0.size) = true := decide_eq_true (by omega); clear c2; simp only [Option.some.injEq, Prod.mk.injEq] at H; obtain ⟨rfl, rfl⟩ := H; go_enter Tryd.func13, Tryd.ntmps13
  go_wp2
  go_ret2
  exact ⟨qee_, qBHB⟩
 ·rw [if_neg c2] at H
  have c2b0 : decide (65536 < (a0.size : Int)) = false := decide_eq_false c2; have c2b1 : decide (65536 < a0.size) = false := decide_eq_false (by omega); clear c2; replace H := Option.bind_eq_some_iff.mp H; obtain ⟨t101, A30, H⟩ := H; have A3 := Aside0.mk A30; clear A30; simp only [Option.some.injEq, Prod.mk.injEq] at H; obtain ⟨rfl, rfl⟩ := H; go_enter Tryd.func13, Tryd.ntmps13
  go_wp2_with (first | ((with_reducible refine gate_callee (f := 25) rfl ?_); refine goesL_ (some 8) rfl rfl Tryd.func25 qK rfl #[.string a0] rfl qll_ ?_; (with_reducible refine (spec_l01Repair.calls k a0 t101 _ A3.out).mono ?_); rintro e w4 ⟨rfl, hb⟩; refine ⟨_, rfl, ?_⟩; replace HB := Aside0.mk (below_step qBHB hb); (try clear hb); (try clear hb2); (try clear hk); (try clear hi)))
  go_ret2
  exact ⟨qee_, qBHB⟩


/-! ### spec_TextOf: function 4 -/
def spec_TextOf.f (k : Nat) (l0 : List Int) : Option (ByteArray) := (spec_l00Source.f l0).bind fun bt101 => ((spec_l00Src_text.f k bt101.1 bt101.2.1 bt101.2.2).bind fun bt105 => (some bt105.1))
theorem spec_TextOf.mono : ∀ a0 k, LeO (spec_TextOf.f k a0) (spec_TextOf.f (k + 1) a0) := by
 intro a0 k
 unfold spec_TextOf.f
 repeat' first
   | (with_reducible exact spec_l00Src_text.mono _ _ _ _)
   | (with_reducible exact LeO.refl _)
   | (with_reducible exact LeO.none _)
   | (with_reducible refine LeO.ite ?_ ?_)
   | (with_reducible refine LeO.bind ?_ (fun _ => ?_))
   | exact spec_l00Src_text.mono _ _ _ _
   | exact LeO.none _
   | refine LeO.ite ?_ ?_
   | refine LeO.bind ?_ (fun _ => ?_)
set_option maxHeartbeats 8000000 in
set_option maxRecDepth 100000 in
theorem spec_TextOf.calls (k : Nat) (A0 : Option Addr) (c0 : Nat) (l0 : List Int) (r : ByteArray) (w : World) (hr0 : Kd.C (Kd.int .u8) w A0 l0.length l0) (hc0 : l0.length ≤ c0) (h : spec_TextOf.f k l0 = some r) :
  Calls Tryd.prog 4 #[.slice A0 l0.length c0] w fun e w' => e = .returned (.string r) ∧ Below w.heap.size w w' := by
 have HR0 := Aside0.mk hr0
 have HC0 := Aside0.mk hc0
 clear hr0 hc0
 have HB := Aside0.mk (Below.refl w.heap.size w)
 have H : ((spec_l00Source.f l0).bind fun bt101 => ((spec_l00Src_text.f k bt101.1 bt101.2.1 bt101.2.2).bind fun bt105 => (some bt105.1))) = some r := h
 clear h
 replace H := Option.bind_eq_some_iff.mp H
 obtain ⟨⟨t101, t102, t103⟩, A20, H⟩ := H
 dsimp only at H
 have A2 := Aside0.mk A20
 clear A20
 replace H := Option.bind_eq_some_iff.mp H
 obtain ⟨⟨t105, t106, t107⟩, A30, H⟩ := H
 dsimp only at H
 have A3 := Aside0.mk A30
 clear A30
 obtain rfl := Option.some.inj H
 go_enter Tryd.func4, Tryd.ntmps4
 go_wp2_with (first | ((with_reducible refine gate_callee (f := 14) rfl ?_); refine goesL_ (some 4) rfl rfl Tryd.func14 qK rfl #[.slice A0 l0.length c0] rfl qll_ ?_; (with_reducible refine (spec_l00Source.calls _ _ l0 t101 t102 t103 w _ ?side1 ?side2 ?side3 A2.out).mono ?_); (case side1 => exact qBHB); (case side2 => exact HR0.out); (case side3 => exact HC0.out); rintro e w4 ⟨g104, rfl, hi, hb, hb2⟩; refine ⟨_, rfl, ?_⟩; replace HB := Aside0.mk (hb); have HI104 := Aside0.mk (hi); (try clear hb); (try clear hb2); (try clear hk); (try clear hi)) | ((with_reducible refine gate_callee (f := 15) rfl ?_); refine goesL_ (some 5) rfl rfl Tryd.func15 qK rfl #[.pointer (some ⟨g104, 0, none⟩)] rfl qll_ ?_; (with_reducible refine (spec_l00Src_text.calls k g104 t101 t102 t103 t105 t106 t107 w _ ?side1 ?side2 A3.out).mono ?_); (case side1 => exact qI53HI104); (case side2 => exact qBHB); rintro e w5 ⟨rfl, hi, hb, hk⟩; refine ⟨_, rfl, ?_⟩; replace HB := Aside0.mk (hb); replace HI104 := Aside0.mk (hi); (try clear hb); (try clear hb2); (try clear hk); (try clear hi)))
 go_ret
 exact ⟨qee_, qBHB⟩


/-! ### spec_RunesOf: function 6 -/
def spec_RunesOf.l0 : Nat → ByteArray → List Int → Int → Option (List Int × Int)
 | 0, _, _, _ => none
 | k + 1, x0, x4, x5 => if x5 < (x0.size : Int) then ((spec_l01Rune.f k x0 x5).bind fun bt107 => (if bt107.2.2 = true then (if x4.length < 17592186044416 then (spec_RunesOf.l0 k x0 (x4 ++ [bt107.1]) (wrap64 (x5 + bt107.2.1))) else (none)) else (some ((([] : List Int)), 3)))) else (some (x4, 0))
def spec_RunesOf.f (k : Nat) (a0 : ByteArray) : Option (List Int × Int) := if (a0.size : Int) > 65536 then (some ((([] : List Int)), 2)) else (spec_RunesOf.l0 k a0 (([] : List Int)) 0)
theorem spec_RunesOf.mono_l : ∀ k, (∀ y0 y1 y2, LeO (spec_RunesOf.l0 k y0 y1 y2) (spec_RunesOf.l0 (k + 1) y0 y1 y2))
 | 0 => fun _ _ _ r h => by simp [spec_RunesOf.l0] at h
 | k + 1 => by
  have ih0 := spec_RunesOf.mono_l k
  ·intro y0 y1 y2
   unfold spec_RunesOf.l0
   repeat' first
   | (with_reducible exact ih0 _ _ _)
   | (with_reducible exact spec_l01Rune.mono _ _ _)
   | (with_reducible exact LeO.refl _)
   | (with_reducible exact LeO.none _)
   | (with_reducible refine LeO.ite ?_ ?_)
   | (with_reducible refine LeO.bind ?_ (fun _ => ?_))
   | exact ih0 _ _ _
   | exact spec_l01Rune.mono _ _ _
   | exact LeO.none _
   | refine LeO.ite ?_ ?_
   | refine LeO.bind ?_ (fun _ => ?_)
theorem spec_RunesOf.mono : ∀ a0 k, LeO (spec_RunesOf.f k a0) (spec_RunesOf.f (k + 1) a0) := by
 intro a0 k
 have ih0 := spec_RunesOf.mono_l k
 unfold spec_RunesOf.f
 repeat' first
   | (with_reducible exact ih0 _ _ _)
   | (with_reducible exact spec_l01Rune.mono _ _ _)
   | (with_reducible exact LeO.refl _)
   | (with_reducible exact LeO.none _)
   | (with_reducible refine LeO.ite ?_ ?_)
   | (with_reducible refine LeO.bind ?_ (fun _ => ?_))
   | exact ih0 _ _ _
   | exact spec_l01Rune.mono _ _ _
   | exact LeO.none _
   | refine LeO.ite ?_ ?_
   | refine LeO.bind ?_ (fun _ => ?_)
set_option maxHeartbeats 8000000 in
set_option maxRecDepth 100000 in
theorem spec_RunesOf.calls (k : Nat) (a0 : ByteArray) (r1 : List Int) (r2 : Int) (w : World) (h : spec_RunesOf.f k a0 = some (r1, r2)) :
  Calls Tryd.prog 6 #[.string a0] w fun e w' => ∃ v0_ : Value, e = .returned (.tuple #[v0_, .int .i64 r2]) ∧ Kd.R (Kd.int .i64) 3 w' w.heap.size (fun _ => True) v0_ r1 ∧ Below w.heap.size w w' := by
 have HB := Aside0.mk (Below.refl w.heap.size w)
 have H : (if (a0.size : Int) > 65536 then (some ((([] : List Int)), 2)) else (spec_RunesOf.l0 k a0 (([] : List Int)) 0)) = some (r1, r2) := h
 clear h
 by_cases c2 : (a0.size : Int) > 65536
 ·rw [if_pos c2] at H
  have c2b0 : decide (65536 < (a0.size : Int)) = true := decide_eq_true c2; have c2b1 : decide (65536 < a0.size) = true := decide_eq_true (by omega); clear c2
  obtain ⟨y101, hy101⟩ : ∃ y_ : List Int, y_ = (([] : List Int)) := ⟨_, rfl⟩
  replace H : (some (y101, 2)) = some (r1, r2) := qh_ hy101 H; have Ny101 := Aside0.mk hy101; clear hy101; simp only [Option.some.injEq, Prod.mk.injEq] at H; obtain ⟨rfl, rfl⟩ := H; go_enter Tryd.func6, Tryd.ntmps6
  go_wp2_with (first | ((with_reducible refine gate_dst (N := 12) rfl ?_); refine Kd.R_lit (Kd.int .i64) _ 3 ?hg (N := 12) ?hd (xs := ([] : List Int)) (inner := []) (ok := fun _ => True) (okp := fun _ => True) ?hr ?hp (fun _ hk => hk) trivial (Below.refl _ _) (Nat.le_refl _) (by simp) ?_; (case hd => rfl); (case hg => rfl); (case hr => first | (go_simp; done) | (go_simp; rfl)); (case hp => exact (Reps.none _ _)); intro v102 w3 ho4 hb hg_ hnew_; clear hg_ hnew_; (first | rw [← Ny101.out] at ho4 | (simp only [Int.reduceToNat] at ho4; rw [← Ny101.out] at ho4)); have HO103 := Aside0.mk (Kd.R_lower ho4 (below_size qBHB)); replace HB := Aside0.mk (below_step qBHB hb); clear hb ho4))
  go_ret2
  exact ⟨_, qee_, qr_ HO103, qBHB⟩
 ·rw [if_neg c2] at H
  have c2b0 : decide (65536 < (a0.size : Int)) = false := decide_eq_false c2; have c2b1 : decide (65536 < a0.size) = false := decide_eq_false (by omega); clear c2
  obtain ⟨y104, hy104⟩ : ∃ y_ : List Int, y_ = (([] : List Int)) := ⟨_, rfl⟩
  replace H : (spec_RunesOf.l0 k a0 y104 0) = some (r1, r2) := qh_ hy104 H; have Ny104 := Aside0.mk hy104; clear hy104; have H' := Aside0.mk H; clear H; go_enter Tryd.func6, Tryd.ntmps6
  go_wp2_with (first | ((with_reducible refine gate_dst (N := 13) rfl ?_); refine Kd.R_lit (Kd.int .i64) _ 3 ?hg (N := 13) ?hd (xs := ([] : List Int)) (inner := []) (ok := fun _ => True) (okp := fun _ => True) ?hr ?hp (fun _ hk => hk) trivial (Below.refl _ _) (Nat.le_refl _) (by simp) ?_; (case hd => rfl); (case hg => rfl); (case hr => first | (go_simp; done) | (go_simp; rfl)); (case hp => exact (Reps.none _ _)); intro v105 w5 ho6 hb hg_ hnew_; clear hg_ hnew_; (first | rw [← Ny104.out] at ho6 | (simp only [Int.reduceToNat] at ho6; rw [← Ny104.out] at ho6)); have HO106 := Aside0.mk (Kd.R_lower ho6 (below_size qBHB)); replace HB := Aside0.mk (below_step qBHB hb); clear hb ho6))
  go_loopg [4, 5] k (fun kq v4 v5 w' => ∃ (x4_1 : List Int) (x5_1 : Int), v5 = .int .i64 x5_1 ∧ Aside0 (spec_RunesOf.l0 kq a0 x4_1 x5_1 = some (r1, r2)) ∧ Aside0 (kq ≤ k) ∧ Aside0 (Kd.R (Kd.int .i64) 3 w' w.heap.size (fun _ => True) v4 x4_1) ∧ Aside0 (Below w.heap.size w w'))
  case atStart => exact ⟨(y104), (0), qff_, H', ⟨Nat.le_refl _⟩, ⟨qr_ HO106⟩, ⟨qBHB⟩⟩
  case round =>
   clear H'
   try clear c2
   try clear c2b0
   try clear c2b1
   try clear p2
   try clear c6
   obtain ⟨x4_1, x5_1, rfl, HA, HK1, HO_4, HB⟩ := hrel
   cases gk with
   | zero => exact absurd HA.out (by simp [spec_RunesOf.l0])
   | succ k1 =>
    have H := HA.out; clear HA; simp only [spec_RunesOf.l0] at H; by_cases c7 : x5_1 < (a0.size : Int)
    ·rw [if_pos c7] at H
     have c7b0 : decide (x5_1 < (a0.size : Int)) = true := decide_eq_true c7; clear c7; replace H := Option.bind_eq_some_iff.mp H; obtain ⟨⟨t107, t108, t109⟩, A80, H⟩ := H; dsimp only at H; have A8 := Aside0.mk A80; clear A80; by_cases c9 : t109 = true
     ·subst c9
      have H1 : (if x4_1.length < 17592186044416 then (spec_RunesOf.l0 k1 a0 (x4_1 ++ [t107]) (wrap64 (x5_1 + t108))) else (none)) = some (r1, r2) := by rw [if_pos rfl] at H; exact H
      clear H; have H := H1; clear H1; by_cases c10 : x4_1.length < 17592186044416
      ·rw [if_pos c10] at H
       have LMc10 := Aside0.mk c10; clear c10
       obtain ⟨y110, hy110⟩ : ∃ y_ : List Int, y_ = (x4_1 ++ [t107]) := ⟨_, rfl⟩
       replace H : (spec_RunesOf.l0 k1 a0 y110 (wrap64 (x5_1 + t108))) = some (r1, r2) := qh_ hy110 H; have Ny110 := Aside0.mk hy110; clear hy110; have H' := Aside0.mk H; clear H
       go_wp2_with (first | ((with_reducible refine gate_callee (f := 17) rfl ?_); refine goesL_ (some 21) rfl rfl Tryd.func17 qK rfl #[.string a0, .int .i64 x5_1] rfl qll_ ?_; (with_reducible refine (spec_l01Rune.calls k1 a0 x5_1 t107 t108 true _ A8.out).mono ?_); rintro e w' ⟨rfl, ⟨nd, rfl⟩⟩; refine ⟨_, rfl, ?_⟩) | ((with_reducible refine gate_builtin (b := .append) (xs := #[.tmp 28, .tmp 30]) rfl ?_); at_builtin; refine Kd.R_append (Kd.int .i64) (w0 := w) w.heap.size rfl (.tmp 28) (.tmp 30) 24 3 (.int .i64 0) 8 rfl Tryd.underlying24 info3 rfl (by decide) (by omega) u4 x4_1 t107 [.int .i64 t107] (fun _ => True) (fun _ => False) rfl rfl ?aP (fun _ hk => hk.elim) ?aF ?aO ?aB ?aS ?aL ?_; (case aP => exact rfl); (case aB => exact qBHB); (case aF => exact (fun _ _ => trivial)); (case aO => exact (qr_ HO_4)); (case aS => exact (below_size qBHB)); (case aL => have := LMc10.out; omega); intro v111 w11 ho hb hg hat; rw [← Ny110.out] at ho; replace HB := Aside0.mk (hb); have HO112 := Aside0.mk (ho); clear HO_4; clear ho hb hg hat))
       go_roundg k1
       case measure => have := HK1.out; omega
       case rel => exact ⟨(y110), (wrap64 (x5_1 + t108)), qff_, H', ⟨by have := HK1.out; omega⟩, ⟨qr_ HO112⟩, ⟨qBHB⟩⟩
      ·rw [if_neg c10] at H
       exact absurd H (by simp)
     ·replace c9 := Bool.eq_false_iff.mpr c9
      subst c9
      have H1 : (some ((([] : List Int)), 3)) = some (r1, r2) := by rw [if_neg (show ¬ (false = true) by decide)] at H; exact H
      clear H; have H := H1; clear H1
      obtain ⟨y113, hy113⟩ : ∃ y_ : List Int, y_ = (([] : List Int)) := ⟨_, rfl⟩
      replace H : (some (y113, 3)) = some (r1, r2) := qh_ hy113 H; have Ny113 := Aside0.mk hy113; clear hy113; simp only [Option.some.injEq, Prod.mk.injEq] at H; obtain ⟨rfl, rfl⟩ := H
      go_wp2_with (first | ((with_reducible refine gate_callee (f := 17) rfl ?_); refine goesL_ (some 21) rfl rfl Tryd.func17 qK rfl #[.string a0, .int .i64 x5_1] rfl qll_ ?_; (with_reducible refine (spec_l01Rune.calls k1 a0 x5_1 t107 t108 false _ A8.out).mono ?_); rintro e w' ⟨rfl, ⟨nd, rfl⟩⟩; refine ⟨_, rfl, ?_⟩) | ((with_reducible refine gate_dst (N := 27) rfl ?_); refine Kd.R_lit (Kd.int .i64) _ 3 ?hg (N := 27) ?hd (xs := ([] : List Int)) (inner := []) (ok := fun _ => True) (okp := fun _ => True) ?hr ?hp (fun _ hk => hk) trivial (Below.refl _ _) (Nat.le_refl _) (by simp) ?_; (case hd => rfl); (case hg => rfl); (case hr => first | (go_simp; done) | (go_simp; rfl)); (case hp => exact (Reps.none _ _)); intro v114 w12 ho13 hb hg_ hnew_; clear hg_ hnew_; (first | rw [← Ny113.out] at ho13 | (simp only [Int.reduceToNat] at ho13; rw [← Ny113.out] at ho13)); have HO115 := Aside0.mk (Kd.R_lower (Kd.R_new' ho13 (Kd.R_lt (qr_ HO_4))) (below_size qBHB)); replace HO_4 := Aside0.mk (Kd.R_elder' (qr_ HO_4) (Kd.R_base ho13) hb); replace HB := Aside0.mk (below_step qBHB hb); clear hb ho13))
      go_ret2
      exact ⟨_, qee_, by (with_reducible repeat (first | apply Kd.R_alloc | apply Kd.R_drewN | apply Kd.R_drew)); exact Kd.R_mono HO115.out (fun _ hk => trivial), qBHB⟩
    ·rw [if_neg c7] at H
     have c7b0 : decide (x5_1 < (a0.size : Int)) = false := decide_eq_false c7; clear c7; simp only [Option.some.injEq, Prod.mk.injEq] at H; obtain ⟨rfl, rfl⟩ := H
     go_wp2
     go_ret2
     exact ⟨_, qee_, qr_ HO_4, qBHB⟩


/-! ### utf8_appendRuneNonASCII: function 34 -/
def utf8_appendRuneNonASCII.j0 : Nat → List Int → Int → Int → Bool → Option (List Int)
 | 0, _, _, _, _ => none
 | k + 1, x0, x1, x5, x25 => if x25 = true then ((some (([Go.bits .or .u8 224 ((x1 / 4096) % 256), 128 + x1 / 64 % 64, 128 + x1 % 64] : List Int) : List Int)).bind fun y107 => (if x0.length + y107.length < 140737488355328 then (some (x0 ++ y107)) else (none))) else (if x5 > 65535 then (if x5 ≤ 1114111 then ((some (([Go.bits .or .u8 240 ((x1 / 262144) % 256), 128 + x1 / 4096 % 64, 128 + x1 / 64 % 64, 128 + x1 % 64] : List Int) : List Int)).bind fun y113 => (if x0.length + y113.length < 140737488355328 then (some (x0 ++ y113)) else (none))) else ((some (([239, 191, 189] : List Int) : List Int)).bind fun y119 => (if x0.length + y119.length < 140737488355328 then (some (x0 ++ y119)) else (none)))) else ((some (([239, 191, 189] : List Int) : List Int)).bind fun y125 => (if x0.length + y125.length < 140737488355328 then (some (x0 ++ y125)) else (none))))
def utf8_appendRuneNonASCII.f (k : Nat) (l0 : List Int) (a1 : Int) : Option (List Int) := if ((a1) % 4294967296) ≤ 2047 then ((some (([Go.bits .or .u8 192 ((a1 / 64) % 256), 128 + a1 % 64] : List Int) : List Int)).bind fun y101 => (if l0.length + y101.length < 140737488355328 then (some (l0 ++ y101)) else (none))) else (if ((a1) % 4294967296) < 55296 then (utf8_appendRuneNonASCII.j0 k l0 a1 ((a1) % 4294967296) (decide (((a1) % 4294967296) < 55296))) else (if 57343 < ((a1) % 4294967296) then (utf8_appendRuneNonASCII.j0 k l0 a1 ((a1) % 4294967296) (decide (((a1) % 4294967296) ≤ 65535))) else (utf8_appendRuneNonASCII.j0 k l0 a1 ((a1) % 4294967296) false)))
theorem utf8_appendRuneNonASCII.mono_l : ∀ k, (∀ y0 y1 y2 y3, LeO (utf8_appendRuneNonASCII.j0 k y0 y1 y2 y3) (utf8_appendRuneNonASCII.j0 (k + 1) y0 y1 y2 y3))
 | 0 => fun _ _ _ _ r h => by simp [utf8_appendRuneNonASCII.j0] at h
 | k + 1 => by
  have ih0 := utf8_appendRuneNonASCII.mono_l k
  ·intro y0 y1 y2 y3
   unfold utf8_appendRuneNonASCII.j0
   repeat' first
   | (with_reducible exact ih0 _ _ _ _)
   | (with_reducible exact LeO.refl _)
   | (with_reducible exact LeO.none _)
   | (with_reducible refine LeO.ite ?_ ?_)
   | (with_reducible refine LeO.bind ?_ (fun _ => ?_))
   | exact ih0 _ _ _ _
   | exact LeO.none _
   | refine LeO.ite ?_ ?_
   | refine LeO.bind ?_ (fun _ => ?_)
theorem utf8_appendRuneNonASCII.mono : ∀ a0 a1 k, LeO (utf8_appendRuneNonASCII.f k a0 a1) (utf8_appendRuneNonASCII.f (k + 1) a0 a1) := by
 intro a0 a1 k
 have ih0 := utf8_appendRuneNonASCII.mono_l k
 unfold utf8_appendRuneNonASCII.f
 repeat' first
   | (with_reducible exact ih0 _ _ _ _)
   | (with_reducible exact LeO.refl _)
   | (with_reducible exact LeO.none _)
   | (with_reducible refine LeO.ite ?_ ?_)
   | (with_reducible refine LeO.bind ?_ (fun _ => ?_))
   | exact ih0 _ _ _ _
   | exact LeO.none _
   | refine LeO.ite ?_ ?_
   | refine LeO.bind ?_ (fun _ => ?_)
set_option maxHeartbeats 8000000 in
set_option maxRecDepth 100000 in
theorem utf8_appendRuneNonASCII.calls (k : Nat) (P0_ : Nat → Prop) (u9000_ : Value) (l0 : List Int) (a1 : Int) (r : List Int) (w0 w : World) (hB : Below w0.heap.size w0 w) (ho0 : Kd.R (Kd.int .u8) 5 w w0.heap.size P0_ u9000_ l0) (h : utf8_appendRuneNonASCII.f k l0 a1 = some r) :
  Calls Tryd.prog 34 #[u9000_, .int .i32 a1] w fun e w' => ∃ v0_ : Value, e = .returned (v0_) ∧ Kd.R (Kd.int .u8) 5 w' w0.heap.size (fun k_ => (P0_ k_ ∨ w.heap.size ≤ k_)) v0_ r ∧ Below w0.heap.size w0 w' ∧ Kept w w' (fun k_ => P0_ k_) := by
 have HO0 := Aside0.mk (show Kd.R (Kd.int .u8) 5 w w0.heap.size (fun k_ => (P0_ k_ ∨ w.heap.size ≤ k_)) u9000_ l0 from Kd.R_mono ho0 (fun k_ hk => (.inl hk)))
 have HK := Aside0.mk (Kept.refl w (fun k_ => P0_ k_))
 have HW0 := Aside0.mk hB.size
 have HB := Aside0.mk hB
 clear hB
 have H : (if ((a1) % 4294967296) ≤ 2047 then ((some (([Go.bits .or .u8 192 ((a1 / 64) % 256), 128 + a1 % 64] : List Int) : List Int)).bind fun y101 => (if l0.length + y101.length < 140737488355328 then (some (l0 ++ y101)) else (none))) else (if ((a1) % 4294967296) < 55296 then (utf8_appendRuneNonASCII.j0 k l0 a1 ((a1) % 4294967296) (decide (((a1) % 4294967296) < 55296))) else (if 57343 < ((a1) % 4294967296) then (utf8_appendRuneNonASCII.j0 k l0 a1 ((a1) % 4294967296) (decide (((a1) % 4294967296) ≤ 65535))) else (utf8_appendRuneNonASCII.j0 k l0 a1 ((a1) % 4294967296) false)))) = some r := h
 clear h
 by_cases c3 : ((a1) % 4294967296) ≤ 2047
 ·rw [if_pos c3] at H
  have c3b0 : decide (((a1) % 4294967296) ≤ 2047) = true := decide_eq_true c3; clear c3
  obtain ⟨y101, hy101⟩ : ∃ y_ : List Int, y_ = (([Go.bits .or .u8 192 ((a1 / 64) % 256), 128 + a1 % 64] : List Int)) := ⟨_, rfl⟩
  replace H : (if l0.length + y101.length < 140737488355328 then (some (l0 ++ y101)) else (none)) = some r := qh_ hy101 H; have Ny101 := Aside0.mk hy101; clear hy101; by_cases c4 : l0.length + y101.length < 140737488355328
  ·rw [if_pos c4] at H
   have LMc4 := Aside0.mk c4; clear c4
   obtain ⟨y104, hy104⟩ : ∃ y_ : List Int, y_ = (l0 ++ y101) := ⟨_, rfl⟩
   replace H : (some y104) = some r := qh_ hy104 H; have Ny104 := Aside0.mk hy104; clear hy104; obtain rfl := Option.some.inj H; go_enter Tryd.func34, Tryd.ntmps34
   go_wp2_with (first | ((with_reducible refine gate_dst (N := 23) rfl ?_); refine Kd.R_lit (Kd.int .u8) _ 5 ?hg (N := 23) ?hd (xs := ([Go.bits .or .u8 192 ((a1 / 64) % 256), 128 + a1 % 64] : List Int)) (inner := [.int .u8 (Go.bits .or .u8 192 ((a1 / 64) % 256)), .int .u8 (128 + a1 % 64)]) (ok := fun _ => True) (okp := fun _ => True) ?hr ?hp (fun _ hk => hk) trivial (Below.refl _ _) (Nat.le_refl _) (by simp) ?_; (case hd => rfl); (case hg => rfl); (case hr => first | (go_simp; done) | (go_simp; rfl)); (case hp => exact (Reps.one rfl (Reps.one rfl (Reps.none _ _)))); intro v102 w5 ho6 hb hg_ hnew_; clear hg_ hnew_; (first | rw [← Ny101.out] at ho6 | (simp only [Int.reduceToNat] at ho6; rw [← Ny101.out] at ho6)); have HO103 := Aside0.mk (Kd.R_lower (Kd.R_new' (Kd.R_newM (M := fun k_ => (P0_ k_ ∨ w.heap.size ≤ k_)) ho6 (by first | exact HK.out.1 | exact (show Kept w _ (fun k_ => P0_ k_) from by repeat (first | (with_reducible first | exact HK.out | apply Kept.alloc | apply Kept.drewN | apply Kept.drew) | exact HK.out)).1) (fun k_ h_ => .inr h_)) (Kd.R_lt (qr_ HO0))) (below_size qBHB)); replace HO0 := Aside0.mk (Kd.R_elder' (qr_ HO0) (Kd.R_base ho6) hb); replace HK := Aside0.mk (Kept.below (S := (fun k_ => P0_ k_)) (by repeat (first | (with_reducible first | exact HK.out | apply Kept.alloc | apply Kept.drewN | apply Kept.drew) | exact HK.out)) hb); replace HB := Aside0.mk (below_step qBHB hb); clear hb ho6; obtain ⟨Ao8, co8, eo8⟩ := Kd.R_slice HO103.out; subst eo8) | ((with_reducible refine gate_builtin (b := .append) (xs := #[.tmp 14, .tmp 23]) rfl ?_); at_builtin; refine Kd.R_append_rows (Kd.int .u8) (w0 := w0) w0.heap.size rfl (.tmp 14) (.tmp 23) 22 5 (.int .u8 0) 1 rfl Tryd.underlying22 info5 rfl (by decide) (by omega) u9000_ l0 y101 _ _ _ (fun k_ => (P0_ k_ ∨ w.heap.size ≤ k_) ∧ some k_ ≠ (.slice Ao8 y101.length co8 : Value).ownBlock) (fun _ => False) rfl rfl ?aO ?aR (fun _ _ h => h) (fun _ h => h.elim) ?aF ?aB ?aS ?aL ?_; (case aR => repeat (first | exact (Kd.R_reads' HO103.out).2.2 | (with_reducible refine Kd.C_alloc ?_ _) | (with_reducible refine Kd.C_drewN ?_ _) | (with_reducible refine Kd.C_drew ?_))); (case aB => exact qBHB); (case aF => exact (fun k_ hk => ⟨(.inr (Nat.le_trans (by first | exact HK.out.1 | exact (show Kept w _ (fun k_ => P0_ k_) from by repeat (first | (with_reducible first | exact HK.out | apply Kept.alloc | apply Kept.drewN | apply Kept.drew) | exact HK.out)).1) hk)), Kd.fresh' (Kd.R_lt (qr_ HO103)) k_ hk⟩)); (case aO => exact (qr_ HO0)); (case aS => exact (below_size qBHB)); (case aL => have := LMc4.out; omega); intro v105 w7 ho hb hg hat; rw [← Ny104.out] at ho; replace HO103 := Aside0.mk (Kd.R_after (ok := (fun k_ => (P0_ k_ ∨ w.heap.size ≤ k_))) (by (with_reducible repeat (first | apply Kd.R_alloc | apply Kd.R_drewN | apply Kd.R_drew)); exact Kd.R_mono HO103.out (fun _ hk => ⟨hk.1.1, hk.2⟩)) hg hat); replace HB := Aside0.mk (hb); replace HK := Aside0.mk (Kept.of_grown (S := (fun k_ => P0_ k_)) hg (by repeat (first | (with_reducible first | exact HK.out | apply Kept.alloc | apply Kept.drewN | apply Kept.drew) | exact HK.out)) (fun k_ e_ => (HO0.out.1 k_ e_).1)); have HO106 := Aside0.mk (ho); clear HO0; clear ho hb hg hat))
   go_ret; exact ⟨_, qee_, by (with_reducible repeat (first | apply Kd.R_alloc | apply Kd.R_drewN | apply Kd.R_drew)); exact Kd.R_mono HO106.out (fun _ hk => hk.1), qBHB, by repeat (first | (with_reducible first | exact HK.out | apply Kept.alloc | apply Kept.drewN | apply Kept.drew) | exact HK.out)⟩
  ·rw [if_neg c4] at H
   exact absurd H (by simp)
 ·rw [if_neg c3] at H
  have c3b0 : decide (((a1) % 4294967296) ≤ 2047) = false := decide_eq_false c3; clear c3; have HC9 := Aside0.mk H; clear H; go_enter Tryd.func34, Tryd.ntmps34
  go_upto_if 25 with (fail)
  go_cut [25] (fun v25 wc => ∃ (kq : Nat) (x25_8 : Bool), v25 = .bool x25_8 ∧ Aside0 (utf8_appendRuneNonASCII.j0 kq l0 a1 ((a1) % 4294967296) x25_8 = some r) ∧ Aside0 (kq ≤ k) ∧ Aside0 (Kd.R (Kd.int .u8) 5 wc w0.heap.size (fun k_ => (P0_ k_ ∨ w.heap.size ≤ k_)) u9000_ l0) ∧ Aside0 (Kept w wc (fun k_ => P0_ k_)) ∧ Aside0 (Below w0.heap.size w0 wc))
  case first =>
   have H := HC9.out; clear HC9; by_cases c10 : ((a1) % 4294967296) < 55296
   ·rw [if_pos c10] at H
    have c10b0 : decide (((a1) % 4294967296) < 55296) = true := decide_eq_true c10; clear c10
    (first | rw [c10b0] | (simp only [i64_w, i32_w]; rw [c10b0]) | skip)
    have H' := Aside0.mk H; clear H
    go_wp2
    go_meet
    case rel => exact ⟨_, (decide (((a1) % 4294967296) < 55296)), qff_, H', ⟨by first | omega | exact Nat.le_refl _⟩, ⟨qr_ HO0⟩, ⟨by repeat (first | (with_reducible first | exact HK.out | apply Kept.alloc | apply Kept.drewN | apply Kept.drew) | exact HK.out)⟩, ⟨qBHB⟩⟩
   ·rw [if_neg c10] at H
    have c10b0 : decide (((a1) % 4294967296) < 55296) = false := decide_eq_false c10; clear c10
    (first | rw [c10b0] | (simp only [i64_w, i32_w]; rw [c10b0]) | skip)
    by_cases c11 : 57343 < ((a1) % 4294967296)
    ·rw [if_pos c11] at H
     have c11b0 : decide (57343 < ((a1) % 4294967296)) = true := decide_eq_true c11; clear c11; have H' := Aside0.mk H; clear H
     go_wp2
     go_meet
     case rel => exact ⟨_, (decide (((a1) % 4294967296) ≤ 65535)), qff_, H', ⟨by first | omega | exact Nat.le_refl _⟩, ⟨qr_ HO0⟩, ⟨by repeat (first | (with_reducible first | exact HK.out | apply Kept.alloc | apply Kept.drewN | apply Kept.drew) | exact HK.out)⟩, ⟨qBHB⟩⟩
    ·rw [if_neg c11] at H
     have c11b0 : decide (57343 < ((a1) % 4294967296)) = false := decide_eq_false c11; clear c11; have H' := Aside0.mk H; clear H
     go_wp2
     go_meet
     case rel => exact ⟨_, (false), qff_, H', ⟨by first | omega | exact Nat.le_refl _⟩, ⟨qr_ HO0⟩, ⟨by repeat (first | (with_reducible first | exact HK.out | apply Kept.alloc | apply Kept.drewN | apply Kept.drew) | exact HK.out)⟩, ⟨qBHB⟩⟩
  case rest =>
   clear HC9
   try clear c1
   try clear p2
   try clear c3
   try clear c3b0
   try clear c4
   try clear c10
   try clear c10b0
   try clear c11
   try clear c11b0
   obtain ⟨kq, x25_8, rfl, HA, HJ8, HO_0, HK, HB⟩ := hcut
   cases kq with
   | zero => exact absurd HA.out (by simp [utf8_appendRuneNonASCII.j0])
   | succ kj8 =>
    have H := HA.out; clear HA; simp only [utf8_appendRuneNonASCII.j0] at H; by_cases c12 : x25_8 = true
    ·subst c12
     have H1 : ((some (([Go.bits .or .u8 224 ((a1 / 4096) % 256), 128 + a1 / 64 % 64, 128 + a1 % 64] : List Int) : List Int)).bind fun y107 => (if l0.length + y107.length < 140737488355328 then (some (l0 ++ y107)) else (none))) = some r := by rw [if_pos rfl] at H; exact H
     clear H; have H := H1; clear H1
     obtain ⟨y107, hy107⟩ : ∃ y_ : List Int, y_ = (([Go.bits .or .u8 224 ((a1 / 4096) % 256), 128 + a1 / 64 % 64, 128 + a1 % 64] : List Int)) := ⟨_, rfl⟩
     replace H : (if l0.length + y107.length < 140737488355328 then (some (l0 ++ y107)) else (none)) = some r := qh_ hy107 H; have Ny107 := Aside0.mk hy107; clear hy107; by_cases c13 : l0.length + y107.length < 140737488355328
     ·rw [if_pos c13] at H
      have LMc13 := Aside0.mk c13; clear c13
      obtain ⟨y110, hy110⟩ : ∃ y_ : List Int, y_ = (l0 ++ y107) := ⟨_, rfl⟩
      replace H : (some y110) = some r := qh_ hy110 H; have Ny110 := Aside0.mk hy110; clear hy110; obtain rfl := Option.some.inj H
      go_wp2_with (first | ((with_reducible refine gate_dst (N := 48) rfl ?_); refine Kd.R_lit (Kd.int .u8) _ 5 ?hg (N := 48) ?hd (xs := ([Go.bits .or .u8 224 ((a1 / 4096) % 256), 128 + a1 / 64 % 64, 128 + a1 % 64] : List Int)) (inner := [.int .u8 (Go.bits .or .u8 224 ((a1 / 4096) % 256)), .int .u8 (128 + a1 / 64 % 64), .int .u8 (128 + a1 % 64)]) (ok := fun _ => True) (okp := fun _ => True) ?hr ?hp (fun _ hk => hk) trivial (Below.refl _ _) (Nat.le_refl _) (by simp) ?_; (case hd => rfl); (case hg => rfl); (case hr => first | (go_simp; done) | (go_simp; rfl)); (case hp => exact (Reps.one rfl (Reps.one rfl (Reps.one rfl (Reps.none _ _))))); intro v108 w14 ho15 hb hg_ hnew_; clear hg_ hnew_; (first | rw [← Ny107.out] at ho15 | (simp only [Int.reduceToNat] at ho15; rw [← Ny107.out] at ho15)); have HO109 := Aside0.mk (Kd.R_lower (Kd.R_new' (Kd.R_newM (M := fun k_ => (P0_ k_ ∨ w.heap.size ≤ k_)) ho15 (by first | exact HK.out.1 | exact (show Kept w _ (fun k_ => P0_ k_) from by repeat (first | (with_reducible first | exact HK.out | apply Kept.alloc | apply Kept.drewN | apply Kept.drew) | exact HK.out)).1) (fun k_ h_ => .inr h_)) (Kd.R_lt (qr_ HO_0))) (below_size qBHB)); replace HO_0 := Aside0.mk (Kd.R_elder' (qr_ HO_0) (Kd.R_base ho15) hb); replace HK := Aside0.mk (Kept.below (S := (fun k_ => P0_ k_)) (by repeat (first | (with_reducible first | exact HK.out | apply Kept.alloc | apply Kept.drewN | apply Kept.drew) | exact HK.out)) hb); replace HB := Aside0.mk (below_step qBHB hb); clear hb ho15; obtain ⟨Ao17, co17, eo17⟩ := Kd.R_slice HO109.out; subst eo17) | ((with_reducible refine gate_builtin (b := .append) (xs := #[.tmp 34, .tmp 48]) rfl ?_); at_builtin; refine Kd.R_append_rows (Kd.int .u8) (w0 := w0) w0.heap.size rfl (.tmp 34) (.tmp 48) 22 5 (.int .u8 0) 1 rfl Tryd.underlying22 info5 rfl (by decide) (by omega) u9000_ l0 y107 _ _ _ (fun k_ => (P0_ k_ ∨ w.heap.size ≤ k_) ∧ some k_ ≠ (.slice Ao17 y107.length co17 : Value).ownBlock) (fun _ => False) rfl rfl ?aO ?aR (fun _ _ h => h) (fun _ h => h.elim) ?aF ?aB ?aS ?aL ?_; (case aR => repeat (first | exact (Kd.R_reads' HO109.out).2.2 | (with_reducible refine Kd.C_alloc ?_ _) | (with_reducible refine Kd.C_drewN ?_ _) | (with_reducible refine Kd.C_drew ?_))); (case aB => exact qBHB); (case aF => exact (fun k_ hk => ⟨(.inr (Nat.le_trans (by first | exact HK.out.1 | exact (show Kept w _ (fun k_ => P0_ k_) from by repeat (first | (with_reducible first | exact HK.out | apply Kept.alloc | apply Kept.drewN | apply Kept.drew) | exact HK.out)).1) hk)), Kd.fresh' (Kd.R_lt (qr_ HO109)) k_ hk⟩)); (case aO => exact (qr_ HO_0)); (case aS => exact (below_size qBHB)); (case aL => have := LMc13.out; omega); intro v111 w16 ho hb hg hat; rw [← Ny110.out] at ho; replace HO109 := Aside0.mk (Kd.R_after (ok := (fun k_ => (P0_ k_ ∨ w.heap.size ≤ k_))) (by (with_reducible repeat (first | apply Kd.R_alloc | apply Kd.R_drewN | apply Kd.R_drew)); exact Kd.R_mono HO109.out (fun _ hk => ⟨hk.1.1, hk.2⟩)) hg hat); replace HB := Aside0.mk (hb); replace HK := Aside0.mk (Kept.of_grown (S := (fun k_ => P0_ k_)) hg (by repeat (first | (with_reducible first | exact HK.out | apply Kept.alloc | apply Kept.drewN | apply Kept.drew) | exact HK.out)) (fun k_ e_ => (HO_0.out.1 k_ e_).1)); have HO112 := Aside0.mk (ho); clear HO_0; clear ho hb hg hat))
      go_ret; exact ⟨_, qee_, by (with_reducible repeat (first | apply Kd.R_alloc | apply Kd.R_drewN | apply Kd.R_drew)); exact Kd.R_mono HO112.out (fun _ hk => hk.1), qBHB, by repeat (first | (with_reducible first | exact HK.out | apply Kept.alloc | apply Kept.drewN | apply Kept.drew) | exact HK.out)⟩
     ·rw [if_neg c13] at H
      exact absurd H (by simp)
    ·replace c12 := Bool.eq_false_iff.mpr c12
     subst c12
     have H1 : (if ((a1) % 4294967296) > 65535 then (if ((a1) % 4294967296) ≤ 1114111 then ((some (([Go.bits .or .u8 240 ((a1 / 262144) % 256), 128 + a1 / 4096 % 64, 128 + a1 / 64 % 64, 128 + a1 % 64] : List Int) : List Int)).bind fun y113 => (if l0.length + y113.length < 140737488355328 then (some (l0 ++ y113)) else (none))) else ((some (([239, 191, 189] : List Int) : List Int)).bind fun y119 => (if l0.length + y119.length < 140737488355328 then (some (l0 ++ y119)) else (none)))) else ((some (([239, 191, 189] : List Int) : List Int)).bind fun y125 => (if l0.length + y125.length < 140737488355328 then (some (l0 ++ y125)) else (none)))) = some r := by rw [if_neg (show ¬ (false = true) by decide)] at H; exact H
     clear H; have H := H1; clear H1; by_cases c18 : ((a1) % 4294967296) > 65535
     ·rw [if_pos c18] at H
      have c18b0 : decide (65535 < ((a1) % 4294967296)) = true := decide_eq_true c18; clear c18; by_cases c19 : ((a1) % 4294967296) ≤ 1114111
      ·rw [if_pos c19] at H
       have c19b0 : decide (((a1) % 4294967296) ≤ 1114111) = true := decide_eq_true c19; clear c19
       obtain ⟨y113, hy113⟩ : ∃ y_ : List Int, y_ = (([Go.bits .or .u8 240 ((a1 / 262144) % 256), 128 + a1 / 4096 % 64, 128 + a1 / 64 % 64, 128 + a1 % 64] : List Int)) := ⟨_, rfl⟩
       replace H : (if l0.length + y113.length < 140737488355328 then (some (l0 ++ y113)) else (none)) = some r := qh_ hy113 H; have Ny113 := Aside0.mk hy113; clear hy113; by_cases c20 : l0.length + y113.length < 140737488355328
       ·rw [if_pos c20] at H
        have LMc20 := Aside0.mk c20; clear c20
        obtain ⟨y116, hy116⟩ : ∃ y_ : List Int, y_ = (l0 ++ y113) := ⟨_, rfl⟩
        replace H : (some y116) = some r := qh_ hy116 H; have Ny116 := Aside0.mk hy116; clear hy116; obtain rfl := Option.some.inj H
        go_wp2_with (first | ((with_reducible refine gate_dst (N := 76) rfl ?_); refine Kd.R_lit (Kd.int .u8) _ 5 ?hg (N := 76) ?hd (xs := ([Go.bits .or .u8 240 ((a1 / 262144) % 256), 128 + a1 / 4096 % 64, 128 + a1 / 64 % 64, 128 + a1 % 64] : List Int)) (inner := [.int .u8 (Go.bits .or .u8 240 ((a1 / 262144) % 256)), .int .u8 (128 + a1 / 4096 % 64), .int .u8 (128 + a1 / 64 % 64), .int .u8 (128 + a1 % 64)]) (ok := fun _ => True) (okp := fun _ => True) ?hr ?hp (fun _ hk => hk) trivial (Below.refl _ _) (Nat.le_refl _) (by simp) ?_; (case hd => rfl); (case hg => rfl); (case hr => first | (go_simp; done) | (go_simp; rfl)); (case hp => exact (Reps.one rfl (Reps.one rfl (Reps.one rfl (Reps.one rfl (Reps.none _ _)))))); intro v114 w21 ho22 hb hg_ hnew_; clear hg_ hnew_; (first | rw [← Ny113.out] at ho22 | (simp only [Int.reduceToNat] at ho22; rw [← Ny113.out] at ho22)); have HO115 := Aside0.mk (Kd.R_lower (Kd.R_new' (Kd.R_newM (M := fun k_ => (P0_ k_ ∨ w.heap.size ≤ k_)) ho22 (by first | exact HK.out.1 | exact (show Kept w _ (fun k_ => P0_ k_) from by repeat (first | (with_reducible first | exact HK.out | apply Kept.alloc | apply Kept.drewN | apply Kept.drew) | exact HK.out)).1) (fun k_ h_ => .inr h_)) (Kd.R_lt (qr_ HO_0))) (below_size qBHB)); replace HO_0 := Aside0.mk (Kd.R_elder' (qr_ HO_0) (Kd.R_base ho22) hb); replace HK := Aside0.mk (Kept.below (S := (fun k_ => P0_ k_)) (by repeat (first | (with_reducible first | exact HK.out | apply Kept.alloc | apply Kept.drewN | apply Kept.drew) | exact HK.out)) hb); replace HB := Aside0.mk (below_step qBHB hb); clear hb ho22; obtain ⟨Ao24, co24, eo24⟩ := Kd.R_slice HO115.out; subst eo24) | ((with_reducible refine gate_builtin (b := .append) (xs := #[.tmp 57, .tmp 76]) rfl ?_); at_builtin; refine Kd.R_append_rows (Kd.int .u8) (w0 := w0) w0.heap.size rfl (.tmp 57) (.tmp 76) 22 5 (.int .u8 0) 1 rfl Tryd.underlying22 info5 rfl (by decide) (by omega) u9000_ l0 y113 _ _ _ (fun k_ => (P0_ k_ ∨ w.heap.size ≤ k_) ∧ some k_ ≠ (.slice Ao24 y113.length co24 : Value).ownBlock) (fun _ => False) rfl rfl ?aO ?aR (fun _ _ h => h) (fun _ h => h.elim) ?aF ?aB ?aS ?aL ?_; (case aR => repeat (first | exact (Kd.R_reads' HO115.out).2.2 | (with_reducible refine Kd.C_alloc ?_ _) | (with_reducible refine Kd.C_drewN ?_ _) | (with_reducible refine Kd.C_drew ?_))); (case aB => exact qBHB); (case aF => exact (fun k_ hk => ⟨(.inr (Nat.le_trans (by first | exact HK.out.1 | exact (show Kept w _ (fun k_ => P0_ k_) from by repeat (first | (with_reducible first | exact HK.out | apply Kept.alloc | apply Kept.drewN | apply Kept.drew) | exact HK.out)).1) hk)), Kd.fresh' (Kd.R_lt (qr_ HO115)) k_ hk⟩)); (case aO => exact (qr_ HO_0)); (case aS => exact (below_size qBHB)); (case aL => have := LMc20.out; omega); intro v117 w23 ho hb hg hat; rw [← Ny116.out] at ho; replace HO115 := Aside0.mk (Kd.R_after (ok := (fun k_ => (P0_ k_ ∨ w.heap.size ≤ k_))) (by (with_reducible repeat (first | apply Kd.R_alloc | apply Kd.R_drewN | apply Kd.R_drew)); exact Kd.R_mono HO115.out (fun _ hk => ⟨hk.1.1, hk.2⟩)) hg hat); replace HB := Aside0.mk (hb); replace HK := Aside0.mk (Kept.of_grown (S := (fun k_ => P0_ k_)) hg (by repeat (first | (with_reducible first | exact HK.out | apply Kept.alloc | apply Kept.drewN | apply Kept.drew) | exact HK.out)) (fun k_ e_ => (HO_0.out.1 k_ e_).1)); have HO118 := Aside0.mk (ho); clear HO_0; clear ho hb hg hat))
        go_ret; exact ⟨_, qee_, by (with_reducible repeat (first | apply Kd.R_alloc | apply Kd.R_drewN | apply Kd.R_drew)); exact Kd.R_mono HO118.out (fun _ hk => hk.1), qBHB, by repeat (first | (with_reducible first | exact HK.out | apply Kept.alloc | apply Kept.drewN | apply Kept.drew) | exact HK.out)⟩
       ·rw [if_neg c20] at H
        exact absurd H (by simp)
      ·rw [if_neg c19] at H
       have c19b0 : decide (((a1) % 4294967296) ≤ 1114111) = false := decide_eq_false c19; clear c19
       obtain ⟨y119, hy119⟩ : ∃ y_ : List Int, y_ = (([239, 191, 189] : List Int)) := ⟨_, rfl⟩
       replace H : (if l0.length + y119.length < 140737488355328 then (some (l0 ++ y119)) else (none)) = some r := qh_ hy119 H; have Ny119 := Aside0.mk hy119; clear hy119; by_cases c25 : l0.length + y119.length < 140737488355328
       ·rw [if_pos c25] at H
        have LMc25 := Aside0.mk c25; clear c25
        obtain ⟨y122, hy122⟩ : ∃ y_ : List Int, y_ = (l0 ++ y119) := ⟨_, rfl⟩
        replace H : (some y122) = some r := qh_ hy122 H; have Ny122 := Aside0.mk hy122; clear hy122; obtain rfl := Option.some.inj H
        go_wp2_with (first | ((with_reducible refine gate_dst (N := 9) rfl ?_); refine Kd.R_lit (Kd.int .u8) _ 5 ?hg (N := 9) ?hd (xs := ([239, 191, 189] : List Int)) (inner := [.int .u8 239, .int .u8 191, .int .u8 189]) (ok := fun _ => True) (okp := fun _ => True) ?hr ?hp (fun _ hk => hk) trivial (Below.refl _ _) (Nat.le_refl _) (by simp) ?_; (case hd => rfl); (case hg => rfl); (case hr => first | (go_simp; done) | (go_simp; rfl)); (case hp => exact (Reps.one rfl (Reps.one rfl (Reps.one rfl (Reps.none _ _))))); intro v120 w26 ho27 hb hg_ hnew_; clear hg_ hnew_; (first | rw [← Ny119.out] at ho27 | (simp only [Int.reduceToNat] at ho27; rw [← Ny119.out] at ho27)); have HO121 := Aside0.mk (Kd.R_lower (Kd.R_new' (Kd.R_newM (M := fun k_ => (P0_ k_ ∨ w.heap.size ≤ k_)) ho27 (by first | exact HK.out.1 | exact (show Kept w _ (fun k_ => P0_ k_) from by repeat (first | (with_reducible first | exact HK.out | apply Kept.alloc | apply Kept.drewN | apply Kept.drew) | exact HK.out)).1) (fun k_ h_ => .inr h_)) (Kd.R_lt (qr_ HO_0))) (below_size qBHB)); replace HO_0 := Aside0.mk (Kd.R_elder' (qr_ HO_0) (Kd.R_base ho27) hb); replace HK := Aside0.mk (Kept.below (S := (fun k_ => P0_ k_)) (by repeat (first | (with_reducible first | exact HK.out | apply Kept.alloc | apply Kept.drewN | apply Kept.drew) | exact HK.out)) hb); replace HB := Aside0.mk (below_step qBHB hb); clear hb ho27; obtain ⟨Ao29, co29, eo29⟩ := Kd.R_slice HO121.out; subst eo29) | ((with_reducible refine gate_builtin (b := .append) (xs := #[.tmp 8, .tmp 9]) rfl ?_); at_builtin; refine Kd.R_append_rows (Kd.int .u8) (w0 := w0) w0.heap.size rfl (.tmp 8) (.tmp 9) 22 5 (.int .u8 0) 1 rfl Tryd.underlying22 info5 rfl (by decide) (by omega) u9000_ l0 y119 _ _ _ (fun k_ => (P0_ k_ ∨ w.heap.size ≤ k_) ∧ some k_ ≠ (.slice Ao29 y119.length co29 : Value).ownBlock) (fun _ => False) rfl rfl ?aO ?aR (fun _ _ h => h) (fun _ h => h.elim) ?aF ?aB ?aS ?aL ?_; (case aR => repeat (first | exact (Kd.R_reads' HO121.out).2.2 | (with_reducible refine Kd.C_alloc ?_ _) | (with_reducible refine Kd.C_drewN ?_ _) | (with_reducible refine Kd.C_drew ?_))); (case aB => exact qBHB); (case aF => exact (fun k_ hk => ⟨(.inr (Nat.le_trans (by first | exact HK.out.1 | exact (show Kept w _ (fun k_ => P0_ k_) from by repeat (first | (with_reducible first | exact HK.out | apply Kept.alloc | apply Kept.drewN | apply Kept.drew) | exact HK.out)).1) hk)), Kd.fresh' (Kd.R_lt (qr_ HO121)) k_ hk⟩)); (case aO => exact (qr_ HO_0)); (case aS => exact (below_size qBHB)); (case aL => have := LMc25.out; omega); intro v123 w28 ho hb hg hat; rw [← Ny122.out] at ho; replace HO121 := Aside0.mk (Kd.R_after (ok := (fun k_ => (P0_ k_ ∨ w.heap.size ≤ k_))) (by (with_reducible repeat (first | apply Kd.R_alloc | apply Kd.R_drewN | apply Kd.R_drew)); exact Kd.R_mono HO121.out (fun _ hk => ⟨hk.1.1, hk.2⟩)) hg hat); replace HB := Aside0.mk (hb); replace HK := Aside0.mk (Kept.of_grown (S := (fun k_ => P0_ k_)) hg (by repeat (first | (with_reducible first | exact HK.out | apply Kept.alloc | apply Kept.drewN | apply Kept.drew) | exact HK.out)) (fun k_ e_ => (HO_0.out.1 k_ e_).1)); have HO124 := Aside0.mk (ho); clear HO_0; clear ho hb hg hat))
        go_ret; exact ⟨_, qee_, by (with_reducible repeat (first | apply Kd.R_alloc | apply Kd.R_drewN | apply Kd.R_drew)); exact Kd.R_mono HO124.out (fun _ hk => hk.1), qBHB, by repeat (first | (with_reducible first | exact HK.out | apply Kept.alloc | apply Kept.drewN | apply Kept.drew) | exact HK.out)⟩
       ·rw [if_neg c25] at H
        exact absurd H (by simp)
     ·rw [if_neg c18] at H
      have c18b0 : decide (65535 < ((a1) % 4294967296)) = false := decide_eq_false c18; clear c18
      obtain ⟨y125, hy125⟩ : ∃ y_ : List Int, y_ = (([239, 191, 189] : List Int)) := ⟨_, rfl⟩
      replace H : (if l0.length + y125.length < 140737488355328 then (some (l0 ++ y125)) else (none)) = some r := qh_ hy125 H; have Ny125 := Aside0.mk hy125; clear hy125; by_cases c30 : l0.length + y125.length < 140737488355328
      ·rw [if_pos c30] at H
       have LMc30 := Aside0.mk c30; clear c30
       obtain ⟨y128, hy128⟩ : ∃ y_ : List Int, y_ = (l0 ++ y125) := ⟨_, rfl⟩
       replace H : (some y128) = some r := qh_ hy128 H; have Ny128 := Aside0.mk hy128; clear hy128; obtain rfl := Option.some.inj H
       go_wp2_with (first | ((with_reducible refine gate_dst (N := 9) rfl ?_); refine Kd.R_lit (Kd.int .u8) _ 5 ?hg (N := 9) ?hd (xs := ([239, 191, 189] : List Int)) (inner := [.int .u8 239, .int .u8 191, .int .u8 189]) (ok := fun _ => True) (okp := fun _ => True) ?hr ?hp (fun _ hk => hk) trivial (Below.refl _ _) (Nat.le_refl _) (by simp) ?_; (case hd => rfl); (case hg => rfl); (case hr => first | (go_simp; done) | (go_simp; rfl)); (case hp => exact (Reps.one rfl (Reps.one rfl (Reps.one rfl (Reps.none _ _))))); intro v126 w31 ho32 hb hg_ hnew_; clear hg_ hnew_; (first | rw [← Ny125.out] at ho32 | (simp only [Int.reduceToNat] at ho32; rw [← Ny125.out] at ho32)); have HO127 := Aside0.mk (Kd.R_lower (Kd.R_new' (Kd.R_newM (M := fun k_ => (P0_ k_ ∨ w.heap.size ≤ k_)) ho32 (by first | exact HK.out.1 | exact (show Kept w _ (fun k_ => P0_ k_) from by repeat (first | (with_reducible first | exact HK.out | apply Kept.alloc | apply Kept.drewN | apply Kept.drew) | exact HK.out)).1) (fun k_ h_ => .inr h_)) (Kd.R_lt (qr_ HO_0))) (below_size qBHB)); replace HO_0 := Aside0.mk (Kd.R_elder' (qr_ HO_0) (Kd.R_base ho32) hb); replace HK := Aside0.mk (Kept.below (S := (fun k_ => P0_ k_)) (by repeat (first | (with_reducible first | exact HK.out | apply Kept.alloc | apply Kept.drewN | apply Kept.drew) | exact HK.out)) hb); replace HB := Aside0.mk (below_step qBHB hb); clear hb ho32; obtain ⟨Ao34, co34, eo34⟩ := Kd.R_slice HO127.out; subst eo34) | ((with_reducible refine gate_builtin (b := .append) (xs := #[.tmp 8, .tmp 9]) rfl ?_); at_builtin; refine Kd.R_append_rows (Kd.int .u8) (w0 := w0) w0.heap.size rfl (.tmp 8) (.tmp 9) 22 5 (.int .u8 0) 1 rfl Tryd.underlying22 info5 rfl (by decide) (by omega) u9000_ l0 y125 _ _ _ (fun k_ => (P0_ k_ ∨ w.heap.size ≤ k_) ∧ some k_ ≠ (.slice Ao34 y125.length co34 : Value).ownBlock) (fun _ => False) rfl rfl ?aO ?aR (fun _ _ h => h) (fun _ h => h.elim) ?aF ?aB ?aS ?aL ?_; (case aR => repeat (first | exact (Kd.R_reads' HO127.out).2.2 | (with_reducible refine Kd.C_alloc ?_ _) | (with_reducible refine Kd.C_drewN ?_ _) | (with_reducible refine Kd.C_drew ?_))); (case aB => exact qBHB); (case aF => exact (fun k_ hk => ⟨(.inr (Nat.le_trans (by first | exact HK.out.1 | exact (show Kept w _ (fun k_ => P0_ k_) from by repeat (first | (with_reducible first | exact HK.out | apply Kept.alloc | apply Kept.drewN | apply Kept.drew) | exact HK.out)).1) hk)), Kd.fresh' (Kd.R_lt (qr_ HO127)) k_ hk⟩)); (case aO => exact (qr_ HO_0)); (case aS => exact (below_size qBHB)); (case aL => have := LMc30.out; omega); intro v129 w33 ho hb hg hat; rw [← Ny128.out] at ho; replace HO127 := Aside0.mk (Kd.R_after (ok := (fun k_ => (P0_ k_ ∨ w.heap.size ≤ k_))) (by (with_reducible repeat (first | apply Kd.R_alloc | apply Kd.R_drewN | apply Kd.R_drew)); exact Kd.R_mono HO127.out (fun _ hk => ⟨hk.1.1, hk.2⟩)) hg hat); replace HB := Aside0.mk (hb); replace HK := Aside0.mk (Kept.of_grown (S := (fun k_ => P0_ k_)) hg (by repeat (first | (with_reducible first | exact HK.out | apply Kept.alloc | apply Kept.drewN | apply Kept.drew) | exact HK.out)) (fun k_ e_ => (HO_0.out.1 k_ e_).1)); have HO130 := Aside0.mk (ho); clear HO_0; clear ho hb hg hat))
       go_ret; exact ⟨_, qee_, by (with_reducible repeat (first | apply Kd.R_alloc | apply Kd.R_drewN | apply Kd.R_drew)); exact Kd.R_mono HO130.out (fun _ hk => hk.1), qBHB, by repeat (first | (with_reducible first | exact HK.out | apply Kept.alloc | apply Kept.drewN | apply Kept.drew) | exact HK.out)⟩
      ·rw [if_neg c30] at H
       exact absurd H (by simp)

end Go.Proofs.YtcibmjgofebmdaaDoor.P
