/- Part 8 of what the law FnSets stands on; the last part ends with the law's row. No condition of mine. -/
import Derived.Test.YtcmifdcgmalnlaaDoorMFnSets7
import Derived.Test.YtcmifdcgmalnlaaDoorMFnSets3
import Derived.Test.YtcmifdcgmalnlaaDoorMFnSets4
import Derived.Test.YtcmifdcgmalnlaaDoorMFnSets1
import Derived.Test.YtcmifdcgmalnlaaDoorMFnSets2
/- Lemmas of mine: a text cut at a sign: the reference's cut and the library's Split at a sign of one byte give the same pieces. Plain. -/
set_option linter.unusedVariables false
set_option linter.unusedSimpArgs false
namespace Go.Proofs.YtcmifdcgmalnlaaDoor.P
open Go.RowKit Go.Proofs.YtcmifdcgmalnlaaDoorW.PrintWords
/-- The pieces of a text, some bytes having been read of the first. -/
def cutA (c : UInt8) : List UInt8 → List UInt8 → List (List UInt8)
 | acc, [] => [acc]
 | acc, b :: r => if b = c then acc :: cutA c [] r else cutA c (acc ++ [b]) r
def mkB (l : List UInt8) : ByteArray := ⟨l.toArray⟩
theorem mkB_bl (s : ByteArray) : mkB (bl s) = s := mk_bl s
theorem bl_mkB (l : List UInt8) : bl (mkB l) = l := bl_mk l
/-- The pieces of a text. -/
def cutB (c : UInt8) (s : ByteArray) : List ByteArray := (cutA c [] (bl s)).map mkB
theorem cutA_free (c : UInt8) : ∀ (p acc r : List UInt8), c ∉ p → cutA c acc (p ++ r) = cutA c (acc ++ p) r
 | [], acc, r, _ => by simp
 | b :: p, acc, r, h => by
  have h1 : b ≠ c := fun e => h (by rw [e]; exact List.mem_cons_self ..)
  rw [List.cons_append, cutA, if_neg h1, cutA_free c p (acc ++ [b]) r (fun e => h (List.mem_cons_of_mem _ e))]
  simp
theorem cutA_none (c : UInt8) (l : List UInt8) (h : c ∉ l) : cutA c [] l = [l] := by
 have := cutA_free c l [] [] h
 rw [List.append_nil] at this
 rw [this]; rfl
theorem cutA_at (c : UInt8) (p r : List UInt8) (h : c ∉ p) : cutA c [] (p ++ c :: r) = p :: cutA c [] r := by
 rw [cutA_free c p [] (c :: r) h, cutA, if_pos rfl]; rfl
theorem cutA_length (c : UInt8) : ∀ (l acc : List UInt8), (cutA c acc l).length = l.count c + 1
 | [], acc => rfl
 | b :: l, acc => by
  rw [cutA]
  by_cases h : b = c
  ·rw [if_pos h, List.length_cons, cutA_length c l [], h, List.count_cons_self]
  ·rw [if_neg h, cutA_length c l, List.count_cons_of_ne h]
theorem index_free (c : UInt8) : ∀ (l : List UInt8), 0 < l.count c → ∃ m : Nat, Lib.indexByte l c = (m : Int) ∧ m < l.length ∧ l = l.take m ++ c :: l.drop (m + 1) ∧ c ∉ l.take m
 | [], h => by simp at h
 | b :: l, h => by
  unfold Lib.indexByte
  by_cases hb : b = c
  ·subst hb
   exact ⟨0, by simp, by simp, by simp, by simp⟩
  ·rw [List.count_cons_of_ne hb] at h
   obtain ⟨m, h1, h2, h3, h4⟩ := index_free c l h
   refine ⟨m + 1, ?_, by simpa using h2, ?_, ?_⟩
   ·have : (b == c) = false := beq_eq_false_iff_ne.mpr hb
    rw [this, h1]
    have : ((m : Int) == -1) = false := beq_eq_false_iff_ne.mpr (by omega)
    simp [this]
   ·rw [List.take_succ_cons, List.drop_succ_cons, List.cons_append, ← h3]
   ·rw [List.take_succ_cons]
    intro hm
    rcases List.mem_cons.1 hm with e | e
    ·exact hb e.symm
    ·exact h4 e
theorem byte_iff (a b : UInt8) : ((a.toNat : Int) = (b.toNat : Int)) ↔ a = b := by
 rw [Int.ofNat_inj, UInt8.toNat_inj]
theorem specCut_l0 (t : ByteArray) (c : UInt8) (ht : t.size ≤ 8796093022000) : ∀ (d i fr : Nat) (out : List ByteArray), i + d = t.size → fr ≤ i → out.length ≤ i →
  Ev (fun k => spec_l00Cut.l0 k t (c.toNat : Int) out (fr : Int) (i : Int)) (out ++ (cutA c (((bl t).drop fr).take (i - fr)) ((bl t).drop i)).map mkB) := by
 have hsz := bl_size t
 intro d
 induction d with
 | zero =>
  intro i fr out hi hf ho
  rw [List.drop_eq_nil_of_le (show (bl t).length ≤ i by omega)]
  refine Ev.step (f := fun _ => some _) (fun k => ?_) (Ev.now _)
  simp only [spec_l00Cut.l0, cutA, List.map_cons, List.map_nil]
  rw [if_neg (by omega), if_pos (by omega), if_pos (by omega), if_pos (by omega)]
  congr 4
  refine bl_inj ?_
  rw [bl_extract, bl_mkB, Int.toNat_natCast, show t.size = i by omega]
 | succ d ih =>
  intro i fr out hi hf ho
  have hlt : i < (bl t).length := by omega
  have hacc : ((bl t).drop fr).take (i + 1 - fr) = ((bl t).drop fr).take (i - fr) ++ [(bl t)[i]'hlt] := by
   rw [show i + 1 - fr = (i - fr) + 1 by omega, List.take_add_one, List.getElem?_drop, show fr + (i - fr) = i by omega, List.getElem?_eq_getElem hlt]; rfl
  rw [List.drop_eq_getElem_cons hlt, cutA]
  by_cases hc : (bl t)[i]'hlt = c
  ·rw [if_pos hc, List.map_cons]
   have h := ih (i + 1) (i + 1) (out ++ [mkB (((bl t).drop fr).take (i - fr))]) (by omega) (by omega) (by rw [List.length_append, List.length_cons, List.length_nil]; omega)
   rw [Nat.sub_self, List.take_zero, List.append_assoc] at h
   refine Ev.step (fun k => ?_) h
   simp only [spec_l00Cut.l0]
   rw [bt_eq t i hlt, if_pos (by omega), if_pos (by omega), if_pos ((byte_iff _ _).2 hc), if_pos (by omega), if_pos (by omega), if_pos (by omega), if_pos (by omega), w64s i (by omega)]
   congr 4
   refine bl_inj ?_
   rw [bl_extract, bl_mkB, Int.toNat_natCast, Int.toNat_natCast]
  ·rw [if_neg hc, ← hacc]
   refine Ev.step (fun k => ?_) (ih (i + 1) fr out (by omega) (by omega) (by omega))
   simp only [spec_l00Cut.l0]
   rw [bt_eq t i hlt, if_pos (by omega), if_pos (by omega), if_neg (fun e => hc ((byte_iff _ _).1 e)), w64s i (by omega)]
theorem specCut_ev (t : ByteArray) (c : UInt8) (ht : t.size ≤ 8796093022000) : Ev (fun k => spec_l00Cut.f k t (c.toNat : Int)) (cutB c t) := by
 have h := specCut_l0 t c ht t.size 0 0 [] (by omega) (by omega) (by simp)
 refine Ev.congr (fun k => ?_) (show Ev (fun k => spec_l00Cut.l0 k t (c.toNat : Int) [] ((0 : Nat) : Int) ((0 : Nat) : Int)) (cutB c t) by simpa [cutB] using h)
 rfl
theorem take_set_snoc {α : Type} (l : List α) (j : Nat) (v : α) (h : j < l.length) : (l.set j v).take (j + 1) = l.take j ++ [v] := by
 rw [List.take_add_one, List.take_set_of_le (Nat.le_refl _)]
 simp [h]
theorem genSplit_l0 (c : UInt8) (N : Nat) (hN : N ≤ 17592186044415) : ∀ (d j : Nat) (s : ByteArray) (a : List ByteArray), j + d = N → (bl s).count c = d → a.length = N + 1 → s.size ≤ 4611686018427387904 →
  Ev (fun k => strings_genSplit.l0 k s (mkB [c]) 0 (N : Int) a (j : Int)) (a.take j ++ cutB c s) := by
 intro d
 induction d with
 | zero =>
  intro j s a hj hc ha hs
  have hn : c ∉ bl s := List.count_eq_zero.1 hc
  refine Ev.step (f := fun _ => some _) (fun k => ?_) (Ev.now _)
  simp only [strings_genSplit.l0]
  rw [if_neg (by omega), if_pos (by omega), if_pos (by omega), w64s j (by omega), if_pos (by omega), if_pos (by omega), Int.toNat_natCast, Int.toNat_natCast, take_set_snoc a j s (by omega)]
  unfold cutB
  rw [cutA_none c _ hn, List.map_cons, List.map_nil, mkB_bl]
 | succ d ih =>
  intro j s a hj hc ha hs
  have hsz := bl_size s
  obtain ⟨m, h1, h2, h3, h4⟩ := index_free c (bl s) (by omega)
  have hidx : strings_Index.f s (mkB [c]) = some (m : Int) := by
   unfold strings_Index.f
   rw [if_pos (show (mkB [c]).data.toList.length = 1 from rfl)]
   exact congrArg some h1
  have hone : (mkB [c]).size = 1 := rfl
  have hc2 : ((bl s).drop (m + 1)).count c = d := by
   have : (bl s).count c = ((bl s).take m).count c + (((bl s).drop (m + 1)).count c + 1) := by
    conv => lhs; rw [h3]
    rw [List.count_append, List.count_cons_self]
   rw [List.count_eq_zero.2 h4] at this
   omega
  have he : bl (s.extract (m + 1) s.size) = (bl s).drop (m + 1) := by
   rw [bl_extract]
   exact List.take_of_length_le (by rw [List.length_drop]; omega)
  have h := ih (j + 1) (s.extract (m + 1) s.size) (a.set j (s.extract 0 m)) (by omega) (by rw [he]; exact hc2) (by rw [List.length_set]; exact ha) (by
   have := bl_size (s.extract (m + 1) s.size)
   rw [he, List.length_drop] at this
   omega)
  rw [take_set_snoc a j _ (by omega), List.append_assoc] at h
  have hcut : cutB c s = [s.extract 0 m] ++ cutB c (s.extract (m + 1) s.size) := by
   unfold cutB
   rw [he]
   conv => lhs; rw [h3]
   rw [cutA_at c _ _ h4, List.map_cons]
   show _ = s.extract 0 m :: _
   congr 1
   refine bl_inj ?_
   rw [bl_mkB, bl_extract]
   simp
  rw [hcut]
  refine Ev.step (fun k => ?_) h
  simp only [strings_genSplit.l0, hidx, bS]
  have w0 : Aside0 (wrap64 ((m : Int) + 0) = (m : Int)) := ⟨w64 (by omega) (by omega)⟩
  have w1 : Aside0 (wrap64 ((m : Int) + ((mkB [c]).size : Int)) = ((m + 1 : Nat) : Int)) := ⟨by rw [hone]; exact w64s m (by omega)⟩
  clear hone
  rw [w0.out, w1.out, w64s j (by omega)]
  rw [if_pos (by omega), if_neg (by omega), if_pos (by omega), if_pos (by omega), if_pos (by omega), if_pos (by omega), if_pos (by omega), if_pos (by omega)]
  simp only [Int.toNat_natCast]
theorem split_ev (s : ByteArray) (c : UInt8) (hs : s.size ≤ 17592186044000) : Ev (fun k => strings_Split.f k s (mkB [c])) (cutB c s) := by
 have hsz := bl_size s
 have hle : (bl s).count c ≤ (bl s).length := List.count_le_length
 have hcount : strings_Count.f s (mkB [c]) = some (((bl s).count c : Nat) : Int) := by
  unfold strings_Count.f
  rw [if_pos (show (mkB [c]).data.toList.length = 1 from rfl)]
  rfl
 obtain ⟨K, hK⟩ := genSplit_l0 c ((bl s).count c) (by omega) ((bl s).count c) 0 s (List.replicate ((bl s).count c + 1) (⟨#[]⟩ : ByteArray)) (by omega) rfl (by simp) (by omega)
 refine ⟨K + 1, fun k hk => ?_⟩
 obtain ⟨m, rfl⟩ : ∃ m, k = m + 1 := ⟨k - 1, by omega⟩
 have e := hK m (by omega)
 simp only [List.take_zero, List.nil_append] at e
 have hne : ¬ (mkB [c]).toList = ([] : List UInt8) := by rw [toList_bl, bl_mkB]; simp
 have hmn : mn (((bl s).count c + 1 : Nat) : Int) (((s.size + 1 : Nat)) : Int) = (((bl s).count c + 1 : Nat) : Int) := by
  unfold mn
  split <;> omega
 have hj : strings_genSplit.j0 (m + 1) s (mkB [c]) 0 (((bl s).count c + 1 : Nat) : Int) = some (cutB c s) := by
  simp only [strings_genSplit.j0]
  rw [w64s s.size (by omega), hmn, if_pos (by omega), Int.toNat_natCast, if_pos (by omega)]
  have : wrap64 ((((bl s).count c + 1 : Nat) : Int) - 1) = (((bl s).count c : Nat) : Int) := by rw [w64 (by omega) (by omega)]; omega
  rw [this]
  exact e
 simp only [strings_Split.f, strings_genSplit.f, hcount, bS]
 rw [if_neg (by decide), if_neg hne, if_pos (by decide), w64s _ (by omega), hj]
 rfl
theorem cutB_size (c : UInt8) (s : ByteArray) : ∀ x ∈ cutB c s, x.size ≤ s.size := by
 have h : ∀ (l acc : List UInt8), ∀ x ∈ cutA c acc l, x.length ≤ acc.length + l.length := by
  intro l
  induction l with
  | nil => intro acc x hx; simp [cutA] at hx; subst hx; simp
  | cons b l ih =>
   intro acc x hx
   rw [cutA] at hx
   split at hx
   ·rcases List.mem_cons.1 hx with rfl | hx
    ·simp
    ·have := ih [] x hx; simp only [List.length_nil, List.length_cons] at this ⊢; omega
   ·have := ih _ x hx; simp only [List.length_append, List.length_nil, List.length_cons] at this ⊢; omega
 intro x hx
 unfold cutB at hx
 obtain ⟨y, hy, rfl⟩ := List.mem_map.1 hx
 have := h _ _ y hy
 rw [bl_size, bl_size, bl_mkB]
 simpa using this
theorem cutB_length (c : UInt8) (s : ByteArray) : (cutB c s).length ≤ s.size + 1 := by
 have hsz := bl_size s
 unfold cutB
 rw [List.length_map, cutA_length]
 have : (bl s).count c ≤ (bl s).length := List.count_le_length
 omega
theorem rdOf_nat2 (xs : List ByteArray) (i : Nat) (h : i < xs.length) : rdOf ByteArray.empty xs (i : Int) = xs[i]'h := by
 unfold rdOf
 rw [Int.toNat_natCast, List.getD_eq_getElem?_getD, List.getElem?_eq_getElem h]; rfl
end Go.Proofs.YtcmifdcgmalnlaaDoor.P
namespace Go.Proofs.YtcmifdcgmalnlaaDoor.P
open Go.RowKit Go.Proofs.YtcmifdcgmalnlaaDoorW.PrintWords Go.Proofs.YtcmifdcgmalnlaaDoorW.PrintLast Go.Proofs.YtcmifdcgmalnlaaDoorW.PrintMore
attribute [local go_sem] max2_int min2_int max_two min_two max_three min_three max_four min_four   -- for this text's walks alone
set_option linter.unusedVariables false
set_option linter.unusedSimpArgs false

/-! ### stringslite_CutPrefix: function 118 -/
def stringslite_CutPrefix.f (a0 : ByteArray) (a1 : ByteArray) : Option (ByteArray × Bool) := (stringslite_HasPrefix.f a0 a1).bind fun t101 => (if t101 = true then (if 0 ≤ (a1.size : Int) then (if (a1.size : Int) ≤ (a0.size : Int) then (some (a0.extract ((a1.size : Int) : Int).toNat a0.size, true)) else (none)) else (none)) else (some (a0, false)))
set_option maxHeartbeats 8000000 in
set_option maxRecDepth 100000 in
theorem stringslite_CutPrefix.calls (a0 : ByteArray) (a1 : ByteArray) (r1 : ByteArray) (r2 : Bool) (w : World) (h : stringslite_CutPrefix.f a0 a1 = some (r1, r2)) :
  Calls Tryd.prog 118 #[.string a0, .string a1] w fun e w' => e = .returned (.tuple #[.string r1, .bool r2]) ∧ Drawn0 w w' := by
 have H : ((stringslite_HasPrefix.f a0 a1).bind fun t101 => (if t101 = true then (if 0 ≤ (a1.size : Int) then (if (a1.size : Int) ≤ (a0.size : Int) then (some (a0.extract ((a1.size : Int) : Int).toNat a0.size, true)) else (none)) else (none)) else (some (a0, false)))) = some (r1, r2) := h
 clear h
 replace H := Option.bind_eq_some_iff.mp H
 obtain ⟨t101, A30, H⟩ := H
 replace H : (if t101 = true then (if 0 ≤ (a1.size : Int) then (if (a1.size : Int) ≤ (a0.size : Int) then (some (a0.extract ((a1.size : Int) : Int).toNat a0.size, true)) else (none)) else (none)) else (some (a0, false))) = some (r1, r2) := H
 have A3 := Aside0.mk A30
 clear A30
 by_cases c4 : t101 = true
 ·subst c4
  have H1 : (if 0 ≤ (a1.size : Int) then (if (a1.size : Int) ≤ (a0.size : Int) then (some (a0.extract ((a1.size : Int) : Int).toNat a0.size, true)) else (none)) else (none)) = some (r1, r2) := by rw [if_pos rfl] at H; exact H
  clear H
  have H := H1
  clear H1
  by_cases c5 : 0 ≤ (a1.size : Int)
  ·rw [if_pos c5] at H
   have c5b0 := eq_true c5
   have c5b1 : decide (0 ≤ (a1.size : Int)) = true := decide_eq_true c5
   clear c5
   by_cases c6 : (a1.size : Int) ≤ (a0.size : Int)
   ·rw [if_pos c6] at H
    have c6b0 := eq_true c6
    have c6b1 : decide ((a1.size : Int) ≤ (a0.size : Int)) = true := decide_eq_true c6
    clear c6
    simp only [Option.some.injEq, Prod.mk.injEq] at H
    obtain ⟨rfl, rfl⟩ := H
    go_enter Tryd.func118, Tryd.ntmps118
    go_wp2_with (first | ((with_reducible refine gate_callee (f := 138) rfl ?_); refine goesL_ (some 8) rfl rfl Tryd.func138 (by kernel_rfl) rfl #[.string a0, .string a1] rfl (by (try simp only [List.map_toArray, List.map_cons, List.map_nil]); first | done | rfl | (simp only [List.length_drop, List.length_take]; rfl)) ?_; (with_reducible refine (stringslite_HasPrefix.calls a0 a1 true _ A3.out).mono ?_); rintro e w' ⟨rfl, ⟨nd, rfl⟩⟩; refine ⟨_, rfl, ?_⟩))
    go_ret2
    exact ⟨by first | rfl | (simp; done) | (simp [*]; done), by repeat (first | exact Drawn0.refl _ | apply Drawn0.step)⟩
   ·rw [if_neg c6] at H
    exact absurd H (by simp)
  ·rw [if_neg c5] at H
   exact absurd H (by simp)
 ·replace c4 := Bool.eq_false_iff.mpr c4
  subst c4
  have H1 : (some (a0, false)) = some (r1, r2) := by rw [if_neg (show ¬ (false = true) by decide)] at H; exact H
  clear H
  have H := H1
  clear H1
  simp only [Option.some.injEq, Prod.mk.injEq] at H
  obtain ⟨rfl, rfl⟩ := H
  go_enter Tryd.func118, Tryd.ntmps118
  go_wp2_with (first | ((with_reducible refine gate_callee (f := 138) rfl ?_); refine goesL_ (some 8) rfl rfl Tryd.func138 (by kernel_rfl) rfl #[.string a0, .string a1] rfl (by (try simp only [List.map_toArray, List.map_cons, List.map_nil]); first | done | rfl | (simp only [List.length_drop, List.length_take]; rfl)) ?_; (with_reducible refine (stringslite_HasPrefix.calls a0 a1 false _ A3.out).mono ?_); rintro e w' ⟨rfl, ⟨nd, rfl⟩⟩; refine ⟨_, rfl, ?_⟩))
  go_ret2
  exact ⟨by first | rfl | (simp; done) | (simp [*]; done), by repeat (first | exact Drawn0.refl _ | apply Drawn0.step)⟩


/-! ### strings_CutPrefix: function 85 -/
def strings_CutPrefix.f (a0 : ByteArray) (a1 : ByteArray) : Option (ByteArray × Bool) := (stringslite_CutPrefix.f a0 a1).bind fun bt101 => (some (bt101.1, bt101.2))
set_option maxHeartbeats 8000000 in
set_option maxRecDepth 100000 in
theorem strings_CutPrefix.calls (a0 : ByteArray) (a1 : ByteArray) (r1 : ByteArray) (r2 : Bool) (w : World) (h : strings_CutPrefix.f a0 a1 = some (r1, r2)) :
  Calls Tryd.prog 85 #[.string a0, .string a1] w fun e w' => e = .returned (.tuple #[.string r1, .bool r2]) ∧ Drawn0 w w' := by
 have H : ((stringslite_CutPrefix.f a0 a1).bind fun bt101 => (some (bt101.1, bt101.2))) = some (r1, r2) := h
 clear h
 replace H := Option.bind_eq_some_iff.mp H
 obtain ⟨⟨t101, t102⟩, A30, H⟩ := H
 replace H : (some (t101, t102)) = some (r1, r2) := H
 have A3 := Aside0.mk A30
 clear A30
 simp only [Option.some.injEq, Prod.mk.injEq] at H
 obtain ⟨rfl, rfl⟩ := H
 go_enter Tryd.func85, Tryd.ntmps85
 go_wp2_with (first | ((with_reducible refine gate_callee (f := 118) rfl ?_); refine goesL_ (some 8) rfl rfl Tryd.func118 (by kernel_rfl) rfl #[.string a0, .string a1] rfl (by (try simp only [List.map_toArray, List.map_cons, List.map_nil]); first | done | rfl | (simp only [List.length_drop, List.length_take]; rfl)) ?_; (with_reducible refine (stringslite_CutPrefix.calls a0 a1 t101 t102 _ A3.out).mono ?_); rintro e w' ⟨rfl, ⟨nd, rfl⟩⟩; refine ⟨_, rfl, ?_⟩))
 go_ret2
 exact ⟨by first | rfl | (simp; done) | (simp [*]; done), by repeat (first | exact Drawn0.refl _ | apply Drawn0.step)⟩


/-! ### stringslite_HasSuffix: function 139 -/
def stringslite_HasSuffix.f (a0 : ByteArray) (a1 : ByteArray) : Option (Bool) := if (a0.size : Int) ≥ (a1.size : Int) then (if 0 ≤ (wrap64 ((a0.size : Int) - (a1.size : Int))) then (if (wrap64 ((a0.size : Int) - (a1.size : Int))) ≤ (a0.size : Int) then (some ((a0.extract ((wrap64 ((a0.size : Int) - (a1.size : Int))) : Int).toNat a0.size).toList == a1.toList)) else (none)) else (none)) else (some false)
set_option maxHeartbeats 8000000 in
set_option maxRecDepth 100000 in
theorem stringslite_HasSuffix.calls (a0 : ByteArray) (a1 : ByteArray) (r : Bool) (w : World) (h : stringslite_HasSuffix.f a0 a1 = some r) :
  Calls Tryd.prog 139 #[.string a0, .string a1] w fun e w' => e = .returned (.bool r) ∧ Drawn0 w w' := by
 have H : (if (a0.size : Int) ≥ (a1.size : Int) then (if 0 ≤ (wrap64 ((a0.size : Int) - (a1.size : Int))) then (if (wrap64 ((a0.size : Int) - (a1.size : Int))) ≤ (a0.size : Int) then (some ((a0.extract ((wrap64 ((a0.size : Int) - (a1.size : Int))) : Int).toNat a0.size).toList == a1.toList)) else (none)) else (none)) else (some false)) = some r := h
 clear h
 by_cases c3 : (a0.size : Int) ≥ (a1.size : Int)
 ·rw [if_pos c3] at H
  have c3b0 : decide ((a1.size : Int) ≤ (a0.size : Int)) = true := decide_eq_true c3
  have c3b1 : decide (a1.size ≤ a0.size) = true := decide_eq_true (Int.ofNat_le.mp c3)
  clear c3
  obtain ⟨ji4, hji4⟩ : ∃ j_ : Int, (wrap64 ((a0.size : Int) - (a1.size : Int))) = j_ := ⟨_, rfl⟩
  replace H : (if 0 ≤ (ji4) then (if (ji4) ≤ (a0.size : Int) then (some ((a0.extract ((ji4) : Int).toNat a0.size).toList == a1.toList)) else (none)) else (none)) = some r := by first | (rw [hji4] at H; exact H) | (simp only [hji4] at H ⊢; exact H)
  have hji4w : (IntKind.i64.wrap ((a0.size : Int) - (a1.size : Int))) = ji4 := (i64_w _).trans hji4
  by_cases c5 : 0 ≤ (ji4)
  ·rw [if_pos c5] at H
   have c5b0 := eq_true c5
   have c5b1 : decide (0 ≤ (ji4)) = true := decide_eq_true c5
   clear c5
   by_cases c6 : (ji4) ≤ (a0.size : Int)
   ·rw [if_pos c6] at H
    have c6b0 := eq_true c6
    have c6b1 : decide ((ji4) ≤ (a0.size : Int)) = true := decide_eq_true c6
    clear c6
    obtain rfl := Option.some.inj H
    go_enter Tryd.func139, Tryd.ntmps139
    go_wp2
    go_ret
    exact ⟨by first | rfl | (simp; done) | (simp only [← hji4] <;> (first | rfl | simp)) | (simp [*]; done), by repeat (first | exact Drawn0.refl _ | apply Drawn0.step)⟩
   ·rw [if_neg c6] at H
    exact absurd H (by simp)
  ·rw [if_neg c5] at H
   exact absurd H (by simp)
 ·rw [if_neg c3] at H
  have c3b0 : decide ((a1.size : Int) ≤ (a0.size : Int)) = false := decide_eq_false c3
  have c3b1 : decide (a1.size ≤ a0.size) = false := decide_eq_false (fun h => c3 (Int.ofNat_le.mpr h))
  clear c3
  obtain rfl := Option.some.inj H
  go_enter Tryd.func139, Tryd.ntmps139
  go_wp2
  go_ret
  exact ⟨by first | rfl | (simp; done) | (simp [*]; done), by repeat (first | exact Drawn0.refl _ | apply Drawn0.step)⟩


/-! ### stringslite_CutSuffix: function 119 -/
def stringslite_CutSuffix.f (a0 : ByteArray) (a1 : ByteArray) : Option (ByteArray × Bool) := (stringslite_HasSuffix.f a0 a1).bind fun t101 => (if t101 = true then (if 0 ≤ (wrap64 ((a0.size : Int) - (a1.size : Int))) then (if (wrap64 ((a0.size : Int) - (a1.size : Int))) ≤ (a0.size : Int) then (some (a0.extract 0 ((wrap64 ((a0.size : Int) - (a1.size : Int))) : Int).toNat, true)) else (none)) else (none)) else (some (a0, false)))
set_option maxHeartbeats 8000000 in
set_option maxRecDepth 100000 in
theorem stringslite_CutSuffix.calls (a0 : ByteArray) (a1 : ByteArray) (r1 : ByteArray) (r2 : Bool) (w : World) (h : stringslite_CutSuffix.f a0 a1 = some (r1, r2)) :
  Calls Tryd.prog 119 #[.string a0, .string a1] w fun e w' => e = .returned (.tuple #[.string r1, .bool r2]) ∧ Drawn0 w w' := by
 have H : ((stringslite_HasSuffix.f a0 a1).bind fun t101 => (if t101 = true then (if 0 ≤ (wrap64 ((a0.size : Int) - (a1.size : Int))) then (if (wrap64 ((a0.size : Int) - (a1.size : Int))) ≤ (a0.size : Int) then (some (a0.extract 0 ((wrap64 ((a0.size : Int) - (a1.size : Int))) : Int).toNat, true)) else (none)) else (none)) else (some (a0, false)))) = some (r1, r2) := h
 clear h
 replace H := Option.bind_eq_some_iff.mp H
 obtain ⟨t101, A30, H⟩ := H
 replace H : (if t101 = true then (if 0 ≤ (wrap64 ((a0.size : Int) - (a1.size : Int))) then (if (wrap64 ((a0.size : Int) - (a1.size : Int))) ≤ (a0.size : Int) then (some (a0.extract 0 ((wrap64 ((a0.size : Int) - (a1.size : Int))) : Int).toNat, true)) else (none)) else (none)) else (some (a0, false))) = some (r1, r2) := H
 have A3 := Aside0.mk A30
 clear A30
 by_cases c4 : t101 = true
 ·subst c4
  have H1 : (if 0 ≤ (wrap64 ((a0.size : Int) - (a1.size : Int))) then (if (wrap64 ((a0.size : Int) - (a1.size : Int))) ≤ (a0.size : Int) then (some (a0.extract 0 ((wrap64 ((a0.size : Int) - (a1.size : Int))) : Int).toNat, true)) else (none)) else (none)) = some (r1, r2) := by rw [if_pos rfl] at H; exact H
  clear H
  have H := H1
  clear H1
  obtain ⟨ji5, hji5⟩ : ∃ j_ : Int, (wrap64 ((a0.size : Int) - (a1.size : Int))) = j_ := ⟨_, rfl⟩
  replace H : (if 0 ≤ (ji5) then (if (ji5) ≤ (a0.size : Int) then (some (a0.extract 0 ((ji5) : Int).toNat, true)) else (none)) else (none)) = some (r1, r2) := by first | (rw [hji5] at H; exact H) | (simp only [hji5] at H ⊢; exact H)
  (try rw [hji5] at A3)
  have hji5w : (IntKind.i64.wrap ((a0.size : Int) - (a1.size : Int))) = ji5 := (i64_w _).trans hji5
  by_cases c6 : 0 ≤ (ji5)
  ·rw [if_pos c6] at H
   have c6b0 := eq_true c6
   have c6b1 : decide (0 ≤ (ji5)) = true := decide_eq_true c6
   clear c6
   by_cases c7 : (ji5) ≤ (a0.size : Int)
   ·rw [if_pos c7] at H
    have c7b0 := eq_true c7
    have c7b1 : decide ((ji5) ≤ (a0.size : Int)) = true := decide_eq_true c7
    clear c7
    simp only [Option.some.injEq, Prod.mk.injEq] at H
    obtain ⟨rfl, rfl⟩ := H
    go_enter Tryd.func119, Tryd.ntmps119
    go_wp2_with (first | ((with_reducible refine gate_callee (f := 139) rfl ?_); refine goesL_ (some 8) rfl rfl Tryd.func139 (by kernel_rfl) rfl #[.string a0, .string a1] rfl (by (try simp only [List.map_toArray, List.map_cons, List.map_nil]); first | done | rfl | (simp only [List.length_drop, List.length_take]; rfl)) ?_; (with_reducible refine (stringslite_HasSuffix.calls a0 a1 true _ A3.out).mono ?_); rintro e w' ⟨rfl, ⟨nd, rfl⟩⟩; refine ⟨_, rfl, ?_⟩))
    go_ret2
    exact ⟨by first | rfl | (simp; done) | (simp only [← hji5] <;> (first | rfl | simp)) | (simp [*]; done), by repeat (first | exact Drawn0.refl _ | apply Drawn0.step)⟩
   ·rw [if_neg c7] at H
    exact absurd H (by simp)
  ·rw [if_neg c6] at H
   exact absurd H (by simp)
 ·replace c4 := Bool.eq_false_iff.mpr c4
  subst c4
  have H1 : (some (a0, false)) = some (r1, r2) := by rw [if_neg (show ¬ (false = true) by decide)] at H; exact H
  clear H
  have H := H1
  clear H1
  simp only [Option.some.injEq, Prod.mk.injEq] at H
  obtain ⟨rfl, rfl⟩ := H
  go_enter Tryd.func119, Tryd.ntmps119
  go_wp2_with (first | ((with_reducible refine gate_callee (f := 139) rfl ?_); refine goesL_ (some 8) rfl rfl Tryd.func139 (by kernel_rfl) rfl #[.string a0, .string a1] rfl (by (try simp only [List.map_toArray, List.map_cons, List.map_nil]); first | done | rfl | (simp only [List.length_drop, List.length_take]; rfl)) ?_; (with_reducible refine (stringslite_HasSuffix.calls a0 a1 false _ A3.out).mono ?_); rintro e w' ⟨rfl, ⟨nd, rfl⟩⟩; refine ⟨_, rfl, ?_⟩))
  go_ret2
  exact ⟨by first | rfl | (simp; done) | (simp [*]; done), by repeat (first | exact Drawn0.refl _ | apply Drawn0.step)⟩


/-! ### strings_CutSuffix: function 86 -/
def strings_CutSuffix.f (a0 : ByteArray) (a1 : ByteArray) : Option (ByteArray × Bool) := (stringslite_CutSuffix.f a0 a1).bind fun bt101 => (some (bt101.1, bt101.2))
set_option maxHeartbeats 8000000 in
set_option maxRecDepth 100000 in
theorem strings_CutSuffix.calls (a0 : ByteArray) (a1 : ByteArray) (r1 : ByteArray) (r2 : Bool) (w : World) (h : strings_CutSuffix.f a0 a1 = some (r1, r2)) :
  Calls Tryd.prog 86 #[.string a0, .string a1] w fun e w' => e = .returned (.tuple #[.string r1, .bool r2]) ∧ Drawn0 w w' := by
 have H : ((stringslite_CutSuffix.f a0 a1).bind fun bt101 => (some (bt101.1, bt101.2))) = some (r1, r2) := h
 clear h
 replace H := Option.bind_eq_some_iff.mp H
 obtain ⟨⟨t101, t102⟩, A30, H⟩ := H
 replace H : (some (t101, t102)) = some (r1, r2) := H
 have A3 := Aside0.mk A30
 clear A30
 simp only [Option.some.injEq, Prod.mk.injEq] at H
 obtain ⟨rfl, rfl⟩ := H
 go_enter Tryd.func86, Tryd.ntmps86
 go_wp2_with (first | ((with_reducible refine gate_callee (f := 119) rfl ?_); refine goesL_ (some 8) rfl rfl Tryd.func119 (by kernel_rfl) rfl #[.string a0, .string a1] rfl (by (try simp only [List.map_toArray, List.map_cons, List.map_nil]); first | done | rfl | (simp only [List.length_drop, List.length_take]; rfl)) ?_; (with_reducible refine (stringslite_CutSuffix.calls a0 a1 t101 t102 _ A3.out).mono ?_); rintro e w' ⟨rfl, ⟨nd, rfl⟩⟩; refine ⟨_, rfl, ?_⟩))
 go_ret2
 exact ⟨by first | rfl | (simp; done) | (simp [*]; done), by repeat (first | exact Drawn0.refl _ | apply Drawn0.step)⟩


/-! ### impl_inBrackets: function 49 -/
def impl_inBrackets.f (a0 : ByteArray) : Option (ByteArray × Bool) := (strings_CutPrefix.f a0 (⟨#[40]⟩ : ByteArray)).bind fun bt101 => ((strings_CutSuffix.f bt101.1 (⟨#[41]⟩ : ByteArray)).bind fun bt103 => (if bt101.2 = true then (some (bt103.1, bt103.2)) else (some (bt103.1, false))))
set_option maxHeartbeats 8000000 in
set_option maxRecDepth 100000 in
theorem impl_inBrackets.calls (a0 : ByteArray) (r1 : ByteArray) (r2 : Bool) (w : World) (h : impl_inBrackets.f a0 = some (r1, r2)) :
  Calls Tryd.prog 49 #[.string a0] w fun e w' => e = .returned (.tuple #[.string r1, .bool r2]) ∧ Drawn0 w w' := by
 have H : ((strings_CutPrefix.f a0 (⟨#[40]⟩ : ByteArray)).bind fun bt101 => ((strings_CutSuffix.f bt101.1 (⟨#[41]⟩ : ByteArray)).bind fun bt103 => (if bt101.2 = true then (some (bt103.1, bt103.2)) else (some (bt103.1, false))))) = some (r1, r2) := h
 clear h
 replace H := Option.bind_eq_some_iff.mp H
 obtain ⟨⟨t101, t102⟩, A20, H⟩ := H
 replace H : ((strings_CutSuffix.f t101 (⟨#[41]⟩ : ByteArray)).bind fun bt103 => (if t102 = true then (some (bt103.1, bt103.2)) else (some (bt103.1, false)))) = some (r1, r2) := H
 have A2 := Aside0.mk A20
 clear A20
 replace H := Option.bind_eq_some_iff.mp H
 obtain ⟨⟨t103, t104⟩, A30, H⟩ := H
 replace H : (if t102 = true then (some (t103, t104)) else (some (t103, false))) = some (r1, r2) := H
 have A3 := Aside0.mk A30
 clear A30
 by_cases c4 : t102 = true
 ·subst c4
  have H1 : (some (t103, t104)) = some (r1, r2) := by rw [if_pos rfl] at H; exact H
  clear H
  have H := H1
  clear H1
  simp only [Option.some.injEq, Prod.mk.injEq] at H
  obtain ⟨rfl, rfl⟩ := H
  go_enter Tryd.func49, Tryd.ntmps49
  go_wp2_with (first | ((with_reducible refine gate_callee (f := 85) rfl ?_); refine goesL_ (some 10) rfl rfl Tryd.func85 (by kernel_rfl) rfl #[.string a0, .string (⟨#[40]⟩ : ByteArray)] rfl (by (try simp only [List.map_toArray, List.map_cons, List.map_nil]); first | done | rfl | (simp only [List.length_drop, List.length_take]; rfl)) ?_; (with_reducible refine (strings_CutPrefix.calls a0 (⟨#[40]⟩ : ByteArray) t101 true _ A2.out).mono ?_); rintro e w' ⟨rfl, ⟨nd, rfl⟩⟩; refine ⟨_, rfl, ?_⟩) | ((with_reducible refine gate_callee (f := 86) rfl ?_); refine goesL_ (some 15) rfl rfl Tryd.func86 (by kernel_rfl) rfl #[.string t101, .string (⟨#[41]⟩ : ByteArray)] rfl (by (try simp only [List.map_toArray, List.map_cons, List.map_nil]); first | done | rfl | (simp only [List.length_drop, List.length_take]; rfl)) ?_; (with_reducible refine (strings_CutSuffix.calls t101 (⟨#[41]⟩ : ByteArray) t103 t104 _ A3.out).mono ?_); rintro e w' ⟨rfl, ⟨nd, rfl⟩⟩; refine ⟨_, rfl, ?_⟩))
  go_ret2
  exact ⟨by first | rfl | (simp; done) | (simp [*]; done), by repeat (first | exact Drawn0.refl _ | apply Drawn0.step)⟩
 ·replace c4 := Bool.eq_false_iff.mpr c4
  subst c4
  have H1 : (some (t103, false)) = some (r1, r2) := by rw [if_neg (show ¬ (false = true) by decide)] at H; exact H
  clear H
  have H := H1
  clear H1
  simp only [Option.some.injEq, Prod.mk.injEq] at H
  obtain ⟨rfl, rfl⟩ := H
  go_enter Tryd.func49, Tryd.ntmps49
  go_wp2_with (first | ((with_reducible refine gate_callee (f := 85) rfl ?_); refine goesL_ (some 10) rfl rfl Tryd.func85 (by kernel_rfl) rfl #[.string a0, .string (⟨#[40]⟩ : ByteArray)] rfl (by (try simp only [List.map_toArray, List.map_cons, List.map_nil]); first | done | rfl | (simp only [List.length_drop, List.length_take]; rfl)) ?_; (with_reducible refine (strings_CutPrefix.calls a0 (⟨#[40]⟩ : ByteArray) t101 false _ A2.out).mono ?_); rintro e w' ⟨rfl, ⟨nd, rfl⟩⟩; refine ⟨_, rfl, ?_⟩) | ((with_reducible refine gate_callee (f := 86) rfl ?_); refine goesL_ (some 15) rfl rfl Tryd.func86 (by kernel_rfl) rfl #[.string t101, .string (⟨#[41]⟩ : ByteArray)] rfl (by (try simp only [List.map_toArray, List.map_cons, List.map_nil]); first | done | rfl | (simp only [List.length_drop, List.length_take]; rfl)) ?_; (with_reducible refine (strings_CutSuffix.calls t101 (⟨#[41]⟩ : ByteArray) t103 t104 _ A3.out).mono ?_); rintro e w' ⟨rfl, ⟨nd, rfl⟩⟩; refine ⟨_, rfl, ?_⟩))
  go_ret2
  exact ⟨by first | rfl | (simp; done) | (simp [*]; done), by repeat (first | exact Drawn0.refl _ | apply Drawn0.step)⟩

end Go.Proofs.YtcmifdcgmalnlaaDoor.P
/- Lemmas of mine: what stands between brackets. Plain. -/
set_option linter.unusedVariables false
set_option linter.unusedSimpArgs false
namespace Go.Proofs.YtcmifdcgmalnlaaDoor.P
open Go.RowKit Go.Proofs.YtcmifdcgmalnlaaDoorW.PrintWords
theorem take_one (l : List UInt8) (c : UInt8) : l.take 1 = [c] ↔ l[0]? = some c := by
 cases l with
 | nil => simp
 | cons b l => simp
theorem drop_last (l : List UInt8) (c : UInt8) (h : 1 ≤ l.length) : l.drop (l.length - 1) = [c] ↔ l[l.length - 1]? = some c := by
 have h1 : l.length - 1 < l.length := by omega
 rw [List.drop_eq_getElem_cons h1, List.drop_eq_nil_of_le (by omega), List.getElem?_eq_getElem h1]
 simp
theorem cutPre (s : ByteArray) (c : UInt8) : strings_CutPrefix.f s (⟨#[c]⟩ : ByteArray) = some (if (bl s)[0]? = some c then (s.extract 1 s.size, true) else (s, false)) := by
 have h1 : (⟨#[c]⟩ : ByteArray).size = 1 := rfl
 have hsz := bl_size s
 have hl : (⟨#[c]⟩ : ByteArray).toList = [c] := by rw [toList_bl]; rfl
 simp only [strings_CutPrefix.f, stringslite_CutPrefix.f, stringslite_HasPrefix.f, h1, hl]
 by_cases h0 : s.size = 0
 ·rw [if_neg (by omega), bS, if_neg (by decide), bS, if_neg (by
   rw [List.getElem?_eq_none (by omega)]; simp)]
 ·rw [if_pos (by omega), if_pos (by omega), if_pos (by omega), bS]
  have e : ((s.extract 0 ((((1 : Nat) : Int))).toNat).toList == [c]) = decide ((bl s)[0]? = some c) := by
   rw [toList_bl, bl_extract, List.drop_zero, Bool.eq_iff_iff, beq_iff_eq, decide_eq_true_eq, ← take_one]
   rfl
  rw [e]
  by_cases hc : (bl s)[0]? = some c
  ·rw [decide_eq_true hc, if_pos rfl, if_pos (by omega), if_pos (by omega), bS, if_pos hc]; rfl
  ·rw [decide_eq_false hc, if_neg (by decide), bS, if_neg hc]
theorem cutSuf (s : ByteArray) (c : UInt8) (hs : s.size ≤ 4611686018427387904) : strings_CutSuffix.f s (⟨#[c]⟩ : ByteArray) = some (if 1 ≤ s.size ∧ (bl s)[s.size - 1]? = some c then (s.extract 0 (s.size - 1), true) else (s, false)) := by
 have h1 : (⟨#[c]⟩ : ByteArray).size = 1 := rfl
 have hsz := bl_size s
 have hl : (⟨#[c]⟩ : ByteArray).toList = [c] := by rw [toList_bl]; rfl
 simp only [strings_CutSuffix.f, stringslite_CutSuffix.f, stringslite_HasSuffix.f, h1, hl]
 by_cases h0 : s.size = 0
 ·rw [if_neg (by omega), bS, if_neg (by decide), bS, if_neg (by omega)]
 ·have w : wrap64 ((s.size : Int) - ((1 : Nat) : Int)) = ((s.size - 1 : Nat) : Int) := w64sub s.size 1 (by omega) (by omega)
  simp only [w, Int.toNat_natCast]
  clear w
  rw [if_pos (by omega), if_pos (by omega), if_pos (by omega), bS]
  have e : ((s.extract (s.size - 1) s.size).toList == [c]) = decide ((bl s)[s.size - 1]? = some c) := by
   rw [toList_bl, bl_extract, Bool.eq_iff_iff, beq_iff_eq, decide_eq_true_eq, hsz, ← drop_last (bl s) c (by omega)]
   rw [List.take_of_length_le (by rw [List.length_drop]; omega)]
  rw [e]
  by_cases hc : (bl s)[s.size - 1]? = some c
  ·rw [decide_eq_true hc, if_pos rfl, if_pos (by omega), if_pos (by omega), bS, if_pos ⟨by omega, hc⟩]
  ·rw [decide_eq_false hc, if_neg (by decide), bS, if_neg (fun h => hc h.2)]
/-- It stands between brackets. -/
def inR (s : ByteArray) : Prop := 2 ≤ s.size ∧ (bl s)[0]? = some 40 ∧ (bl s)[s.size - 1]? = some 41
theorem inBr (s : ByteArray) (hs : s.size ≤ 4611686018427387904) : ∃ x b, impl_inBrackets.f s = some (x, b) ∧ x.size ≤ s.size ∧ (b = true ↔ inR s) ∧ (b = true → x = s.extract 1 (s.size - 1)) := by
 have hsz := bl_size s
 simp only [impl_inBrackets.f, cutPre, bS]
 by_cases h0 : (bl s)[0]? = some 40
 ·rw [if_pos h0]
  have hlt : 0 < (bl s).length := by
   rcases Nat.eq_zero_or_pos (bl s).length with h | h
   ·rw [List.getElem?_eq_none (by omega)] at h0; cases h0
   ·exact h
  have hx : (s.extract 1 s.size).size = s.size - 1 := by rw [bl_size, bl_extract, List.length_take, List.length_drop]; omega
  show ∃ x b, (strings_CutSuffix.f (s.extract 1 s.size) (⟨#[41]⟩ : ByteArray)).bind _ = some (x, b) ∧ _
  rw [cutSuf _ _ (by omega), bS, hx]
  by_cases h1 : 1 ≤ s.size - 1 ∧ (bl (s.extract 1 s.size))[s.size - 1 - 1]? = some 41
  ·rw [if_pos h1]
   have he : (s.extract 1 s.size).extract 0 (s.size - 1 - 1) = s.extract 1 (s.size - 1) := by
    refine bl_inj ?_
    rw [bl_extract, bl_extract, bl_extract, List.drop_zero, List.take_take]
    congr 1
    omega
   refine ⟨_, _, rfl, ?_, ⟨fun _ => ⟨by omega, h0, ?_⟩, fun _ => rfl⟩, fun _ => he⟩
   ·rw [he, bl_size, bl_extract, List.length_take, List.length_drop]; omega
   ·have := h1.2
    rw [bl_extract, List.getElem?_take_of_lt (by omega), List.getElem?_drop] at this
    rwa [show 1 + (s.size - 1 - 1) = s.size - 1 by omega] at this
  ·rw [if_neg h1]
   refine ⟨_, _, rfl, (by show (s.extract 1 s.size).size ≤ s.size; omega), ⟨(fun h => by cases h), fun h => absurd ⟨by have := h.1; omega, ?_⟩ h1⟩, (fun h => by cases h)⟩
   rw [bl_extract, List.getElem?_take_of_lt (by have := h.1; omega), List.getElem?_drop, show 1 + (s.size - 1 - 1) = s.size - 1 by have := h.1; omega]
   exact h.2.2
 ·rw [if_neg h0]
  show ∃ x b, (strings_CutSuffix.f s (⟨#[41]⟩ : ByteArray)).bind _ = some (x, b) ∧ _
  rw [cutSuf _ _ hs, bS]
  refine ⟨_, _, rfl, ?_, ⟨(fun h => by cases h), fun h => absurd h.2.1 h0⟩, (fun h => by cases h)⟩
  split
  ·show (s.extract 0 (s.size - 1)).size ≤ s.size
   rw [bl_size, bl_extract, List.length_take, List.length_drop]; omega
  ·exact Nat.le_refl _
end Go.Proofs.YtcmifdcgmalnlaaDoor.P
/- Lemmas of mine: bounds, the fields of a log. Plain. -/
set_option linter.unusedVariables false
set_option linter.unusedSimpArgs false
namespace Go.Proofs.YtcmifdcgmalnlaaDoor.P
open Go.RowKit Go.Proofs.YtcmifdcgmalnlaaDoorW.PrintWords
theorem l01In_eq (a b c : Int) : spec_l01In.f a b c = some (decide (b ≤ a ∧ a ≤ c)) := by
 unfold spec_l01In.f
 by_cases h : a ≥ b
 ·rw [if_pos h]; simp [show b ≤ a from h]
 ·rw [if_neg h]; simp; omega
theorem within_eq (a b c : Int) : impl_within.f a b c = some (decide (b ≤ a ∧ a ≤ c)) := l01In_eq a b c
end Go.Proofs.YtcmifdcgmalnlaaDoor.P
/- Lemmas of mine: a number read from its text: the reference and the program tell the same. Plain. -/
set_option linter.unusedVariables false
set_option linter.unusedSimpArgs false
namespace Go.Proofs.YtcmifdcgmalnlaaDoor.P
open Go.RowKit Go.Proofs.YtcmifdcgmalnlaaDoorW.PrintWords
def isDig (b : UInt8) : Bool := decide (48 ≤ b.toNat ∧ b.toNat ≤ 57)
/-- What digits spell behind a number. -/
def valF : Nat → List UInt8 → Nat
 | a, [] => a
 | a, b :: l => valF (a * 10 + (b.toNat - 48)) l
theorem isDig_iff (b : UInt8) : isDig b = true ↔ 48 ≤ b.toNat ∧ b.toNat ≤ 57 := decide_eq_true_iff
theorem parse_val : ∀ (l : List UInt8) (i acc : Nat), i + l.length ≤ 18 → acc < 10 ^ i → l.all isDig = true → Lib.parseUint10 acc l = .ok (valF acc l) ∧ valF acc l < 10 ^ (i + l.length)
 | [], i, acc, _, ha, _ => ⟨rfl, ha⟩
 | b :: l, i, acc, hi, ha, hd => by
  rw [List.all_cons, Bool.and_eq_true, isDig_iff] at hd
  rw [List.length_cons] at hi
  have h17 : acc < 100000000000000000 := Nat.lt_of_lt_of_le ha (Nat.le_trans (Nat.pow_le_pow_right (by decide) (show i ≤ 17 by omega)) (by decide))
  have hn : acc * 10 + (b.toNat - 48) < 10 ^ (i + 1) := by rw [Nat.pow_succ]; omega
  obtain ⟨h1, h2⟩ := parse_val l (i + 1) (acc * 10 + (b.toNat - 48)) (by omega) hn hd.2
  refine ⟨?_, by rw [List.length_cons, show i + (l.length + 1) = i + 1 + l.length by omega]; exact h2⟩
  unfold Lib.parseUint10
  rw [if_pos hd.1, if_neg (by omega), if_neg (by omega), h1]
  rfl
/-- A number's sign; its digits. -/
def negN (l : List UInt8) : Prop := l[0]? = some 45
def digN (l : List UInt8) : List UInt8 := if l[0]? = some 45 then l.drop 1 else l
def goodN (l : List UInt8) : Prop := (1 ≤ (digN l).length ∧ (digN l).length ≤ 18) ∧ ¬ ((digN l)[0]? = some 48 ∧ (1 < (digN l).length ∨ negN l)) ∧ (digN l).all isDig = true
def valN (l : List UInt8) : Int := if l[0]? = some 45 then -(valF 0 (digN l) : Int) else (valF 0 (digN l) : Int)
theorem valF_lt (l : List UInt8) (h : goodN l) : valF 0 (digN l) < 1000000000000000000 := by
 obtain ⟨_, h2⟩ := parse_val (digN l) 0 0 (by have := h.1.2; omega) (by decide) h.2.2
 exact Nat.lt_of_lt_of_le h2 (Nat.le_trans (Nat.pow_le_pow_right (by decide) (show 0 + (digN l).length ≤ 18 by have := h.1.2; omega)) (by decide))
theorem atoi_good (l : List UInt8) (h : goodN l) : Lib.atoiAll l = .ok (valN l) := by
 have hlt := valF_lt l h
 obtain ⟨h1, _⟩ := parse_val (digN l) 0 0 (by have := h.1.2; omega) (by decide) h.2.2
 have hmag : Lib.parseMag (digN l) = .ok (valF 0 (digN l)) := by
  unfold Lib.parseMag
  rw [if_neg (fun e => by have := h.1.1; rw [e] at this; exact absurd this (by decide)), h1]
 unfold valN
 cases l with
 | nil => exact absurd h.1.1 (by decide)
 | cons c r =>
  unfold Lib.atoiAll
  by_cases hc : c = 45
  ·subst hc
   have hd : digN (45 :: r) = r := rfl
   rw [hd] at hmag hlt ⊢
   have h0 : ((45 :: r : List UInt8)[0]? = some 45) = True := eq_true rfl
   simp only [h0, if_true]
   have e1 : ((45 : UInt8).toNat = 43 ∨ (45 : UInt8).toNat = 45) := Or.inr rfl
   simp only [if_pos e1, hmag]
   have e2 : (45 : UInt8).toNat = 45 := rfl
   simp only [e2, not_true, false_and, if_false, true_and]
   rw [if_neg (by omega), if_pos trivial]
  ·have h0 : ¬ (c :: r)[0]? = some 45 := fun e => hc (Option.some.inj e)
   have hd : digN (c :: r) = c :: r := if_neg h0
   have hdig := h.2.2
   rw [hd] at hmag hlt hdig ⊢
   rw [List.all_cons, Bool.and_eq_true, isDig_iff] at hdig
   rw [if_neg h0]
   have e1 : ¬ (c.toNat = 43 ∨ c.toNat = 45) := by omega
   have e2 : ¬ c.toNat = 45 := by omega
   have e3 : ¬ c.toNat = 43 := by omega
   simp only [e2, e3, or_self, not_false_eq_true, true_and, false_and, if_false]
   rw [hmag]
   show (if 9223372036854775808 ≤ valF 0 (c :: r) then _ else _) = _
   rw [if_neg (by omega)]
theorem stepW (acc b : Nat) (h : acc < 100000000000000000) (hb : 48 ≤ b ∧ b ≤ 57) : wrap64 ((wrap64 ((wrap64 ((acc : Int) * 10)) + (wrap64 (b : Int)))) - 48) = ((acc * 10 + (b - 48) : Nat) : Int) := by
 rw [w64 (n := (acc : Int) * 10) (by omega) (by omega), w64 (n := (b : Int)) (by omega) (by omega), w64 (n := (acc : Int) * 10 + (b : Int)) (by omega) (by omega), w64 (by omega) (by omega)]
 omega
theorem specNum_l0 (s : ByteArray) (sg : Int) (hs : s.size ≤ 18) (hsg : sg = 1 ∨ sg = -1) : ∀ (d i acc : Nat), i + d = s.size → acc < 10 ^ i → Ev (fun k => spec_l00Number.l0 k s sg (acc : Int) (i : Int)) (if ((bl s).drop i).all isDig = true then (sg * (valF acc ((bl s).drop i) : Int), true) else (0, false)) := by
 have hsz := bl_size s
 intro d
 induction d with
 | zero =>
  intro i acc hi ha
  rw [List.drop_eq_nil_of_le (by omega)]
  have h18 : acc < 1000000000000000001 := Nat.lt_of_lt_of_le ha (Nat.le_trans (Nat.pow_le_pow_right (by decide) (show i ≤ 18 by omega)) (by decide))
  refine Ev.step (f := fun _ => some _) (fun k => ?_) (Ev.now _)
  simp only [spec_l00Number.l0]
  rw [if_neg (by omega), List.all_nil, if_pos rfl]
  unfold valF
  rw [w64]
  ·rcases hsg with rfl | rfl <;> omega
  ·rcases hsg with rfl | rfl <;> omega
 | succ d ih =>
  intro i acc hi ha
  have hlt : i < (bl s).length := by omega
  have hv := bt_eq s i hlt
  rw [List.drop_eq_getElem_cons hlt, List.all_cons]
  generalize (bl s)[i] = b at hv
  have hb := byte_lt b
  by_cases hd : 48 ≤ b.toNat ∧ b.toNat ≤ 57
  ·have h17 : acc < 100000000000000000 := Nat.lt_of_lt_of_le ha (Nat.le_trans (Nat.pow_le_pow_right (by decide) (show i ≤ 17 by omega)) (by decide))
   have hn : acc * 10 + (b.toNat - 48) < 10 ^ (i + 1) := by rw [Nat.pow_succ]; omega
   rw [(isDig_iff b).2 hd, Bool.true_and]
   refine Ev.step (fun k => ?_) (ih (i + 1) (acc * 10 + (b.toNat - 48)) (by omega) hn)
   simp only [spec_l00Number.l0, hv]
   rw [if_pos (by omega), if_pos (by omega), if_neg (by omega), if_neg (by omega), stepW acc b.toNat h17 hd, w64s i (by omega)]
  ·have hf : isDig b = false := by
    cases h : isDig b with
    | false => rfl
    | true => exact absurd ((isDig_iff b).1 h) hd
   rw [hf, Bool.false_and, if_neg (by decide)]
   refine Ev.step (f := fun _ => some _) (fun k => ?_) (Ev.now _)
   simp only [spec_l00Number.l0, hv]
   rw [if_pos (by omega), if_pos (by omega)]
   by_cases h1 : (b.toNat : Int) < 48
   ·rw [if_pos h1]
   ·rw [if_neg h1, if_pos (by omega)]
noncomputable def numO (l : List UInt8) : Int × Bool := by
 classical exact if goodN l then (valN l, true) else (0, false)
theorem numO_good (l : List UInt8) (h : goodN l) : numO l = (valN l, true) := by unfold numO; exact if_pos h
theorem numO_bad (l : List UInt8) (h : ¬ goodN l) : numO l = (0, false) := by unfold numO; exact if_neg h
/-- Behind the sign. -/
theorem specNum_j1 (d : ByteArray) (sg : Int) (hsg : sg = 1 ∨ sg = -1) (hd : d.size ≤ 4611686018427387904) :
  Ev (fun k => spec_l00Number.j1 k d sg) (if ((1 ≤ d.size ∧ d.size ≤ 18) ∧ ¬ ((bl d)[0]? = some 48 ∧ (1 < d.size ∨ sg < 0)) ∧ (bl d).all isDig = true) then (sg * (valF 0 (bl d) : Int), true) else (0, false)) := by
 have hsz := bl_size d
 have ejt : Ev (fun k => spec_l00Number.j2 k d sg true) (0, false) := Ev.step (f := fun _ => some _) (fun k => by simp only [spec_l00Number.j2]; exact if_pos trivial) (Ev.now _)
 by_cases h0 : d.size = 0
 ·rw [if_neg (by omega)]
  exact Ev.step (fun k => by simp only [spec_l00Number.j1]; rw [if_pos (by omega)]) ejt
 ·by_cases h18 : d.size > 18
  ·rw [if_neg (by omega)]
   exact Ev.step (fun k => by simp only [spec_l00Number.j1]; rw [if_neg (by omega), if_pos (by omega)]) ejt
  ·have hlt : 0 < (bl d).length := by omega
   have hv := bt_eq d 0 hlt
   have hv' : bt d 0 = (((bl d)[0]).toNat : Int) := hv
   have hg : (bl d)[0]? = some (bl d)[0] := List.getElem?_eq_getElem hlt
   have hl := specNum_l0 d sg (by omega) hsg d.size 0 0 (by omega) (by decide)
   rw [List.drop_zero] at hl
   have hj2 : Ev (fun k => spec_l00Number.j2 k d sg false) (if (bl d).all isDig = true then (sg * (valF 0 (bl d) : Int), true) else (0, false)) :=
    Ev.step (fun k => by simp only [spec_l00Number.j2]; rw [if_neg (by decide)]; rfl) hl
   by_cases h48 : (bl d)[0] = 48
   ·have hb : bt d 0 = 48 := by rw [hv', h48]; rfl
    by_cases h1 : 1 < d.size
    ·rw [if_neg (fun h => h.2.1 ⟨by rw [hg, h48], .inl h1⟩)]
     exact Ev.step (fun k => by simp only [spec_l00Number.j1]; rw [if_neg (by omega), if_neg (by omega), if_pos (by omega), if_pos hb, if_pos (by omega)]) ejt
    ·by_cases hn : sg < 0
     ·rw [if_neg (fun h => h.2.1 ⟨by rw [hg, h48], .inr hn⟩)]
      exact Ev.step (fun k => by simp only [spec_l00Number.j1]; rw [if_neg (by omega), if_neg (by omega), if_pos (by omega), if_pos hb, if_neg (by omega), decide_eq_true hn]) ejt
     ·have e : (if ((1 ≤ d.size ∧ d.size ≤ 18) ∧ ¬ ((bl d)[0]? = some 48 ∧ (1 < d.size ∨ sg < 0)) ∧ (bl d).all isDig = true) then (sg * (valF 0 (bl d) : Int), true) else ((0, false) : Int × Bool)) = if (bl d).all isDig = true then (sg * (valF 0 (bl d) : Int), true) else (0, false) := by
       by_cases ha : (bl d).all isDig = true
       ·rw [if_pos ha, if_pos ⟨by omega, (fun h => by rcases h.2 with h | h <;> omega), ha⟩]
       ·rw [if_neg ha, if_neg (fun h => ha h.2.2)]
      rw [e]
      exact Ev.step (fun k => by simp only [spec_l00Number.j1]; rw [if_neg (by omega), if_neg (by omega), if_pos (by omega), if_pos hb, if_neg (by omega), decide_eq_false hn]) hj2
   ·have hb : ¬ bt d 0 = 48 := by
     rw [hv']
     intro h
     exact h48 ((byte_iff _ _).1 h)
    have e : (if ((1 ≤ d.size ∧ d.size ≤ 18) ∧ ¬ ((bl d)[0]? = some 48 ∧ (1 < d.size ∨ sg < 0)) ∧ (bl d).all isDig = true) then (sg * (valF 0 (bl d) : Int), true) else ((0, false) : Int × Bool)) = if (bl d).all isDig = true then (sg * (valF 0 (bl d) : Int), true) else (0, false) := by
     by_cases ha : (bl d).all isDig = true
     ·rw [if_pos ha, if_pos ⟨by omega, (fun h => h48 (Option.some.inj (hg.symm.trans h.1))), ha⟩]
     ·rw [if_neg ha, if_neg (fun h => ha h.2.2)]
    rw [e]
    exact Ev.step (fun k => by simp only [spec_l00Number.j1]; rw [if_neg (by omega), if_neg (by omega), if_pos (by omega), if_neg hb]) hj2
theorem specNum_ev (s : ByteArray) (hs : s.size ≤ 4611686018427387904) : Ev (fun k => spec_l00Number.f k s) (numO (bl s)) := by
 classical
 have hsz := bl_size s
 by_cases hn : (bl s)[0]? = some 45
 ·have hlt : 0 < (bl s).length := by
   rcases Nat.eq_zero_or_pos (bl s).length with h | h
   ·rw [List.getElem?_eq_none (by omega)] at hn; cases hn
   ·exact h
  have hv : bt s 0 = 45 := by
   have := bt_eq s 0 hlt
   rw [List.getElem?_eq_getElem hlt] at hn
   rw [Option.some.inj hn] at this
   exact this
  have hd : bl (s.extract 1 s.size) = digN (bl s) := by
   unfold digN
   rw [if_pos hn, bl_extract]
   exact List.take_of_length_le (by rw [List.length_drop]; omega)
  have hds : (s.extract 1 s.size).size = (digN (bl s)).length := by rw [bl_size, hd]
  have h := specNum_j1 (s.extract 1 s.size) (-1) (.inr rfl) (by rw [bl_size, bl_extract, List.length_take, List.length_drop]; omega)
  rw [hd, hds] at h
  have e : numO (bl s) = if ((1 ≤ (digN (bl s)).length ∧ (digN (bl s)).length ≤ 18) ∧ ¬ ((digN (bl s))[0]? = some 48 ∧ (1 < (digN (bl s)).length ∨ (-1 : Int) < 0)) ∧ (digN (bl s)).all isDig = true) then ((-1 : Int) * (valF 0 (digN (bl s)) : Int), true) else (0, false) := by
   by_cases hg : goodN (bl s)
   ·rw [numO_good _ hg, if_pos ⟨hg.1, (fun h => hg.2.1 ⟨h.1, .inr hn⟩), hg.2.2⟩]
    unfold valN
    rw [if_pos hn]
    congr 1
    omega
   ·rw [numO_bad _ hg, if_neg (fun h => hg ⟨h.1, (fun q => h.2.1 ⟨q.1, .inr (by decide)⟩), h.2.2⟩)]
  rw [e]
  refine Ev.congr (f := fun k => spec_l00Number.j0 k s 1 true) (fun k => ?_) (Ev.step (fun k => ?_) h)
  ·simp only [spec_l00Number.f]
   rw [if_pos (by omega), if_pos (by omega), hv]
   rfl
  ·simp only [spec_l00Number.j0]
   rw [if_pos trivial, if_pos (by omega)]
 ·have hd : digN (bl s) = bl s := if_neg hn
  have h := specNum_j1 s 1 (.inl rfl) hs
  rw [hsz] at h
  have e : numO (bl s) = if ((1 ≤ (bl s).length ∧ (bl s).length ≤ 18) ∧ ¬ ((bl s)[0]? = some 48 ∧ (1 < (bl s).length ∨ (1 : Int) < 0)) ∧ (bl s).all isDig = true) then ((1 : Int) * (valF 0 (bl s) : Int), true) else (0, false) := by
   by_cases hg : goodN (bl s)
   ·rw [numO_good _ hg]
    have hg' := hg
    unfold goodN at hg'
    rw [hd] at hg'
    rw [if_pos ⟨hg'.1, (fun h => hg'.2.1 ⟨h.1, h.2.elim .inl (fun q => absurd q (by decide))⟩), hg'.2.2⟩]
    unfold valN
    rw [if_neg hn, hd, Int.one_mul]
   ·rw [numO_bad _ hg, if_neg (fun h => hg (by
     unfold goodN
     rw [hd]
     exact ⟨h.1, (fun q => h.2.1 ⟨q.1, q.2.elim .inl (fun q2 => absurd q2 hn)⟩), h.2.2⟩))]
  rw [e]
  have hj : Ev (fun k => spec_l00Number.j0 k s 1 false) (if ((1 ≤ (bl s).length ∧ (bl s).length ≤ 18) ∧ ¬ ((bl s)[0]? = some 48 ∧ (1 < (bl s).length ∨ (1 : Int) < 0)) ∧ (bl s).all isDig = true) then ((1 : Int) * (valF 0 (bl s) : Int), true) else (0, false)) :=
   Ev.step (fun k => by simp only [spec_l00Number.j0]; rw [if_neg (by decide)]) h
  refine Ev.congr (fun k => ?_) hj
  simp only [spec_l00Number.f]
  by_cases h0 : s.size = 0
  ·rw [if_neg (by omega)]
  ·rw [if_pos (by omega), if_pos (by omega)]
   have hlt : 0 < (bl s).length := by omega
   have : (bt s 0 == 45) = false := by
    refine beq_eq_false_iff_ne.mpr fun h => hn ?_
    have hv := bt_eq s 0 hlt
    have hv' : bt s 0 = (((bl s)[0]).toNat : Int) := hv
    rw [hv'] at h
    rw [List.getElem?_eq_getElem hlt]
    exact congrArg some ((byte_iff _ _).1 h)
   rw [this]
theorem trimPre (s : ByteArray) (c : UInt8) : strings_TrimPrefix.f s (⟨#[c]⟩ : ByteArray) = some (if (bl s)[0]? = some c then s.extract 1 s.size else s) := by
 have h1 : (⟨#[c]⟩ : ByteArray).size = 1 := rfl
 have hsz := bl_size s
 have hl : (⟨#[c]⟩ : ByteArray).toList = [c] := by rw [toList_bl]; rfl
 simp only [strings_TrimPrefix.f, stringslite_TrimPrefix.f, stringslite_HasPrefix.f, h1, hl]
 by_cases h0 : s.size = 0
 ·rw [if_neg (by omega), bS, if_neg (by decide), bS, if_neg (by
   rw [List.getElem?_eq_none (by omega)]; simp)]
 ·rw [if_pos (by omega), if_pos (by omega), if_pos (by omega), bS]
  have e : ((s.extract 0 ((((1 : Nat) : Int))).toNat).toList == [c]) = decide ((bl s)[0]? = some c) := by
   rw [toList_bl, bl_extract, List.drop_zero, Bool.eq_iff_iff, beq_iff_eq, decide_eq_true_eq, ← take_one]
   rfl
  rw [e]
  by_cases hc : (bl s)[0]? = some c
  ·rw [decide_eq_true hc, if_pos rfl, if_pos (by omega), if_pos (by omega), bS, if_pos hc]; rfl
  ·rw [decide_eq_false hc, if_neg (by decide), bS, if_neg hc]
theorem implDig (n : Int) : impl_isDigit.f n = some (decide (48 ≤ n ∧ n ≤ 57)) := by
 unfold impl_isDigit.f
 by_cases h : 48 ≤ n
 ·by_cases h2 : n ≤ 57
  ·rw [show decide (48 ≤ n ∧ n ≤ 57) = true from decide_eq_true ⟨h, h2⟩]; simp [h, h2]
  ·rw [show decide (48 ≤ n ∧ n ≤ 57) = false from decide_eq_false (fun q => h2 q.2)]; simp [h]; omega
 ·rw [show decide (48 ≤ n ∧ n ≤ 57) = false from decide_eq_false (fun q => h q.1)]; simp [h]
theorem implNum_l0 (s d : ByteArray) (hd : d.size ≤ 4611686018427387904) (v : Int) (hv : (bl d).all isDig = true → strconv_Atoi_156.f s = some (v, none)) : ∀ (n i : Nat), i + n = d.size → (∀ j (hj : j < i) (h : j < (bl d).length), isDig (bl d)[j] = true) → Ev (fun k => impl_number.l0 k s d (d.size : Int) (i : Int)) (if (bl d).all isDig = true then (v, true) else (0, false)) := by
 have hsz := bl_size d
 intro n
 induction n with
 | zero =>
  intro i hi hp
  have ha : (bl d).all isDig = true := List.all_eq_true.2 fun x hx => by
   obtain ⟨j, hj, rfl⟩ := List.mem_iff_getElem.1 hx
   exact hp j (by omega) hj
  rw [if_pos ha]
  refine Ev.step (f := fun _ => some _) (fun k => ?_) (Ev.now _)
  simp only [impl_number.l0, hv ha, bS]
  rw [if_neg (by omega)]
  rfl
 | succ n ih =>
  intro i hi hp
  have hlt : i < (bl d).length := by omega
  have hb := bt_eq d i hlt
  have hdig : impl_isDigit.f (bt d (i : Int)) = some (isDig (bl d)[i]) := by
   rw [hb, implDig]
   unfold isDig
   congr 1
   rw [Bool.eq_iff_iff, decide_eq_true_eq, decide_eq_true_eq]
   omega
  cases hq : isDig (bl d)[i] with
  | true =>
   refine Ev.step (fun k => ?_) (ih (i + 1) (by omega) (fun j hj h => ?_))
   ·simp only [impl_number.l0, hdig, hq, bS]
    rw [if_pos (by omega), if_pos (by omega), if_pos (by omega), if_pos trivial, w64s i (by omega)]
   ·by_cases e : j = i
    ·subst e; exact hq
    ·exact hp j (by omega) h
  | false =>
   have hn : ¬ (bl d).all isDig = true := fun h => by
    have := List.all_eq_true.1 h _ (List.getElem_mem hlt)
    rw [hq] at this
    cases this
   rw [if_neg hn]
   refine Ev.step (f := fun _ => some _) (fun k => ?_) (Ev.now _)
   simp only [impl_number.l0, hdig, hq, bS]
   rw [if_pos (by omega), if_pos (by omega), if_pos (by omega), if_neg (by decide)]
theorem atoiF (s : ByteArray) (h : goodN (bl s)) : strconv_Atoi_156.f s = some (valN (bl s), none) := by
 have hsz := bl_size s
 have hl : (bl s).length ≤ 19 := by
  have := h.1.2
  unfold digN at this
  split at this
  ·rw [List.length_drop] at this; omega
  ·omega
 unfold strconv_Atoi_156.f
 have e : Lib.atoiAll s.data.toList = .ok (valN (bl s)) := atoi_good _ h
 rw [e]
 show (if s.size ≤ 1000000 then _ else _) = _
 rw [if_pos (by omega)]
theorem implNum_ev (s : ByteArray) (hs : s.size ≤ 4611686018427387904) : Ev (fun k => impl_number.f k s) (numO (bl s)) := by
 have hsz := bl_size s
 obtain ⟨d, hd⟩ : ∃ d : ByteArray, (if (bl s)[0]? = some 45 then s.extract 1 s.size else s) = d := ⟨_, rfl⟩
 have hdl : bl d = digN (bl s) := by
  rw [← hd]
  unfold digN
  split
  ·rw [bl_extract]; exact List.take_of_length_le (by rw [List.length_drop]; omega)
  ·rfl
 have hds : d.size = (digN (bl s)).length := by rw [bl_size, hdl]
 have hdle : d.size ≤ s.size := by
  rw [hds, hsz]
  unfold digN
  split
  ·rw [List.length_drop]; omega
  ·exact Nat.le_refl _
 have htrim : strings_TrimPrefix.f s (⟨#[45]⟩ : ByteArray) = some d := by rw [trimPre, hd]
 have ejt : Ev (fun k => impl_number.j0 k s d true) (0, false) := Ev.step (f := fun _ => some _) (fun k => by simp only [impl_number.j0]; exact if_pos trivial) (Ev.now _)
 have hfin : ∀ (b : Bool), (∀ k, impl_number.f k s = impl_number.j0 k s d b) → (b = true → ¬ goodN (bl s)) → (b = false → (1 ≤ d.size ∧ d.size ≤ 18) ∧ ¬ ((digN (bl s))[0]? = some 48 ∧ (1 < (digN (bl s)).length ∨ negN (bl s)))) → Ev (fun k => impl_number.f k s) (numO (bl s)) := by
  intro b he hbad hgood
  cases b with
  | true =>
   rw [numO_bad _ (hbad rfl)]
   exact Ev.congr he ejt
  | false =>
   obtain ⟨g1, g2⟩ := hgood rfl
   rw [hds] at g1
   have h := implNum_l0 s d (by omega) (valN (bl s)) (fun ha => atoiF s ⟨g1, g2, by rw [← hdl]; exact ha⟩) d.size 0 (by omega) (fun j hj => absurd hj (Nat.not_lt_zero _))
   have e : numO (bl s) = if (bl d).all isDig = true then (valN (bl s), true) else (0, false) := by
    by_cases ha : (bl d).all isDig = true
    ·rw [if_pos ha, numO_good _ ⟨g1, g2, by rw [← hdl]; exact ha⟩]
    ·rw [if_neg ha, numO_bad _ (fun h => ha (by rw [hdl]; exact h.2.2))]
   rw [e]
   exact Ev.congr he (Ev.step (fun k => by simp only [impl_number.j0]; rw [if_neg (by decide)]; rfl) h)
 by_cases hw : 1 ≤ d.size ∧ d.size ≤ 18
 ·have hlt : 0 < (bl d).length := by rw [hdl, ← hds]; omega
  have hv : bt d 0 = (((bl d)[0]).toNat : Int) := bt_eq d 0 hlt
  have hg : (digN (bl s))[0]? = some (bl d)[0] := by rw [← hdl]; exact List.getElem?_eq_getElem hlt
  have hwi : impl_within.f (d.size : Int) 1 18 = some true := by rw [within_eq, decide_eq_true ⟨by omega, by omega⟩]
  by_cases h1 : 1 < d.size
  ·by_cases h48 : bt d 0 = 48
   ·refine hfin true (fun k => ?_) (fun _ h => h.2.1 ⟨?_, .inl (by omega)⟩) (fun h => by cases h)
    ·simp only [impl_number.f, htrim, hwi, bS]
     rw [if_pos trivial, if_pos (by omega), if_pos (by omega), if_pos h48]
    ·rw [hg]
     rw [hv] at h48
     exact congrArg some ((byte_iff _ _).1 h48)
   ·have hb : (s.toList == ([45, 48] : List UInt8)) = false := by
     refine beq_eq_false_iff_ne.mpr fun h => ?_
     rw [toList_bl] at h
     rw [h] at hds
     exact absurd h1 (by rw [hds]; decide)
    refine hfin false (fun k => ?_) (fun h => by cases h) (fun _ => ⟨hw, fun h => h48 ?_⟩)
    ·simp only [impl_number.f, htrim, hwi, bS, hb]
     rw [if_pos trivial, if_pos (by omega), if_pos (by omega), if_neg h48]
    ·rw [hv]
     rw [hg] at h
     rw [Option.some.inj h.1]
     rfl
  ·by_cases hneg0 : s.toList = ([45, 48] : List UInt8)
   ·have hb : (s.toList == ([45, 48] : List UInt8)) = true := beq_iff_eq.mpr hneg0
    refine hfin true (fun k => ?_) (fun _ h => h.2.1 ?_) (fun h => by cases h)
    ·simp only [impl_number.f, htrim, hwi, bS, hb]
     rw [if_pos trivial, if_neg (by omega)]
    ·rw [toList_bl] at hneg0
     rw [hneg0]
     exact ⟨rfl, .inr rfl⟩
   ·have hb : (s.toList == ([45, 48] : List UInt8)) = false := beq_eq_false_iff_ne.mpr hneg0
    refine hfin false (fun k => ?_) (fun h => by cases h) (fun _ => ⟨hw, fun h => ?_⟩)
    ·simp only [impl_number.f, htrim, hwi, bS, hb]
     rw [if_pos trivial, if_neg (by omega)]
    ·rcases h.2 with h2 | h2
     ·omega
     ·refine hneg0 ?_
      rw [toList_bl]
      have hd1 : (digN (bl s)).length = 1 := by omega
      have h0 := h.1
      unfold negN at h2
      unfold digN at hd1 h0
      rw [if_pos h2] at hd1 h0
      cases hl : bl s with
      | nil => rw [hl] at h2; cases h2
      | cons a r =>
       rw [hl] at h2 h0 hd1
       have ha : a = 45 := Option.some.inj h2
       subst ha
       cases r with
       | nil => cases h0
       | cons b r2 =>
        have hb : b = 48 := Option.some.inj h0
        subst hb
        cases r2 with
        | nil => rfl
        | cons _ _ => simp at hd1
 ·have hwi : impl_within.f (d.size : Int) 1 18 = some false := by rw [within_eq, decide_eq_false (fun h => hw ⟨by omega, by omega⟩)]
  refine hfin true (fun k => ?_) (fun _ h => hw ⟨by have := h.1.1; omega, by have := h.1.2; omega⟩) (fun h => by cases h)
  simp only [impl_number.f, htrim, hwi, bS]
  rw [if_neg (by decide)]
end Go.Proofs.YtcmifdcgmalnlaaDoor.P
namespace Go.Proofs.YtcmifdcgmalnlaaDoor.P
open Go.RowKit Go.Proofs.YtcmifdcgmalnlaaDoorW.PrintWords Go.Proofs.YtcmifdcgmalnlaaDoorW.PrintLast Go.Proofs.YtcmifdcgmalnlaaDoorW.PrintMore
attribute [local go_sem] max2_int min2_int max_two min_two max_three min_three max_four min_four   -- for this text's walks alone
set_option linter.unusedVariables false
set_option linter.unusedSimpArgs false

/-! ### spec_l12Literal: function 102 -/
mutual
def spec_l12Literal.j0 : Nat → ByteArray → Bool → Option (Int × Bool)
 | 0, _, _ => none
 | k + 1, x0, x17 => if x17 = true then (some (0, false)) else (spec_l12Literal.l0 k x0 (wrap64 ((x0.size : Int) - 2)))
def spec_l12Literal.l0 : Nat → ByteArray → Int → Option (Int × Bool)
 | 0, _, _ => none
 | k + 1, x0, x4 => if x4 > 0 then (if 0 ≤ x4 then (if x4 < (x0.size : Int) then (if (bt x0 x4) ≥ 48 then (if (bt x0 x4) ≤ 57 then (spec_l12Literal.l0 k x0 (wrap64 (x4 - 1))) else (if (bt x0 x4) = 123 then (if (wrap64 ((wrap64 ((x0.size : Int) - 2)) - x4)) > 6 then (some (0, false)) else (if 0 ≤ (wrap64 (x4 + 1)) then (if (wrap64 (x4 + 1)) ≤ (wrap64 ((x0.size : Int) - 1)) then (if (wrap64 ((x0.size : Int) - 1)) ≤ (x0.size : Int) then ((spec_l00Number.f k (x0.extract ((wrap64 (x4 + 1)) : Int).toNat ((wrap64 ((x0.size : Int) - 1)) : Int).toNat)).bind fun bt101 => (some (bt101.1, bt101.2))) else (none)) else (none)) else (none))) else (some (0, false)))) else (if (bt x0 x4) = 123 then (if (wrap64 ((wrap64 ((x0.size : Int) - 2)) - x4)) > 6 then (some (0, false)) else (if 0 ≤ (wrap64 (x4 + 1)) then (if (wrap64 (x4 + 1)) ≤ (wrap64 ((x0.size : Int) - 1)) then (if (wrap64 ((x0.size : Int) - 1)) ≤ (x0.size : Int) then ((spec_l00Number.f k (x0.extract ((wrap64 (x4 + 1)) : Int).toNat ((wrap64 ((x0.size : Int) - 1)) : Int).toNat)).bind fun bt103 => (some (bt103.1, bt103.2))) else (none)) else (none)) else (none))) else (some (0, false)))) else (none)) else (none)) else (if 0 ≤ x4 then (if x4 < (x0.size : Int) then (if (bt x0 x4) = 123 then (if (wrap64 ((wrap64 ((x0.size : Int) - 2)) - x4)) > 6 then (some (0, false)) else (if 0 ≤ (wrap64 (x4 + 1)) then (if (wrap64 (x4 + 1)) ≤ (wrap64 ((x0.size : Int) - 1)) then (if (wrap64 ((x0.size : Int) - 1)) ≤ (x0.size : Int) then ((spec_l00Number.f k (x0.extract ((wrap64 (x4 + 1)) : Int).toNat ((wrap64 ((x0.size : Int) - 1)) : Int).toNat)).bind fun bt105 => (some (bt105.1, bt105.2))) else (none)) else (none)) else (none))) else (some (0, false))) else (none)) else (none))
end
def spec_l12Literal.f (k : Nat) (a0 : ByteArray) : Option (Int × Bool) := if (a0.size : Int) < 3 then (spec_l12Literal.j0 k a0 true) else (if 0 ≤ (wrap64 ((a0.size : Int) - 1)) then (if (wrap64 ((a0.size : Int) - 1)) < (a0.size : Int) then (spec_l12Literal.j0 k a0 ((bt a0 (wrap64 ((a0.size : Int) - 1))) != 125)) else (none)) else (none))
theorem spec_l12Literal.mono_l : ∀ k, (∀ y0 y1, LeO (spec_l12Literal.j0 k y0 y1) (spec_l12Literal.j0 (k + 1) y0 y1)) ∧ (∀ y0 y1, LeO (spec_l12Literal.l0 k y0 y1) (spec_l12Literal.l0 (k + 1) y0 y1))
 | 0 => ⟨fun _ _ r h => by simp [spec_l12Literal.j0] at h, fun _ _ r h => by simp [spec_l12Literal.l0] at h⟩
 | k + 1 => by
  obtain ⟨ih0, ih1⟩ := spec_l12Literal.mono_l k
  refine ⟨?_, ?_⟩
  ·intro y0 y1
   unfold spec_l12Literal.j0
   repeat' first
   | (with_reducible exact ih0 _ _)
   | (with_reducible exact ih1 _ _)
   | (with_reducible exact spec_l00Number.mono _ _)
   | (with_reducible exact LeO.refl _)
   | (with_reducible exact LeO.none _)
   | (with_reducible refine LeO.ite ?_ ?_)
   | (with_reducible refine LeO.bind ?_ (fun _ => ?_))
   | exact ih0 _ _
   | exact ih1 _ _
   | exact spec_l00Number.mono _ _
   | exact LeO.none _
   | refine LeO.ite ?_ ?_
   | refine LeO.bind ?_ (fun _ => ?_)
  ·intro y0 y1
   unfold spec_l12Literal.l0
   repeat' first
   | (with_reducible exact ih0 _ _)
   | (with_reducible exact ih1 _ _)
   | (with_reducible exact spec_l00Number.mono _ _)
   | (with_reducible exact LeO.refl _)
   | (with_reducible exact LeO.none _)
   | (with_reducible refine LeO.ite ?_ ?_)
   | (with_reducible refine LeO.bind ?_ (fun _ => ?_))
   | exact ih0 _ _
   | exact ih1 _ _
   | exact spec_l00Number.mono _ _
   | exact LeO.none _
   | refine LeO.ite ?_ ?_
   | refine LeO.bind ?_ (fun _ => ?_)
theorem spec_l12Literal.mono : ∀ a0 k, LeO (spec_l12Literal.f k a0) (spec_l12Literal.f (k + 1) a0) := by
 intro a0 k
 obtain ⟨ih0, ih1⟩ := spec_l12Literal.mono_l k
 unfold spec_l12Literal.f
 repeat' first
   | (with_reducible exact ih0 _ _)
   | (with_reducible exact ih1 _ _)
   | (with_reducible exact spec_l00Number.mono _ _)
   | (with_reducible exact LeO.refl _)
   | (with_reducible exact LeO.none _)
   | (with_reducible refine LeO.ite ?_ ?_)
   | (with_reducible refine LeO.bind ?_ (fun _ => ?_))
   | exact ih0 _ _
   | exact ih1 _ _
   | exact spec_l00Number.mono _ _
   | exact LeO.none _
   | refine LeO.ite ?_ ?_
   | refine LeO.bind ?_ (fun _ => ?_)
set_option maxHeartbeats 8000000 in
set_option maxRecDepth 100000 in
theorem spec_l12Literal.calls (k : Nat) (a0 : ByteArray) (r1 : Int) (r2 : Bool) (w : World) (h : spec_l12Literal.f k a0 = some (r1, r2)) :
  Calls Tryd.prog 102 #[.string a0] w fun e w' => e = .returned (.tuple #[.int .i64 r1, .bool r2]) ∧ Drawn0 w w' := by
 have H : (if (a0.size : Int) < 3 then (spec_l12Literal.j0 k a0 true) else (if 0 ≤ (wrap64 ((a0.size : Int) - 1)) then (if (wrap64 ((a0.size : Int) - 1)) < (a0.size : Int) then (spec_l12Literal.j0 k a0 ((bt a0 (wrap64 ((a0.size : Int) - 1))) != 125)) else (none)) else (none))) = some (r1, r2) := h
 clear h
 have HC2 := Aside0.mk H
 clear H
 go_enter Tryd.func102, Tryd.ntmps102
 go_upto_region 1 with (fail)
 go_cut [17] (fun v17 wc => ∃ (kq : Nat) (x17_1 : Bool), v17 = .bool x17_1 ∧ Aside0 (spec_l12Literal.j0 kq a0 x17_1 = some (r1, r2)) ∧ Aside0 (kq ≤ k) ∧ Drawn0 w wc)
 case first =>
  have H := HC2.out
  clear HC2
  by_cases c3 : (a0.size : Int) < 3
  ·rw [if_pos c3] at H
   have c3b0 : decide ((a0.size : Int) < 3) = true := decide_eq_true c3
   have c3b1 : decide (a0.size < 3) = true := decide_eq_true (by omega)
   clear c3
   (first | rw [c3b0] | (simp only [i64_w, i32_w]; rw [c3b0]) | skip)
   have H' := Aside0.mk H
   clear H
   go_wp2
   go_meet
   case rel => exact ⟨_, (true), (by first | rfl | (simp; done) | (simp [*]; done)), H', ⟨by first | omega | exact Nat.le_refl _⟩, by repeat (first | exact Drawn0.refl _ | apply Drawn0.step)⟩
  ·rw [if_neg c3] at H
   have c3b0 : decide ((a0.size : Int) < 3) = false := decide_eq_false c3
   have c3b1 : decide (a0.size < 3) = false := decide_eq_false (by omega)
   clear c3
   (first | rw [c3b0] | (simp only [i64_w, i32_w]; rw [c3b0]) | skip)
   obtain ⟨ji4, hji4⟩ : ∃ j_ : Int, (wrap64 ((a0.size : Int) - 1)) = j_ := ⟨_, rfl⟩
   replace H : (if 0 ≤ (ji4) then (if (ji4) < (a0.size : Int) then (spec_l12Literal.j0 k a0 ((bt a0 (ji4)) != 125)) else (none)) else (none)) = some (r1, r2) := by first | (rw [hji4] at H; exact H) | (simp only [hji4] at H ⊢; exact H)
   have hji4w : (IntKind.i64.wrap ((a0.size : Int) - 1)) = ji4 := (i64_w _).trans hji4
   by_cases c5 : 0 ≤ (ji4)
   ·rw [if_pos c5] at H
    have c5b0 : decide (0 ≤ (ji4)) = true := decide_eq_true c5
    clear c5
    by_cases c6 : (ji4) < (a0.size : Int)
    ·rw [if_pos c6] at H
     have c6b0 : decide ((ji4) < (a0.size : Int)) = true := decide_eq_true c6
     clear c6
     have H' := Aside0.mk H
     clear H
     have p7 : 0 ≤ ((ji4) : Int) := of_decide_eq_true (by first | (with_reducible assumption) | assumption)
     have q7 : (ji4) < (a0.size : Int) := of_decide_eq_true (by first | (with_reducible assumption) | assumption)
     have hx7 := bt_at a0 (ji4)
     replace p7 := eq_true p7
     replace q7 := eq_true q7
     go_wp2
     go_meet
     case rel => exact ⟨_, (((bt a0 (ji4)) != 125)), (by first | rfl | (simp; done) | (simp only [← hji4] <;> (first | rfl | simp)) | (simp [*]; done)), H', ⟨by first | omega | exact Nat.le_refl _⟩, by repeat (first | exact Drawn0.refl _ | apply Drawn0.step)⟩
    ·rw [if_neg c6] at H
     exact absurd H (by simp)
   ·rw [if_neg c5] at H
    exact absurd H (by simp)
 case rest =>
  clear HC2
  try clear c1
  try clear p2
  try clear c3
  try clear c3b0
  try clear c3b1
  try clear c5
  try clear c5b0
  try clear c6
  try clear c6b0
  try clear p6
  try clear p7
  try clear q7
  try clear hx7
  try clear p7
  try clear q7
  obtain ⟨kq, x17_1, rfl, HA, HJ1, ⟨mc1, rfl⟩⟩ := hcut
  cases kq with
  | zero => exact absurd HA.out (by simp [spec_l12Literal.j0])
  | succ kj1 =>
   have H := HA.out
   clear HA
   simp only [spec_l12Literal.j0] at H
   by_cases c8 : x17_1 = true
   ·subst c8
    have H1 : (some (0, false)) = some (r1, r2) := by rw [if_pos rfl] at H; exact H
    clear H
    have H := H1
    clear H1
    simp only [Option.some.injEq, Prod.mk.injEq] at H
    obtain ⟨rfl, rfl⟩ := H
    go_wp2
    go_ret2
    exact ⟨by first | rfl | (simp; done) | (simp [*]; done), by repeat (first | exact Drawn0.refl _ | apply Drawn0.step)⟩
   ·replace c8 := Bool.eq_false_iff.mpr c8
    subst c8
    have H1 : (spec_l12Literal.l0 kj1 a0 (wrap64 ((a0.size : Int) - 2))) = some (r1, r2) := by rw [if_neg (show ¬ (false = true) by decide)] at H; exact H
    clear H
    have H := H1
    clear H1
    have H' := Aside0.mk H
    clear H
    go_wp2
    go_loopg [4] kj1 (fun kq v4 w' => ∃ (x4_2 : Int), v4 = .int .i64 x4_2 ∧ Aside0 (spec_l12Literal.l0 kq a0 x4_2 = some (r1, r2)) ∧ Aside0 (kq ≤ kj1) ∧ Drawn0 w w')
    case atStart => exact ⟨(wrap64 ((a0.size : Int) - 2)), (by first | rfl | (simp; done) | (simp [*]; done)), H', ⟨Nat.le_refl _⟩, by repeat (first | exact Drawn0.refl _ | apply Drawn0.step)⟩
    case round =>
     clear H'
     try clear c1
     try clear p2
     try clear c3
     try clear c3b0
     try clear c3b1
     try clear c5
     try clear c5b0
     try clear c6
     try clear c6b0
     try clear p6
     try clear p7
     try clear q7
     try clear hx7
     try clear c8
     try clear p2
     try clear p6
     try clear p7
     try clear q7
     obtain ⟨x4_2, rfl, HA, HK2, ⟨m2, rfl⟩⟩ := hrel
     cases gk with
     | zero => exact absurd HA.out (by simp [spec_l12Literal.l0])
     | succ k2 =>
      have H := HA.out
      clear HA
      simp only [spec_l12Literal.l0] at H
      by_cases c9 : x4_2 > 0
      ·rw [if_pos c9] at H
       have c9b0 : decide (0 < x4_2) = true := decide_eq_true c9
       clear c9
       by_cases c10 : 0 ≤ x4_2
       ·rw [if_pos c10] at H
        have c10b0 : decide (0 ≤ x4_2) = true := decide_eq_true c10
        clear c10
        by_cases c11 : x4_2 < (a0.size : Int)
        ·rw [if_pos c11] at H
         have c11b0 : decide (x4_2 < (a0.size : Int)) = true := decide_eq_true c11
         clear c11
         by_cases c13 : (bt a0 x4_2) ≥ 48
         ·rw [if_pos c13] at H
          have c13b0 : decide (48 ≤ (bt a0 x4_2)) = true := decide_eq_true c13
          clear c13
          by_cases c15 : (bt a0 x4_2) ≤ 57
          ·rw [if_pos c15] at H
           have c15b0 : decide ((bt a0 x4_2) ≤ 57) = true := decide_eq_true c15
           clear c15
           have H' := Aside0.mk H
           clear H
           have p12 : 0 ≤ (x4_2 : Int) := of_decide_eq_true (by first | (with_reducible assumption) | assumption)
           have q12 : x4_2 < (a0.size : Int) := of_decide_eq_true (by first | (with_reducible assumption) | assumption)
           have hx12 := bt_at a0 x4_2
           replace p12 := eq_true p12
           replace q12 := eq_true q12
           have p14 : 0 ≤ (x4_2 : Int) := of_decide_eq_true (by first | (with_reducible assumption) | assumption)
           have q14 : x4_2 < (a0.size : Int) := of_decide_eq_true (by first | (with_reducible assumption) | assumption)
           have hx14 := bt_at a0 x4_2
           replace p14 := eq_true p14
           replace q14 := eq_true q14
           go_wp2
           go_roundg k2
           case measure => have := HJ1.out; have := HK2.out; omega
           case rel => exact ⟨(wrap64 (x4_2 - 1)), (by first | rfl | (simp; done) | (simp [*]; done)), H', ⟨by have := HJ1.out; have := HK2.out; omega⟩, by repeat (first | exact Drawn0.refl _ | apply Drawn0.step)⟩
          ·rw [if_neg c15] at H
           have c15b0 : decide ((bt a0 x4_2) ≤ 57) = false := decide_eq_false c15
           clear c15
           by_cases c17 : (bt a0 x4_2) = 123
           ·rw [if_pos c17] at H
            have c17b0 : ((bt a0 x4_2) == 123) = true := beq_iff_eq.mpr c17
            have c17b1 : ((bt a0 x4_2) != 123) = false := bne_eq_false_iff_eq.mpr c17
            clear c17
            by_cases c18 : (wrap64 ((wrap64 ((a0.size : Int) - 2)) - x4_2)) > 6
            ·rw [if_pos c18] at H
             have c18b0 : decide (6 < (wrap64 ((wrap64 ((a0.size : Int) - 2)) - x4_2))) = true := decide_eq_true c18
             clear c18
             simp only [Option.some.injEq, Prod.mk.injEq] at H
             obtain ⟨rfl, rfl⟩ := H
             have p12 : 0 ≤ (x4_2 : Int) := of_decide_eq_true (by first | (with_reducible assumption) | assumption)
             have q12 : x4_2 < (a0.size : Int) := of_decide_eq_true (by first | (with_reducible assumption) | assumption)
             have hx12 := bt_at a0 x4_2
             replace p12 := eq_true p12
             replace q12 := eq_true q12
             have p14 : 0 ≤ (x4_2 : Int) := of_decide_eq_true (by first | (with_reducible assumption) | assumption)
             have q14 : x4_2 < (a0.size : Int) := of_decide_eq_true (by first | (with_reducible assumption) | assumption)
             have hx14 := bt_at a0 x4_2
             replace p14 := eq_true p14
             replace q14 := eq_true q14
             have p16 : 0 ≤ (x4_2 : Int) := of_decide_eq_true (by first | (with_reducible assumption) | assumption)
             have q16 : x4_2 < (a0.size : Int) := of_decide_eq_true (by first | (with_reducible assumption) | assumption)
             have hx16 := bt_at a0 x4_2
             replace p16 := eq_true p16
             replace q16 := eq_true q16
             go_wp2
             go_ret2
             exact ⟨by first | rfl | (simp; done) | (simp [*]; done), by repeat (first | exact Drawn0.refl _ | apply Drawn0.step)⟩
            ·rw [if_neg c18] at H
             have c18b0 : decide (6 < (wrap64 ((wrap64 ((a0.size : Int) - 2)) - x4_2))) = false := decide_eq_false c18
             clear c18
             obtain ⟨ji19, hji19⟩ : ∃ j_ : Int, (wrap64 (x4_2 + 1)) = j_ := ⟨_, rfl⟩
             replace H : (if 0 ≤ (ji19) then (if (ji19) ≤ (wrap64 ((a0.size : Int) - 1)) then (if (wrap64 ((a0.size : Int) - 1)) ≤ (a0.size : Int) then ((spec_l00Number.f k2 (a0.extract ((ji19) : Int).toNat ((wrap64 ((a0.size : Int) - 1)) : Int).toNat)).bind fun bt101 => (some (bt101.1, bt101.2))) else (none)) else (none)) else (none)) = some (r1, r2) := by first | (rw [hji19] at H; exact H) | (simp only [hji19] at H ⊢; exact H)
             have hji19w : (IntKind.i64.wrap (x4_2 + 1)) = ji19 := (i64_w _).trans hji19
             by_cases c20 : 0 ≤ (ji19)
             ·rw [if_pos c20] at H
              have c20b0 := eq_true c20
              have c20b1 : decide (0 ≤ (ji19)) = true := decide_eq_true c20
              clear c20
              by_cases c21 : (ji19) ≤ (wrap64 ((a0.size : Int) - 1))
              ·rw [if_pos c21] at H
               have c21b0 := eq_true c21
               have c21b1 : decide ((ji19) ≤ (wrap64 ((a0.size : Int) - 1))) = true := decide_eq_true c21
               clear c21
               by_cases c22 : (wrap64 ((a0.size : Int) - 1)) ≤ (a0.size : Int)
               ·rw [if_pos c22] at H
                have c22b0 := eq_true c22
                have c22b1 : decide ((wrap64 ((a0.size : Int) - 1)) ≤ (a0.size : Int)) = true := decide_eq_true c22
                clear c22
                replace H := Option.bind_eq_some_iff.mp H
                obtain ⟨⟨t101, t102⟩, A230, H⟩ := H
                replace H : (some (t101, t102)) = some (r1, r2) := H
                have A23 := Aside0.mk A230
                clear A230
                simp only [Option.some.injEq, Prod.mk.injEq] at H
                obtain ⟨rfl, rfl⟩ := H
                have p12 : 0 ≤ (x4_2 : Int) := of_decide_eq_true (by first | (with_reducible assumption) | assumption)
                have q12 : x4_2 < (a0.size : Int) := of_decide_eq_true (by first | (with_reducible assumption) | assumption)
                have hx12 := bt_at a0 x4_2
                replace p12 := eq_true p12
                replace q12 := eq_true q12
                have p14 : 0 ≤ (x4_2 : Int) := of_decide_eq_true (by first | (with_reducible assumption) | assumption)
                have q14 : x4_2 < (a0.size : Int) := of_decide_eq_true (by first | (with_reducible assumption) | assumption)
                have hx14 := bt_at a0 x4_2
                replace p14 := eq_true p14
                replace q14 := eq_true q14
                have p16 : 0 ≤ (x4_2 : Int) := of_decide_eq_true (by first | (with_reducible assumption) | assumption)
                have q16 : x4_2 < (a0.size : Int) := of_decide_eq_true (by first | (with_reducible assumption) | assumption)
                have hx16 := bt_at a0 x4_2
                replace p16 := eq_true p16
                replace q16 := eq_true q16
                go_wp2_with (first | ((with_reducible refine gate_callee (f := 129) rfl ?_); refine goesL_ (some 57) rfl rfl Tryd.func129 (by kernel_rfl) rfl #[.string (a0.extract ((ji19) : Int).toNat ((wrap64 ((a0.size : Int) - 1)) : Int).toNat)] rfl (by (try simp only [List.map_toArray, List.map_cons, List.map_nil]); first | done | (simp only [hji19]; rfl) | rfl | (simp only [List.length_drop, List.length_take]; rfl)) ?_; (with_reducible refine (spec_l00Number.calls k2 (a0.extract ((ji19) : Int).toNat ((wrap64 ((a0.size : Int) - 1)) : Int).toNat) t101 t102 _ A23.out).mono ?_); rintro e w' ⟨rfl, ⟨nd, rfl⟩⟩; refine ⟨_, rfl, ?_⟩))
                go_ret2
                exact ⟨by first | rfl | (simp; done) | (simp only [← hji19] <;> (first | rfl | simp)) | (simp [*]; done), by repeat (first | exact Drawn0.refl _ | apply Drawn0.step)⟩
               ·rw [if_neg c22] at H
                exact absurd H (by simp)
              ·rw [if_neg c21] at H
               exact absurd H (by simp)
             ·rw [if_neg c20] at H
              exact absurd H (by simp)
           ·rw [if_neg c17] at H
            have c17b0 : ((bt a0 x4_2) == 123) = false := beq_eq_false_iff_ne.mpr c17
            have c17b1 : ((bt a0 x4_2) != 123) = true := bne_iff_ne.mpr c17
            simp only [Option.some.injEq, Prod.mk.injEq] at H
            obtain ⟨rfl, rfl⟩ := H
            have p12 : 0 ≤ (x4_2 : Int) := of_decide_eq_true (by first | (with_reducible assumption) | assumption)
            have q12 : x4_2 < (a0.size : Int) := of_decide_eq_true (by first | (with_reducible assumption) | assumption)
            have hx12 := bt_at a0 x4_2
            replace p12 := eq_true p12
            replace q12 := eq_true q12
            have p14 : 0 ≤ (x4_2 : Int) := of_decide_eq_true (by first | (with_reducible assumption) | assumption)
            have q14 : x4_2 < (a0.size : Int) := of_decide_eq_true (by first | (with_reducible assumption) | assumption)
            have hx14 := bt_at a0 x4_2
            replace p14 := eq_true p14
            replace q14 := eq_true q14
            have p16 : 0 ≤ (x4_2 : Int) := of_decide_eq_true (by first | (with_reducible assumption) | assumption)
            have q16 : x4_2 < (a0.size : Int) := of_decide_eq_true (by first | (with_reducible assumption) | assumption)
            have hx16 := bt_at a0 x4_2
            replace p16 := eq_true p16
            replace q16 := eq_true q16
            go_wp2
            go_ret2
            exact ⟨by first | rfl | (simp; done) | (simp [*]; done), by repeat (first | exact Drawn0.refl _ | apply Drawn0.step)⟩
         ·rw [if_neg c13] at H
          have c13b0 : decide (48 ≤ (bt a0 x4_2)) = false := decide_eq_false c13
          clear c13
          by_cases c25 : (bt a0 x4_2) = 123
          ·rw [if_pos c25] at H
           have c25b0 : ((bt a0 x4_2) == 123) = true := beq_iff_eq.mpr c25
           have c25b1 : ((bt a0 x4_2) != 123) = false := bne_eq_false_iff_eq.mpr c25
           clear c25
           by_cases c26 : (wrap64 ((wrap64 ((a0.size : Int) - 2)) - x4_2)) > 6
           ·rw [if_pos c26] at H
            have c26b0 : decide (6 < (wrap64 ((wrap64 ((a0.size : Int) - 2)) - x4_2))) = true := decide_eq_true c26
            clear c26
            simp only [Option.some.injEq, Prod.mk.injEq] at H
            obtain ⟨rfl, rfl⟩ := H
            have p12 : 0 ≤ (x4_2 : Int) := of_decide_eq_true (by first | (with_reducible assumption) | assumption)
            have q12 : x4_2 < (a0.size : Int) := of_decide_eq_true (by first | (with_reducible assumption) | assumption)
            have hx12 := bt_at a0 x4_2
            replace p12 := eq_true p12
            replace q12 := eq_true q12
            have p24 : 0 ≤ (x4_2 : Int) := of_decide_eq_true (by first | (with_reducible assumption) | assumption)
            have q24 : x4_2 < (a0.size : Int) := of_decide_eq_true (by first | (with_reducible assumption) | assumption)
            have hx24 := bt_at a0 x4_2
            replace p24 := eq_true p24
            replace q24 := eq_true q24
            go_wp2
            go_ret2
            exact ⟨by first | rfl | (simp; done) | (simp [*]; done), by repeat (first | exact Drawn0.refl _ | apply Drawn0.step)⟩
           ·rw [if_neg c26] at H
            have c26b0 : decide (6 < (wrap64 ((wrap64 ((a0.size : Int) - 2)) - x4_2))) = false := decide_eq_false c26
            clear c26
            obtain ⟨ji27, hji27⟩ : ∃ j_ : Int, (wrap64 (x4_2 + 1)) = j_ := ⟨_, rfl⟩
            replace H : (if 0 ≤ (ji27) then (if (ji27) ≤ (wrap64 ((a0.size : Int) - 1)) then (if (wrap64 ((a0.size : Int) - 1)) ≤ (a0.size : Int) then ((spec_l00Number.f k2 (a0.extract ((ji27) : Int).toNat ((wrap64 ((a0.size : Int) - 1)) : Int).toNat)).bind fun bt103 => (some (bt103.1, bt103.2))) else (none)) else (none)) else (none)) = some (r1, r2) := by first | (rw [hji27] at H; exact H) | (simp only [hji27] at H ⊢; exact H)
            have hji27w : (IntKind.i64.wrap (x4_2 + 1)) = ji27 := (i64_w _).trans hji27
            by_cases c28 : 0 ≤ (ji27)
            ·rw [if_pos c28] at H
             have c28b0 := eq_true c28
             have c28b1 : decide (0 ≤ (ji27)) = true := decide_eq_true c28
             clear c28
             by_cases c29 : (ji27) ≤ (wrap64 ((a0.size : Int) - 1))
             ·rw [if_pos c29] at H
              have c29b0 := eq_true c29
              have c29b1 : decide ((ji27) ≤ (wrap64 ((a0.size : Int) - 1))) = true := decide_eq_true c29
              clear c29
              by_cases c30 : (wrap64 ((a0.size : Int) - 1)) ≤ (a0.size : Int)
              ·rw [if_pos c30] at H
               have c30b0 := eq_true c30
               have c30b1 : decide ((wrap64 ((a0.size : Int) - 1)) ≤ (a0.size : Int)) = true := decide_eq_true c30
               clear c30
               replace H := Option.bind_eq_some_iff.mp H
               obtain ⟨⟨t103, t104⟩, A310, H⟩ := H
               replace H : (some (t103, t104)) = some (r1, r2) := H
               have A31 := Aside0.mk A310
               clear A310
               simp only [Option.some.injEq, Prod.mk.injEq] at H
               obtain ⟨rfl, rfl⟩ := H
               have p12 : 0 ≤ (x4_2 : Int) := of_decide_eq_true (by first | (with_reducible assumption) | assumption)
               have q12 : x4_2 < (a0.size : Int) := of_decide_eq_true (by first | (with_reducible assumption) | assumption)
               have hx12 := bt_at a0 x4_2
               replace p12 := eq_true p12
               replace q12 := eq_true q12
               have p24 : 0 ≤ (x4_2 : Int) := of_decide_eq_true (by first | (with_reducible assumption) | assumption)
               have q24 : x4_2 < (a0.size : Int) := of_decide_eq_true (by first | (with_reducible assumption) | assumption)
               have hx24 := bt_at a0 x4_2
               replace p24 := eq_true p24
               replace q24 := eq_true q24
               go_wp2_with (first | ((with_reducible refine gate_callee (f := 129) rfl ?_); refine goesL_ (some 57) rfl rfl Tryd.func129 (by kernel_rfl) rfl #[.string (a0.extract ((ji27) : Int).toNat ((wrap64 ((a0.size : Int) - 1)) : Int).toNat)] rfl (by (try simp only [List.map_toArray, List.map_cons, List.map_nil]); first | done | (simp only [hji27]; rfl) | rfl | (simp only [List.length_drop, List.length_take]; rfl)) ?_; (with_reducible refine (spec_l00Number.calls k2 (a0.extract ((ji27) : Int).toNat ((wrap64 ((a0.size : Int) - 1)) : Int).toNat) t103 t104 _ A31.out).mono ?_); rintro e w' ⟨rfl, ⟨nd, rfl⟩⟩; refine ⟨_, rfl, ?_⟩))
               go_ret2
               exact ⟨by first | rfl | (simp; done) | (simp only [← hji27] <;> (first | rfl | simp)) | (simp [*]; done), by repeat (first | exact Drawn0.refl _ | apply Drawn0.step)⟩
              ·rw [if_neg c30] at H
               exact absurd H (by simp)
             ·rw [if_neg c29] at H
              exact absurd H (by simp)
            ·rw [if_neg c28] at H
             exact absurd H (by simp)
          ·rw [if_neg c25] at H
           have c25b0 : ((bt a0 x4_2) == 123) = false := beq_eq_false_iff_ne.mpr c25
           have c25b1 : ((bt a0 x4_2) != 123) = true := bne_iff_ne.mpr c25
           simp only [Option.some.injEq, Prod.mk.injEq] at H
           obtain ⟨rfl, rfl⟩ := H
           have p12 : 0 ≤ (x4_2 : Int) := of_decide_eq_true (by first | (with_reducible assumption) | assumption)
           have q12 : x4_2 < (a0.size : Int) := of_decide_eq_true (by first | (with_reducible assumption) | assumption)
           have hx12 := bt_at a0 x4_2
           replace p12 := eq_true p12
           replace q12 := eq_true q12
           have p24 : 0 ≤ (x4_2 : Int) := of_decide_eq_true (by first | (with_reducible assumption) | assumption)
           have q24 : x4_2 < (a0.size : Int) := of_decide_eq_true (by first | (with_reducible assumption) | assumption)
           have hx24 := bt_at a0 x4_2
           replace p24 := eq_true p24
           replace q24 := eq_true q24
           go_wp2
           go_ret2
           exact ⟨by first | rfl | (simp; done) | (simp [*]; done), by repeat (first | exact Drawn0.refl _ | apply Drawn0.step)⟩
        ·rw [if_neg c11] at H
         exact absurd H (by simp)
       ·rw [if_neg c10] at H
        exact absurd H (by simp)
      ·rw [if_neg c9] at H
       have c9b0 : decide (0 < x4_2) = false := decide_eq_false c9
       clear c9
       by_cases c32 : 0 ≤ x4_2
       ·rw [if_pos c32] at H
        have c32b0 : decide (0 ≤ x4_2) = true := decide_eq_true c32
        clear c32
        by_cases c33 : x4_2 < (a0.size : Int)
        ·rw [if_pos c33] at H
         have c33b0 : decide (x4_2 < (a0.size : Int)) = true := decide_eq_true c33
         clear c33
         by_cases c35 : (bt a0 x4_2) = 123
         ·rw [if_pos c35] at H
          have c35b0 : ((bt a0 x4_2) == 123) = true := beq_iff_eq.mpr c35
          have c35b1 : ((bt a0 x4_2) != 123) = false := bne_eq_false_iff_eq.mpr c35
          clear c35
          by_cases c36 : (wrap64 ((wrap64 ((a0.size : Int) - 2)) - x4_2)) > 6
          ·rw [if_pos c36] at H
           have c36b0 : decide (6 < (wrap64 ((wrap64 ((a0.size : Int) - 2)) - x4_2))) = true := decide_eq_true c36
           clear c36
           simp only [Option.some.injEq, Prod.mk.injEq] at H
           obtain ⟨rfl, rfl⟩ := H
           have p34 : 0 ≤ (x4_2 : Int) := of_decide_eq_true (by first | (with_reducible assumption) | assumption)
           have q34 : x4_2 < (a0.size : Int) := of_decide_eq_true (by first | (with_reducible assumption) | assumption)
           have hx34 := bt_at a0 x4_2
           replace p34 := eq_true p34
           replace q34 := eq_true q34
           go_wp2
           go_ret2
           exact ⟨by first | rfl | (simp; done) | (simp [*]; done), by repeat (first | exact Drawn0.refl _ | apply Drawn0.step)⟩
          ·rw [if_neg c36] at H
           have c36b0 : decide (6 < (wrap64 ((wrap64 ((a0.size : Int) - 2)) - x4_2))) = false := decide_eq_false c36
           clear c36
           obtain ⟨ji37, hji37⟩ : ∃ j_ : Int, (wrap64 (x4_2 + 1)) = j_ := ⟨_, rfl⟩
           replace H : (if 0 ≤ (ji37) then (if (ji37) ≤ (wrap64 ((a0.size : Int) - 1)) then (if (wrap64 ((a0.size : Int) - 1)) ≤ (a0.size : Int) then ((spec_l00Number.f k2 (a0.extract ((ji37) : Int).toNat ((wrap64 ((a0.size : Int) - 1)) : Int).toNat)).bind fun bt105 => (some (bt105.1, bt105.2))) else (none)) else (none)) else (none)) = some (r1, r2) := by first | (rw [hji37] at H; exact H) | (simp only [hji37] at H ⊢; exact H)
           have hji37w : (IntKind.i64.wrap (x4_2 + 1)) = ji37 := (i64_w _).trans hji37
           by_cases c38 : 0 ≤ (ji37)
           ·rw [if_pos c38] at H
            have c38b0 := eq_true c38
            have c38b1 : decide (0 ≤ (ji37)) = true := decide_eq_true c38
            clear c38
            by_cases c39 : (ji37) ≤ (wrap64 ((a0.size : Int) - 1))
            ·rw [if_pos c39] at H
             have c39b0 := eq_true c39
             have c39b1 : decide ((ji37) ≤ (wrap64 ((a0.size : Int) - 1))) = true := decide_eq_true c39
             clear c39
             by_cases c40 : (wrap64 ((a0.size : Int) - 1)) ≤ (a0.size : Int)
             ·rw [if_pos c40] at H
              have c40b0 := eq_true c40
              have c40b1 : decide ((wrap64 ((a0.size : Int) - 1)) ≤ (a0.size : Int)) = true := decide_eq_true c40
              clear c40
              replace H := Option.bind_eq_some_iff.mp H
              obtain ⟨⟨t105, t106⟩, A410, H⟩ := H
              replace H : (some (t105, t106)) = some (r1, r2) := H
              have A41 := Aside0.mk A410
              clear A410
              simp only [Option.some.injEq, Prod.mk.injEq] at H
              obtain ⟨rfl, rfl⟩ := H
              have p34 : 0 ≤ (x4_2 : Int) := of_decide_eq_true (by first | (with_reducible assumption) | assumption)
              have q34 : x4_2 < (a0.size : Int) := of_decide_eq_true (by first | (with_reducible assumption) | assumption)
              have hx34 := bt_at a0 x4_2
              replace p34 := eq_true p34
              replace q34 := eq_true q34
              go_wp2_with (first | ((with_reducible refine gate_callee (f := 129) rfl ?_); refine goesL_ (some 57) rfl rfl Tryd.func129 (by kernel_rfl) rfl #[.string (a0.extract ((ji37) : Int).toNat ((wrap64 ((a0.size : Int) - 1)) : Int).toNat)] rfl (by (try simp only [List.map_toArray, List.map_cons, List.map_nil]); first | done | (simp only [hji37]; rfl) | rfl | (simp only [List.length_drop, List.length_take]; rfl)) ?_; (with_reducible refine (spec_l00Number.calls k2 (a0.extract ((ji37) : Int).toNat ((wrap64 ((a0.size : Int) - 1)) : Int).toNat) t105 t106 _ A41.out).mono ?_); rintro e w' ⟨rfl, ⟨nd, rfl⟩⟩; refine ⟨_, rfl, ?_⟩))
              go_ret2
              exact ⟨by first | rfl | (simp; done) | (simp only [← hji37] <;> (first | rfl | simp)) | (simp [*]; done), by repeat (first | exact Drawn0.refl _ | apply Drawn0.step)⟩
             ·rw [if_neg c40] at H
              exact absurd H (by simp)
            ·rw [if_neg c39] at H
             exact absurd H (by simp)
           ·rw [if_neg c38] at H
            exact absurd H (by simp)
         ·rw [if_neg c35] at H
          have c35b0 : ((bt a0 x4_2) == 123) = false := beq_eq_false_iff_ne.mpr c35
          have c35b1 : ((bt a0 x4_2) != 123) = true := bne_iff_ne.mpr c35
          simp only [Option.some.injEq, Prod.mk.injEq] at H
          obtain ⟨rfl, rfl⟩ := H
          have p34 : 0 ≤ (x4_2 : Int) := of_decide_eq_true (by first | (with_reducible assumption) | assumption)
          have q34 : x4_2 < (a0.size : Int) := of_decide_eq_true (by first | (with_reducible assumption) | assumption)
          have hx34 := bt_at a0 x4_2
          replace p34 := eq_true p34
          replace q34 := eq_true q34
          go_wp2
          go_ret2
          exact ⟨by first | rfl | (simp; done) | (simp [*]; done), by repeat (first | exact Drawn0.refl _ | apply Drawn0.step)⟩
        ·rw [if_neg c33] at H
         exact absurd H (by simp)
       ·rw [if_neg c32] at H
        exact absurd H (by simp)

end Go.Proofs.YtcmifdcgmalnlaaDoor.P
