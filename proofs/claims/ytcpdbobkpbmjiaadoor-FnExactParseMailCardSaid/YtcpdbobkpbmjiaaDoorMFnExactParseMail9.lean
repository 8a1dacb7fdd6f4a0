/- Part 9 of what the law FnExactParseMail stands on; the last part ends with the law's row. No condition of mine. -/
import Derived.Test.YtcpdbobkpbmjiaaDoorMFnExactParseMail8
import Derived.Test.YtcpdbobkpbmjiaaDoorMFnExactParseMail4
import Derived.Test.YtcpdbobkpbmjiaaDoorMFnExactParseMail2
import Derived.Test.YtcpdbobkpbmjiaaDoorMFnExactParseMail5
import Derived.Test.YtcpdbobkpbmjiaaDoorMFnExactParseMail3
/- Lemmas of mine: texts of bytes within bounds, right values and names of fields, in both programs. Plain. -/
set_option linter.unusedVariables false
set_option linter.unusedSimpArgs false
namespace Go.Proofs.YtcpdbobkpbmjiaaDoor.P
open Go.RowKit Go.Proofs.YtcpdbobkpbmjiaaDoorW.PrintWords
/-- A byte between two bounds. -/
def inB (lo hi : Nat) (b : UInt8) : Bool := decide (lo ≤ b.toNat ∧ b.toNat ≤ hi)
theorem allWithin_l0 (s : ByteArray) (hs : s.size ≤ 4611686018427387904) (lo hi : Nat) : ∀ (d i : Nat), i + d = (bl s).length → Ev (fun k => impl_allWithin.l0 k s (lo : Int) (hi : Int) (s.size : Int) (i : Int)) (((bl s).drop i).all (inB lo hi)) := by
 intro d
 induction d with
 | zero =>
  intro i hi2
  have hsz := bl_size s
  rw [List.drop_eq_nil_of_le (by omega)]
  refine Ev.step (f := fun _ => some _) (fun k => ?_) (Ev.now _)
  simp only [impl_allWithin.l0]
  rw [if_neg (by omega)]
  rfl
 | succ d ih =>
  intro i hi2
  have hsz := bl_size s
  have hlt : i < (bl s).length := by omega
  have hb := bt_eq s i hlt
  rw [List.drop_eq_getElem_cons hlt, List.all_cons]
  have e : ∀ k, impl_allWithin.l0 (k + 1) s (lo : Int) (hi : Int) (s.size : Int) (i : Int) = if ((bl s)[i].toNat : Int) < lo then some false else if ((bl s)[i].toNat : Int) > hi then some false else impl_allWithin.l0 k s lo hi (s.size : Int) ((i + 1 : Nat) : Int) := fun k => by
   simp only [impl_allWithin.l0, hb]
   rw [if_pos (by omega), if_pos (by omega), if_pos (by omega), w64s i (by omega)]
  by_cases h1 : lo ≤ (bl s)[i].toNat
  ·by_cases h2 : (bl s)[i].toNat ≤ hi
   ·have hi3 : inB lo hi (bl s)[i] = true := decide_eq_true ⟨h1, h2⟩
    rw [hi3, Bool.true_and]
    exact Ev.step (fun k => by rw [e, if_neg (by omega), if_neg (by omega)]) (ih (i + 1) (by omega))
   ·have hi3 : inB lo hi (bl s)[i] = false := decide_eq_false (by omega)
    rw [hi3, Bool.false_and]
    exact Ev.step (f := fun _ => some false) (fun k => by rw [e, if_neg (by omega), if_pos (by omega)]) (Ev.now _)
  ·have hi3 : inB lo hi (bl s)[i] = false := decide_eq_false (by omega)
   rw [hi3, Bool.false_and]
   exact Ev.step (f := fun _ => some false) (fun k => by rw [e, if_pos (by omega)]) (Ev.now _)
theorem allWithin_ev (s : ByteArray) (hs : s.size ≤ 4611686018427387904) (lo hi : Nat) : Ev (fun k => impl_allWithin.f k s (lo : Int) (hi : Int)) ((bl s).all (inB lo hi)) :=
 allWithin_l0 s hs lo hi (bl s).length 0 (by omega)
/-! ### the first place of one byte, of a text -/
theorem isPref_one (c : UInt8) (l : List UInt8) (b : UInt8) : ([c] : List UInt8).isPrefixOf (b :: l) = (c == b) := by simp [List.isPrefixOf]
theorem index_one_none (c : UInt8) : ∀ l : List UInt8, c ∉ l → Lib.index l [c] = -1
 | [], _ => rfl
 | b :: l, h => by
  have hb : (c == b) = false := by simp; rintro rfl; simp at h
  have ih := index_one_none c l (fun hm => h (by simp [hm]))
  simp only [Lib.index, isPref_one, hb, ih]
  rfl
theorem index_one_at (c : UInt8) : ∀ (p r : List UInt8), c ∉ p → Lib.index (p ++ c :: r) [c] = (p.length : Int)
 | [], r, _ => by simp [Lib.index]
 | b :: p, r, h => by
  have hb : (c == b) = false := by simp; rintro rfl; simp at h
  have ih := index_one_at c p r (fun hm => h (by simp [hm]))
  simp only [List.cons_append, Lib.index, isPref_one, hb, ih]
  rw [if_neg (by decide), if_neg (by simp)]
  simp
theorem contains_one (c : UInt8) (l : List UInt8) : decide (0 ≤ Lib.index l [c]) = l.contains c := by
 by_cases h : c ∈ l
 ·obtain ⟨p, r, e, hp⟩ := List.eq_append_cons_of_mem h
  rw [List.contains_iff_mem.2 h, e, index_one_at c p r hp]
  exact decide_eq_true (by omega)
 ·rw [index_one_none c l h, Bool.eq_false_iff.2 (fun hc => h (List.contains_iff_mem.1 hc))]
  rfl
/-! ### pieces between places of one byte -/
def pcs (c : UInt8) (l : List UInt8) : List (List UInt8) := Lib.splitK [c] 0 (Lib.count l [c]) l
theorem pcs_none (c : UInt8) (l : List UInt8) (h : c ∉ l) : pcs c l = [l] := by
 unfold pcs
 rw [Lib.count_miss (index_one_none c l h)]
 rfl
theorem pcs_at (c : UInt8) (p r : List UInt8) (h : c ∉ p) : pcs c (p ++ c :: r) = p :: pcs c r := by
 unfold pcs
 have hi := index_one_at c p r h
 have hd : (p ++ c :: r).drop (p.length + 1) = r := by
  rw [← List.drop_drop, List.drop_left]
  rfl
 rw [Lib.count_hit (by simp) hi, show ([c] : List UInt8).length = 1 from rfl, hd, Nat.add_comm 1]
 rw [Lib.splitK, if_neg (by rw [hi]; simp), hi]
 simp only [Int.toNat_natCast, Nat.add_zero, List.length_singleton, hd, List.take_left]
theorem splitB_pcs (c : UInt8) (s : ByteArray) : (Lib.splitB ⟨#[c]⟩ 0 (Lib.countB s ⟨#[c]⟩) s).map bl = pcs c (bl s) := Lib.splitB_data _ _ _ _
/-! ### right values -/
def safeW : Nat → List UInt8 → Bool
 | _, [] => true
 | w, c :: cs => inB 32 126 c && (if c = 32 then (decide (w ≠ 0) && !cs.isEmpty && safeW 0 cs) else (decide (w + 1 ≤ 200) && safeW (w + 1) cs))
def safeR (l : List UInt8) : Bool := decide (l.length ≤ 2000) && safeW 0 l
theorem safeW_free : ∀ (p : List UInt8) (w : Nat), (32 : UInt8) ∉ p → w ≤ 200 → safeW w p = (p.all (inB 32 126) && decide (w + p.length ≤ 200))
 | [], w, _, hw => by simp [safeW, hw]
 | c :: p, w, h, hw => by
  have hc : c ≠ 32 := fun e => h (by simp [e])
  simp only [safeW, if_neg hc, List.all_cons, List.length_cons]
  by_cases h1 : w + 1 ≤ 200
  ·rw [safeW_free p (w + 1) (fun hm => h (by simp [hm])) h1, decide_eq_true h1, Bool.true_and, Bool.and_assoc, show w + 1 + p.length = w + (p.length + 1) by omega]
  ·rw [decide_eq_false h1, decide_eq_false (show ¬ (w + (p.length + 1) ≤ 200) by omega)]
   simp
theorem safeW_at : ∀ (p r : List UInt8) (w : Nat), (32 : UInt8) ∉ p → w ≤ 200 → safeW w (p ++ 32 :: r) = (p.all (inB 32 126) && decide (w + p.length ≤ 200) && decide (w + p.length ≠ 0) && !r.isEmpty && safeW 0 r)
 | [], r, w, _, hw => by
  simp only [List.nil_append, safeW, List.all_nil, List.length_nil, Nat.add_zero, decide_eq_true hw, if_true, Bool.true_and]
  rw [show inB 32 126 32 = true from rfl, Bool.true_and]
 | c :: p, r, w, h, hw => by
  have hc : c ≠ 32 := fun e => h (by simp [e])
  simp only [List.cons_append, safeW, if_neg hc, List.all_cons, List.length_cons]
  by_cases h1 : w + 1 ≤ 200
  ·rw [safeW_at p r (w + 1) (fun hm => h (by simp [hm])) h1, decide_eq_true h1, Bool.true_and, show w + 1 + p.length = w + (p.length + 1) by omega]
   simp only [Bool.and_assoc]
  ·rw [decide_eq_false h1, decide_eq_false (show ¬ (w + (p.length + 1) ≤ 200) by omega)]
   simp
def okW (x : List UInt8) : Bool := !x.isEmpty && decide (x.length ≤ 200)
theorem safeW_pcs : ∀ (n : Nat) (l : List UInt8), l.length ≤ n → l ≠ [] → safeW 0 l = (l.all (inB 32 126) && (pcs 32 l).all okW) := by
 intro n
 induction n with
 | zero => intro l hl h; cases l with | nil => exact absurd rfl h | cons a b => simp at hl
 | succ n ih =>
  intro l hl h
  by_cases hm : (32 : UInt8) ∈ l
  ·obtain ⟨p, r, rfl, hp⟩ := List.eq_append_cons_of_mem hm
   rw [safeW_at p r 0 hp (by omega), pcs_at 32 p r hp, List.all_cons, List.all_append, List.all_cons, show inB 32 126 32 = true from rfl, Bool.true_and, Nat.zero_add]
   by_cases hr : r = []
   ·subst hr
    rw [pcs_none 32 [] (by simp)]
    simp [okW]
   ·rw [ih r (by simp at hl; omega) hr]
    have h1 : r.isEmpty = false := by cases r with | nil => exact absurd rfl hr | cons a b => rfl
    have h2 : okW p = (decide (p.length ≤ 200) && decide (p.length ≠ 0)) := by
     unfold okW
     cases p with
     | nil => simp
     | cons a b => simp
    rw [h1, h2]
    cases p.all (inB 32 126) <;> cases r.all (inB 32 126) <;> simp
  ·rw [safeW_free l 0 hm (by omega), pcs_none 32 l hm]
   have h1 : l.isEmpty = false := by cases l with | nil => exact absurd rfl h | cons a b => rfl
   simp [okW, h1]
theorem rdOf_natS (xs : List ByteArray) (i : Nat) (h : i < xs.length) : rdOf ByteArray.empty xs (i : Int) = xs[i]'h := getD_nat xs _ i h
theorem isEmpty_iff (s : ByteArray) : s.toList = ([] : List UInt8) ↔ (bl s).isEmpty = true := by rw [toList_bl]; simp
theorem safe_l0 (ws : List ByteArray) (hw : ws.length ≤ 4611686018427387904) : ∀ (d i : Nat), i + d = ws.length → Ev (fun k => impl_SafeValue.l0 k ws (ws.length : Int) (i : Int)) ((ws.drop i).all fun x => okW (bl x)) := by
 intro d
 induction d with
 | zero =>
  intro i hi
  rw [List.drop_eq_nil_of_le (by omega)]
  refine Ev.step (f := fun _ => some _) (fun k => ?_) (Ev.now _)
  simp only [impl_SafeValue.l0]
  rw [if_neg (by omega)]
  rfl
 | succ d ih =>
  intro i hi
  have hlt : i < ws.length := by omega
  have hr := rdOf_natS ws i hlt
  have hsz := bl_size (ws[i]'hlt)
  rw [List.drop_eq_getElem_cons hlt, List.all_cons]
  have e : ∀ k, impl_SafeValue.l0 (k + 1) ws (ws.length : Int) (i : Int) = if (ws[i]'hlt).toList = ([] : List UInt8) then some false else if ((ws[i]'hlt).size : Int) > 200 then some false else impl_SafeValue.l0 k ws (ws.length : Int) ((i + 1 : Nat) : Int) := fun k => by
   simp only [impl_SafeValue.l0, hr]
   rw [if_pos (by omega), if_pos (by omega), if_pos (by omega), w64s i (by omega)]
  by_cases h1 : (ws[i]'hlt).toList = ([] : List UInt8)
  ·have : okW (bl (ws[i]'hlt)) = false := by unfold okW; rw [(isEmpty_iff _).1 h1]; rfl
   rw [this, Bool.false_and]
   exact Ev.step (f := fun _ => some false) (fun k => by rw [e, if_pos h1]) (Ev.now _)
  ·by_cases h2 : ((ws[i]'hlt).size : Int) > 200
   ·have : okW (bl (ws[i]'hlt)) = false := by unfold okW; rw [decide_eq_false (by omega)]; simp
    rw [this, Bool.false_and]
    exact Ev.step (f := fun _ => some false) (fun k => by rw [e, if_neg h1, if_pos h2]) (Ev.now _)
   ·have : okW (bl (ws[i]'hlt)) = true := by
     unfold okW
     rw [decide_eq_true (by omega), Bool.eq_false_iff.2 (fun hc => h1 ((isEmpty_iff _).2 hc))]
     rfl
    rw [this, Bool.true_and]
    exact Ev.step (fun k => by rw [e, if_neg h1, if_neg h2]) (ih (i + 1) (by omega))
theorem implSafe_ev (s : ByteArray) (hs : s.size ≤ 4000000000) : Ev (fun k => impl_SafeValue.f k s) (safeR (bl s)) := by
 have hsz := bl_size s
 unfold safeR
 by_cases h0 : (s.size : Int) > 2000
 ·rw [decide_eq_false (by omega), Bool.false_and]
  refine ⟨1, fun k hk => ?_⟩
  obtain ⟨j, rfl⟩ : ∃ j, k = j + 1 := ⟨k - 1, by omega⟩
  simp only [impl_SafeValue.f, impl_SafeValue.j0]
  rw [if_pos h0]
  rfl
 ·rw [decide_eq_true (by omega), Bool.true_and]
  obtain ⟨K, h⟩ := allWithin_ev s (by omega) 32 126
  have e : ∀ k, K ≤ k → impl_SafeValue.f k s = impl_SafeValue.j0 k s (!(bl s).all (inB 32 126)) := fun k hk => by
   have := h k hk
   simp only at this
   simp only [impl_SafeValue.f]
   rw [if_neg h0, show ((32 : Int)) = ((32 : Nat) : Int) from rfl, show ((126 : Int)) = ((126 : Nat) : Int) from rfl, this, bS]
  by_cases ha : (bl s).all (inB 32 126) = true
  ·by_cases hn : bl s = []
   ·rw [hn]
    refine ⟨K + 1, fun k hk => ?_⟩
    obtain ⟨j, rfl⟩ : ∃ j, k = j + 1 := ⟨k - 1, by omega⟩
    show impl_SafeValue.f (j + 1) s = _
    rw [e _ (by omega), hn]
    simp only [impl_SafeValue.j0]
    rw [if_neg (by decide), if_pos (by rw [toList_bl, hn])]
    rfl
   ·rw [safeW_pcs _ _ (Nat.le_refl _) hn, ha, Bool.true_and, ← splitB_pcs]
    obtain ⟨ws, hws⟩ : ∃ ws, ws = Lib.splitB ⟨#[32]⟩ 0 (Lib.countB s ⟨#[32]⟩) s := ⟨_, rfl⟩
    have hl : ws.length ≤ 4611686018427387904 := by
     have h1 := Lib.splitB_length_le ⟨#[32]⟩ 0 (Lib.countB s ⟨#[32]⟩) s
     have h2 := Lib.count_le s.data.toList (⟨#[32]⟩ : ByteArray).data.toList
     have h3 : s.data.toList.length = s.size := (Lib.size_eq s).symm
     have h4 : Lib.countB s ⟨#[32]⟩ = Lib.count s.data.toList (⟨#[32]⟩ : ByteArray).data.toList := rfl
     rw [hws]
     omega
    have hsp : strings_Split.f s (⟨#[32]⟩ : ByteArray) = some ws := by
     unfold strings_Split.f
     rw [if_pos ⟨by omega, by decide⟩, hws]
    rw [← hws]
    obtain ⟨K2, h2⟩ := safe_l0 ws hl ws.length 0 (by omega)
    refine ⟨K + K2 + 1, fun k hk => ?_⟩
    obtain ⟨j, rfl⟩ : ∃ j, k = j + 1 := ⟨k - 1, by omega⟩
    show impl_SafeValue.f (j + 1) s = _
    rw [e _ (by omega), ha]
    simp only [impl_SafeValue.j0]
    rw [if_neg (by decide), if_neg (by rw [toList_bl]; exact hn), hsp, bS, List.all_map]
    have := h2 j (by omega)
    simp only [List.drop_zero] at this
    exact this
  ·rw [Bool.not_eq_true] at ha
   have hn : bl s ≠ [] := fun hn => by rw [hn] at ha; cases ha
   rw [safeW_pcs _ _ (Nat.le_refl _) hn, ha, Bool.false_and]
   refine ⟨K + 1, fun k hk => ?_⟩
   obtain ⟨j, rfl⟩ : ∃ j, k = j + 1 := ⟨k - 1, by omega⟩
   show impl_SafeValue.f (j + 1) s = _
   rw [e _ (by omega), ha]
   simp only [impl_SafeValue.j0]
   rfl
theorem specSafe_l0 (s : ByteArray) (hs : s.size ≤ 1000000) : ∀ (d i w : Nat), i + d = (bl s).length → w ≤ 200 → Ev (fun k => spec_SafeValue.l0 k s (w : Int) (i : Int)) (safeW w ((bl s).drop i)) := by
 intro d
 induction d with
 | zero =>
  intro i w hi hw
  have hsz := bl_size s
  rw [List.drop_eq_nil_of_le (by omega)]
  refine Ev.step (f := fun _ => some _) (fun k => ?_) (Ev.now _)
  simp only [spec_SafeValue.l0]
  rw [if_neg (by omega)]
  rfl
 | succ d ih =>
  intro i w hi hw
  have hsz := bl_size s
  have hlt : i < (bl s).length := by omega
  have hb := bt_eq s i hlt
  rw [List.drop_eq_getElem_cons hlt]
  generalize hc : (bl s)[i] = c at hb ⊢
  have hc255 := byte_lt c
  have w1 : Aside0 (wrap64 ((i : Int) + 1) = ((i + 1 : Nat) : Int)) := ⟨w64s i (by omega)⟩
  have w2 : Aside0 (wrap64 ((w : Int) + 1) = ((w + 1 : Nat) : Int)) := ⟨w64s w (by omega)⟩
  have e : ∀ k, spec_SafeValue.l0 (k + 1) s (w : Int) (i : Int) = if (inB 32 126 c) = true then (if (c.toNat : Int) = 32 then (if (w : Int) = 0 then some false else if ((i + 1 : Nat) : Int) = (s.size : Int) then some false else spec_SafeValue.l0 k s 0 ((i + 1 : Nat) : Int)) else (if ((w + 1 : Nat) : Int) > 200 then some false else spec_SafeValue.l0 k s ((w + 1 : Nat) : Int) ((i + 1 : Nat) : Int))) else some false := fun k => by
   have hin : spec_l01In.f (wrap64 (c.toNat : Int)) 32 126 = some (inB 32 126 c) := by
    rw [w64n _ (by omega), l01In_eq]
    unfold inB
    congr 1
    apply decide_eq_decide.2
    omega
   simp only [spec_SafeValue.l0, hb, hin, bS, w1.out, w2.out]
   rw [if_pos (by omega), if_pos (by omega)]
  have hd : ((bl s).drop (i + 1)).isEmpty = decide (i + 1 = s.size) := by
   have hl : ((bl s).drop (i + 1)).length = s.size - (i + 1) := by rw [List.length_drop]; omega
   cases hq : (bl s).drop (i + 1) with
   | nil => rw [hq] at hl; simp at hl; exact (decide_eq_true (by omega)).symm
   | cons a b => rw [hq] at hl; simp at hl; exact (decide_eq_false (by omega)).symm
  simp only [safeW]
  by_cases h1 : inB 32 126 c = true
  ·rw [h1, Bool.true_and]
   by_cases h2 : c = 32
   ·have h2' : (c.toNat : Int) = 32 := by rw [h2]; rfl
    rw [if_pos h2]
    by_cases h3 : w = 0
    ·rw [decide_eq_false (by omega), Bool.false_and, Bool.false_and]
     exact Ev.step (f := fun _ => some false) (fun k => by rw [e, if_pos h1, if_pos h2', if_pos (by omega)]) (Ev.now _)
    ·by_cases h4 : i + 1 = s.size
     ·rw [hd, decide_eq_true h4]
      simp only [Bool.not_true, Bool.and_false, Bool.false_and]
      exact Ev.step (f := fun _ => some false) (fun k => by rw [e, if_pos h1, if_pos h2', if_neg (by omega), if_pos (by omega)]) (Ev.now _)
     ·rw [hd, decide_eq_false h4, decide_eq_true h3]
      simp only [Bool.not_false, Bool.true_and]
      exact Ev.step (fun k => by rw [e, if_pos h1, if_pos h2', if_neg (by omega), if_neg (by omega)]; rfl) (ih (i + 1) 0 (by omega) (by omega))
   ·have h2' : ¬ (c.toNat : Int) = 32 := fun hh => h2 (UInt8.toNat_inj.1 (by rw [show ((32 : UInt8)).toNat = 32 from rfl]; omega))
    rw [if_neg h2]
    by_cases h3 : w + 1 ≤ 200
    ·rw [decide_eq_true h3, Bool.true_and]
     exact Ev.step (fun k => by rw [e, if_pos h1, if_neg h2', if_neg (by omega)]) (ih (i + 1) (w + 1) (by omega) h3)
    ·rw [decide_eq_false h3, Bool.false_and]
     exact Ev.step (f := fun _ => some false) (fun k => by rw [e, if_pos h1, if_neg h2', if_pos (by omega)]) (Ev.now _)
  ·rw [Bool.not_eq_true] at h1
   rw [h1, Bool.false_and]
   exact Ev.step (f := fun _ => some false) (fun k => by rw [e, h1]; rfl) (Ev.now _)
theorem specSafe_ev (s : ByteArray) : Ev (fun k => spec_SafeValue.f k s) (safeR (bl s)) := by
 have hsz := bl_size s
 unfold safeR
 by_cases h0 : (s.size : Int) > 65536
 ·rw [decide_eq_false (by omega), Bool.false_and]
  exact ⟨0, fun k _ => by simp only [spec_SafeValue.f]; rw [if_pos h0]⟩
 ·by_cases h1 : (s.size : Int) > 2000
  ·rw [decide_eq_false (by omega), Bool.false_and]
   exact ⟨0, fun k _ => by simp only [spec_SafeValue.f]; rw [if_neg h0, if_pos h1]⟩
  ·rw [decide_eq_true (by omega), Bool.true_and]
   exact Ev.congr (fun k => by simp only [spec_SafeValue.f]; rw [if_neg h0, if_neg h1]; rfl) (specSafe_l0 s (by omega) (bl s).length 0 0 (by omega) (by omega))
/-! ### right names of fields -/
def nameF (l : List UInt8) : Bool := decide (1 ≤ l.length ∧ l.length ≤ 40) && l.all fun c => inB 33 126 c && decide (c ≠ 58)
theorem specName_l0 (s : ByteArray) (hs : s.size ≤ 1000000) : ∀ (d i : Nat), i + d = (bl s).length → Ev (fun k => spec_HeaderNameOK.l0 k s (i : Int)) (((bl s).drop i).all fun c => inB 33 126 c && decide (c ≠ 58)) := by
 intro d
 induction d with
 | zero =>
  intro i hi
  have hsz := bl_size s
  rw [List.drop_eq_nil_of_le (by omega)]
  refine Ev.step (f := fun _ => some _) (fun k => ?_) (Ev.now _)
  simp only [spec_HeaderNameOK.l0]
  rw [if_neg (by omega)]
  rfl
 | succ d ih =>
  intro i hi
  have hsz := bl_size s
  have hlt : i < (bl s).length := by omega
  have hb := bt_eq s i hlt
  rw [List.drop_eq_getElem_cons hlt, List.all_cons]
  generalize hc : (bl s)[i] = c at hb ⊢
  have hc255 := byte_lt c
  have e : ∀ k, spec_HeaderNameOK.l0 (k + 1) s (i : Int) = if (inB 33 126 c) = true then (if (c.toNat : Int) = 58 then some false else spec_HeaderNameOK.l0 k s ((i + 1 : Nat) : Int)) else some false := fun k => by
   have hin : spec_l01In.f (wrap64 (c.toNat : Int)) 33 126 = some (inB 33 126 c) := by
    rw [w64n _ (by omega), l01In_eq]
    unfold inB
    congr 1
    apply decide_eq_decide.2
    omega
   simp only [spec_HeaderNameOK.l0, hb, hin, bS]
   rw [if_pos (by omega), if_pos (by omega), w64s i (by omega)]
  by_cases h1 : inB 33 126 c = true
  ·rw [h1, Bool.true_and]
   by_cases h2 : c = 58
   ·have h2' : (c.toNat : Int) = 58 := by rw [h2]; rfl
    rw [decide_eq_false (by simp [h2]), Bool.false_and]
    exact Ev.step (f := fun _ => some false) (fun k => by rw [e, if_pos h1, if_pos h2']) (Ev.now _)
   ·have h2' : ¬ (c.toNat : Int) = 58 := fun hh => h2 (UInt8.toNat_inj.1 (by rw [show ((58 : UInt8)).toNat = 58 from rfl]; omega))
    rw [decide_eq_true h2, Bool.true_and]
    exact Ev.step (fun k => by rw [e, if_pos h1, if_neg h2']) (ih (i + 1) (by omega))
  ·rw [Bool.not_eq_true] at h1
   rw [h1, Bool.false_and, Bool.false_and]
   exact Ev.step (f := fun _ => some false) (fun k => by rw [e, h1]; rfl) (Ev.now _)
theorem specName_ev (s : ByteArray) : Ev (fun k => spec_HeaderNameOK.f k s) (nameF (bl s)) := by
 have hsz := bl_size s
 unfold nameF
 by_cases h0 : (s.size : Int) > 65536
 ·rw [decide_eq_false (by omega), Bool.false_and]
  exact ⟨0, fun k _ => by simp only [spec_HeaderNameOK.f]; rw [if_pos h0]⟩
 ·by_cases h1 : 1 ≤ (bl s).length ∧ (bl s).length ≤ 40
  ·rw [decide_eq_true h1, Bool.true_and]
   exact Ev.congr (fun k => by simp only [spec_HeaderNameOK.f, l01In_eq, bS]; rw [if_neg h0, if_pos (decide_eq_true (by omega))]; rfl) (specName_l0 s (by omega) (bl s).length 0 (by omega))
  ·rw [decide_eq_false h1, Bool.false_and]
   exact ⟨0, fun k _ => by simp only [spec_HeaderNameOK.f, l01In_eq, bS]; rw [if_neg h0, if_neg (by rw [decide_eq_true_eq]; omega)]⟩
theorem implName_ev (s : ByteArray) (hs : s.size ≤ 4000000000) : Ev (fun k => impl_HeaderNameOK.f k s) (nameF (bl s)) := by
 have hsz := bl_size s
 unfold nameF
 by_cases h1 : 1 ≤ (bl s).length ∧ (bl s).length ≤ 40
 ·rw [decide_eq_true h1, Bool.true_and]
  obtain ⟨K, h⟩ := allWithin_ev s (by omega) 33 126
  have hcont : strings_Contains.f s (⟨#[58]⟩ : ByteArray) = some ((bl s).contains 58) := by
   unfold strings_Contains.f strings_Index.f
   rw [if_pos (by omega), bS, ← contains_one]
   rfl
  have hall : ((bl s).all fun c => inB 33 126 c && decide (c ≠ 58)) = ((bl s).all (inB 33 126) && !(bl s).contains 58) := by
   generalize bl s = l
   induction l with
   | nil => rfl
   | cons a l ih =>
    rw [List.all_cons, List.all_cons, ih, List.contains_cons]
    by_cases h58 : a = 58
    ·subst h58; simp
    ·rw [decide_eq_true h58, beq_eq_false_iff_ne.2 (Ne.symm h58)]
     cases inB 33 126 a <;> simp
  rw [hall]
  refine ⟨K, fun k hk => ?_⟩
  have := h k hk
  simp only at this
  simp only [impl_HeaderNameOK.f, within_eq, bS]
  rw [if_pos (decide_eq_true (by omega)), show ((33 : Int)) = ((33 : Nat) : Int) from rfl, show ((126 : Int)) = ((126 : Nat) : Int) from rfl, this, bS, hcont, bS]
  cases (bl s).all (inB 33 126) <;> rfl
 ·rw [decide_eq_false h1, Bool.false_and]
  exact ⟨0, fun k _ => by simp only [impl_HeaderNameOK.f, within_eq, bS]; rw [if_neg (by rw [decide_eq_true_eq]; omega)]⟩
end Go.Proofs.YtcpdbobkpbmjiaaDoor.P
/- Lemmas of mine: a field taken apart in both programs. Plain. -/
set_option linter.unusedVariables false
set_option linter.unusedSimpArgs false
namespace Go.Proofs.YtcpdbobkpbmjiaaDoor.P
open Go.RowKit Go.Proofs.YtcpdbobkpbmjiaaDoorW.PrintWords
theorem hasPre (s a : ByteArray) : stringslite_HasPrefix.f s a = some (decide (a.size ≤ s.size) && ((bl s).take a.size == bl a)) := by
 unfold stringslite_HasPrefix.f
 by_cases h : (s.size : Int) ≥ (a.size : Int)
 ·rw [if_pos h, if_pos (by omega), if_pos (by omega), decide_eq_true (by omega), Bool.true_and, toList_bl, toList_bl, bl_extract, List.drop_zero]
  rfl
 ·rw [if_neg h, decide_eq_false (by omega)]
  rfl
theorem hasSuf (s a : ByteArray) (hs : s.size ≤ 4611686018427387904) : stringslite_HasSuffix.f s a = some (decide (a.size ≤ s.size) && ((bl s).drop (s.size - a.size) == bl a)) := by
 unfold stringslite_HasSuffix.f
 by_cases h : (s.size : Int) ≥ (a.size : Int)
 ·have w : wrap64 ((s.size : Int) - (a.size : Int)) = ((s.size - a.size : Nat) : Int) := w64sub s.size a.size (by omega) (by omega)
  rw [w, if_pos h, if_pos (by omega), if_pos (by omega), decide_eq_true (by omega), Bool.true_and, toList_bl, toList_bl, Int.toNat_natCast, bl_extract]
  rw [List.take_of_length_le (by rw [List.length_drop, ← bl_size]; omega)]
 ·rw [if_neg h, decide_eq_false (by omega)]
  rfl
theorem cutPreG (s a : ByteArray) : strings_CutPrefix.f s a = some (if (decide (a.size ≤ s.size) && ((bl s).take a.size == bl a)) = true then (s.extract a.size s.size, true) else (s, false)) := by
 simp only [strings_CutPrefix.f, stringslite_CutPrefix.f, hasPre, bS]
 by_cases h : (decide (a.size ≤ s.size) && ((bl s).take a.size == bl a)) = true
 ·have hle : a.size ≤ s.size := by simp only [Bool.and_eq_true, decide_eq_true_eq] at h; exact h.1
  rw [if_pos h, if_pos (by omega), if_pos (by omega), bS, if_pos h, Int.toNat_natCast]
 ·rw [if_neg h, bS, if_neg h]
theorem cutSufG (s a : ByteArray) (hs : s.size ≤ 4611686018427387904) : strings_CutSuffix.f s a = some (if (decide (a.size ≤ s.size) && ((bl s).drop (s.size - a.size) == bl a)) = true then (s.extract 0 (s.size - a.size), true) else (s, false)) := by
 simp only [strings_CutSuffix.f, stringslite_CutSuffix.f, hasSuf s a hs, bS]
 by_cases h : (decide (a.size ≤ s.size) && ((bl s).drop (s.size - a.size) == bl a)) = true
 ·have hle : a.size ≤ s.size := by simp only [Bool.and_eq_true, decide_eq_true_eq] at h; exact h.1
  have w : wrap64 ((s.size : Int) - (a.size : Int)) = ((s.size - a.size : Nat) : Int) := w64sub s.size a.size hle (by omega)
  rw [w, if_pos h, if_pos (by omega), if_pos (by omega), bS, if_pos h, Int.toNat_natCast]
 ·rw [if_neg h, bS, if_neg h]
theorem idxByte_none (c : UInt8) : ∀ l : List UInt8, c ∉ l → Lib.indexByte l c = -1
 | [], _ => rfl
 | b :: l, h => by
  have hb : (b == c) = false := by simp; rintro rfl; simp at h
  have ih := idxByte_none c l (fun hm => h (by simp [hm]))
  simp only [Lib.indexByte, hb, ih]
  rfl
theorem idxByte_at (c : UInt8) : ∀ (p r : List UInt8), c ∉ p → Lib.indexByte (p ++ c :: r) c = (p.length : Int)
 | [], r, _ => by simp [Lib.indexByte]
 | b :: p, r, h => by
  have hb : (b == c) = false := by simp; rintro rfl; simp at h
  have ih := idxByte_at c p r (fun hm => h (by simp [hm]))
  simp only [List.cons_append, Lib.indexByte, hb, ih]
  rw [if_neg (by decide), if_neg (by simp)]
  simp
theorem cut_none (s : ByteArray) (c : UInt8) (h : c ∉ bl s) : strings_Cut.f s (⟨#[c]⟩ : ByteArray) = some (s, ⟨#[]⟩, false) := by
 have hi : stringslite_Index.f s (⟨#[c]⟩ : ByteArray) = some (-1) := by
  unfold stringslite_Index.f
  rw [if_pos (show (⟨#[c]⟩ : ByteArray).data.toList.length = 1 from rfl)]
  exact congrArg some (idxByte_none c (bl s) h)
 simp only [strings_Cut.f, stringslite_Cut.f, hi, bS]
 rfl
theorem cut_at (s : ByteArray) (c : UInt8) (p r : List UInt8) (e : bl s = p ++ c :: r) (h : c ∉ p) (hs : s.size ≤ 4611686018427387904) : strings_Cut.f s (⟨#[c]⟩ : ByteArray) = some (s.extract 0 p.length, s.extract (p.length + 1) s.size, true) := by
 have hi : stringslite_Index.f s (⟨#[c]⟩ : ByteArray) = some (p.length : Int) := by
  unfold stringslite_Index.f
  rw [if_pos (show (⟨#[c]⟩ : ByteArray).data.toList.length = 1 from rfl)]
  refine congrArg some ?_
  show Lib.indexByte (bl s) c = _
  rw [e, idxByte_at c p r h]
 have hsz : s.size = p.length + 1 + r.length := by rw [bl_size, e]; simp; omega
 have w : wrap64 ((p.length : Int) + ((⟨#[c]⟩ : ByteArray).size : Int)) = ((p.length + 1 : Nat) : Int) := w64add p.length 1 (by omega)
 simp only [strings_Cut.f, stringslite_Cut.f, hi, bS, w]
 rw [if_pos (by omega), if_pos (by omega), if_pos (by omega), if_pos (by omega), if_pos (by omega), bS]
 rfl
/-! ### what stands behind the colon -/
def unf : List UInt8 → Option (List UInt8)
 | [] => some []
 | c :: r => if c = 13 then (if r.take 2 = [10, 32] then unf (r.drop 1) else none) else (unf r).map (c :: ·)
termination_by l => l.length
decreasing_by
 all_goals simp
 all_goals omega
def unfV (r : List UInt8) : Option (List UInt8) :=
 if r.take 1 = [32] ∧ 3 ≤ r.length ∧ r.drop (r.length - 2) = [13, 10] then
  (unf ((r.drop 1).take (r.length - 3))).bind fun v => if safeR v = true then some v else none
 else none
def unfR : List UInt8 → List UInt8 → Option (List UInt8 × List UInt8)
 | _, [] => none
 | p, c :: r => if c = 58 then (if nameF p = true then (unfV r).map fun v => (p, v) else none) else unfR (p ++ [c]) r
theorem unfR_none : ∀ (l p : List UInt8), (58 : UInt8) ∉ l → unfR p l = none
 | [], _, _ => rfl
 | c :: r, p, h => by
  have hc : c ≠ 58 := fun e => h (by simp [e])
  rw [unfR, if_neg hc, unfR_none r _ (fun hm => h (by simp [hm]))]
theorem unfR_at : ∀ (q r p : List UInt8), (58 : UInt8) ∉ q → unfR p (q ++ 58 :: r) = if nameF (p ++ q) = true then (unfV r).map fun v => (p ++ q, v) else none
 | [], r, p, _ => by simp [unfR]
 | c :: q, r, p, h => by
  have hc : c ≠ 58 := fun e => h (by simp [e])
  rw [List.cons_append, unfR, if_neg hc, unfR_at q r _ (fun hm => h (by simp [hm]))]
  simp
/-- What an unfolding function tells. -/
def outU (o : Option (List UInt8 × List UInt8)) (r : ByteArray × ByteArray × Bool) : Prop := match o with
 | none => r.2.2 = false
 | some (p, v) => r.2.2 = true ∧ bl r.1 = p ∧ bl r.2.1 = v
/-! ### a text replaced -/
theorem safeW_all : ∀ (l : List UInt8) (w : Nat), safeW w l = true → l.all (inB 32 126) = true
 | [], _, _ => rfl
 | c :: l, w, h => by
  simp only [safeW, Bool.and_eq_true] at h
  rw [List.all_cons, h.1, Bool.true_and]
  split at h
  ·simp only [Bool.and_eq_true] at h
   exact safeW_all l 0 h.2.2
  ·simp only [Bool.and_eq_true] at h
   exact safeW_all l (w + 1) h.2.2
theorem safeR_no13 (l : List UInt8) (h : (13 : UInt8) ∈ l) : safeR l = false := by
 unfold safeR
 cases hs : safeW 0 l with
 | false => simp
 | true =>
  have := List.all_eq_true.1 (safeW_all l 0 hs) 13 h
  exact absurd this (by decide)
def repl (l : List UInt8) : List UInt8 := Lib.replaceAll l [13, 10, 32] [32]
theorem repl_none (l : List UInt8) (h : Lib.index l [13, 10, 32] = -1) : repl l = l := by
 unfold repl Lib.replaceAll Lib.replace
 rw [if_neg (by decide)]
 have : Lib.replaceNum l [13, 10, 32] (-1) = 0 := by
  unfold Lib.replaceNum
  rw [if_pos (.inl (by decide)), Lib.count_miss h]
 rw [this]
 rfl
theorem repl_at (l : List UInt8) (i : Nat) (h : Lib.index l [13, 10, 32] = i) : repl l = l.take i ++ 32 :: repl (l.drop (i + 3)) := by
 unfold repl Lib.replaceAll Lib.replace
 rw [if_neg (by decide), if_neg (by decide)]
 have e : ∀ x, Lib.replaceNum x [13, 10, 32] (-1) = Lib.count x [13, 10, 32] := fun x => by
  unfold Lib.replaceNum
  rw [if_pos (.inl (by decide))]
 rw [e, e, Lib.count_hit (by simp) h, Nat.add_comm 1, Lib.replaceK_hit _ _ _ _ i h]
 simp
theorem repl_len : ∀ (n : Nat) (l : List UInt8), l.length ≤ n → (repl l).length ≤ l.length := by
 intro n
 induction n with
 | zero =>
  intro l hl
  cases l with
  | nil => decide
  | cons a b => simp at hl
 | succ n ih =>
  intro l hl
  by_cases hi : Lib.index l [13, 10, 32] = -1
  ·rw [repl_none l hi]
   exact Nat.le_refl _
  ·have hge := Lib.index_ge l [13, 10, 32]
   obtain ⟨i, hi⟩ : ∃ i : Nat, Lib.index l [13, 10, 32] = i := ⟨(Lib.index l [13, 10, 32]).toNat, by omega⟩
   have hr := Lib.index_room l [13, 10, 32] (by omega)
   rw [hi] at hr
   simp only [List.length_cons, List.length_nil] at hr
   rw [repl_at l i hi, List.length_append, List.length_cons, List.length_take]
   have := ih (l.drop (i + 3)) (by rw [List.length_drop]; omega)
   rw [List.length_drop] at this
   omega
theorem occ_iff (l : List UInt8) (i : Nat) : Lib.occAt l [13, 10, 32] i = decide ((l.drop i).take 3 = [13, 10, 32]) := by
 unfold Lib.occAt
 generalize l.drop i = m
 match m with
 | [] => rfl
 | [a] => simp [List.isPrefixOf]
 | [a, b] => simp [List.isPrefixOf]
 | a :: b :: c :: m =>
  simp only [List.isPrefixOf, List.take_succ_cons, List.take_zero, Bool.and_true]
  rw [Bool.eq_iff_iff]
  simp only [Bool.and_eq_true, beq_iff_eq, decide_eq_true_eq, List.cons.injEq, and_true]
  constructor <;> rintro ⟨h1, h2, h3⟩ <;> exact ⟨h1.symm, h2.symm, h3.symm⟩
/-- Ahead of the first place, what holds no 13 goes through; one 13 ends it. -/
theorem unf_pre : ∀ (p r : List UInt8), (∀ j, j < p.length → ((p ++ r).drop j).take 3 ≠ [13, 10, 32]) → unf (p ++ r) = if (13 : UInt8) ∈ p then none else (unf r).map (p ++ ·)
 | [], r, _ => by simp
 | c :: p, r, h => by
  have ih := unf_pre p r (fun j hj => by have := h (j + 1) (by simpa using hj); simpa using this)
  rw [List.cons_append, unf]
  by_cases hc : c = 13
  ·subst hc
   rw [if_pos rfl, if_pos (show (13 : UInt8) ∈ 13 :: p by simp)]
   refine if_neg ?_
   intro ht
   have h0 := h 0 (by simp)
   simp only [List.cons_append, List.drop_zero] at h0
   exact h0 (by rw [show (3 : Nat) = 2 + 1 from rfl, List.take_succ_cons, ht])
  ·rw [if_neg hc, ih]
   by_cases hm : (13 : UInt8) ∈ p
   ·rw [if_pos hm, if_pos (by simp [hm])]
    rfl
   ·rw [if_neg hm, if_neg (by simp only [List.mem_cons, not_or]; exact ⟨fun e => hc e.symm, hm⟩), Option.map_map]
    congr 1
theorem unf_repl : ∀ (n : Nat) (l : List UInt8), l.length ≤ n → (match unf l with | none => (13 : UInt8) ∈ repl l | some v => repl l = v) := by
 intro n
 induction n with
 | zero =>
  intro l hl
  cases l with
  | nil => rw [unf]; rfl
  | cons a b => simp at hl
 | succ n ih =>
  intro l hl
  rcases Lib.index_spec l [13, 10, 32] with ⟨hi, hno⟩ | ⟨i, hi, hle, hocc, hno⟩
  ·rw [repl_none l hi]
   have := unf_pre l [] (fun j hj => by
    have := hno j (by omega)
    rw [occ_iff] at this
    rw [List.append_nil]
    exact of_decide_eq_false this)
   rw [List.append_nil] at this
   rw [this]
   by_cases hm : (13 : UInt8) ∈ l
   ·rw [if_pos hm]; exact hm
   ·rw [if_neg hm, unf]; simp
  ·rw [repl_at l i hi]
   rw [occ_iff, decide_eq_true_eq] at hocc
   obtain ⟨q, hq⟩ : ∃ q, l.drop i = 13 :: 10 :: 32 :: q := ⟨(l.drop i).drop 3, by have h := List.take_append_drop 3 (l.drop i); rw [hocc] at h; exact h.symm⟩
   have hd : l.drop (i + 3) = q := by rw [← List.drop_drop, hq]; rfl
   have hlen : l.length = i + 3 + q.length := by
    have h1 := congrArg List.length hq
    rw [List.length_drop] at h1
    simp at h1
    omega
   have hpre := unf_pre (l.take i) (l.drop i) (fun j hj => by
    rw [List.length_take] at hj
    have := hno j (by omega)
    rw [occ_iff] at this
    rw [List.take_append_drop]
    exact of_decide_eq_false this)
   rw [List.take_append_drop] at hpre
   rw [hpre, hd]
   by_cases hm : (13 : UInt8) ∈ l.take i
   ·rw [if_pos hm]
    exact List.mem_append_left _ hm
   ·rw [if_neg hm, hq, unf, if_pos rfl, if_pos (show List.take 2 (10 :: 32 :: q) = [10, 32] from rfl)]
    show match ((unf (32 :: q)).map (l.take i ++ ·)) with | none => _ | some v => _
    rw [unf, if_neg (by decide)]
    have := ih q (by omega)
    cases hu : unf q with
    | none =>
     rw [hu] at this
     exact List.mem_append_right _ (List.mem_cons_of_mem _ this)
    | some v =>
     rw [hu] at this
     simp only [Option.map_some]
     rw [this]
theorem safe_repl (l : List UInt8) : safeR (repl l) = match unf l with | none => false | some v => safeR v := by
 have := unf_repl l.length l (Nat.le_refl _)
 cases hu : unf l with
 | none => rw [hu] at this; exact safeR_no13 _ this
 | some v => rw [hu] at this; simp only; rw [this]
/-! ### the program's -/
theorem repl_ev (s : ByteArray) (hs : s.size ≤ 1000000) : ∃ x, strings_ReplaceAll.f s (⟨#[13, 10, 32]⟩ : ByteArray) (⟨#[32]⟩ : ByteArray) = some x ∧ bl x = repl (bl s) := by
 refine ⟨⟨(repl (bl s)).toArray⟩, ?_, bl_mk _⟩
 unfold strings_ReplaceAll.f
 have h2 := Lib.count_le s.data.toList (⟨#[13, 10, 32]⟩ : ByteArray).data.toList
 have h3 : s.data.toList.length = s.size := (Lib.size_eq s).symm
 have h4 : Lib.countB s ⟨#[13, 10, 32]⟩ = Lib.count s.data.toList (⟨#[13, 10, 32]⟩ : ByteArray).data.toList := rfl
 have h5 : (⟨#[32]⟩ : ByteArray).size = 1 := rfl
 rw [if_pos ⟨⟨by omega, by decide⟩, by rw [h5]; omega⟩]
 rfl
theorem take_one (l : List UInt8) (c : UInt8) : l.take 1 = [c] ↔ l[0]? = some c := by
 cases l with
 | nil => simp
 | cons b l => simp
theorem pre_one (s : ByteArray) (c : UInt8) : (decide ((⟨#[c]⟩ : ByteArray).size ≤ s.size) && ((bl s).take (⟨#[c]⟩ : ByteArray).size == bl (⟨#[c]⟩ : ByteArray))) = decide ((bl s).take 1 = [c]) := by
 show (decide (1 ≤ s.size) && ((bl s).take 1 == [c])) = _
 rw [bl_size]
 generalize bl s = l
 cases l with
 | nil => rfl
 | cons a l =>
  rw [Bool.eq_iff_iff]
  simp
theorem suf_two (s : ByteArray) : (decide ((⟨#[13, 10]⟩ : ByteArray).size ≤ s.size) && ((bl s).drop (s.size - (⟨#[13, 10]⟩ : ByteArray).size) == bl (⟨#[13, 10]⟩ : ByteArray))) = decide (2 ≤ (bl s).length ∧ (bl s).drop ((bl s).length - 2) = [13, 10]) := by
 show (decide (2 ≤ s.size) && ((bl s).drop (s.size - 2) == [13, 10])) = _
 rw [bl_size, Bool.eq_iff_iff]
 simp
theorem implUnf_ev (s : ByteArray) (hs : s.size ≤ 1000000) : ∃ r, Ev (fun k => impl_unfold.f k s) r ∧ outU (unfR [] (bl s)) r := by
 have hsz := bl_size s
 by_cases hm : (58 : UInt8) ∈ bl s
 ·obtain ⟨p, r, e, hp⟩ := List.eq_append_cons_of_mem hm
  have hlen : s.size = p.length + 1 + r.length := by rw [hsz, e]; simp; omega
  have h1 := cut_at s 58 p r e hp (by omega)
  have b0 : bl (s.extract 0 p.length) = p := by rw [bl_extract, e]; simp
  have b1 : bl (s.extract (p.length + 1) s.size) = r := by
   rw [bl_extract, e, ← List.drop_drop, List.drop_left]
   exact List.take_of_length_le (by simp; omega)
  have z1 := bl_size (s.extract (p.length + 1) s.size)
  rw [b1] at z1
  generalize s.extract (p.length + 1) s.size = R at h1 b1 z1
  generalize s.extract 0 p.length = P at h1 b0
  obtain ⟨K1, n1⟩ := implName_ev P (by rw [bl_size, b0]; omega)
  rw [b0] at n1
  have h2 := cutPreG R (⟨#[32]⟩ : ByteArray)
  rw [pre_one, b1] at h2
  rw [e, unfR_at p r [] hp, List.nil_append]
  by_cases c1 : r.take 1 = [32]
  ·rw [if_pos (decide_eq_true c1)] at h2
   have b2 : bl (R.extract (⟨#[32]⟩ : ByteArray).size R.size) = r.drop 1 := by
    rw [bl_extract, b1, z1]
    exact List.take_of_length_le (by rw [List.length_drop]; exact Nat.le_refl _)
   have z2 := bl_size (R.extract (⟨#[32]⟩ : ByteArray).size R.size)
   rw [b2, List.length_drop] at z2
   generalize R.extract (⟨#[32]⟩ : ByteArray).size R.size = Q at h2 b2 z2
   have h3 := cutSufG Q (⟨#[13, 10]⟩ : ByteArray) (by omega)
   rw [suf_two, b2, List.length_drop] at h3
   have hrl : 1 ≤ r.length := by cases r with | nil => simp at c1 | cons a b => simp
   by_cases c2 : 3 ≤ r.length ∧ r.drop (r.length - 2) = [13, 10]
   ·have c2' : 2 ≤ r.length - 1 ∧ List.drop (r.length - 1 - 2) (r.drop 1) = [13, 10] := ⟨by omega, by rw [List.drop_drop, show 1 + (r.length - 1 - 2) = r.length - 2 by omega]; exact c2.2⟩
    rw [if_pos (decide_eq_true c2')] at h3
    have b3 : bl (Q.extract 0 (Q.size - (⟨#[13, 10]⟩ : ByteArray).size)) = (r.drop 1).take (r.length - 3) := by
     rw [bl_extract, b2, List.drop_zero, z2]
     rw [show r.length - 1 - (⟨#[13, 10]⟩ : ByteArray).size - 0 = r.length - 3 from by show r.length - 1 - 2 - 0 = _; omega]
    have z3 := bl_size (Q.extract 0 (Q.size - (⟨#[13, 10]⟩ : ByteArray).size))
    rw [b3, List.length_take, List.length_drop] at z3
    generalize Q.extract 0 (Q.size - (⟨#[13, 10]⟩ : ByteArray).size) = V at h3 b3 z3
    obtain ⟨x, h4, b4⟩ := repl_ev V (by omega)
    have zx : x.size ≤ 4000000000 := by
     have := repl_len _ _ (Nat.le_refl (bl V).length)
     rw [← b4, ← bl_size, b3, List.length_take, List.length_drop] at this
     omega
    obtain ⟨K2, n2⟩ := implSafe_ev x zx
    rw [b4, b3, safe_repl] at n2
    have hV : unfV r = (unf ((r.drop 1).take (r.length - 3))).bind fun v => if safeR v = true then some v else none := by
     unfold unfV
     rw [if_pos ⟨c1, c2.1, c2.2⟩]
    by_cases c3 : nameF p = true
    ·rw [if_pos c3]
     cases hu : unf ((r.drop 1).take (r.length - 3)) with
     | none =>
      rw [hu] at n2
      rw [hV, hu]
      refine ⟨((⟨#[]⟩ : ByteArray), (⟨#[]⟩ : ByteArray), false), ⟨K1 + K2, fun k hk => ?_⟩, rfl⟩
      have m1 := n1 k (by omega)
      have m2 := n2 k (by omega)
      simp only at m1 m2
      simp only [impl_unfold.f, h1, h2, h3, h4, bS, if_true, m1, m2, c3]
      rfl
     | some v =>
      have hr := unf_repl _ _ (Nat.le_refl ((r.drop 1).take (r.length - 3)).length)
      rw [hu] at hr n2
      rw [hV, hu]
      by_cases c4 : safeR v = true
      ·refine ⟨(P, x, true), ⟨K1 + K2, fun k hk => ?_⟩, ?_⟩
       ·have m1 := n1 k (by omega)
        have m2 := n2 k (by omega)
        simp only at m1 m2
        simp only [impl_unfold.f, h1, h2, h3, h4, bS, if_true, m1, m2, c3, c4]
       ·simp only [Option.bind_some, if_pos c4, Option.map_some]
        exact ⟨rfl, b0, by rw [b4, b3]; exact hr⟩
      ·refine ⟨((⟨#[]⟩ : ByteArray), (⟨#[]⟩ : ByteArray), false), ⟨K1 + K2, fun k hk => ?_⟩, ?_⟩
       ·have m1 := n1 k (by omega)
        have m2 := n2 k (by omega)
        simp only at m1 m2
        simp only [impl_unfold.f, h1, h2, h3, h4, bS, if_true, m1, m2, c3]
        rw [if_neg c4]
       ·simp only [Option.bind_some, if_neg c4, Option.map_none]
        rfl
    ·rw [if_neg c3]
     refine ⟨((⟨#[]⟩ : ByteArray), (⟨#[]⟩ : ByteArray), false), ⟨K1 + K2, fun k hk => ?_⟩, rfl⟩
     have m1 := n1 k (by omega)
     simp only at m1
     simp only [impl_unfold.f, h1, h2, h3, h4, bS, if_true, m1]
     rw [if_neg c3]
   ·have c2' : ¬ (2 ≤ r.length - 1 ∧ List.drop (r.length - 1 - 2) (r.drop 1) = [13, 10]) := fun h => c2 ⟨by omega, by have := h.2; rw [List.drop_drop, show 1 + (r.length - 1 - 2) = r.length - 2 by omega] at this; exact this⟩
    rw [if_neg (by rw [decide_eq_true_eq]; exact c2')] at h3
    obtain ⟨x, h4, _⟩ := repl_ev Q (by omega)
    have hV : unfV r = none := if_neg fun h => c2 ⟨h.2.1, h.2.2⟩
    refine ⟨((⟨#[]⟩ : ByteArray), (⟨#[]⟩ : ByteArray), false), ⟨0, fun k _ => ?_⟩, ?_⟩
    ·simp only [impl_unfold.f, h1, h2, h3, h4, bS, if_true]
     rfl
    ·rw [hV]
     split <;> rfl
  ·rw [if_neg (by rw [decide_eq_true_eq]; exact c1)] at h2
   have hV : unfV r = none := if_neg fun h => c1 h.1
   have h3 := cutSufG R (⟨#[13, 10]⟩ : ByteArray) (by omega)
   obtain ⟨y, hy, zy⟩ : ∃ y : ByteArray × Bool, strings_CutSuffix.f R (⟨#[13, 10]⟩ : ByteArray) = some y ∧ y.1.size ≤ 1000000 := by
    rw [h3]
    split
    ·exact ⟨_, rfl, by rw [ByteArray.size_extract]; omega⟩
    ·exact ⟨_, rfl, by simp only; omega⟩
   obtain ⟨x, h4, _⟩ := repl_ev y.1 zy
   refine ⟨((⟨#[]⟩ : ByteArray), (⟨#[]⟩ : ByteArray), false), ⟨0, fun k _ => ?_⟩, ?_⟩
   ·simp only [impl_unfold.f, h1, h2, hy, h4, bS, if_true]
    rfl
   ·rw [hV]
    split <;> rfl
 ·rw [unfR_none _ _ hm]
  have h1 := cut_none s 58 hm
  have h2 := cutPreG (⟨#[]⟩ : ByteArray) (⟨#[32]⟩ : ByteArray)
  rw [pre_one] at h2
  have h3 := cutSufG (⟨#[]⟩ : ByteArray) (⟨#[13, 10]⟩ : ByteArray) (by decide)
  rw [suf_two] at h3
  obtain ⟨x, h4, _⟩ := repl_ev (⟨#[]⟩ : ByteArray) (by decide)
  rw [if_neg (by decide)] at h2 h3
  refine ⟨_, ⟨0, fun k _ => ?_⟩, (rfl : outU none ((⟨#[]⟩ : ByteArray), (⟨#[]⟩ : ByteArray), false))⟩
  simp only [impl_unfold.f, h1, h2, h3, h4, bS]
  rfl
/-! ### the reference's -/
def no3 : ByteArray × ByteArray × Bool := ((⟨#[]⟩ : ByteArray), (⟨#[]⟩ : ByteArray), false)
theorem specU_scan (s : ByteArray) (hs : s.size ≤ 1000000) (R : ByteArray × ByteArray × Bool) (n : Nat) (hn : n ≤ s.size) (hne : ∀ j (h : j < (bl s).length), j < n → (bl s)[j] ≠ 58) (hR : Ev (fun k => spec_l03Unfold.l0 k s (n : Int)) R) : ∀ (d i : Nat), i + d = n → Ev (fun k => spec_l03Unfold.l0 k s (i : Int)) R := by
 intro d
 induction d with
 | zero =>
  intro i hi
  obtain rfl : i = n := by omega
  exact hR
 | succ d ih =>
  intro i hi
  have hsz := bl_size s
  have hlt : i < (bl s).length := by omega
  have hb := bt_eq s i hlt
  have h58 := hne i hlt (by omega)
  have h58' : ¬ ((bl s)[i].toNat : Int) = 58 := fun hh => h58 (UInt8.toNat_inj.1 (by rw [show ((58 : UInt8)).toNat = 58 from rfl]; omega))
  refine Ev.step (fun k => ?_) (ih (i + 1) (by omega))
  simp only [spec_l03Unfold.l0, hb]
  rw [if_pos (by omega), if_pos (by omega), if_neg h58', w64s i (by omega)]
theorem specU_bad (s : ByteArray) (x : Int) (k : Nat) : spec_l03Unfold.j2 (k + 1) s x true = some no3 := by
 simp only [spec_l03Unfold.j2]
 rfl
def finU (s : ByteArray) (m : Nat) (B : List UInt8) : ByteArray × ByteArray × Bool := (s.extract 0 m, ⟨(B.drop 1).toArray⟩, safeR (B.drop 1))
theorem specU_l1 (s : ByteArray) (m : Nat) (hm : m ≤ s.size) (t : ByteArray) (ht : t.size ≤ 1000000) : ∀ (d i : Nat) (A : List UInt8), (bl t).length - i ≤ d → 1 ≤ A.length → A.length ≤ i →
  Ev (fun k => spec_l03Unfold.l1 k s (m : Int) t (nb A) (i : Int)) (match unf ((bl t).drop i) with | none => no3 | some w => finU s m (A ++ w)) := by
 have hend : ∀ (i : Nat) (A : List UInt8), (bl t).length ≤ i → 1 ≤ A.length → Ev (fun k => spec_l03Unfold.l1 k s (m : Int) t (nb A) (i : Int)) (match unf ((bl t).drop i) with | none => no3 | some w => finU s m (A ++ w)) := by
  intro i A hi hA
  have hsz := bl_size t
  rw [List.drop_eq_nil_of_le hi, unf]
  simp only [List.append_nil]
  obtain ⟨K, h⟩ := specSafe_ev ⟨(A.drop 1).toArray⟩
  rw [bl_mk] at h
  have e : (nb A).drop 1 = nb (A.drop 1) := by unfold nb; rw [List.map_drop]
  have hl := nb_length A
  refine ⟨K + 1, fun k hk => ?_⟩
  obtain ⟨j, rfl⟩ : ∃ j, k = j + 1 := ⟨k - 1, by omega⟩
  have f := h j (by omega)
  simp only at f
  simp only [spec_l03Unfold.l1]
  rw [if_neg (by omega), if_pos (by omega), bS, if_pos (by omega), if_pos (by omega), e, strOf_nb, f, bS, Int.toNat_natCast]
  rfl
 intro d
 induction d with
 | zero => intro i A hd hA hAi; exact hend i A (by omega) hA
 | succ d ih =>
  intro i A hd hA hAi
  by_cases hge : (bl t).length ≤ i
  ·exact hend i A hge hA
  have hsz := bl_size t
  have hlt : i < (bl t).length := by omega
  have hb := bt_eq t i hlt
  have hdr := List.drop_eq_getElem_cons hlt
  rw [hdr, unf]
  generalize hc : (bl t)[i] = c at hb ⊢
  have w1 : Aside0 (wrap64 ((i : Int) + 1) = ((i + 1 : Nat) : Int)) := ⟨w64s i (by omega)⟩
  have w2 : Aside0 (wrap64 ((i : Int) + 2) = ((i + 2 : Nat) : Int)) := ⟨w64add i 2 (by omega)⟩
  have w3 : Aside0 (wrap64 (((i + 1 : Nat) : Int) + 1) = ((i + 2 : Nat) : Int)) := ⟨w64s (i + 1) (by omega)⟩
  by_cases h13 : c = 13
  ·have h13' : (c.toNat : Int) = 13 := by rw [h13]; rfl
   rw [if_pos h13]
   by_cases h2 : i + 2 < (bl t).length
   ·have hb1 := bt_eq t (i + 1) (by omega)
    have hb2 := bt_eq t (i + 2) h2
    have htk : ((bl t).drop (i + 1)).take 2 = [(bl t)[i + 1], (bl t)[i + 2]] := by
     rw [List.drop_eq_getElem_cons (show i + 1 < (bl t).length by omega), List.drop_eq_getElem_cons (show i + 1 + 1 < (bl t).length by omega)]
     rfl
    have hdd : ((bl t).drop (i + 1)).drop 1 = (bl t).drop (i + 2) := by rw [List.drop_drop]
    rw [htk, hdd]
    generalize hc1 : (bl t)[i + 1] = c1 at hb1 ⊢
    generalize hc2 : (bl t)[i + 2] = c2 at hb2 ⊢
    have e : ∀ k, spec_l03Unfold.l1 (k + 1) s (m : Int) t (nb A) (i : Int) = if (c1.toNat : Int) = 10 then (if (c2.toNat : Int) = 32 then spec_l03Unfold.l1 k s m t (nb A) ((i + 2 : Nat) : Int) else some no3) else some no3 := fun k => by
     simp only [spec_l03Unfold.l1, hb, w1.out, w2.out, w3.out, hb1, hb2]
     rw [if_pos (by omega), if_pos (by omega), if_pos h13', if_neg (by omega), if_pos (by omega), if_pos (by omega)]
     by_cases h10 : (c1.toNat : Int) = 10
     ·rw [if_pos h10, if_pos h10, if_pos (by omega), if_pos (by omega)]
      rfl
     ·rw [if_neg h10, if_neg h10]
      rfl
    by_cases h10 : c1 = 10
    ·have h10' : (c1.toNat : Int) = 10 := by rw [h10]; rfl
     by_cases h32 : c2 = 32
     ·have h32' : (c2.toNat : Int) = 32 := by rw [h32]; rfl
      rw [if_pos (by rw [h10, h32])]
      exact Ev.step (fun k => by rw [e, if_pos h10', if_pos h32']) (ih (i + 2) A (by omega) hA (by omega))
     ·have h32' : ¬ (c2.toNat : Int) = 32 := fun hh => h32 (UInt8.toNat_inj.1 (by rw [show ((32 : UInt8)).toNat = 32 from rfl]; omega))
      rw [if_neg (by simp [h32])]
      exact Ev.step (f := fun _ => some no3) (fun k => by rw [e, if_pos h10', if_neg h32']) (Ev.now _)
    ·have h10' : ¬ (c1.toNat : Int) = 10 := fun hh => h10 (UInt8.toNat_inj.1 (by rw [show ((10 : UInt8)).toNat = 10 from rfl]; omega))
     rw [if_neg (by simp [h10])]
     exact Ev.step (f := fun _ => some no3) (fun k => by rw [e, if_neg h10']) (Ev.now _)
   ·rw [if_neg (by
     intro hh
     have := congrArg List.length hh
     rw [List.length_take, List.length_drop] at this
     simp only [List.length_cons, List.length_nil] at this
     omega)]
    refine Ev.step (f := fun _ => some no3) (fun k => ?_) (Ev.now _)
    simp only [spec_l03Unfold.l1, hb, w2.out]
    rw [if_pos (by omega), if_pos (by omega), if_pos h13', if_pos (by omega)]
    rfl
  ·have h13' : ¬ (c.toNat : Int) = 13 := fun hh => h13 (UInt8.toNat_inj.1 (by rw [show ((13 : UInt8)).toNat = 13 from rfl]; omega))
   rw [if_neg h13]
   have hl := nb_length A
   have en : nb A ++ [(c.toNat : Int)] = nb (A ++ [c]) := by rw [nb_append]; rfl
   have h := ih (i + 1) (A ++ [c]) (by omega) (by simp) (by simp; omega)
   have er : (match (unf ((bl t).drop (i + 1))).map (c :: ·) with | none => no3 | some w => finU s m (A ++ w)) = (match unf ((bl t).drop (i + 1)) with | none => no3 | some w => finU s m ((A ++ [c]) ++ w)) := by
    cases unf ((bl t).drop (i + 1)) with
    | none => rfl
    | some w => simp
   rw [er]
   refine Ev.step (fun k => ?_) h
   simp only [spec_l03Unfold.l1, hb, w1.out]
   rw [if_pos (by omega), if_pos (by omega), if_neg h13', if_pos (by omega), en]
theorem specUnf_ev (s : ByteArray) (hs : s.size ≤ 1000000) : ∃ r, Ev (fun k => spec_l03Unfold.f k s) r ∧ outU (unfR [] (bl s)) r := by
 have hsz := bl_size s
 by_cases hm : (58 : UInt8) ∈ bl s
 ·obtain ⟨p, r, e, hp⟩ := List.eq_append_cons_of_mem hm
  have hlen : s.size = p.length + 1 + r.length := by rw [hsz, e]; simp; omega
  have scan : ∀ R, Ev (fun k => spec_l03Unfold.j1 k s (p.length : Int)) R → Ev (fun k => spec_l03Unfold.f k s) R := fun R hR => by
   have hlt : p.length < (bl s).length := by omega
   have hb := bt_eq s p.length hlt
   have h58 : (bl s)[p.length] = 58 := by simp [e]
   refine Ev.congr (fun k => rfl) (specU_scan s hs R p.length (by omega) ?_ (Ev.step (fun k => ?_) hR) p.length 0 (by omega))
   ·intro j hj hjp hh
    have h1 : (bl s)[j]? = some 58 := by rw [List.getElem?_eq_getElem hj, hh]
    rw [e, List.getElem?_append_left hjp] at h1
    exact hp (List.mem_of_getElem? h1)
   ·simp only [spec_l03Unfold.l0, hb, h58]
    rw [if_pos (by omega), if_pos (by omega), if_pos (by rfl)]
  have w3 : Aside0 (wrap64 ((p.length : Int) + 3) = ((p.length + 3 : Nat) : Int)) := ⟨w64add p.length 3 (by omega)⟩
  have w1 : Aside0 (wrap64 ((p.length : Int) + 1) = ((p.length + 1 : Nat) : Int)) := ⟨w64s p.length (by omega)⟩
  have bad : ∀ K, (∀ k, K ≤ k → spec_l03Unfold.j1 (k + 1) s (p.length : Int) = spec_l03Unfold.j2 k s (p.length : Int) true) → Ev (fun k => spec_l03Unfold.f k s) no3 := fun K h => scan _ ⟨K + 2, fun k hk => by
   obtain ⟨j, rfl⟩ : ∃ j, k = j + 1 + 1 := ⟨k - 2, by omega⟩
   show spec_l03Unfold.j1 (j + 1 + 1) s _ = _
   rw [h (j + 1) (by omega), specU_bad]⟩
  rw [e, unfR_at p r [] hp, List.nil_append]
  have hout : ∀ o, o = none → outU o no3 := fun o h => by rw [h]; rfl
  by_cases h2 : r.length < 2
  ·refine ⟨no3, bad 0 fun k _ => ?_, hout _ ?_⟩
   ·simp only [spec_l03Unfold.j1, w3.out]
    rw [if_pos (by omega)]
   ·have : unfV r = none := if_neg fun h => by omega
    rw [this]
    split <;> rfl
  have w2 : Aside0 (wrap64 ((s.size : Int) - 2) = ((s.size - 2 : Nat) : Int)) := ⟨w64sub s.size 2 (by omega) (by omega)⟩
  have dl : (s.extract (s.size - 2) s.size).toList = r.drop (r.length - 2) := by
   rw [toList_bl, bl_extract, e, List.take_of_length_le (by rw [List.length_drop, ← e]; omega)]
   rw [show s.size - 2 = p.length + (1 + (r.length - 2)) by omega, ← List.drop_drop, List.drop_left, Nat.add_comm 1, List.drop_succ_cons]
  by_cases hcr : r.drop (r.length - 2) = [13, 10]
  case neg =>
   refine ⟨no3, bad 0 fun k _ => ?_, hout _ ?_⟩
   ·simp only [spec_l03Unfold.j1, w3.out, w2.out, Int.toNat_natCast, dl]
    rw [if_neg (by omega), if_pos (by omega), if_pos (by omega), if_neg hcr]
   ·have : unfV r = none := if_neg fun h => hcr h.2.2
    rw [this]
    split <;> rfl
  have b0 : bl (s.extract 0 p.length) = p := by rw [bl_extract, e]; simp
  obtain ⟨K1, n1⟩ := specName_ev (s.extract 0 p.length)
  rw [b0] at n1
  by_cases hn : nameF p = true
  case neg =>
   rw [if_neg hn]
   rw [Bool.not_eq_true] at hn
   refine ⟨no3, bad K1 fun k hk => ?_, hout _ rfl⟩
   have f := n1 k hk
   simp only at f
   simp only [spec_l03Unfold.j1, w3.out, w2.out, Int.toNat_natCast, dl]
   rw [if_neg (by omega), if_pos (by omega), if_pos (by omega), if_pos hcr, if_pos (by omega), if_pos (by omega), f, bS, hn]
   rfl
  rw [if_pos hn]
  have hlt1 : p.length + 1 < (bl s).length := by omega
  have hb1 := bt_eq s (p.length + 1) hlt1
  have hr0 : r[0]? = some ((bl s)[p.length + 1]) := by
   rw [← List.getElem?_eq_getElem hlt1, e, List.getElem?_append_right (by omega)]
   rw [show p.length + 1 - p.length = 0 + 1 by omega, List.getElem?_cons_succ]
  generalize (bl s)[p.length + 1] = c at hb1 hr0
  have j1e : ∀ k, K1 ≤ k → spec_l03Unfold.j1 (k + 1) s (p.length : Int) = spec_l03Unfold.j2 k s (p.length : Int) ((c.toNat : Int) != 32) := fun k hk => by
   have f := n1 k hk
   simp only at f
   simp only [spec_l03Unfold.j1, w3.out, w2.out, w1.out, Int.toNat_natCast, dl]
   rw [if_neg (by omega), if_pos (by omega), if_pos (by omega), if_pos hcr, if_pos (by omega), if_pos (by omega), f, bS, if_pos hn, if_pos (by omega), if_pos (by omega), hb1]
  by_cases h32 : c = 32
  case neg =>
   have h32' : ((c.toNat : Int) != 32) = true := by
    rw [bne_iff_ne]
    exact fun hh => h32 (UInt8.toNat_inj.1 (by rw [show ((32 : UInt8)).toNat = 32 from rfl]; omega))
   refine ⟨no3, bad K1 fun k hk => by rw [j1e k hk, h32'], hout _ ?_⟩
   have : unfV r = none := if_neg fun h => by
    have := (take_one r 32).1 h.1
    rw [hr0] at this
    exact h32 (Option.some.inj this)
   rw [this]
   rfl
  subst h32
  have h3 : 3 ≤ r.length := by
   rcases Nat.lt_or_ge r.length 3 with h | h
   ·have : r.length - 2 = 0 := by omega
    rw [this, List.drop_zero] at hcr
    rw [hcr] at hr0
    exact absurd hr0 (by decide)
   ·exact h
  have hV : unfV r = (unf ((r.drop 1).take (r.length - 3))).bind fun v => if safeR v = true then some v else none := by
   unfold unfV
   rw [if_pos ⟨(take_one r 32).2 hr0, h3, hcr⟩]
  obtain ⟨t, ht⟩ : ∃ t, t = s.extract (p.length + 1) (s.size - 2) := ⟨_, rfl⟩
  have bt_ : bl t = 32 :: (r.drop 1).take (r.length - 3) := by
   rw [ht, bl_extract, e, ← List.drop_drop, List.drop_left, List.drop_succ_cons, List.drop_zero, show s.size - 2 - (p.length + 1) = (r.length - 3) + 1 by omega]
   cases r with
   | nil => simp at h3
   | cons a r =>
    have : a = 32 := by simpa using hr0
    rw [this, List.take_succ_cons]
    rfl
  have zt : t.size ≤ 1000000 := by rw [bl_size, bt_]; simp; omega
  have h := specU_l1 s p.length (by omega) t zt (bl t).length 1 [32] (by omega) (by simp) (by simp)
  rw [bt_, List.drop_succ_cons, List.drop_zero] at h
  have first : Ev (fun k => spec_l03Unfold.l1 k s (p.length : Int) t ([] : List Int) (0 : Int)) (match unf ((r.drop 1).take (r.length - 3)) with | none => no3 | some w => finU s p.length ([32] ++ w)) := by
   refine Ev.step (fun k => ?_) h
   have hz := bl_size t
   have hlt : 0 < (bl t).length := by rw [bt_]; simp
   have hb := bt_eq t 0 hlt
   have h0 : (bl t)[0] = 32 := by simp [bt_]
   rw [h0] at hb
   have hb' : bt t (0 : Int) = 32 := hb
   simp only [spec_l03Unfold.l1, hb']
   have w01 : wrap64 ((0 : Int) + 1) = ((1 : Nat) : Int) := w64s 0 (by omega)
   rw [if_pos (by omega), if_pos (by omega), if_neg (by decide), if_pos (by decide), w01]
   rfl
  obtain ⟨R, hR⟩ : ∃ R, R = (match unf ((r.drop 1).take (r.length - 3)) with | none => no3 | some w => finU s p.length ([32] ++ w)) := ⟨_, rfl⟩
  rw [← hR] at first
  refine ⟨R, scan R ?_, ?_⟩
  ·obtain ⟨K2, f2⟩ := first
   refine ⟨K1 + K2 + 2, fun k hk => ?_⟩
   obtain ⟨j, rfl⟩ : ∃ j, k = j + 1 + 1 := ⟨k - 2, by omega⟩
   show spec_l03Unfold.j1 (j + 1 + 1) s _ = _
   have f := f2 j (by omega)
   simp only at f
   rw [j1e (j + 1) (by omega)]
   simp only [spec_l03Unfold.j2, w1.out, w2.out, Int.toNat_natCast]
   rw [if_neg (by decide), if_pos (by omega), if_pos (by omega), if_pos (by omega), ← ht]
   exact f
  ·rw [hV, hR]
   cases hu : unf ((r.drop 1).take (r.length - 3)) with
   | none => rfl
   | some w =>
    simp only [Option.bind_some]
    by_cases hs2 : safeR w = true
    ·rw [if_pos hs2]
     exact ⟨hs2, b0, bl_mk _⟩
    ·rw [if_neg hs2]
     exact Bool.eq_false_iff.2 hs2
 ·rw [unfR_none _ _ hm]
  refine ⟨no3, Ev.congr (fun k => rfl) (specU_scan s hs no3 s.size (Nat.le_refl _) (fun j hj _ hh => hm (by rw [← hh]; exact List.getElem_mem hj)) ⟨3, fun k hk => ?_⟩ s.size 0 (by omega)), rfl⟩
  obtain ⟨j, rfl⟩ : ∃ j, k = j + 1 + 1 + 1 := ⟨k - 3, by omega⟩
  have w3 : Aside0 (wrap64 ((s.size : Int) + 3) = ((s.size + 3 : Nat) : Int)) := ⟨w64add s.size 3 (by omega)⟩
  show spec_l03Unfold.l0 (j + 1 + 1 + 1) s _ = _
  rw [spec_l03Unfold.l0, if_neg (by omega), spec_l03Unfold.j1, w3.out, if_pos (by omega), specU_bad]
end Go.Proofs.YtcpdbobkpbmjiaaDoor.P
/- Lemmas of mine: right mails in both programs. Plain. -/
set_option linter.unusedVariables false
set_option linter.unusedSimpArgs false
namespace Go.Proofs.YtcpdbobkpbmjiaaDoor.P
open Go.RowKit Go.Proofs.YtcpdbobkpbmjiaaDoorW.PrintWords
/-- The scan of the reference: how wide the line is so far. -/
def mailS : Nat → List UInt8 → Bool
 | w, [] => decide (w = 0)
 | w, c :: r => if c = 13 ∧ r.take 1 = [10] then mailS 0 (r.drop 1) else (inB 1 127 c && decide (c ≠ 13) && decide (c ≠ 10) && decide (w + 1 ≤ 998) && mailS (w + 1) r)
termination_by _ l => l.length
decreasing_by
 all_goals simp
 all_goals omega
def mailR (l : List UInt8) : Bool := decide (l.length ≤ 65536) && mailS 0 l
theorem specMail_l0 (s : ByteArray) (hs : s.size ≤ 1000000) : ∀ (d i w : Nat), (bl s).length - i ≤ d → i ≤ (bl s).length → w ≤ 998 → Ev (fun k => spec_MailOK.l0 k s (w : Int) (i : Int)) (mailS w ((bl s).drop i)) := by
 have hsz := bl_size s
 have hend : ∀ (i w : Nat), i = (bl s).length → Ev (fun k => spec_MailOK.l0 k s (w : Int) (i : Int)) (mailS w ((bl s).drop i)) := fun i w hi => by
  rw [List.drop_eq_nil_of_le (by omega), mailS]
  refine Ev.step (f := fun _ => some _) (fun k => ?_) (Ev.now _)
  simp only [spec_MailOK.l0]
  rw [if_neg (by omega)]
  refine congrArg some ?_
  by_cases h : w = 0
  ·subst h; rfl
  ·rw [decide_eq_false h, beq_eq_false_iff_ne.2 (by omega)]
 intro d
 induction d with
 | zero => intro i w hd hi hw; exact hend i w (by omega)
 | succ d ih =>
  intro i w hd hi hw
  by_cases hlt : i < (bl s).length
  case neg => exact hend i w (by omega)
  have hb := bt_eq s i hlt
  rw [List.drop_eq_getElem_cons hlt, mailS]
  generalize hc : (bl s)[i] = c at hb ⊢
  have hc255 := byte_lt c
  have w1 : Aside0 (wrap64 ((i : Int) + 1) = ((i + 1 : Nat) : Int)) := ⟨w64s i (by omega)⟩
  have w2 : Aside0 (wrap64 (((i + 1 : Nat) : Int) + 1) = ((i + 2 : Nat) : Int)) := ⟨w64s (i + 1) (by omega)⟩
  have w3 : Aside0 (wrap64 ((w : Int) + 1) = ((w + 1 : Nat) : Int)) := ⟨w64s w (by omega)⟩
  have toI : ∀ (n : Nat) (x : UInt8), x.toNat = n → (c = x ↔ (c.toNat : Int) = (n : Int)) := fun n x hx => ⟨fun h => by rw [h, hx], fun h => UInt8.toNat_inj.1 (by omega)⟩
  have i13 : c = 13 ↔ (c.toNat : Int) = 13 := toI 13 13 rfl
  have i10 : c = 10 ↔ (c.toNat : Int) = 10 := toI 10 10 rfl
  have rest : ∀ j, spec_MailOK.j1 (j + 1) s (w : Int) (i : Int) (c.toNat : Int) false = if (inB 1 127 c && decide (c ≠ 13) && decide (c ≠ 10) && decide (w + 1 ≤ 998)) = true then spec_MailOK.l0 j s ((w + 1 : Nat) : Int) ((i + 1 : Nat) : Int) else some false := fun j => by
   simp only [spec_MailOK.j1, w1.out, w3.out]
   rw [if_neg (by decide)]
   by_cases a1 : (c.toNat : Int) = 13
   ·rw [if_pos a1, if_neg (by simp [i13.2 a1])]
   ·rw [if_neg a1]
    by_cases a2 : (c.toNat : Int) = 10
    ·rw [if_pos a2, if_neg (by simp [i10.2 a2])]
    ·rw [if_neg a2]
     have d1 : decide (c ≠ 13) = true := decide_eq_true (fun h => a1 (i13.1 h))
     have d2 : decide (c ≠ 10) = true := decide_eq_true (fun h => a2 (i10.1 h))
     rw [d1, d2, Bool.and_true, Bool.and_true]
     by_cases a3 : (c.toNat : Int) = 0
     ·rw [if_pos a3, show inB 1 127 c = false from decide_eq_false (by omega), if_neg (by simp)]
     ·rw [if_neg a3]
      by_cases a4 : (c.toNat : Int) > 127
      ·rw [if_pos a4, show inB 1 127 c = false from decide_eq_false (by omega), if_neg (by simp)]
      ·rw [if_neg a4, show inB 1 127 c = true from decide_eq_true (by omega), Bool.true_and]
       by_cases a5 : w + 1 ≤ 998
       ·rw [if_neg (by omega), if_pos (decide_eq_true a5)]
       ·rw [if_pos (by omega), if_neg (by rw [decide_eq_true_eq]; exact a5)]
  have plain : ∀ K : Nat, (∀ k, spec_MailOK.l0 (k + 1) s (w : Int) (i : Int) = spec_MailOK.j1 k s (w : Int) (i : Int) (c.toNat : Int) false) → Ev (fun k => spec_MailOK.l0 k s (w : Int) (i : Int)) (inB 1 127 c && decide (c ≠ 13) && decide (c ≠ 10) && decide (w + 1 ≤ 998) && mailS (w + 1) ((bl s).drop (i + 1))) := fun _ h => by
   refine Ev.step h (Ev.step rest ?_)
   by_cases hg : (inB 1 127 c && decide (c ≠ 13) && decide (c ≠ 10) && decide (w + 1 ≤ 998)) = true
   ·rw [hg, Bool.true_and]
    refine Ev.congr (fun k => by rw [if_pos rfl]) (ih (i + 1) (w + 1) (by omega) (by omega) ?_)
    simp only [Bool.and_eq_true, decide_eq_true_eq] at hg
    exact hg.2
   ·rw [Bool.not_eq_true] at hg
    rw [hg, Bool.false_and]
    exact Ev.congr (f := fun _ => some false) (fun k => by rw [if_neg (by decide)]) (Ev.now _)
  by_cases h13 : c = 13
  ·have h13' := i13.1 h13
   by_cases h2 : i + 1 < (bl s).length
   ·have hb1 := bt_eq s (i + 1) h2
    have hdr := List.drop_eq_getElem_cons h2
    rw [hdr, List.take_succ_cons, List.take_zero, List.drop_succ_cons, List.drop_zero, ← hdr]
    generalize hc1 : (bl s)[i + 1] = c1 at hb1 hdr ⊢
    have e : ∀ k, spec_MailOK.l0 (k + 1) s (w : Int) (i : Int) = spec_MailOK.j1 k s (w : Int) (i : Int) (c.toNat : Int) ((c1.toNat : Int) == 10) := fun k => by
     simp only [spec_MailOK.l0, hb, w1.out, hb1]
     rw [if_pos (by omega), if_pos (by omega), if_pos h13', if_pos (by omega), if_pos (by omega)]
    by_cases h10 : c1 = 10
    ·have h10' : ((c1.toNat : Int) == 10) = true := by rw [h10]; rfl
     rw [if_pos ⟨h13, by rw [h10]⟩]
     refine Ev.step (fun k => by rw [e, h10']) (Ev.step (f := fun k => spec_MailOK.l0 k s ((0 : Nat) : Int) ((i + 1 + 1 : Nat) : Int)) (fun k => ?_) (ih (i + 1 + 1) 0 (by omega) (by omega) (by omega)))
     simp only [spec_MailOK.j1, w1.out, w2.out]
     rfl
    ·have h10' : ((c1.toNat : Int) == 10) = false := beq_eq_false_iff_ne.2 fun hh => h10 (UInt8.toNat_inj.1 (by rw [show ((10 : UInt8)).toNat = 10 from rfl]; omega))
     rw [if_neg (by simp [h10])]
     exact plain 0 fun k => by rw [e, h10']
   ·rw [List.drop_eq_nil_of_le (by omega), if_neg (by simp)]
    have := plain 0 (fun k => by
     simp only [spec_MailOK.l0, hb, w1.out]
     rw [if_pos (by omega), if_pos (by omega), if_pos h13', if_neg (by omega)])
    rw [List.drop_eq_nil_of_le (by omega)] at this
    exact this
  ·have h13' : ¬ (c.toNat : Int) = 13 := fun h => h13 (i13.2 h)
   rw [if_neg (by simp [h13])]
   exact plain 0 fun k => by
    simp only [spec_MailOK.l0, hb]
    rw [if_pos (by omega), if_pos (by omega), if_neg h13']
theorem specMail_ev (s : ByteArray) : Ev (fun k => spec_MailOK.f k s) (mailR (bl s)) := by
 have hsz := bl_size s
 unfold mailR
 by_cases h0 : (s.size : Int) > 65536
 ·rw [decide_eq_false (by omega), Bool.false_and]
  exact ⟨0, fun k _ => by simp only [spec_MailOK.f]; rw [if_pos h0]⟩
 ·rw [decide_eq_true (by omega), Bool.true_and]
  exact Ev.congr (fun k => by simp only [spec_MailOK.f]; rw [if_neg h0]; rfl) (specMail_l0 s (by omega) (bl s).length 0 0 (by omega) (by omega) (by omega))
/-! ### by its lines -/
def pcr (l : List UInt8) : List (List UInt8) := Lib.splitK [13, 10] 0 (Lib.count l [13, 10]) l
theorem pcr_none (l : List UInt8) (h : Lib.index l [13, 10] = -1) : pcr l = [l] := by
 unfold pcr
 rw [Lib.count_miss h]
 rfl
theorem pcr_at (l : List UInt8) (i : Nat) (h : Lib.index l [13, 10] = i) : pcr l = l.take i :: pcr (l.drop (i + 2)) := by
 unfold pcr
 rw [Lib.count_hit (by simp) h, show ([13, 10] : List UInt8).length = 2 from rfl, Nat.add_comm 1, Lib.splitK, if_neg (by rw [h]; simp), h]
 simp only [Int.toNat_natCast, Nat.add_zero, List.length_cons, List.length_nil]
theorem splitB_pcr (s : ByteArray) : (Lib.splitB ⟨#[13, 10]⟩ 0 (Lib.countB s ⟨#[13, 10]⟩) s).map bl = pcr (bl s) := Lib.splitB_data _ _ _ _
theorem occ_two (l : List UInt8) (i : Nat) : Lib.occAt l [13, 10] i = decide ((l.drop i).take 2 = [13, 10]) := by
 unfold Lib.occAt
 generalize l.drop i = m
 match m with
 | [] => rfl
 | [a] => simp [List.isPrefixOf]
 | a :: b :: m =>
  simp only [List.isPrefixOf, List.take_succ_cons, List.take_zero, Bool.and_true]
  rw [Bool.eq_iff_iff]
  simp only [Bool.and_eq_true, beq_iff_eq, decide_eq_true_eq, List.cons.injEq, and_true]
  constructor <;> rintro ⟨h1, h2⟩ <;> exact ⟨h1.symm, h2.symm⟩
/-- No end of a line, or the first one. -/
theorem cr_cases (l : List UInt8) : (Lib.index l [13, 10] = -1 ∧ ∀ j, (l.drop j).take 2 ≠ [13, 10]) ∨ ∃ p q, l = p ++ 13 :: 10 :: q ∧ Lib.index l [13, 10] = (p.length : Int) ∧ ∀ j, j < p.length → (l.drop j).take 2 ≠ [13, 10] := by
 rcases Lib.index_spec l [13, 10] with ⟨hi, hno⟩ | ⟨i, hi, hle, hocc, hno⟩
 ·refine .inl ⟨hi, fun j hj => ?_⟩
  by_cases hjl : j ≤ l.length
  ·have := hno j hjl
   rw [occ_two] at this
   exact of_decide_eq_false this hj
  ·rw [List.drop_eq_nil_of_le (by omega)] at hj
   simp at hj
 ·rw [occ_two, decide_eq_true_eq] at hocc
  refine .inr ⟨l.take i, (l.drop i).drop 2, ?_, ?_, fun j hj => ?_⟩
  ·have h := List.take_append_drop 2 (l.drop i)
   rw [hocc] at h
   have h2 := List.take_append_drop i l
   rw [← h] at h2
   exact h2.symm
  ·rw [hi, List.length_take, Nat.min_eq_left hle]
  ·rw [List.length_take] at hj
   have := hno j (by omega)
   rw [occ_two] at this
   exact of_decide_eq_false this
def okL (p : List UInt8) : Bool := p.all fun c => inB 1 127 c && decide (c ≠ 13) && decide (c ≠ 10)
theorem mailS_line : ∀ (p q : List UInt8) (w : Nat), (∀ j, j < p.length → ((p ++ 13 :: 10 :: q).drop j).take 2 ≠ [13, 10]) → w ≤ 998 → mailS w (p ++ 13 :: 10 :: q) = (okL p && decide (w + p.length ≤ 998) && mailS 0 q)
 | [], q, w, _, hw => by
  rw [List.nil_append, mailS, if_pos ⟨rfl, rfl⟩, List.length_nil, Nat.add_zero, decide_eq_true hw]
  rfl
 | c :: p, q, w, h, hw => by
  have h0 := h 0 (by simp)
  rw [List.cons_append, mailS, if_neg (by
   rintro ⟨h1, h2⟩
   apply h0
   rw [List.cons_append, List.drop_zero, show (2 : Nat) = 1 + 1 from rfl, List.take_succ_cons, h1, h2])]
  by_cases hw1 : w + 1 ≤ 998
  ·rw [mailS_line p q (w + 1) (fun j hj => by have := h (j + 1) (by simpa using hj); simpa using this) hw1, decide_eq_true hw1, Bool.and_true, show w + 1 + p.length = w + (c :: p).length by simp; omega]
   unfold okL
   rw [List.all_cons]
   simp only [Bool.and_assoc]
  ·rw [decide_eq_false hw1, Bool.and_false, Bool.false_and, decide_eq_false (show ¬ (w + (c :: p).length ≤ 998) by simp; omega), Bool.and_false, Bool.false_and]
theorem mailS_none : ∀ (p : List UInt8) (w : Nat), (∀ j, (p.drop j).take 2 ≠ [13, 10]) → mailS w p = true → p = [] ∧ w = 0
 | [], w, _, h => by rw [mailS, decide_eq_true_eq] at h; exact ⟨rfl, h⟩
 | c :: p, w, hn, h => by
  have h0 := hn 0
  rw [mailS, if_neg (by
   rintro ⟨h1, h2⟩
   apply h0
   rw [List.drop_zero, show (2 : Nat) = 1 + 1 from rfl, List.take_succ_cons, h1, h2]), Bool.and_eq_true] at h
  have := mailS_none p (w + 1) (fun j => by have := hn (j + 1); simpa using this) h.2
  omega
def endCR (l : List UInt8) : Bool := decide (2 ≤ l.length ∧ l.drop (l.length - 2) = [13, 10])
def lineR (p : List UInt8) : Bool := okL p && decide (p.length ≤ 998)
theorem endCR_app (p q : List UInt8) (hq : q ≠ []) (h2 : ∀ x, q = [x] → x ≠ 10) : endCR (p ++ 13 :: 10 :: q) = endCR q := by
 unfold endCR
 apply decide_eq_decide.2
 match q, hq, h2 with
 | [x], _, h2 =>
  constructor
  ·rintro ⟨_, h⟩
   have e : (p ++ 13 :: 10 :: [x]).drop ((p ++ 13 :: 10 :: [x]).length - 2) = [10, x] := by
    rw [show (p ++ 13 :: 10 :: [x]).length - 2 = p.length + 1 by simp, ← List.drop_drop, List.drop_left]
    rfl
   rw [e] at h
   simp at h
  ·rintro ⟨h, _⟩
   simp at h
 | x :: y :: q, _, _ =>
  have e : (p ++ 13 :: 10 :: x :: y :: q).drop ((p ++ 13 :: 10 :: x :: y :: q).length - 2) = (x :: y :: q).drop ((x :: y :: q).length - 2) := by
   rw [show (p ++ 13 :: 10 :: x :: y :: q).length - 2 = p.length + (2 + ((x :: y :: q).length - 2)) by simp; omega, ← List.drop_drop, List.drop_left, ← List.drop_drop]
   rfl
  rw [e]
  constructor
  ·rintro ⟨_, h⟩; exact ⟨by simp, h⟩
  ·rintro ⟨_, h⟩; exact ⟨by simp; omega, h⟩
theorem mailS_pcr : ∀ (n : Nat) (l : List UInt8), l.length ≤ n → mailS 0 l = ((l.isEmpty || endCR l) && (pcr l).all lineR) := by
 intro n
 induction n with
 | zero =>
  intro l hl
  cases l with
  | nil => rw [mailS, pcr_none [] rfl]; rfl
  | cons a b => simp at hl
 | succ n ih =>
  intro l hl
  rcases cr_cases l with ⟨hi, hno⟩ | ⟨p, q, rfl, hi, hno⟩
  ·by_cases he : l = []
   ·subst he
    rw [mailS, pcr_none [] rfl]; rfl
   ·have h1 : mailS 0 l = false := Bool.eq_false_iff.2 fun h => he (mailS_none l 0 hno h).1
    have h2 : endCR l = false := decide_eq_false fun h => by
     have := hno (l.length - 2)
     rw [h.2] at this
     exact this rfl
    have h3 : l.isEmpty = false := by cases l with | nil => exact absurd rfl he | cons a b => rfl
    rw [h1, h2, h3]
    rfl
  ·rw [mailS_line p q 0 hno (by omega), pcr_at _ p.length hi, Nat.zero_add]
   have hd : (p ++ 13 :: 10 :: q).drop (p.length + 2) = q := by rw [← List.drop_drop, List.drop_left]; rfl
   rw [hd, List.take_left, List.all_cons, ih q (by simp at hl; omega)]
   have hem : (p ++ 13 :: 10 :: q).isEmpty = false := by cases p <;> rfl
   rw [hem, Bool.false_or]
   have hl2 : lineR p = (okL p && decide (p.length ≤ 998)) := rfl
   rw [hl2]
   by_cases hq : q = []
   ·subst hq
    have : endCR (p ++ [13, 10]) = true := decide_eq_true ⟨by simp, by simp⟩
    rw [this, pcr_none [] rfl]
    cases okL p <;> cases decide (p.length ≤ 998) <;> rfl
   ·have hqe : q.isEmpty = false := by cases q with | nil => exact absurd rfl hq | cons a b => rfl
    by_cases hx : ∃ x, q = [x] ∧ x = 10
    ·obtain ⟨x, rfl, rfl⟩ := hx
     have : (pcr ([10] : List UInt8)).all lineR = false := by rw [pcr_none _ rfl]; rfl
     rw [this]
     cases okL p <;> cases decide (p.length ≤ 998) <;> cases endCR (p ++ [13, 10, 10]) <;> rfl
    ·rw [endCR_app p q hq (fun x h1 h2 => hx ⟨x, h1, h2⟩), hqe, Bool.false_or]
     cases okL p <;> cases decide (p.length ≤ 998) <;> cases endCR q <;> rfl
/-! ### the program's -/
theorem anyCR (l : List UInt8) : Lib.containsAny l [13, 10] = !(l.all fun c => decide (c ≠ 13) && decide (c ≠ 10)) := by
 unfold Lib.containsAny
 induction l with
 | nil => rfl
 | cons a l ih =>
  have hge := Lib.indexAny_ge [13, 10] l
  rw [List.all_cons]
  by_cases h : a = 13 ∨ a = 10
  ·rw [show (decide (a ≠ 13) && decide (a ≠ 10)) = false by rcases h with rfl | rfl <;> rfl, Bool.false_and]
   have : Lib.indexAny (a :: l) [13, 10] = 0 := Lib.indexAny_hit (i := 0) (Lib.NoAny.zero _ _) (x := a) rfl (by rcases h with rfl | rfl <;> rfl)
   rw [this]
   rfl
  ·have hc : ([13, 10] : List UInt8).contains a = false := by
    simp only [List.contains_cons, List.contains_nil, Bool.or_false, Bool.or_eq_false_iff, beq_eq_false_iff_ne]
    exact ⟨fun e => h (.inl e), fun e => h (.inr e)⟩
   rw [show (decide (a ≠ 13) && decide (a ≠ 10)) = true by simp only [Bool.and_eq_true, decide_eq_true_eq]; exact ⟨fun e => h (.inl e), fun e => h (.inr e)⟩, Bool.true_and, ← ih]
   apply decide_eq_decide.2
   rw [Lib.indexAny, hc]
   simp only [Bool.false_eq_true, if_false]
   split
   ·rename_i hh
    have := beq_iff_eq.1 hh
    omega
   ·rename_i hh
    have : Lib.indexAny l [13, 10] ≠ -1 := fun e => hh (beq_iff_eq.2 e)
    omega
theorem lineR_eq (l : List UInt8) : lineR l = (decide (l.length ≤ 998) && l.all (inB 1 127) && !Lib.containsAny l [13, 10]) := by
 unfold lineR okL
 rw [anyCR, Bool.not_not]
 have : (l.all fun c => inB 1 127 c && decide (c ≠ 13) && decide (c ≠ 10)) = (l.all (inB 1 127) && l.all fun c => decide (c ≠ 13) && decide (c ≠ 10)) := by
  induction l with
  | nil => rfl
  | cons a l ih =>
   rw [List.all_cons, List.all_cons, List.all_cons, ih]
   cases inB 1 127 a <;> cases decide (a ≠ 13) <;> cases decide (a ≠ 10) <;> simp
 rw [this]
 cases decide (l.length ≤ 998) <;> cases l.all (inB 1 127) <;> simp
theorem ascii_of (x : ByteArray) (h : (bl x).all (inB 1 127) = true) : asciiB x = true := by
 unfold asciiB
 refine List.all_eq_true.2 fun b hb => ?_
 have := List.all_eq_true.1 h b hb
 unfold inB at this
 rw [decide_eq_true_eq] at this ⊢
 omega
theorem implMail_l0 (ws : List ByteArray) (hw : ws.length ≤ 4611686018427387904) : ∀ (d i : Nat), i + d = ws.length → Ev (fun k => impl_MailOK.l0 k ws (ws.length : Int) (i : Int)) ((ws.drop i).all fun x => lineR (bl x)) := by
 intro d
 induction d with
 | zero =>
  intro i hi
  rw [List.drop_eq_nil_of_le (by omega)]
  refine Ev.step (f := fun _ => some _) (fun k => ?_) (Ev.now _)
  simp only [impl_MailOK.l0]
  rw [if_neg (by omega)]
  rfl
 | succ d ih =>
  intro i hi
  have hlt : i < ws.length := by omega
  have hr := rdOf_natS ws i hlt
  have hsz := bl_size (ws[i]'hlt)
  rw [List.drop_eq_getElem_cons hlt, List.all_cons, lineR_eq]
  generalize ws[i]'hlt = x at hr hsz ⊢
  have w1 : Aside0 (wrap64 ((i : Int) + 1) = ((i + 1 : Nat) : Int)) := ⟨w64s i (by omega)⟩
  by_cases h1 : (x.size : Int) > 998
  ·rw [decide_eq_false (by omega), Bool.false_and, Bool.false_and, Bool.false_and]
   refine Ev.step (f := fun _ => some false) (fun k => ?_) (Ev.now _)
   simp only [impl_MailOK.l0, hr]
   rw [if_pos (by omega), if_pos (by omega), if_pos (by omega), if_pos h1]
  ·rw [decide_eq_true (by omega), Bool.true_and]
   obtain ⟨K, h⟩ := allWithin_ev x (by omega) 1 127
   obtain ⟨K2, h2⟩ := ih (i + 1) (by omega)
   refine ⟨K + K2 + 1, fun k hk => ?_⟩
   obtain ⟨j, rfl⟩ : ∃ j, k = j + 1 := ⟨k - 1, by omega⟩
   have f := h j (by omega)
   have f2 := h2 j (by omega)
   simp only at f f2
   simp only [impl_MailOK.l0, hr, w1.out]
   rw [if_pos (by omega), if_pos (by omega), if_pos (by omega), if_neg h1, show ((1 : Int)) = ((1 : Nat) : Int) from rfl, show ((127 : Int)) = ((127 : Nat) : Int) from rfl, f, bS]
   by_cases ha : (bl x).all (inB 1 127) = true
   ·have hc : strings_ContainsAny.f x (⟨#[13, 10]⟩ : ByteArray) = some (Lib.containsAny (bl x) [13, 10]) := by
     unfold strings_ContainsAny.f
     rw [if_pos ⟨⟨by omega, by decide⟩, ascii_of x ha, by decide⟩]
     rfl
    rw [ha, if_pos rfl, hc, bS, Bool.true_and]
    cases Lib.containsAny (bl x) [13, 10] with
    | true => rfl
    | false => rw [if_neg (by decide)]; exact f2
   ·rw [Bool.not_eq_true] at ha
    rw [ha]
    rfl
theorem implMail_ev (s : ByteArray) (hs : s.size ≤ 140737488351232) : Ev (fun k => impl_MailOK.f k s) (mailR (bl s)) := by
 have hsz := bl_size s
 unfold mailR
 by_cases h0 : (s.size : Int) > 65536
 ·rw [decide_eq_false (by omega), Bool.false_and]
  refine ⟨1, fun k hk => ?_⟩
  obtain ⟨j, rfl⟩ : ∃ j, k = j + 1 := ⟨k - 1, by omega⟩
  simp only [impl_MailOK.f, impl_MailOK.j0]
  rw [if_pos h0]
  rfl
 ·rw [decide_eq_true (by omega), Bool.true_and, mailS_pcr _ _ (Nat.le_refl _)]
  obtain ⟨ws, hws⟩ : ∃ ws, ws = Lib.splitB ⟨#[13, 10]⟩ 0 (Lib.countB s ⟨#[13, 10]⟩) s := ⟨_, rfl⟩
  have hl : ws.length ≤ 4611686018427387904 := by
   have h1 := Lib.splitB_length_le ⟨#[13, 10]⟩ 0 (Lib.countB s ⟨#[13, 10]⟩) s
   have h2 := Lib.count_le s.data.toList (⟨#[13, 10]⟩ : ByteArray).data.toList
   have h3 : s.data.toList.length = s.size := (Lib.size_eq s).symm
   have h4 : Lib.countB s ⟨#[13, 10]⟩ = Lib.count s.data.toList (⟨#[13, 10]⟩ : ByteArray).data.toList := rfl
   rw [hws]
   omega
  have hsp : strings_Split.f s (⟨#[13, 10]⟩ : ByteArray) = some ws := by
   unfold strings_Split.f
   rw [if_pos ⟨by omega, by decide⟩, hws]
  obtain ⟨K2, h2⟩ := implMail_l0 ws hl ws.length 0 (by omega)
  have hall : (ws.all fun x => lineR (bl x)) = (pcr (bl s)).all lineR := by
   rw [← splitB_pcr, ← hws, List.all_map]
   rfl
  have e : ∀ k, impl_MailOK.f k s = impl_MailOK.j0 k s (!((bl s).isEmpty || endCR (bl s))) := fun k => by
   simp only [impl_MailOK.f]
   rw [if_neg h0]
   by_cases hn : bl s = []
   ·rw [if_pos (by rw [toList_bl, hn]), hn]
    rfl
   ·have hne : (bl s).isEmpty = false := by cases h : bl s with | nil => exact absurd h hn | cons a b => rfl
    have hsf : strings_HasSuffix.f s (⟨#[13, 10]⟩ : ByteArray) = some (endCR (bl s)) := by
     simp only [strings_HasSuffix.f, hasSuf s _ (by omega), bS]
     rw [suf_two]
     rfl
    rw [if_neg (by rw [toList_bl]; exact hn), hsf, bS, hne, Bool.false_or]
  refine ⟨K2 + 1, fun k hk => ?_⟩
  obtain ⟨j, rfl⟩ : ∃ j, k = j + 1 := ⟨k - 1, by omega⟩
  have f := h2 j (by omega)
  simp only [List.drop_zero] at f
  rw [hall] at f
  show impl_MailOK.f (j + 1) s = _
  rw [e]
  simp only [impl_MailOK.j0]
  cases (bl s).isEmpty || endCR (bl s) with
  | false => rfl
  | true =>
   rw [if_neg (by decide), hsp, bS, Bool.true_and]
   exact f
end Go.Proofs.YtcpdbobkpbmjiaaDoor.P
/- Lemmas of mine: a mail taken apart in both programs. Plain. -/
set_option linter.unusedVariables false
set_option linter.unusedSimpArgs false
namespace Go.Proofs.YtcpdbobkpbmjiaaDoor.P
open Go.RowKit Go.Proofs.YtcpdbobkpbmjiaaDoorW.PrintWords
theorem ext_mk (s : ByteArray) (i : Nat) : s.extract i s.size = (⟨((bl s).drop i).toArray⟩ : ByteArray) := by
 have h : bl (s.extract i s.size) = (bl s).drop i := by
  rw [bl_extract, bl_size]
  exact List.take_of_length_le (by rw [List.length_drop]; exact Nat.le_refl _)
 rw [← h]
 exact (mk_bl _).symm
theorem w2l (n : Nat) (h : n ≤ 1000000) : wrap64 ((n : Int) + 2) = ((n + 2 : Nat) : Int) := w64add n 2 (by omega)
abbrev SF := S49
def mkF (x : List UInt8 × List UInt8) : SF := ⟨⟨x.1.toArray⟩, ⟨x.2.toArray⟩⟩
/-- How long the field is that a text begins with. -/
def fe : List UInt8 → Option Nat
 | [] => none
 | c :: r => if c = 13 ∧ r.take 1 = [10] ∧ (r.drop 1).take 1 ≠ [32] then some 2 else (fe r).map (· + 1)
theorem fe_le : ∀ (l : List UInt8) (m : Nat), fe l = some m → 2 ≤ m ∧ m ≤ l.length
 | [], m, h => by simp [fe] at h
 | c :: r, m, h => by
  rw [fe] at h
  split at h
  ·rename_i hc
   obtain rfl := Option.some.inj h
   refine ⟨Nat.le_refl _, ?_⟩
   have := congrArg List.length hc.2.1
   rw [List.length_take] at this
   simp only [List.length_cons, List.length_nil] at this ⊢
   omega
  ·obtain ⟨n, hn, rfl⟩ := Option.map_eq_some_iff.1 h
   have := fe_le r n hn
   rw [List.length_cons]
   omega
def parseS : Nat → List UInt8 → List SF → Option (List SF × List UInt8)
 | 0, _, _ => none
 | n + 1, R, acc => if R.take 2 = [13, 10] then some (acc, R.drop 2) else match fe R with
  | none => none
  | some m => match unfR [] (R.take m) with
   | none => none
   | some f => if acc.length = 40 then none else parseS n (R.drop m) (acc ++ [mkF f])
def parseI : Nat → List UInt8 → List SF → Option (List SF)
 | 0, _, _ => none
 | n + 1, R, acc => if R = [] then some acc else match fe R with
  | none => none
  | some m => match unfR [] (R.take m) with
   | none => none
   | some f => if acc.length = 40 then none else parseI n (R.drop m) (acc ++ [mkF f])
/-! ### where the fields end -/
def idx4 : List UInt8 → Option Nat
 | [] => none
 | c :: r => if (c :: r).take 4 = [13, 10, 13, 10] then some 0 else (idx4 r).map (· + 1)
def hdE (l : List UInt8) : Option Nat := if l.take 2 = [13, 10] then some 0 else (idx4 l).map (· + 2)
theorem idx4_spec : ∀ (l : List UInt8) (i : Nat), idx4 l = some i → (l.drop i).take 4 = [13, 10, 13, 10]
 | [], i, h => by simp [idx4] at h
 | c :: r, i, h => by
  rw [idx4] at h
  split at h
  ·rename_i hc
   obtain rfl := Option.some.inj h
   exact hc
  ·obtain ⟨n, hn, rfl⟩ := Option.map_eq_some_iff.1 h
   exact idx4_spec r n hn
theorem take4_here (c : UInt8) (r : List UInt8) (h : (c :: r).take 4 = [13, 10, 13, 10]) : c = 13 ∧ r.take 1 = [10] ∧ (r.drop 1).take 1 ≠ [32] := by
 match r, h with
 | [], h => simp at h
 | [a], h => simp at h
 | [a, b], h => simp at h
 | a :: b :: d :: r, h =>
  simp only [List.take_succ_cons, List.take_zero, List.cons.injEq, and_true] at h
  obtain ⟨rfl, rfl, rfl, rfl⟩ := h
  simp
theorem idx4_none : ∀ (l : List UInt8), fe l = none → idx4 l = none
 | [], _ => rfl
 | c :: r, h => by
  rw [fe] at h
  split at h
  ·cases h
  ·rename_i hc
   have hr := Option.map_eq_none_iff.1 h
   rw [idx4, if_neg (fun h4 => hc (take4_here c r h4)), idx4_none r hr]
   rfl
theorem idx4_fe : ∀ (l : List UInt8) (m : Nat), fe l = some m → idx4 l = if (l.drop m).take 2 = [13, 10] then some (m - 2) else (idx4 (l.drop m)).map (· + m)
 | [], m, h => by simp [fe] at h
 | c :: r, m, h => by
  rw [fe] at h
  split at h
  ·rename_i hc
   obtain rfl := Option.some.inj h
   obtain ⟨rfl, h1, h2⟩ := hc
   match r, h1, h2 with
   | a :: q, h1, h2 =>
    have ha : a = 10 := by simpa using h1
    subst ha
    rw [show List.drop 2 (13 :: 10 :: q) = q from rfl, idx4]
    by_cases hq : q.take 2 = [13, 10]
    ·rw [if_pos hq, if_pos]
     show 13 :: 10 :: q.take 2 = _
     rw [hq]
    ·rw [if_neg hq, if_neg, idx4, if_neg (by simp), Option.map_map]
     ·rfl
     ·intro hh
      apply hq
      have : 13 :: 10 :: q.take 2 = [13, 10, 13, 10] := hh
      simpa using this
  ·rename_i hc
   obtain ⟨n, hn, rfl⟩ := Option.map_eq_some_iff.1 h
   have h2 := (fe_le r n hn).1
   rw [idx4, if_neg (fun h4 => hc (take4_here c r h4)), idx4_fe r n hn, List.drop_succ_cons]
   split
   ·show some (n - 2 + 1) = _
    congr 1
    omega
   ·rw [Option.map_map]
    rfl
theorem hdE_none (l : List UInt8) (h0 : ¬ l.take 2 = [13, 10]) (h : fe l = none) : hdE l = none := by
 unfold hdE
 rw [if_neg h0, idx4_none l h]
 rfl
theorem hdE_fe (l : List UInt8) (m : Nat) (h0 : ¬ l.take 2 = [13, 10]) (h : fe l = some m) : hdE l = (hdE (l.drop m)).map (· + m) := by
 have h2 := (fe_le l m h).1
 unfold hdE
 rw [if_neg h0, idx4_fe l m h]
 split
 ·show some (m - 2 + 2) = some (0 + m)
  congr 1
  omega
 ·rw [Option.map_map, Option.map_map]
  congr 1
  funext x
  show x + m + 2 = x + 2 + m
  omega
theorem fe_take : ∀ (l : List UInt8) (m e : Nat), fe l = some m → m ≤ e → fe (l.take e) = some m
 | [], m, e, h, _ => by simp [fe] at h
 | c :: r, m, e, h, he => by
  have hm := fe_le _ _ h
  obtain ⟨e, rfl⟩ : ∃ e', e = e' + 1 := ⟨e - 1, by omega⟩
  rw [List.take_succ_cons]
  rw [fe] at h ⊢
  split at h
  ·rename_i hc
   obtain rfl := Option.some.inj h
   obtain ⟨e, rfl⟩ : ∃ e', e = e' + 1 := ⟨e - 1, by omega⟩
   refine if_pos ⟨hc.1, ?_, ?_⟩
   ·match r, hc.2.1 with
    | a :: q, h1 => simpa using h1
   ·match r, hc.2 with
    | a :: q, h1 =>
     rw [List.take_succ_cons, List.drop_succ_cons, List.drop_zero]
     have h12 := h1.2
     rw [List.drop_succ_cons, List.drop_zero] at h12
     cases e with
     | zero => simp
     | succ e =>
      cases q with
      | nil => simp
      | cons b q => simpa using h12
  ·rename_i hc
   obtain ⟨n, hn, rfl⟩ := Option.map_eq_some_iff.1 h
   have h2 := fe_le r n hn
   obtain ⟨e, rfl⟩ : ∃ e', e = e' + 2 := ⟨e - 2, by omega⟩
   rw [fe_take r n (e + 2) hn (by omega), if_neg]
   ·rfl
   ·rintro ⟨h3, h4, h5⟩
    refine hc ⟨h3, ?_, ?_⟩
    ·match r, h4 with
     | a :: q, h4 => simpa using h4
    ·match r, h5 with
     | [], _ => simp
     | [a], _ => simp
     | a :: b :: q, h5 => simpa using h5
theorem parse_same : ∀ (n : Nat) (T : List UInt8) (acc : List SF), parseS n T acc = match hdE T with | none => none | some e => (parseI n (T.take e) acc).map fun F => (F, T.drop (e + 2))
 | 0, T, acc => by
  cases hdE T with
  | none => rfl
  | some e => rfl
 | n + 1, T, acc => by
  by_cases h0 : T.take 2 = [13, 10]
  ·have : hdE T = some 0 := if_pos h0
   rw [this, parseS, if_pos h0]
   simp [parseI]
  ·rw [parseS, if_neg h0]
   cases hf : fe T with
   | none => rw [hdE_none T h0 hf]
   | some m =>
    have hm := fe_le T m hf
    have ih := parse_same n (T.drop m)
    rw [hdE_fe T m h0 hf]
    cases hd : hdE (T.drop m) with
    | none =>
     simp only [hd] at ih
     simp only [Option.map_none]
     cases unfR [] (T.take m) with
     | none => rfl
     | some f =>
      simp only
      rw [ih]
      split <;> rfl
    | some e =>
     simp only [hd] at ih
     simp only [Option.map_some]
     have hne : ¬ T.take (e + m) = [] := by
      intro hh
      have := congrArg List.length hh
      rw [List.length_take] at this
      simp only [List.length_nil] at this
      omega
     rw [parseI, if_neg hne, fe_take T m (e + m) hf (by omega)]
     have e1 : (T.take (e + m)).take m = T.take m := by rw [List.take_take, Nat.min_eq_left (by omega)]
     have e2 : (T.take (e + m)).drop m = (T.drop m).take e := by rw [List.drop_take, show e + m - m = e by omega]
     simp only [e1, e2]
     cases unfR [] (T.take m) with
     | none => rfl
     | some f =>
      simp only
      by_cases h40 : acc.length = 40
      ·rw [if_pos h40, if_pos h40]
       rfl
      ·rw [if_neg h40, if_neg h40, ih, List.drop_drop, show m + (e + 2) = e + m + 2 by omega]
/-! ### the reference's -/
def outP (B : Option (List SF × List UInt8)) (r : List SF × ByteArray × Bool) : Prop := match B with
 | none => r.2.2 = false
 | some (F, b) => r = (F, ⟨b.toArray⟩, true)
theorem two_at (s : ByteArray) (i : Nat) (h : i + 2 ≤ (bl s).length) : (s.extract i (i + 2)).toList = ((bl s).drop i).take 2 := by
 rw [toList_bl, bl_extract, show i + 2 - i = 2 by omega]
theorem take_one' (l : List UInt8) (c : UInt8) : l.take 1 = [c] ↔ l[0]? = some c := take_one l c
theorem specP_l1 (s : ByteArray) (hs : s.size ≤ 1000000) (at_ : Nat) (F : List SF) (b : ByteArray) (R : List SF × ByteArray × Bool) : ∀ (d i : Nat), i + d = (bl s).length →
  (match fe ((bl s).drop i) with | none => R = (F, b, false) | some m => Ev (fun k => spec_l07Parse.j3 k s (at_ : Int) ((i + m - 2 : Nat) : Int) F b) R) → Ev (fun k => spec_l07Parse.l1 k s (at_ : Int) (i : Int) F b) R := by
 have hsz := bl_size s
 have hend : ∀ i : Nat, (bl s).length ≤ i + 1 → i ≤ (bl s).length → R = (F, b, false) → Ev (fun k => spec_l07Parse.l1 k s (at_ : Int) (i : Int) F b) R := fun i hi hi2 hR => by
  have w1 : Aside0 (wrap64 ((i : Int) + 1) = ((i + 1 : Nat) : Int)) := ⟨w64s i (by omega)⟩
  have w2 : Aside0 (wrap64 ((i : Int) + 2) = ((i + 2 : Nat) : Int)) := ⟨w64add i 2 (by omega)⟩
  refine ⟨2, fun k hk => ?_⟩
  obtain ⟨j, rfl⟩ : ∃ j, k = j + 1 + 1 := ⟨k - 2, by omega⟩
  show spec_l07Parse.l1 (j + 1 + 1) s (at_ : Int) (i : Int) F b = some R
  rw [spec_l07Parse.l1, w1.out, if_neg (by omega), spec_l07Parse.j3, w2.out, if_pos (by omega), hR]
 intro d
 induction d with
 | zero =>
  intro i hi h
  refine hend i (by omega) (by omega) ?_
  rw [List.drop_eq_nil_of_le (by omega)] at h
  exact h
 | succ d ih =>
  intro i hi h
  have hlt : i < (bl s).length := by omega
  have w1 : Aside0 (wrap64 ((i : Int) + 1) = ((i + 1 : Nat) : Int)) := ⟨w64s i (by omega)⟩
  have w2 : Aside0 (wrap64 ((i : Int) + 2) = ((i + 2 : Nat) : Int)) := ⟨w64add i 2 (by omega)⟩
  rw [List.drop_eq_getElem_cons hlt, fe] at h
  by_cases h2 : i + 1 < (bl s).length
  case neg =>
   refine hend i (by omega) (by omega) ?_
   have hnil : (bl s).drop (i + 1) = [] := List.drop_eq_nil_of_le (by omega)
   rw [hnil, if_neg (by simp)] at h
   exact h
  have t2 : ((bl s).drop i).take 2 = [(bl s)[i], (bl s)[i + 1]] := by
   rw [List.drop_eq_getElem_cons hlt, List.drop_eq_getElem_cons h2]
   rfl
  have htl := two_at s i (by omega)
  rw [t2] at htl
  have hd1 : ((bl s).drop (i + 1)).take 1 = [(bl s)[i + 1]] := by rw [List.drop_eq_getElem_cons h2]; rfl
  have hd2 : ((bl s).drop (i + 1)).drop 1 = (bl s).drop (i + 2) := by rw [List.drop_drop]
  rw [hd1, hd2] at h
  have h3 : ((bl s).drop (i + 2)).take 1 = [32] ↔ ∃ hh : i + 2 < (bl s).length, (bl s)[i + 2] = 32 := by
   rw [take_one, List.getElem?_drop, Nat.add_zero]
   constructor
   ·intro hh
    obtain ⟨hx, hy⟩ := List.getElem?_eq_some_iff.1 hh
    exact ⟨hx, hy⟩
   ·rintro ⟨hx, hy⟩
    exact List.getElem?_eq_some_iff.2 ⟨hx, hy⟩
  generalize (bl s)[i] = c0 at h htl t2
  generalize (bl s)[i + 1] = c1 at h htl t2 hd1
  have hjump : ∀ m : Nat, fe ((bl s).drop (i + 1)) = some m → i + 1 + m - 2 = i + (m + 1) - 2 := fun m _ => by omega
  have go : (¬ (c0 = 13 ∧ [c1] = [10] ∧ ((bl s).drop (i + 2)).take 1 ≠ [32])) → Ev (fun k => spec_l07Parse.l1 k s (at_ : Int) ((i + 1 : Nat) : Int) F b) R := fun hc => by
   rw [if_neg hc] at h
   refine ih (i + 1) (by omega) ?_
   cases hf : fe ((bl s).drop (i + 1)) with
   | none => rw [hf] at h; exact h
   | some m =>
    rw [hf] at h
    simp only [Option.map_some] at h
    show Ev (fun k => spec_l07Parse.j3 k s (at_ : Int) ((i + 1 + m - 2 : Nat) : Int) F b) R
    rw [hjump m hf]
    exact h
  have e : ∀ k, spec_l07Parse.l1 (k + 1) s (at_ : Int) (i : Int) F b = if ([c0, c1] : List UInt8) = [13, 10] then (if ((i + 2 : Nat) : Int) = (s.size : Int) then spec_l07Parse.j3 k s at_ i F b else (if 0 ≤ ((i + 2 : Nat) : Int) then (if ((i + 2 : Nat) : Int) < (s.size : Int) then (if ¬ bt s ((i + 2 : Nat) : Int) = 32 then spec_l07Parse.j3 k s at_ i F b else spec_l07Parse.l1 k s at_ ((i + 1 : Nat) : Int) F b) else none) else none)) else spec_l07Parse.l1 k s at_ ((i + 1 : Nat) : Int) F b := fun k => by
   simp only [spec_l07Parse.l1, w1.out, w2.out, Int.toNat_natCast, htl]
   rw [if_pos (by omega), if_pos (by omega), if_pos (by omega), if_pos (by omega)]
  by_cases hcr : ([c0, c1] : List UInt8) = [13, 10]
  ·have h0 : c0 = 13 := by simp only [List.cons.injEq, and_true] at hcr; exact hcr.1
   have h1 : c1 = 10 := by simp only [List.cons.injEq, and_true] at hcr; exact hcr.2
   by_cases h32 : ((bl s).drop (i + 2)).take 1 = [32]
   ·obtain ⟨hx, hy⟩ := h3.1 h32
    have hb := bt_eq s (i + 2) hx
    refine Ev.step (fun k => ?_) (go fun hh => hh.2.2 h32)
    rw [e, if_pos hcr, if_neg (by omega), if_pos (by omega), if_pos (by omega), if_neg (fun hh => hh (by rw [hb, hy]; rfl))]
   ·rw [if_pos ⟨h0, by rw [h1], h32⟩] at h
    simp only [show i + 2 - 2 = i by omega] at h
    refine Ev.step (fun k => ?_) h
    rw [e, if_pos hcr]
    by_cases hx : i + 2 < (bl s).length
    ·have hb := bt_eq s (i + 2) hx
     have hy : ¬ bt s ((i + 2 : Nat) : Int) = 32 := fun hh => h32 (h3.2 ⟨hx, UInt8.toNat_inj.1 (by rw [show ((32 : UInt8)).toNat = 32 from rfl]; omega)⟩)
     rw [if_neg (by omega), if_pos (by omega), if_pos (by omega), if_pos hy]
    ·rw [if_pos (by omega)]
  ·refine Ev.step (fun k => ?_) (go fun hh => hcr (by rw [hh.1, show c1 = 10 by simpa using hh.2.1]))
   rw [e, if_neg hcr]
theorem specP_ev (s : ByteArray) (hs : s.size ≤ 1000000) (b : ByteArray) : ∀ (n at_ : Nat) (F : List SF), at_ ≤ (bl s).length → (bl s).length - at_ < n → F.length ≤ 40 → ∃ r, Ev (fun k => spec_l07Parse.l0 k s (at_ : Int) F b) r ∧ outP (parseS n ((bl s).drop at_) F) r := by
 have hsz := bl_size s
 intro n
 induction n with
 | zero => intro at_ F h1 h2; omega
 | succ n ih =>
  intro at_ F h1 h2 hF
  have w2 : Aside0 (wrap64 ((at_ : Int) + 2) = ((at_ + 2 : Nat) : Int)) := ⟨w64add at_ 2 (by omega)⟩
  rw [parseS]
  by_cases h0 : ((bl s).drop at_).take 2 = [13, 10]
  ·have hl : at_ + 2 ≤ (bl s).length := by
    have := congrArg List.length h0
    rw [List.length_take, List.length_drop] at this
    simp only [List.length_cons, List.length_nil] at this
    omega
   have htl := two_at s at_ hl
   rw [h0] at htl
   rw [if_pos h0]
   refine ⟨(F, s.extract (at_ + 2) s.size, true), ⟨2, fun k hk => ?_⟩, ?_⟩
   ·obtain ⟨j, rfl⟩ : ∃ j, k = j + 1 + 1 := ⟨k - 2, by omega⟩
    show spec_l07Parse.l0 (j + 1 + 1) s (at_ : Int) F b = _
    rw [spec_l07Parse.l0, w2.out, if_pos (by omega), if_pos (by omega), if_pos (by omega), Int.toNat_natCast, Int.toNat_natCast, htl, spec_l07Parse.j1, w2.out, if_pos (by decide), if_pos (by omega), if_pos (by omega), Int.toNat_natCast]
   ·show (F, s.extract (at_ + 2) s.size, true) = (F, (⟨(((bl s).drop at_).drop 2).toArray⟩ : ByteArray), true)
    rw [List.drop_drop]
    have : s.extract (at_ + 2) s.size = (⟨((bl s).drop (at_ + 2)).toArray⟩ : ByteArray) := ext_mk s (at_ + 2)
    rw [this]
  ·rw [if_neg h0]
   have head : ∀ R, Ev (fun k => spec_l07Parse.l1 k s (at_ : Int) (at_ : Int) F b) R → Ev (fun k => spec_l07Parse.l0 k s (at_ : Int) F b) R := fun R hR => by
    refine Ev.step (f := fun k => spec_l07Parse.j1 k s (at_ : Int) false F b) (fun k => ?_) (Ev.step (fun k => ?_) hR)
    ·simp only [spec_l07Parse.l0, w2.out, Int.toNat_natCast]
     by_cases hl : at_ + 2 ≤ (bl s).length
     ·have htl := two_at s at_ hl
      rw [if_pos (by omega), if_pos (by omega), if_pos (by omega), htl, beq_eq_false_iff_ne.2 h0]
     ·rw [if_neg (by omega)]
    ·simp only [spec_l07Parse.j1]
     rw [if_neg (by decide)]
   cases hf : fe ((bl s).drop at_) with
   | none => exact ⟨(F, b, false), head _ (specP_l1 s hs at_ F b _ ((bl s).length - at_) at_ (by omega) (by rw [hf])), rfl⟩
   | some m =>
    have hm := fe_le _ _ hf
    rw [List.length_drop] at hm
    have hz : bl (s.extract at_ (at_ + m)) = ((bl s).drop at_).take m := by rw [bl_extract, show at_ + m - at_ = m by omega]
    obtain ⟨u, ⟨K, hu⟩, ho⟩ := specUnf_ev (s.extract at_ (at_ + m)) (by rw [ByteArray.size_extract]; omega)
    rw [hz] at ho
    have w3 : Aside0 (wrap64 (((at_ + m - 2 : Nat) : Int) + 2) = ((at_ + m : Nat) : Int)) := ⟨by rw [show ((at_ + m : Nat) : Int) = ((at_ + m - 2 + 2 : Nat) : Int) by rw [show at_ + m - 2 + 2 = at_ + m by omega]]; exact w64add (at_ + m - 2) 2 (by omega)⟩
    have e : ∀ k, K ≤ k → spec_l07Parse.j3 (k + 1) s (at_ : Int) ((at_ + m - 2 : Nat) : Int) F b = if u.2.2 = true then (if (F.length : Int) = 40 then some (F, b, false) else spec_l07Parse.l0 k s ((at_ + m : Nat) : Int) (F ++ [(⟨u.1, u.2.1⟩ : SF)]) b) else some (F, b, false) := fun k hk => by
     have f := hu k hk
     simp only at f
     simp only [spec_l07Parse.j3, w3.out, Int.toNat_natCast, f, bS]
     rw [if_neg (by omega), if_pos (by omega), if_pos (by omega), if_pos (by omega), if_pos (show F.length < 4398046511104 by omega)]
    have fin : ∀ R, (∃ K2, ∀ k, K2 ≤ k → spec_l07Parse.j3 (k + 1) s (at_ : Int) ((at_ + m - 2 : Nat) : Int) F b = some R) → Ev (fun k => spec_l07Parse.l0 k s (at_ : Int) F b) R := fun R ⟨K2, h⟩ =>
     head _ (specP_l1 s hs at_ F b _ ((bl s).length - at_) at_ (by omega) (by
      rw [hf]
      exact ⟨K2 + 1, fun k hk => by obtain ⟨j, rfl⟩ : ∃ j, k = j + 1 := ⟨k - 1, by omega⟩; exact h j (by omega)⟩))
    simp only
    cases hR : unfR [] (((bl s).drop at_).take m) with
    | none =>
     rw [hR] at ho
     have ho' : u.2.2 = false := ho
     exact ⟨(F, b, false), fin _ ⟨K, fun k hk => by rw [e k hk, ho']; rfl⟩, rfl⟩
    | some f =>
     rw [hR] at ho
     obtain ⟨o1, o2, o3⟩ : u.2.2 = true ∧ bl u.1 = f.1 ∧ bl u.2.1 = f.2 := ho
     simp only
     by_cases h40 : F.length = 40
     ·rw [if_pos h40]
      exact ⟨(F, b, false), fin _ ⟨K, fun k hk => by rw [e k hk, if_pos o1, if_pos (by omega)]⟩, rfl⟩
     ·rw [if_neg h40, List.drop_drop]
      have hmk : (⟨u.1, u.2.1⟩ : SF) = mkF f := by
       unfold mkF
       rw [← o2, ← o3, mk_bl, mk_bl]
      obtain ⟨r, ⟨K2, hr⟩, hro⟩ := ih (at_ + m) (F ++ [mkF f]) (by omega) (by omega) (by simp; omega)
      refine ⟨r, fin _ ⟨K + K2, fun k hk => ?_⟩, hro⟩
      have f2 := hr k (by omega)
      simp only at f2
      rw [e k (by omega), if_pos o1, if_neg (by omega), hmk]
      exact f2
theorem specParse_ev (s : ByteArray) (hs : s.size ≤ 1000000) : ∃ r, Ev (fun k => spec_l07Parse.f k s) r ∧ outP (parseS ((bl s).length + 1) (bl s) []) r := by
 obtain ⟨r, h, ho⟩ := specP_ev s hs (⟨#[]⟩ : ByteArray) ((bl s).length + 1) 0 [] (by omega) (by omega) (by simp)
 exact ⟨r, h, ho⟩
/-! ### the program's -/
theorem index4 (l : List UInt8) : Lib.index l [13, 10, 13, 10] = match idx4 l with | none => -1 | some i => (i : Int) := by
 induction l with
 | nil => rfl
 | cons c r ih =>
  have hp : ([13, 10, 13, 10] : List UInt8).isPrefixOf (c :: r) = decide ((c :: r).take 4 = [13, 10, 13, 10]) := by
   match r with
   | [] => simp [List.isPrefixOf]
   | [a] => simp [List.isPrefixOf]
   | [a, b] => simp [List.isPrefixOf]
   | a :: b :: d :: r =>
    simp only [List.isPrefixOf, List.take_succ_cons, List.take_zero, Bool.and_true]
    rw [Bool.eq_iff_iff]
    simp only [Bool.and_eq_true, beq_iff_eq, decide_eq_true_eq, List.cons.injEq, and_true]
    constructor <;> rintro ⟨h1, h2, h3, h4⟩ <;> exact ⟨h1.symm, h2.symm, h3.symm, h4.symm⟩
  rw [Lib.index, hp, idx4]
  by_cases h : (c :: r).take 4 = [13, 10, 13, 10]
  ·rw [decide_eq_true h, if_pos rfl, if_pos h]
   rfl
  ·rw [decide_eq_false h, if_neg (by decide), if_neg h, ih]
   cases idx4 r with
   | none => rfl
   | some i =>
    simp only [Option.map_some]
    rw [if_neg (by simp)]
    rfl
theorem headEnd_eq (s : ByteArray) (hs : s.size ≤ 1000000) : impl_headEnd.f s = some (match hdE (bl s) with | none => -1 | some e => (e : Int)) := by
 have hsz := bl_size s
 have h1 : strings_HasPrefix.f s (⟨#[13, 10]⟩ : ByteArray) = some (decide ((bl s).take 2 = [13, 10])) := by
  simp only [strings_HasPrefix.f, hasPre, bS]
  refine congrArg some ?_
  show (decide (2 ≤ s.size) && ((bl s).take 2 == [13, 10])) = _
  rw [Bool.eq_iff_iff, Bool.and_eq_true, decide_eq_true_eq, decide_eq_true_eq, beq_iff_eq]
  constructor
  ·exact fun h => h.2
  ·intro h
   have := congrArg List.length h
   rw [List.length_take] at this
   simp only [List.length_cons, List.length_nil] at this
   exact ⟨by omega, h⟩
 have h2 : strings_Index.f s (⟨#[13, 10, 13, 10]⟩ : ByteArray) = some (match idx4 (bl s) with | none => -1 | some i => (i : Int)) := by
  unfold strings_Index.f
  rw [if_pos (by omega), ← index4]
  rfl
 simp only [impl_headEnd.f, h1, h2, bS]
 unfold hdE
 by_cases h0 : (bl s).take 2 = [13, 10]
 ·rw [if_pos (decide_eq_true h0), if_pos h0]
  rfl
 ·rw [if_neg (by rw [decide_eq_true_eq]; exact h0), if_neg h0]
  cases hi : idx4 (bl s) with
  | none => rfl
  | some i =>
   have hsp := congrArg List.length (idx4_spec _ _ hi)
   rw [List.length_take, List.length_drop] at hsp
   simp only [List.length_cons, List.length_nil] at hsp
   simp only [Option.map_some]
   rw [if_neg (by omega), w2l i (by omega)]
theorem endCR_tail (p q : List UInt8) (h : endCR (p ++ 13 :: 10 :: q) = true) : q = [] ∨ endCR q = true := by
 by_cases hq : q = []
 ·exact .inl hq
 ·right
  by_cases hx : ∃ x, q = [x] ∧ x = 10
  ·obtain ⟨x, rfl, rfl⟩ := hx
   unfold endCR at h
   rw [decide_eq_true_eq] at h
   have hl : (p ++ [13, 10, 10]).length - 2 = p.length + 1 := by simp
   have e : (p ++ [13, 10, 10]).drop ((p ++ [13, 10, 10]).length - 2) = [10, 10] := by
    rw [hl, ← List.drop_drop, List.drop_left]
    rfl
   have h2 := h.2
   rw [e] at h2
   exact absurd h2 (by decide)
  ·rwa [endCR_app p q hq (fun x h1 h2 => hx ⟨x, h1, h2⟩)] at h
theorem endCR_first (X : List UInt8) (h : endCR X = true) : ∃ p q, X = p ++ 13 :: 10 :: q ∧ Lib.index X [13, 10] = (p.length : Int) ∧ (q = [] ∨ endCR q = true) ∧ fe X = if q.take 1 = [32] then (fe q).map (· + (p.length + 2)) else some (p.length + 2) := by
 rcases cr_cases X with ⟨_, hno⟩ | ⟨p, q, rfl, hi, hno⟩
 ·unfold endCR at h
  rw [decide_eq_true_eq] at h
  have := hno (X.length - 2)
  rw [h.2] at this
  exact absurd rfl this
 ·refine ⟨p, q, rfl, hi, endCR_tail p q h, ?_⟩
  clear hi h
  induction p with
  | nil =>
   rw [List.nil_append, fe]
   by_cases h32 : q.take 1 = [32]
   ·rw [if_neg (fun hh => hh.2.2 h32), if_pos h32, fe, if_neg (fun hh => absurd hh.1 (by decide)), Option.map_map]
    rfl
   ·rw [if_pos ⟨rfl, rfl, h32⟩, if_neg h32]
    rfl
  | cons c p ih =>
   have h0 := hno 0 (by simp)
   have ih := ih (fun j hj => by have := hno (j + 1) (by simpa using hj); simpa using this)
   rw [List.cons_append, fe, if_neg (by
    rintro ⟨h1, h2, _⟩
    apply h0
    rw [List.cons_append, List.drop_zero, show (2 : Nat) = 1 + 1 from rfl, List.take_succ_cons, h1, h2]), ih]
   split
   ·rw [Option.map_map]
    congr 1
   ·rfl
def fldI (n : Nat) (X : List UInt8) (m : Nat) (F : List SF) : Option (List SF) := match unfR [] (X.take m) with
 | none => none
 | some f => if F.length = 40 then none else parseI n (X.drop m) (F ++ [mkF f])
def outI (b : ByteArray) (B : Option (List SF)) (r : List SF × ByteArray × Bool) : Prop := match B with
 | none => r.2.2 = false
 | some F => r = (F, b, true)
theorem fe_end (X : List UInt8) (h : endCR X = true) : ∃ m, fe X = some m ∧ (X.drop m = [] ∨ endCR (X.drop m) = true) := by
 have : ∀ (n : Nat) (X : List UInt8), X.length ≤ n → endCR X = true → ∃ m, fe X = some m ∧ (X.drop m = [] ∨ endCR (X.drop m) = true) := by
  intro n
  induction n with
  | zero =>
   intro X hX h
   cases X with
   | nil => exact absurd h (by decide)
   | cons a b => simp at hX
  | succ n ih =>
   intro X hX h
   obtain ⟨p, q, rfl, hi, hq, hf⟩ := endCR_first X h
   have hd : ∀ m, (p ++ 13 :: 10 :: q).drop (m + (p.length + 2)) = q.drop m := fun m => by
    rw [Nat.add_comm, ← List.drop_drop, ← List.drop_drop, List.drop_left]
    rfl
   by_cases h32 : q.take 1 = [32]
   ·rw [if_pos h32] at hf
    have hqe : endCR q = true := hq.resolve_left (by rintro rfl; simp at h32)
    obtain ⟨m, hm, hme⟩ := ih q (by simp at hX; omega) hqe
    rw [hm] at hf
    exact ⟨m + (p.length + 2), hf, by rw [hd]; exact hme⟩
   ·rw [if_neg h32] at hf
    exact ⟨p.length + 2, hf, by have := hd 0; rw [Nat.zero_add, List.drop_zero] at this; rw [this]; exact hq⟩
 exact this X.length X (Nat.le_refl _) h
theorem implP_ev (b : ByteArray) : ∀ (n : Nat) (R : ByteArray) (F : List SF), R.size ≤ 100000 → (bl R).length < n → (bl R = [] ∨ endCR (bl R) = true) → F.length ≤ 40 → ∃ r, Ev (fun k => impl_parseMail.l0 k R F b) r ∧ outI b (parseI n (bl R) F) r := by
 intro n
 induction n with
 | zero => intro R F _ h; omega
 | succ n ih =>
  intro R F hR hn he hF
  have hsz := bl_size R
  rw [parseI]
  by_cases h0 : bl R = []
  ·rw [if_pos h0]
   refine ⟨(F, b, true), Ev.step (f := fun _ => some _) (fun k => ?_) (Ev.now _), rfl⟩
   simp only [impl_parseMail.l0]
   rw [if_pos (by rw [toList_bl]; exact h0)]
  ·rw [if_neg h0]
   have he := he.resolve_left h0
   -- behind an end of a line: on, while a blank follows
   have on : ∀ (d x m : Nat) (r : List SF × ByteArray × Bool), (bl R).length - x ≤ d → x ≤ (bl R).length → ((bl R).drop x = [] ∨ endCR ((bl R).drop x) = true) → (if ((bl R).drop x).take 1 = [32] then (fe ((bl R).drop x)).map (· + x) else some x) = some m → (∃ K, ∀ k, K ≤ k → ∀ c : Int, (impl_unfold.f k (R.extract 0 m)).bind (fun bt107 => (if bt107.2.2 = true then (if (F.length : Int) = 40 then (some (([] : List SF), (⟨#[]⟩ : ByteArray), false)) else (if F.length < 4398046511104 then (impl_parseMail.l0 k (R.extract m R.size) (F ++ [(⟨bt107.1, bt107.2.1⟩ : SF)]) b) else (none))) else (some (([] : List SF), (⟨#[]⟩ : ByteArray), false)))) = some r) → Ev (fun k => impl_parseMail.l1 k R (x : Int) F b) r := by
    intro d
    induction d with
    | zero =>
     intro x m r hd hx hxe hm hK
     obtain rfl : x = (bl R).length := by omega
     rw [List.drop_eq_nil_of_le (Nat.le_refl _), if_neg (by simp)] at hm
     obtain rfl := Option.some.inj hm
     obtain ⟨K, hK⟩ := hK
     refine ⟨K + 1, fun k hk => ?_⟩
     obtain ⟨j, rfl⟩ : ∃ j, k = j + 1 := ⟨k - 1, by omega⟩
     show impl_parseMail.l1 (j + 1) R _ F b = _
     rw [impl_parseMail.l1, if_neg (by omega), if_pos (by omega), if_pos (by omega), Int.toNat_natCast]
     exact hK j (by omega) 0
    | succ d ihd =>
     intro x m r hd hx hxe hm hK
     by_cases hxl : x < (bl R).length
     case neg =>
      obtain rfl : x = (bl R).length := by omega
      rw [List.drop_eq_nil_of_le (Nat.le_refl _), if_neg (by simp)] at hm
      obtain rfl := Option.some.inj hm
      obtain ⟨K, hK⟩ := hK
      refine ⟨K + 1, fun k hk => ?_⟩
      obtain ⟨j, rfl⟩ : ∃ j, k = j + 1 := ⟨k - 1, by omega⟩
      show impl_parseMail.l1 (j + 1) R _ F b = _
      rw [impl_parseMail.l1, if_neg (by omega), if_pos (by omega), if_pos (by omega), Int.toNat_natCast]
      exact hK j (by omega) 0
     have hb := bt_eq R x hxl
     have h1 : ((bl R).drop x).take 1 = [(bl R)[x]] := by rw [List.drop_eq_getElem_cons hxl]; rfl
     rw [h1] at hm
     have hxe := hxe.resolve_left (fun hh => by have := congrArg List.length hh; rw [List.length_drop] at this; simp at this; omega)
     by_cases h32 : (bl R)[x] = 32
     ·have hb32 : bt R (x : Int) = 32 := by rw [hb, h32]; rfl
      rw [if_pos (by rw [h32])] at hm
      obtain ⟨p, q, e, hi, hq, hf⟩ := endCR_first _ hxe
      have hxd : bl (R.extract x R.size) = (bl R).drop x := by rw [bl_extract]; exact List.take_of_length_le (by rw [List.length_drop]; omega)
      have hidx : strings_Index.f (R.extract x R.size) (⟨#[13, 10]⟩ : ByteArray) = some (p.length : Int) := by
       unfold strings_Index.f
       rw [if_pos (by rw [ByteArray.size_extract]; omega)]
       refine congrArg some ?_
       show Lib.index (bl (R.extract x R.size)) [13, 10] = _
       rw [hxd, hi]
      have hdq : (bl R).drop (x + (p.length + 2)) = q := by
       rw [← List.drop_drop, e, ← List.drop_drop, List.drop_left]
       rfl
      have hpl : x + (p.length + 2) ≤ (bl R).length := by
       have := congrArg List.length e
       rw [List.length_drop] at this
       simp at this
       omega
      have w : Aside0 (wrap64 ((x : Int) + wrap64 ((p.length : Int) + 2)) = ((x + (p.length + 2) : Nat) : Int)) := ⟨by
       rw [w2l p.length (by omega), w64add x (p.length + 2) (by omega)]⟩
      refine Ev.step (f := fun k => impl_parseMail.l1 k R ((x + (p.length + 2) : Nat) : Int) F b) (fun k => ?_) (ihd (x + (p.length + 2)) m r (by omega) hpl (by rw [hdq]; exact hq) ?_ hK)
      ·simp only [impl_parseMail.l1, hb32, Int.toNat_natCast, hidx, bS, w.out]
       rw [if_pos (by omega), if_pos (by omega), if_pos trivial, if_pos (by omega)]
      ·rw [hdq, ← hm, hf]
       split
       ·rw [Option.map_map]
        congr 1
        funext y
        show y + (x + (p.length + 2)) = y + (p.length + 2) + x
        omega
       ·simp only [Option.map_some]
        congr 1
        omega
     ·have hb32 : ¬ bt R (x : Int) = 32 := fun hh => h32 (UInt8.toNat_inj.1 (by rw [show ((32 : UInt8)).toNat = 32 from rfl]; omega))
      rw [if_neg (by simp [h32])] at hm
      obtain rfl := Option.some.inj hm
      obtain ⟨K, hK⟩ := hK
      refine ⟨K + 1, fun k hk => ?_⟩
      obtain ⟨j, rfl⟩ : ∃ j, k = j + 1 := ⟨k - 1, by omega⟩
      show impl_parseMail.l1 (j + 1) R _ F b = _
      rw [impl_parseMail.l1, if_pos (by omega), if_pos (by omega), if_neg hb32, if_pos (by omega), Int.toNat_natCast]
      exact hK j (by omega) 0
   obtain ⟨p, q, e, hi, hq, hf⟩ := endCR_first _ he
   obtain ⟨m, hm, hme⟩ := fe_end _ he
   have hml := fe_le _ _ hm
   have hidx : strings_Index.f R (⟨#[13, 10]⟩ : ByteArray) = some (p.length : Int) := by
    unfold strings_Index.f
    rw [if_pos (by omega)]
    exact congrArg some hi
   have hpl : p.length + 2 ≤ (bl R).length := by rw [e]; simp
   have hdq : (bl R).drop (p.length + 2) = q := by
    rw [e, ← List.drop_drop, List.drop_left]
    rfl
   have start : ∀ r, Ev (fun k => impl_parseMail.l1 k R ((p.length + 2 : Nat) : Int) F b) r → Ev (fun k => impl_parseMail.l0 k R F b) r := fun r hr => by
    refine Ev.step (fun k => ?_) hr
    simp only [impl_parseMail.l0, hidx, bS]
    rw [if_neg (by rw [toList_bl]; exact h0), w2l p.length (by omega)]
   have hmm : (if ((bl R).drop (p.length + 2)).take 1 = [32] then (fe ((bl R).drop (p.length + 2))).map (· + (p.length + 2)) else some (p.length + 2)) = some m := by
    rw [hdq, ← hf, hm]
   have hz : bl (R.extract 0 m) = (bl R).take m := by rw [bl_extract, List.drop_zero, Nat.sub_zero]
   have hz2 : bl (R.extract m R.size) = (bl R).drop m := by rw [bl_extract]; exact List.take_of_length_le (by rw [List.length_drop]; omega)
   obtain ⟨u, ⟨K, hu⟩, ho⟩ := implUnf_ev (R.extract 0 m) (by rw [ByteArray.size_extract]; omega)
   rw [hz] at ho
   rw [hm]
   simp only
   have fin : ∀ r, (∃ K2, ∀ k, K2 ≤ k → (if u.2.2 = true then (if (F.length : Int) = 40 then (some (([] : List SF), (⟨#[]⟩ : ByteArray), false)) else (if F.length < 4398046511104 then (impl_parseMail.l0 k (R.extract m R.size) (F ++ [(⟨u.1, u.2.1⟩ : SF)]) b) else (none))) else (some (([] : List SF), (⟨#[]⟩ : ByteArray), false))) = some r) → Ev (fun k => impl_parseMail.l0 k R F b) r := fun r ⟨K2, h2⟩ =>
    start r (on (bl R).length (p.length + 2) m r (by omega) hpl (by rw [hdq]; exact hq) hmm ⟨K + K2, fun k hk c => by
     have f := hu k (by omega)
     simp only at f
     rw [f, bS]
     exact h2 k (by omega)⟩)
   cases hR2 : unfR [] ((bl R).take m) with
   | none =>
    rw [hR2] at ho
    have ho' : u.2.2 = false := ho
    exact ⟨_, fin (([] : List SF), (⟨#[]⟩ : ByteArray), false) ⟨0, fun k _ => by rw [ho']; rfl⟩, rfl⟩
   | some f =>
    rw [hR2] at ho
    obtain ⟨o1, o2, o3⟩ : u.2.2 = true ∧ bl u.1 = f.1 ∧ bl u.2.1 = f.2 := ho
    simp only
    by_cases h40 : F.length = 40
    ·rw [if_pos h40]
     exact ⟨_, fin (([] : List SF), (⟨#[]⟩ : ByteArray), false) ⟨0, fun k _ => by rw [if_pos o1, if_pos (by omega)]⟩, rfl⟩
    ·rw [if_neg h40, ← hz2]
     have hmk : (⟨u.1, u.2.1⟩ : SF) = mkF f := by
      unfold mkF
      rw [← o2, ← o3, mk_bl, mk_bl]
     obtain ⟨r, ⟨K2, hr⟩, hro⟩ := ih (R.extract m R.size) (F ++ [mkF f]) (by rw [ByteArray.size_extract]; omega) (by rw [hz2, List.length_drop]; omega) (by rw [hz2]; exact hme) (by simp; omega)
     refine ⟨r, fin r ⟨K2, fun k hk => ?_⟩, hro⟩
     have f2 := hr k hk
     simp only at f2
     rw [if_pos o1, if_neg (by omega), if_pos (by omega), hmk]
     exact f2
theorem hdE_le (l : List UInt8) (e : Nat) (h : hdE l = some e) : e + 2 ≤ l.length ∧ (l.take e = [] ∨ endCR (l.take e) = true) := by
 unfold hdE at h
 split at h
 ·rename_i h0
  obtain rfl := Option.some.inj h
  have := congrArg List.length h0
  rw [List.length_take] at this
  simp only [List.length_cons, List.length_nil] at this
  exact ⟨by omega, .inl (by simp)⟩
 ·obtain ⟨i, hi, rfl⟩ := Option.map_eq_some_iff.1 h
  have h4 := idx4_spec l i hi
  have := congrArg List.length h4
  rw [List.length_take, List.length_drop] at this
  simp only [List.length_cons, List.length_nil] at this
  refine ⟨by omega, .inr (decide_eq_true ⟨by rw [List.length_take]; omega, ?_⟩)⟩
  have hl : (l.take (i + 2)).length = i + 2 := by rw [List.length_take]; omega
  rw [hl, show i + 2 - 2 = i by omega, List.drop_take, show i + 2 - i = 2 by omega]
  have := congrArg (List.take 2) h4
  rw [List.take_take] at this
  exact this
/-- A right mail, or none, in the program: what the reference finds in it. -/
theorem implParse_ev (s : ByteArray) (hs : s.size ≤ 65536) : ∃ r, Ev (fun k => impl_parseMail.f k s) r ∧ (if mailR (bl s) = true then outP (parseS ((bl s).length + 1) (bl s) []) r else r.2.2 = false) := by
 have hsz := bl_size s
 have hh := headEnd_eq s (by omega)
 obtain ⟨K, hM⟩ := implMail_ev s (by omega)
 have bad : ∀ (y : Int) (k : Nat), impl_parseMail.j0 (k + 1) s y true = some (([] : List SF), (⟨#[]⟩ : ByteArray), false) := fun y k => by
  simp only [impl_parseMail.j0]
  rfl
 by_cases hm : mailR (bl s) = true
 ·simp only [hm, if_true]
  rw [parse_same]
  cases hd : hdE (bl s) with
  | none =>
   rw [hd] at hh
   refine ⟨_, ⟨K + 1, fun k hk => ?_⟩, (rfl : outP none (([] : List SF), (⟨#[]⟩ : ByteArray), false))⟩
   obtain ⟨j, rfl⟩ : ∃ j, k = j + 1 := ⟨k - 1, by omega⟩
   have f := hM (j + 1) (by omega)
   simp only at f
   simp only [impl_parseMail.f, hh, f, bS, hm, if_true]
   exact bad _ _
  | some e =>
   rw [hd] at hh
   have hle := hdE_le _ _ hd
   have hz : bl (s.extract 0 e) = (bl s).take e := by rw [bl_extract, List.drop_zero, Nat.sub_zero]
   have hz2 : s.extract (e + 2) s.size = (⟨((bl s).drop (e + 2)).toArray⟩ : ByteArray) := ext_mk s (e + 2)
   obtain ⟨r, ⟨K2, hr⟩, ho⟩ := implP_ev (s.extract (e + 2) s.size) ((bl s).length + 1) (s.extract 0 e) [] (by rw [ByteArray.size_extract]; omega) (by rw [hz, List.length_take]; omega) (by rw [hz]; exact hle.2) (by simp)
   rw [hz] at ho
   refine ⟨r, ⟨K + K2 + 1, fun k hk => ?_⟩, ?_⟩
   ·obtain ⟨j, rfl⟩ : ∃ j, k = j + 1 := ⟨k - 1, by omega⟩
    have f := hM (j + 1) (by omega)
    have f2 := hr j (by omega)
    simp only at f f2
    have w : Aside0 (wrap64 ((e : Int) + 2) = ((e + 2 : Nat) : Int)) := ⟨w2l e (by omega)⟩
    simp only [impl_parseMail.f, hh, f, bS, hm, if_true, impl_parseMail.j0, w.out, Int.toNat_natCast]
    rw [decide_eq_false (by omega), if_neg (by decide), if_pos (by omega), if_pos (by omega), if_pos (by omega), if_pos (by omega)]
    exact f2
   ·simp only
    cases hp : parseI ((bl s).length + 1) ((bl s).take e) [] with
    | none => rw [hp] at ho; exact ho
    | some F =>
     rw [hp] at ho
     have ho' : r = (F, s.extract (e + 2) s.size, true) := ho
     show r = (F, (⟨((bl s).drop (e + 2)).toArray⟩ : ByteArray), true)
     rw [ho', hz2]
 ·rw [Bool.not_eq_true] at hm
  simp only [hm, Bool.false_eq_true, if_false]
  refine ⟨_, ⟨K + 1, fun k hk => ?_⟩, (rfl : ((([] : List SF), (⟨#[]⟩ : ByteArray), false) : List SF × ByteArray × Bool).2.2 = false)⟩
  obtain ⟨j, rfl⟩ : ∃ j, k = j + 1 := ⟨k - 1, by omega⟩
  have f := hM (j + 1) (by omega)
  simp only at f
  simp only [impl_parseMail.f, hh, f, bS, hm]
  rw [if_neg (by decide)]
  exact bad _ _
end Go.Proofs.YtcpdbobkpbmjiaaDoor.P
