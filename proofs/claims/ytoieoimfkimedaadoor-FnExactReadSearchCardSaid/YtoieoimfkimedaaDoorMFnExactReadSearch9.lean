/- Part 9 of what the law FnExactReadSearch stands on; the last part ends with the law's row. No condition of mine. -/
import Derived.Test.YtoieoimfkimedaaDoorMFnExactReadSearch8
import Derived.Test.YtoieoimfkimedaaDoorMFnExactReadSearch4
import Derived.Test.YtoieoimfkimedaaDoorMFnExactReadSearch6
import Derived.Test.YtoieoimfkimedaaDoorMFnExactReadSearch7
/- Lemmas of mine: the loops that read keys of a search. Plain. -/
set_option linter.unusedVariables false
set_option linter.unusedSimpArgs false
namespace Go.Proofs.YtoieoimfkimedaaDoor.P
open Go.RowKit Go.Proofs.YtoieoimfkimedaaDoorW.PrintWords
theorem rd_at (xs : List ByteArray) (i : Nat) (h : i < xs.length) : rdOf ByteArray.empty xs (i : Int) = xs[i]'h := by unfold rdOf; exact getD_nat xs _ i h
theorem tl_iff (u : ByteArray) (l : List UInt8) : u.toList = l ↔ bl u = l := by rw [toList_bl]
theorem bodyD_cons (w : ByteArray) (rest : List ByteArray) : bodyD (w :: rest) = if bl (upT w) = [78, 79, 84] then (true, rest) else (false, w :: rest) := rfl
theorem readKey_ev (ws : List ByteArray) (hS : Small ws) (hne : ws ≠ []) : ∃ (r : Bool × ByteArray × ByteArray × List S49 × Int), Ev (fun k => impl_readKey.f k ws) r ∧
  (∀ nt, (r.2.2.2.2 = 0 ∧ keyD nt ws = none) ∨ ∃ n : Nat, r.2.2.2.2 = (n : Int) ∧ n ≠ 0 ∧ keyD nt ws = some (⟨nt, r.2.1, r.2.2.1, r.2.2.2.1⟩, n)) := by
 obtain ⟨w, rest, rfl⟩ : ∃ w rest, ws = w :: rest := by cases ws with
  | nil => exact absurd rfl hne
  | cons w rest => exact ⟨w, rest, rfl⟩
 have hw : w.size ≤ 1048576 := hS.2 w (List.mem_cons_self ..)
 have hu := up_impl w hw
 obtain ⟨fr, hfr, hiff⟩ := bare_impl (upT w)
 have h0 : rdOf ByteArray.empty (w :: rest) 0 = w := rfl
 have hlen : ((w :: rest).length : Int) = (rest.length : Int) + 1 := by rw [List.length_cons]; omega
 have hf : ∀ k, impl_readKey.f k (w :: rest) = impl_readKey.j0 k (w :: rest) (upT w) (decide (bareB (bl (upT w)))) false (upT w) (⟨#[]⟩ : ByteArray) := fun k => by
  simp only [impl_readKey.f, h0, hu, hfr, bS, tl_iff]
  rw [if_pos (by omega)]
  by_cases hA : bl (upT w) = [65, 76, 76]
  ·rw [if_pos hA, decide_eq_true (hiff.1 (Or.inl hA))]
  ·rw [if_neg hA]
   by_cases hz : fr.1 = 0
   ·rw [hz, decide_eq_false (fun q => by rcases hiff.2 q with h | h; exact hA h; exact h hz)]
    rfl
   ·rw [decide_eq_true (hiff.1 (Or.inr hz)), bne_iff_ne.2 hz]
 by_cases hb : bareB (bl (upT w))
 ·refine ⟨(false, upT w, ⟨#[]⟩, [], 1), Ev.congr hf (Ev.step (f := fun _ => some _) (fun k => by simp only [impl_readKey.j0]; rw [if_pos (decide_eq_true hb)]) (Ev.now _)), fun nt => .inr ⟨1, rfl, by decide, ?_⟩⟩
  show keyD nt (w :: rest) = _
  unfold keyD
  simp only
  rw [if_pos hb]
 have hj0 : ∀ k, impl_readKey.f (k + 1) (w :: rest) = impl_readKey.j1 k (w :: rest) (upT w) (decide (wordB (bl (upT w)) ∨ bl (upT w) = [85, 73, 68])) false (upT w) (⟨#[]⟩ : ByteArray) := fun k => by
  rw [hf]
  simp only [impl_readKey.j0, wordKey_f, bS]
  rw [if_neg (by simpa using hb)]
  by_cases hwd : wordB (bl (upT w))
  ·rw [if_pos (decide_eq_true hwd), decide_eq_true (Or.inl hwd)]
  ·rw [if_neg (by simpa using hwd)]
   by_cases hU : bl (upT w) = [85, 73, 68]
   ·rw [toList_bl, hU, decide_eq_true (Or.inr rfl)]
    rfl
   ·rw [toList_bl, beq_eq_false_iff_ne.2 hU, decide_eq_false (by rintro (h | h); exact hwd h; exact hU h)]
 have hk0 : ∀ nt, keyD nt (w :: rest) = if wordB (bl (upT w)) then (match rest with | [] => none | v :: _ => some (⟨nt, upT w, v, []⟩, 2))
  else if bl (upT w) = [85, 73, 68] then (match rest with | [] => none | v :: _ => if (setO v).2 = true then some (⟨nt, upT w, ⟨#[]⟩, (setO v).1⟩, 2) else none)
  else if (setO w).2 = true then some (⟨nt, ⟨#[83, 69, 84]⟩, ⟨#[]⟩, (setO w).1⟩, 1) else none := fun nt => by
  unfold keyD
  simp only
  rw [if_neg hb]
  rfl
 by_cases hW : wordB (bl (upT w)) ∨ bl (upT w) = [85, 73, 68]
 ·match rest, hS, hlen, hj0, hk0 with
  | [], hS, hlen, hj0, hk0 =>
   refine ⟨(false, ⟨#[]⟩, ⟨#[]⟩, [], 0), Ev.step (f := fun k => impl_readKey.j1 k [w] (upT w) _ false (upT w) ⟨#[]⟩) hj0 (Ev.step (f := fun _ => some _) (fun k => by simp only [impl_readKey.j1]; rw [if_pos (decide_eq_true hW), if_pos (by simp)]) (Ev.now _)), fun nt => .inl ⟨rfl, ?_⟩⟩
   rw [hk0]
   rcases hW with hW | hW
   ·rw [if_pos hW]
   ·by_cases hwd : wordB (bl (upT w))
    ·rw [if_pos hwd]
    ·rw [if_neg hwd, if_pos hW]
  | v :: rest, hS, hlen, hj0, hk0 =>
   have hl2 : (((w :: v :: rest).length : Nat) : Int) = (rest.length : Int) + 2 := by simp only [List.length_cons]; omega
   have h1 : rdOf ByteArray.empty (w :: v :: rest) 1 = v := rfl
   by_cases hwd : wordB (bl (upT w))
   ·refine ⟨(false, upT w, v, [], 2), Ev.step (f := fun k => impl_readKey.j1 k (w :: v :: rest) (upT w) _ false (upT w) ⟨#[]⟩) hj0 (Ev.step (f := fun _ => some _) (fun k => by
     simp only [impl_readKey.j1, wordKey_f, bS, h1]
     rw [if_pos (decide_eq_true hW), if_neg (by omega), if_pos (decide_eq_true hwd), if_pos (by omega)]) (Ev.now _)), fun nt => .inr ⟨2, rfl, by decide, ?_⟩⟩
    rw [hk0, if_pos hwd]
   ·have hU : bl (upT w) = [85, 73, 68] := hW.resolve_left hwd
    have hv : v.size ≤ 1048576 := hS.2 v (by simp)
    obtain ⟨K, hK⟩ := setO_impl v (by omega)
    have hj1 : ∀ k, K ≤ k → impl_readKey.f (k + 1 + 1) (w :: v :: rest) = if (setO v).2 = true then some (false, upT w, ⟨#[]⟩, (setO v).1, 2) else some (false, ⟨#[]⟩, ⟨#[]⟩, [], 0) := fun k hk => by
     have hK' := hK k hk
     simp only at hK'
     rw [hj0]
     simp only [impl_readKey.j1, wordKey_f, bS, h1, hK']
     rw [if_pos (decide_eq_true hW), if_neg (by omega), if_neg (by simpa using hwd), if_pos (by omega)]
    by_cases hs : (setO v).2 = true
    ·refine ⟨(false, upT w, ⟨#[]⟩, (setO v).1, 2), ⟨K + 2, fun k hk => ?_⟩, fun nt => .inr ⟨2, rfl, by decide, ?_⟩⟩
     ·obtain ⟨m, rfl⟩ : ∃ m, k = m + 1 + 1 := ⟨k - 2, by omega⟩
      show impl_readKey.f (m + 1 + 1) (w :: v :: rest) = _
      rw [hj1 m (by omega), if_pos hs]
     ·rw [hk0, if_neg hwd, if_pos hU]
      simp only
      rw [if_pos hs]
    ·refine ⟨(false, ⟨#[]⟩, ⟨#[]⟩, [], 0), ⟨K + 2, fun k hk => ?_⟩, fun nt => .inl ⟨rfl, ?_⟩⟩
     ·obtain ⟨m, rfl⟩ : ∃ m, k = m + 1 + 1 := ⟨k - 2, by omega⟩
      show impl_readKey.f (m + 1 + 1) (w :: v :: rest) = _
      rw [hj1 m (by omega), if_neg hs]
     ·rw [hk0, if_neg hwd, if_pos hU]
      simp only
      rw [if_neg hs]
 ·have hwd : ¬ wordB (bl (upT w)) := fun h => hW (Or.inl h)
  have hU : ¬ bl (upT w) = [85, 73, 68] := fun h => hW (Or.inr h)
  obtain ⟨K, hK⟩ := setO_impl w (by omega)
  have hj1 : ∀ k, K ≤ k → impl_readKey.f (k + 1 + 1) (w :: rest) = if (setO w).2 = true then some (false, ⟨#[83, 69, 84]⟩, ⟨#[]⟩, (setO w).1, 1) else some (false, ⟨#[]⟩, ⟨#[]⟩, [], 0) := fun k hk => by
   have hK' := hK k hk
   simp only at hK'
   rw [hj0]
   simp only [impl_readKey.j1, h0, bS, hK']
   rw [if_neg (by simpa using hW), if_pos (by omega)]
  by_cases hs : (setO w).2 = true
  ·refine ⟨(false, ⟨#[83, 69, 84]⟩, ⟨#[]⟩, (setO w).1, 1), ⟨K + 2, fun k hk => ?_⟩, fun nt => .inr ⟨1, rfl, by decide, ?_⟩⟩
   ·obtain ⟨m, rfl⟩ : ∃ m, k = m + 1 + 1 := ⟨k - 2, by omega⟩
    show impl_readKey.f (m + 1 + 1) (w :: rest) = _
    rw [hj1 m (by omega), if_pos hs]
   ·rw [hk0, if_neg hwd, if_neg hU, if_pos hs]
  ·refine ⟨(false, ⟨#[]⟩, ⟨#[]⟩, [], 0), ⟨K + 2, fun k hk => ?_⟩, fun nt => .inl ⟨rfl, ?_⟩⟩
   ·obtain ⟨m, rfl⟩ : ∃ m, k = m + 1 + 1 := ⟨k - 2, by omega⟩
    show impl_readKey.f (m + 1 + 1) (w :: rest) = _
    rw [hj1 m (by omega), if_neg hs]
   ·rw [hk0, if_neg hwd, if_neg hU, if_neg hs]
/-- A reading's end tells what searchD tells. -/
def Tells_ (o : Option (List KeyS)) (r : List KeyS × Bool) : Prop := (r.2 = true ∧ o = some r.1) ∨ (r.2 = false ∧ o = none)
theorem tells_end (out : List KeyS) : Tells_ (if 0 < out.length then some out else none) (out, decide ((out.length : Int) > 0)) := by
 by_cases h : 0 < out.length
 ·rw [if_pos h]; exact .inl ⟨decide_eq_true (by omega), rfl⟩
 ·rw [if_neg h]; exact .inr ⟨decide_eq_false (by omega), rfl⟩
theorem implSearch : ∀ (f : Nat) (ws : List ByteArray) (out : List KeyS), ws.length ≤ f → Small ws → Few out → ∃ r, Ev (fun k => impl_readSearch.l0 k ws out) r ∧ Tells_ (searchD f ws out) r
 | f, [], out, hl, hS, ho => by
  refine ⟨(out, decide ((out.length : Int) > 0)), Ev.step (f := fun _ => some _) (fun k => by simp only [impl_readSearch.l0]; rw [if_neg (by simp)]) (Ev.now _), ?_⟩
  have e : searchD f [] out = if 0 < out.length then some out else none := by
   cases f with
   | zero => unfold searchD; exact if_pos rfl
   | succ f => unfold searchD; exact if_pos rfl
  rw [e]
  exact tells_end out
 | 0, w :: rest, out, hl, hS, ho => by simp at hl
 | f + 1, w :: rest, out, hl, hS, ho => by
  have hw : w.size ≤ 1048576 := hS.2 w (List.mem_cons_self ..)
  have hu := up_impl w hw
  have h0 : rdOf ByteArray.empty (w :: rest) 0 = w := rfl
  have hlen : ((w :: rest).length : Int) = (rest.length : Int) + 1 := by rw [List.length_cons]; omega
  have hbl := bodyD_len (w :: rest)
  have hbS := hS.body
  have hl0 : ∀ k, impl_readSearch.l0 (k + 1) (w :: rest) out = impl_readSearch.j1 k (bodyD (w :: rest)).2 out (bodyD (w :: rest)).1 := fun k => by
   simp only [impl_readSearch.l0, h0, hu, bS, tl_iff]
   rw [if_pos (by omega), if_pos (by omega)]
   rw [bodyD_cons]
   by_cases hN : bl (upT w) = [78, 79, 84]
   ·rw [if_pos hN, if_pos (by omega), if_pos hN, toList_bl, hN]
    rfl
   ·rw [if_neg hN, if_neg hN, toList_bl, beq_eq_false_iff_ne.2 hN]
  obtain ⟨nt, ws', hb⟩ : ∃ nt ws', bodyD (w :: rest) = (nt, ws') := ⟨_, _, rfl⟩
  rw [hb] at hbl hbS hl0
  simp only at hbl hbS hl0
  have hsd : searchD (f + 1) (w :: rest) out = if out.length = 20 then none else match keyD nt ws' with
   | none => none
   | some (x, n) => searchD f (ws'.drop n) (out ++ [x]) := by
   conv => lhs; unfold searchD
   rw [if_neg (List.cons_ne_nil _ _), hb]
   rfl
  by_cases hn : ws' = []
  ·have hk : keyD nt ws' = none := by rw [hn]; rfl
   refine ⟨([], false), Ev.step hl0 (Ev.step (f := fun k => impl_readSearch.j2 k ws' out nt true) (fun k => by simp only [impl_readSearch.j1]; rw [if_pos (by rw [hn]; rfl)]) (Ev.step (f := fun _ => some _) (fun k => by simp only [impl_readSearch.j2]; exact if_pos trivial) (Ev.now _))), .inr ⟨rfl, ?_⟩⟩
   rw [hsd, hk]
   split <;> rfl
  have hpos : 0 < ws'.length := List.length_pos_iff.2 hn
  have hj1 : ∀ k, impl_readSearch.j1 (k + 1) ws' out nt = impl_readSearch.j2 k ws' out nt ((out.length : Int) == 20) := fun k => by
   simp only [impl_readSearch.j1]
   rw [if_neg (by omega)]
  by_cases h20 : out.length = 20
  ·refine ⟨([], false), Ev.step hl0 (Ev.step hj1 (Ev.step (f := fun _ => some _) (fun k => by simp only [impl_readSearch.j2]; rw [if_pos (by rw [h20]; rfl)]) (Ev.now _))), .inr ⟨rfl, ?_⟩⟩
   rw [hsd, if_pos h20]
  obtain ⟨r, ⟨K, hK⟩, hr⟩ := readKey_ev ws' hbS hn
  rw [if_neg h20] at hsd
  rcases hr nt with ⟨hz, hk⟩ | ⟨n, hnn, hn0, hk⟩
  ·refine ⟨([], false), Ev.step hl0 (Ev.step hj1 ⟨K + 1, fun k hk => ?_⟩), .inr ⟨rfl, by rw [hsd, hk]⟩⟩
   obtain ⟨m, rfl⟩ : ∃ m, k = m + 1 := ⟨k - 1, by omega⟩
   have hK' := hK m (by omega)
   simp only at hK'
   show impl_readSearch.j2 (m + 1) ws' out nt ((out.length : Int) == 20) = _
   simp only [impl_readSearch.j2, hK', bS]
   rw [if_neg (by simp; omega), if_pos hz]
  ·have hko := keyD_ok hk
   rw [hk] at hsd
   simp only at hsd
   obtain ⟨q, ⟨K2, h2⟩, ht⟩ := implSearch f (ws'.drop n) (out ++ [⟨nt, r.2.1, r.2.2.1, r.2.2.2.1⟩]) (by rw [List.length_drop, ]; simp only [List.length_cons] at hl hbl; omega) (hbS.drop n) ⟨by have := ho.1; rw [List.length_append, List.length_singleton]; omega, fun y hy => by
    rcases List.mem_append.1 hy with hy | hy
    ·exact ho.2 y hy
    ·rw [List.mem_singleton.1 hy]; exact hko.2.2.1⟩
   refine ⟨q, Ev.step hl0 (Ev.step hj1 ⟨K + K2 + 1, fun k hk => ?_⟩), by rw [hsd]; exact ht⟩
   obtain ⟨m, rfl⟩ : ∃ m, k = m + 1 := ⟨k - 1, by omega⟩
   have hK' := hK m (by omega)
   have h2' := h2 m (by omega)
   simp only at hK' h2'
   have hol := ho.1
   have hnl := hko.2.1
   show impl_readSearch.j2 (m + 1) ws' out nt ((out.length : Int) == 20) = _
   simp only [impl_readSearch.j2, hK', bS, hnn, Int.toNat_natCast]
   rw [if_neg (by simp; omega), if_neg (by omega), if_pos (by omega), if_pos (by omega), if_pos (by omega)]
   exact h2'
theorem specKey (words : List ByteArray) (hS : Small words) (out : List KeyS) (ho : Few out) (nt : Bool) (p : Nat) (hp : p < words.length) :
  ((keyD nt (words.drop p) = none ∨ out.length = 20) → Ev (fun k => spec_l11Search.j1 k words out (p : Int) nt (⟨#[]⟩ : ByteArray) (⟨#[]⟩ : ByteArray) []) (out, false)) ∧
  (∀ x n r, keyD nt (words.drop p) = some (x, n) → out.length ≠ 20 → Ev (fun k => spec_l11Search.l0 k words (out ++ [x]) ((p + n : Nat) : Int)) r → Ev (fun k => spec_l11Search.j1 k words out (p : Int) nt (⟨#[]⟩ : ByteArray) (⟨#[]⟩ : ByteArray) []) r) := by
 have hwl := hS.1
 have hol := ho.1
 obtain ⟨w, hwe⟩ : ∃ w, w = words[p]'hp := ⟨_, rfl⟩
 have hw : w.size ≤ 1048576 := by rw [hwe]; exact hS.2 _ (List.getElem_mem hp)
 have hrd : rdOf ByteArray.empty words (p : Int) = w := by rw [hwe]; exact rd_at words p hp
 have hdr : words.drop p = w :: words.drop (p + 1) := by rw [hwe]; exact List.drop_eq_getElem_cons hp
 have hu := up_spec w hw
 have w1 : wrap64 ((p : Int) + 1) = ((p + 1 : Nat) : Int) := w64s p (by omega)
 obtain ⟨Kb, hKb⟩ := bare_spec (upT w)
 rw [hdr]
 -- a kind that stands alone
 by_cases hb : bareB (bl (upT w))
 ·have hk : keyD nt (w :: words.drop (p + 1)) = some (⟨nt, upT w, ⟨#[]⟩, []⟩, 1) := by
   unfold keyD
   simp only
   rw [if_pos hb]
  have hj : ∀ k, Kb ≤ k → spec_l11Search.j1 (k + 1) words out (p : Int) nt (⟨#[]⟩ : ByteArray) (⟨#[]⟩ : ByteArray) [] = if out.length = 20 then some (out, false) else spec_l11Search.l0 k words (out ++ [⟨nt, upT w, ⟨#[]⟩, []⟩]) ((p + 1 : Nat) : Int) := fun k hk => by
   have hKb' := hKb k hk
   simp only at hKb'
   simp only [spec_l11Search.j1, hrd, hu, bS, hKb', w1]
   rw [if_pos (by omega), if_pos (by omega), if_pos (decide_eq_true hb)]
   by_cases h20 : out.length = 20
   ·rw [if_pos (by omega), if_pos h20]
   ·rw [if_neg (by omega), if_neg h20, if_pos (by omega)]
  rw [hk]
  refine ⟨fun h => ?_, fun x n r hx h20 ⟨K2, h2⟩ => ?_⟩
  ·refine ⟨Kb + 1, fun k hk => ?_⟩
   obtain ⟨m, rfl⟩ : ∃ m, k = m + 1 := ⟨k - 1, by omega⟩
   show spec_l11Search.j1 (m + 1) words out (p : Int) nt _ _ [] = _
   rw [hj m (by omega), if_pos (h.resolve_left (fun q => by cases q))]
  ·obtain ⟨rfl, rfl⟩ := Prod.mk.inj (Option.some.inj hx)
   refine ⟨Kb + K2 + 1, fun k hk => ?_⟩
   obtain ⟨m, rfl⟩ : ∃ m, k = m + 1 := ⟨k - 1, by omega⟩
   show spec_l11Search.j1 (m + 1) words out (p : Int) nt _ _ [] = _
   rw [hj m (by omega), if_neg h20]
   exact h2 m (by omega)
 have hk0 : keyD nt (w :: words.drop (p + 1)) = if wordB (bl (upT w)) then (match words.drop (p + 1) with | [] => none | v :: _ => some (⟨nt, upT w, v, []⟩, 2))
  else if bl (upT w) = [85, 73, 68] then (match words.drop (p + 1) with | [] => none | v :: _ => if (setO v).2 = true then some (⟨nt, upT w, ⟨#[]⟩, (setO v).1⟩, 2) else none)
  else if (setO w).2 = true then some (⟨nt, ⟨#[83, 69, 84]⟩, ⟨#[]⟩, (setO w).1⟩, 1) else none := by
  unfold keyD
  simp only
  rw [if_neg hb]
  rfl
 have hj1 : ∀ k, Kb ≤ k → spec_l11Search.j1 (k + 1) words out (p : Int) nt (⟨#[]⟩ : ByteArray) (⟨#[]⟩ : ByteArray) [] = spec_l11Search.j2 k words out (p : Int) (upT w) (decide (wordB (bl (upT w)))) nt (⟨#[]⟩ : ByteArray) (⟨#[]⟩ : ByteArray) [] := fun k hk => by
  have hKb' := hKb k hk
  simp only at hKb'
  simp only [spec_l11Search.j1, hrd, hu, bS, hKb', tl_iff]
  rw [if_pos (by omega), if_pos (by omega), if_neg (by simpa using hb)]
  by_cases h1 : bl (upT w) = [83, 85, 66, 74, 69, 67, 84]
  ·rw [if_pos h1, decide_eq_true (show wordB (bl (upT w)) from Or.inl h1)]
  rw [if_neg h1]
  by_cases h2 : bl (upT w) = [70, 82, 79, 77]
  ·rw [if_pos h2, decide_eq_true (show wordB (bl (upT w)) from Or.inr (Or.inl h2))]
  rw [if_neg h2]
  by_cases h3 : bl (upT w) = [84, 69, 88, 84]
  ·rw [toList_bl, decide_eq_true (show wordB (bl (upT w)) from Or.inr (Or.inr h3)), h3]
   rfl
  ·rw [toList_bl, decide_eq_false (show ¬ wordB (bl (upT w)) by rintro (h | h | h); exact h1 h; exact h2 h; exact h3 h), beq_eq_false_iff_ne.2 h3]
 -- a set at a place
 have set3 : ∀ (q : Nat) (hq : q < words.length) (kind : ByteArray), (((setO (words[q]'hq)).2 = false ∨ out.length = 20) → Ev (fun k => spec_l11Search.j3 k words out (q : Int) nt kind (⟨#[]⟩ : ByteArray) []) (out, false)) ∧
   ((setO (words[q]'hq)).2 = true → out.length ≠ 20 → ∀ r, Ev (fun k => spec_l11Search.l0 k words (out ++ [⟨nt, kind, ⟨#[]⟩, (setO (words[q]'hq)).1⟩]) ((q + 1 : Nat) : Int)) r → Ev (fun k => spec_l11Search.j3 k words out (q : Int) nt kind (⟨#[]⟩ : ByteArray) []) r) := by
  intro q hq kind
  have hqs : (words[q]'hq).size ≤ 1048576 := hS.2 _ (List.getElem_mem hq)
  obtain ⟨K, hK⟩ := setO_spec (words[q]'hq) (by omega)
  have e : ∀ k, K ≤ k → spec_l11Search.j3 (k + 1) words out (q : Int) nt kind (⟨#[]⟩ : ByteArray) [] = if (setO (words[q]'hq)).2 = true then (if out.length = 20 then some (out, false) else spec_l11Search.l0 k words (out ++ [⟨nt, kind, ⟨#[]⟩, (setO (words[q]'hq)).1⟩]) ((q + 1 : Nat) : Int)) else some (out, false) := fun k hk => by
   have hK' := hK k hk
   simp only at hK'
   simp only [spec_l11Search.j3, rd_at words q hq, hK', bS, w64s q (by omega)]
   rw [if_pos (by omega), if_pos (by omega)]
   by_cases hs : (setO (words[q]'hq)).2 = true
   ·rw [if_pos hs, if_pos hs]
    by_cases h20 : out.length = 20
    ·rw [if_pos (by omega), if_pos h20]
    ·rw [if_neg (by omega), if_neg h20, if_pos (by omega)]
   ·rw [if_neg hs, if_neg hs]
  refine ⟨fun h => ⟨K + 1, fun k hk => ?_⟩, fun hs h20 r ⟨K2, h2⟩ => ⟨K + K2 + 1, fun k hk => ?_⟩⟩
  ·obtain ⟨m, rfl⟩ : ∃ m, k = m + 1 := ⟨k - 1, by omega⟩
   show spec_l11Search.j3 (m + 1) words out (q : Int) nt kind _ [] = _
   rw [e m (by omega)]
   rcases h with h | h
   ·rw [h]; exact if_neg (by decide)
   ·rw [if_pos h]; split <;> rfl
  ·obtain ⟨m, rfl⟩ : ∃ m, k = m + 1 := ⟨k - 1, by omega⟩
   show spec_l11Search.j3 (m + 1) words out (q : Int) nt kind _ [] = _
   rw [e m (by omega), if_pos hs, if_neg h20]
   exact h2 m (by omega)
 have jlift : ∀ r, Ev (fun k => spec_l11Search.j2 k words out (p : Int) (upT w) (decide (wordB (bl (upT w)))) nt (⟨#[]⟩ : ByteArray) (⟨#[]⟩ : ByteArray) []) r → Ev (fun k => spec_l11Search.j1 k words out (p : Int) nt (⟨#[]⟩ : ByteArray) (⟨#[]⟩ : ByteArray) []) r := by
  rintro r ⟨K, h⟩
  refine ⟨Kb + K + 1, fun k hk => ?_⟩
  obtain ⟨m, rfl⟩ : ∃ m, k = m + 1 := ⟨k - 1, by omega⟩
  show spec_l11Search.j1 (m + 1) words out (p : Int) nt _ _ [] = _
  rw [hj1 m (by omega)]
  exact h m (by omega)
 by_cases hwd : wordB (bl (upT w))
 ·rw [if_pos hwd] at hk0
  by_cases hend : p + 1 = words.length
  ·rw [hk0, List.drop_eq_nil_of_le (by omega)]
   refine ⟨fun _ => jlift _ (Ev.step (f := fun _ => some _) (fun k => ?_) (Ev.now _)), fun x n r hx => by cases hx⟩
   simp only [spec_l11Search.j2, w1]
   rw [if_pos (decide_eq_true hwd), if_pos (by omega)]
  ·have hq : p + 1 < words.length := by omega
   rw [hk0, List.drop_eq_getElem_cons hq]
   simp only
   have w2 : wrap64 (((p + 1 : Nat) : Int) + 1) = ((p + 2 : Nat) : Int) := w64s (p + 1) (by omega)
   have e : ∀ k, spec_l11Search.j2 (k + 1) words out (p : Int) (upT w) (decide (wordB (bl (upT w)))) nt (⟨#[]⟩ : ByteArray) (⟨#[]⟩ : ByteArray) [] = if out.length = 20 then some (out, false) else spec_l11Search.l0 k words (out ++ [⟨nt, upT w, words[p + 1]'hq, []⟩]) ((p + 2 : Nat) : Int) := fun k => by
    simp only [spec_l11Search.j2, w1, w2, rd_at words (p + 1) hq]
    rw [if_pos (decide_eq_true hwd), if_neg (by omega), if_pos (by omega), if_pos (by omega)]
    by_cases h20 : out.length = 20
    ·rw [if_pos (by omega), if_pos h20]
    ·rw [if_neg (by omega), if_neg h20, if_pos (by omega)]
   refine ⟨fun h => jlift _ (Ev.step (f := fun _ => some _) (fun k => ?_) (Ev.now _)), fun x n r hx h20 hr => ?_⟩
   ·rw [e, if_pos (h.resolve_left (fun q => by cases q))]
   ·obtain ⟨rfl, rfl⟩ := Prod.mk.inj (Option.some.inj hx)
    exact jlift _ (Ev.step (fun k => by rw [e, if_neg h20]) hr)
 rw [if_neg hwd] at hk0
 by_cases hU : bl (upT w) = [85, 73, 68]
 ·rw [if_pos hU] at hk0
  by_cases hend : p + 1 = words.length
  ·rw [hk0, List.drop_eq_nil_of_le (by omega)]
   refine ⟨fun _ => jlift _ (Ev.step (f := fun _ => some _) (fun k => ?_) (Ev.now _)), fun x n r hx => by cases hx⟩
   simp only [spec_l11Search.j2, w1, tl_iff]
   rw [if_neg (by simpa using hwd), if_pos hU, if_pos (by omega)]
  ·have hq : p + 1 < words.length := by omega
   rw [hk0, List.drop_eq_getElem_cons hq]
   simp only
   obtain ⟨s1, s2⟩ := set3 (p + 1) hq (upT w)
   have e : ∀ k, spec_l11Search.j2 (k + 1) words out (p : Int) (upT w) (decide (wordB (bl (upT w)))) nt (⟨#[]⟩ : ByteArray) (⟨#[]⟩ : ByteArray) [] = spec_l11Search.j3 k words out ((p + 1 : Nat) : Int) nt (upT w) (⟨#[]⟩ : ByteArray) [] := fun k => by
    simp only [spec_l11Search.j2, w1, tl_iff]
    rw [if_neg (by simpa using hwd), if_pos hU, if_neg (by omega)]
   by_cases hs : (setO (words[p + 1]'hq)).2 = true
   ·rw [if_pos hs]
    refine ⟨fun h => jlift _ (Ev.step e (s1 (.inr (h.resolve_left (fun q => by cases q))))), fun x n r hx h20 hr => ?_⟩
    obtain ⟨rfl, rfl⟩ := Prod.mk.inj (Option.some.inj hx)
    exact jlift _ (Ev.step e (s2 hs h20 r hr))
   ·rw [if_neg hs]
    exact ⟨fun h => jlift _ (Ev.step e (s1 (.inl (Bool.eq_false_iff.2 hs)))), fun x n r hx => by cases hx⟩
 ·rw [if_neg hU] at hk0
  obtain ⟨s1, s2⟩ := set3 p hp (⟨#[83, 69, 84]⟩ : ByteArray)
  rw [← hwe] at s1 s2
  have e : ∀ k, spec_l11Search.j2 (k + 1) words out (p : Int) (upT w) (decide (wordB (bl (upT w)))) nt (⟨#[]⟩ : ByteArray) (⟨#[]⟩ : ByteArray) [] = spec_l11Search.j3 k words out (p : Int) nt (⟨#[83, 69, 84]⟩ : ByteArray) (⟨#[]⟩ : ByteArray) [] := fun k => by
   simp only [spec_l11Search.j2, w1, tl_iff]
   rw [if_neg (by simpa using hwd), if_neg hU]
  by_cases hs : (setO w).2 = true
  ·rw [if_pos hs] at hk0
   rw [hk0]
   refine ⟨fun h => jlift _ (Ev.step e (s1 (.inr (h.resolve_left (fun q => by cases q))))), fun x n r hx h20 hr => ?_⟩
   obtain ⟨rfl, rfl⟩ := Prod.mk.inj (Option.some.inj hx)
   exact jlift _ (Ev.step e (s2 hs h20 r hr))
  ·rw [if_neg hs] at hk0
   rw [hk0]
   exact ⟨fun h => jlift _ (Ev.step e (s1 (.inl (Bool.eq_false_iff.2 hs)))), fun x n r hx => by cases hx⟩
theorem specSearch (words : List ByteArray) (hS : Small words) : ∀ (f i : Nat) (out : List KeyS), words.length - i ≤ f → i ≤ words.length → Few out → ∃ r, Ev (fun k => spec_l11Search.l0 k words out (i : Int)) r ∧ Tells_ (searchD f (words.drop i) out) r := by
 have hwl := hS.1
 intro f
 induction f with
 | zero =>
  intro i out hl hi ho
  rw [List.drop_eq_nil_of_le (by omega)]
  refine ⟨(out, decide ((out.length : Int) > 0)), Ev.step (f := fun _ => some _) (fun k => by simp only [spec_l11Search.l0]; rw [if_neg (by omega)]) (Ev.now _), ?_⟩
  unfold searchD
  rw [if_pos rfl]
  exact tells_end out
 | succ f ih =>
  intro i out hl hi ho
  by_cases hlt : i < words.length
  ·have hol := ho.1
   obtain ⟨w, hwe⟩ : ∃ w, w = words[i]'hlt := ⟨_, rfl⟩
   have hw : w.size ≤ 1048576 := by rw [hwe]; exact hS.2 _ (List.getElem_mem hlt)
   have hrd : rdOf ByteArray.empty words (i : Int) = w := by rw [hwe]; exact rd_at words i hlt
   have hdr : words.drop i = w :: words.drop (i + 1) := by rw [hwe]; exact List.drop_eq_getElem_cons hlt
   have hu := up_spec w hw
   have w1 : wrap64 ((i : Int) + 1) = ((i + 1 : Nat) : Int) := w64s i (by omega)
   have hsd : searchD (f + 1) (words.drop i) out = if out.length = 20 then none else match keyD (bodyD (words.drop i)).1 (bodyD (words.drop i)).2 with
    | none => none
    | some (x, n) => searchD f ((bodyD (words.drop i)).2.drop n) (out ++ [x]) := by
    conv => lhs; unfold searchD
    rw [if_neg (by rw [hdr]; exact List.cons_ne_nil _ _)]
    rfl
   -- from the body on
   have body : ∀ (nt : Bool) (p : Nat), p < words.length → i ≤ p → bodyD (words.drop i) = (nt, words.drop p) → (∀ k, spec_l11Search.l0 (k + 1) words out (i : Int) = spec_l11Search.j1 k words out (p : Int) nt (⟨#[]⟩ : ByteArray) (⟨#[]⟩ : ByteArray) []) →
     ∃ r, Ev (fun k => spec_l11Search.l0 k words out (i : Int)) r ∧ Tells_ (searchD (f + 1) (words.drop i) out) r := by
    intro nt p hp hip hbd hl0
    rw [hbd] at hsd
    simp only at hsd
    obtain ⟨k1, k2⟩ := specKey words hS out ho nt p hp
    by_cases h20 : out.length = 20
    ·exact ⟨(out, false), Ev.step hl0 (k1 (.inr h20)), .inr ⟨rfl, by rw [hsd, if_pos h20]⟩⟩
    ·rw [if_neg h20] at hsd
     cases hk : keyD nt (words.drop p) with
     | none => exact ⟨(out, false), Ev.step hl0 (k1 (.inl hk)), .inr ⟨rfl, by rw [hsd, hk]⟩⟩
     | some xn =>
      obtain ⟨x, n⟩ := xn
      have hko := keyD_ok hk
      rw [List.length_drop] at hko
      obtain ⟨r, hr, ht⟩ := ih (p + n) (out ++ [x]) (by omega) (by omega) ⟨by rw [List.length_append, List.length_singleton]; omega, fun y hy => by
       rcases List.mem_append.1 hy with hy | hy
       ·exact ho.2 y hy
       ·rw [List.mem_singleton.1 hy]; exact hko.2.2.1⟩
      refine ⟨r, Ev.step hl0 (k2 x n r hk h20 hr), ?_⟩
      rw [hsd, hk]
      simp only
      rw [List.drop_drop]
      exact ht
   by_cases hN : bl (upT w) = [78, 79, 84]
   ·have hbd : bodyD (words.drop i) = (true, words.drop (i + 1)) := by rw [hdr, bodyD_cons, if_pos hN]
    by_cases hend : i + 1 = words.length
    ·refine ⟨(out, false), Ev.step (f := fun _ => some _) (fun k => ?_) (Ev.now _), .inr ⟨rfl, ?_⟩⟩
     ·simp only [spec_l11Search.l0, hrd, hu, bS, tl_iff, w1]
      rw [if_pos (by omega), if_pos (by omega), if_pos hN, if_pos (by omega)]
     ·rw [hsd, hbd]
      simp only
      rw [List.drop_eq_nil_of_le (by omega)]
      split <;> rfl
    ·refine body true (i + 1) (by omega) (by omega) hbd (fun k => ?_)
     simp only [spec_l11Search.l0, hrd, hu, bS, tl_iff, w1]
     rw [if_pos (by omega), if_pos (by omega), if_pos hN, if_neg (by omega)]
   ·have hbd : bodyD (words.drop i) = (false, words.drop i) := by rw [hdr, bodyD_cons, if_neg hN]
    refine body false i hlt (Nat.le_refl _) hbd (fun k => ?_)
    simp only [spec_l11Search.l0, hrd, hu, bS, tl_iff]
    rw [if_pos (by omega), if_pos (by omega), if_neg hN]
  ·rw [List.drop_eq_nil_of_le (by omega)]
   refine ⟨(out, decide ((out.length : Int) > 0)), Ev.step (f := fun _ => some _) (fun k => by simp only [spec_l11Search.l0]; rw [if_neg (by omega)]) (Ev.now _), ?_⟩
   unfold searchD
   rw [if_pos rfl]
   exact tells_end out
theorem search_both (words : List ByteArray) (hS : Small words) : ∃ r : List KeyS × Int, Ev (fun k => spec_ReadSearch.f k words) r ∧ Ev (fun k => impl_ReadSearch.f k words) r ∧ Few r.1 := by
 have few0 : Few ([] : List KeyS) := ⟨Nat.zero_le _, fun x hx => by cases hx⟩
 by_cases h : (words.length : Int) > 4096
 ·exact ⟨([], 2), ⟨0, fun k _ => by simp only [spec_ReadSearch.f]; exact if_pos h⟩, ⟨0, fun k _ => by simp only [impl_ReadSearch.f]; exact if_pos h⟩, few0⟩
 ·obtain ⟨a, ⟨K1, h1⟩, t1⟩ := specSearch words hS words.length 0 [] (by omega) (by omega) few0
  obtain ⟨b, ⟨K2, h2⟩, t2⟩ := implSearch words.length words [] (Nat.le_refl _) hS few0
  rw [List.drop_zero] at t1
  have h1' : ∀ k, K1 ≤ k → spec_l11Search.l0 k words [] 0 = some a := h1
  have h2' : ∀ k, K2 ≤ k → impl_readSearch.l0 k words [] = some b := h2
  cases hd : searchD words.length words [] with
  | none =>
   rw [hd] at t1 t2
   have ha : a.2 = false := by rcases t1 with ⟨_, q⟩ | ⟨q, _⟩; cases q; exact q
   have hb : b.2 = false := by rcases t2 with ⟨_, q⟩ | ⟨q, _⟩; cases q; exact q
   refine ⟨([], 3), ⟨K1, fun k hk => ?_⟩, ⟨K2, fun k hk => ?_⟩, few0⟩
   ·simp only [spec_ReadSearch.f, spec_l11Search.f, h1' k hk, bS, ha]; rw [if_neg h, if_neg (by decide)]
   ·simp only [impl_ReadSearch.f, impl_readSearch.f, h2' k hk, bS, hb]; rw [if_neg h, if_neg (by decide)]
  | some r =>
   rw [hd] at t1 t2
   have ha : a.2 = true ∧ r = a.1 := by rcases t1 with ⟨p, q⟩ | ⟨_, q⟩; exact ⟨p, Option.some.inj q⟩; cases q
   have hb : b.2 = true ∧ r = b.1 := by rcases t2 with ⟨p, q⟩ | ⟨_, q⟩; exact ⟨p, Option.some.inj q⟩; cases q
   refine ⟨(r, 0), ⟨K1, fun k hk => ?_⟩, ⟨K2, fun k hk => ?_⟩, search_few _ _ _ few0 r hd⟩
   ·simp only [spec_ReadSearch.f, spec_l11Search.f, h1' k hk, bS, ha.1, ← ha.2]; rw [if_neg h, if_pos trivial]
   ·simp only [impl_ReadSearch.f, impl_readSearch.f, h2' k hk, bS, hb.1, ← hb.2]; rw [if_neg h, if_pos trivial]
end Go.Proofs.YtoieoimfkimedaaDoor.P
/- The pure statement of the law FnExactReadSearch: the two ReadSearch tell the same, in memory of their own. No condition. -/
set_option linter.unusedVariables false
set_option linter.unusedSimpArgs false
namespace Go.Proofs.YtoieoimfkimedaaDoor.Pure
open Go.RowKit Go.Proofs.YtoieoimfkimedaaDoor.P Go.Proofs.YtoieoimfkimedaaDoorW.PrintWords
theorem FnExactReadSearch : laws_FnExactReadSearch.Pure := by
 intro xs hx
 have hm : maxLen = 9223372036854775807 ∨ True := .inr trivial
 have hxl : xs.length ≤ 8796093022208 := by have := hx.2.1; omega
 obtain ⟨z, ⟨K0, hz⟩, hsm⟩ := szS_ok xs (by omega) (fun y hy => by have := hx.2.2 y hy; omega)
 have hz' : ∀ k, K0 ≤ k → laws_szStringS.f k xs 1048576 = some z := hz
 by_cases hneg : z < 0
 ·refine ⟨K0, ?_⟩
  simp only [laws_FnExactReadSearch.f, hz' K0 (Nat.le_refl _), bS]
  rw [if_pos hneg]
 ·obtain ⟨hl, hs⟩ := hsm (by omega)
  obtain ⟨K1, h1⟩ := toStringS_ev xs (by omega)
  obtain ⟨⟨r, c⟩, ⟨K2, h2⟩, ⟨K3, h3⟩, hf⟩ := search_both xs ⟨hl, hs⟩
  obtain ⟨K4, h4⟩ := eqK_self r hf
  obtain ⟨K5, h5⟩ := eqS_self xs (by omega)
  obtain ⟨K6, h6⟩ := markS_ev xs 1 (by omega) (by omega)
  obtain ⟨K7, h7⟩ := markK_ev r hf
  obtain ⟨K8, h8⟩ := heldK_ev r hf
  have hge := mkn_ge r 1
  simp only at h1 h2 h3 h4 h5 h6 h7 h8
  rw [show ((1 : Nat) : Int) = 1 from rfl] at h6
  have hb : (c != c) = false := by simp
  obtain ⟨N, hN⟩ : ∃ N, N = K0 + K1 + K2 + K3 + K4 + K5 + K6 + K7 + K8 := ⟨_, rfl⟩
  have e2 : ∀ j, N ≤ j → laws_FnExactReadSearch.j2 (j + 1) (mks 1 r) ((mkn 1 r : Nat) : Int) false = some true := fun j hj => by
   simp only [laws_FnExactReadSearch.j2, h8 j (by omega), bS]
   rw [if_neg (by decide), if_neg (by omega), if_pos trivial]
  have e1 : ∀ j, N ≤ j → laws_FnExactReadSearch.j1 (j + 1 + 1) xs r c r false = some true := fun j hj => by
   have a1 := h1 (j + 1) (by omega)
   have a3 := h3 (j + 1) (by omega)
   have a4 := h4 (j + 1) (by omega)
   have a7 := h7 (j + 1) (by omega)
   have a8 := h8 (j + 1) (by omega)
   have a2 := e2 j hj
   generalize j + 1 = q at *
   simp only [laws_FnExactReadSearch.j1, a7, a8, a1, a3, a4, bS, hb]
   rw [if_neg (by decide), if_neg (by omega), if_pos trivial, if_pos trivial]
   exact a2
  have e0 : ∀ j, N ≤ j → laws_FnExactReadSearch.j0 (j + 1 + 1 + 1) xs r c xs r c false = some true := fun j hj => by
   have a1 := h1 (j + 1 + 1) (by omega)
   have a4 := h4 (j + 1 + 1) (by omega)
   have a5 := h5 (j + 1 + 1) (by omega)
   have a6 := h6 (j + 1 + 1) (by omega)
   have a2 := e1 j hj
   generalize j + 1 + 1 = q at *
   simp only [laws_FnExactReadSearch.j0, a1, a4, a5, a6, bS, hb]
   rw [if_neg (by decide), if_pos trivial, if_neg (by omega), if_pos trivial]
   exact a2
  refine ⟨N + 3, ?_⟩
  have a0 := hz' (N + 3) (by omega)
  have a1 := h1 (N + 3) (by omega)
  have a2 := h2 (N + 3) (by omega)
  have a3 := h3 (N + 3) (by omega)
  have a4 := h4 (N + 3) (by omega)
  have a5 : laws_FnExactReadSearch.j0 (N + 3) xs r c xs r c false = some true := e0 N (Nat.le_refl _)
  generalize N + 3 = q at *
  simp only [laws_FnExactReadSearch.f, a0, a1, a2, a3, a4, bS, hb]
  rw [if_neg hneg, if_pos trivial]
  exact a5
end Go.Proofs.YtoieoimfkimedaaDoor.Pure
