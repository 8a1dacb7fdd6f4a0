/- Part 8 of what the law FnTake stands on; the last part ends with the law's row. No condition of mine. -/
import Derived.Test.YtcmifdcgmalnlaaDoorMFnTake7
import Derived.Test.YtcmifdcgmalnlaaDoorMFnTake3
import Derived.Test.YtcmifdcgmalnlaaDoorMFnTake5
import Derived.Test.YtcmifdcgmalnlaaDoorMFnTake1
/- Lemmas of mine: a literal's length at a line's end; a command's end among lines. Plain. -/
set_option linter.unusedVariables false
set_option linter.unusedSimpArgs false
namespace Go.Proofs.YtcmifdcgmalnlaaDoor.P
open Go.RowKit Go.Proofs.YtcmifdcgmalnlaaDoorW.PrintWords
theorem isC (b c : UInt8) (n : Int) (hn : (c.toNat : Int) = n) : ((b.toNat : Int) = n) ↔ b = c := by
 rw [← hn]; exact byte_iff b c
/-- Where a scan that goes down over n bytes meets '{'. -/
def lastI (L : List UInt8) : Nat → Int
 | 0 => -1
 | n + 1 => if L[n]? = some 123 then (n : Int) else lastI L n
theorem lastI_facts (L : List UInt8) : ∀ n, (lastI L n = -1 ∧ ∀ j, j < n → ¬ L[j]? = some 123) ∨ ∃ t : Nat, lastI L n = (t : Int) ∧ t < n ∧ L[t]? = some 123 ∧ ∀ j, t < j → j < n → ¬ L[j]? = some 123
 | 0 => .inl ⟨rfl, fun j h => absurd h (Nat.not_lt_zero _)⟩
 | n + 1 => by
  unfold lastI
  by_cases h : L[n]? = some 123
  ·rw [if_pos h]
   exact .inr ⟨n, rfl, Nat.lt_succ_self _, h, fun j h1 h2 => by omega⟩
  ·rw [if_neg h]
   rcases lastI_facts L n with ⟨h1, h2⟩ | ⟨t, h1, h2, h3, h4⟩
   ·exact .inl ⟨h1, fun j hj => by
     by_cases e : j = n
     ·rw [e]; exact h
     ·exact h2 j (by omega)⟩
   ·exact .inr ⟨t, h1, by omega, h3, fun j hj hj2 => by
     by_cases e : j = n
     ·rw [e]; exact h
     ·exact h4 j hj (by omega)⟩
theorem lastB_l0 (s : ByteArray) (hs : s.size ≤ 4611686018427387904) : ∀ n : Nat, n ≤ s.size → Ev (fun k => bytealg_LastIndexByteString.l0 k s 123 ((n : Int) - 1)) (lastI (bl s) n) := by
 have hsz := bl_size s
 intro n
 induction n with
 | zero =>
  intro _
  refine Ev.step (f := fun _ => some _) (fun k => ?_) (Ev.now _)
  simp only [bytealg_LastIndexByteString.l0]
  rw [if_neg (by omega)]
  rfl
 | succ n ih =>
  intro hn
  have hlt : n < (bl s).length := by omega
  have hv := bt_eq s n hlt
  have hg : (bl s)[n]? = some (bl s)[n] := List.getElem?_eq_getElem hlt
  have e : (((n + 1 : Nat) : Int)) - 1 = (n : Int) := by omega
  unfold lastI
  rw [hg, e]
  by_cases h : (bl s)[n] = 123
  ·rw [if_pos (congrArg some h)]
   refine Ev.step (f := fun _ => some _) (fun k => ?_) (Ev.now _)
   simp only [bytealg_LastIndexByteString.l0, hv]
   rw [if_pos (by omega), if_pos (by omega), if_pos (by omega), if_pos (by rw [h]; rfl)]
  ·rw [if_neg (fun q => h (Option.some.inj q))]
   refine Ev.step (fun k => ?_) (ih (by omega))
   simp only [bytealg_LastIndexByteString.l0, hv]
   rw [if_pos (by omega), if_pos (by omega), if_pos (by omega), if_neg (fun q => h ((isC _ 123 123 rfl).1 q)), w64 (by omega) (by omega)]
theorem lastB_ev (s : ByteArray) (hs : s.size ≤ 4611686018427387904) : Ev (fun k => strings_LastIndexByte.f k s 123) (lastI (bl s) s.size) := by
 refine Ev.congr (f := fun k => (bytealg_LastIndexByteString.l0 k s 123 ((s.size : Int) - 1)).bind fun t => some t) (fun k => ?_) (Ev.bind (lastB_l0 s hs s.size (Nat.le_refl _)) (Ev.now _))
 simp only [strings_LastIndexByte.f, bytealg_LastIndexByteString.f]
 rw [w64 (by omega) (by omega)]
/-- What the reference tells where its scan stops. -/
noncomputable def finL (L : List UInt8) (m k : Nat) : Int × Bool := if L[k]? = some 123 ∧ m - k ≤ 6 then numO ((L.drop (k + 1)).take (m - k)) else (0, false)
noncomputable def litS (L : List UInt8) (m : Nat) : Nat → Int × Bool
 | 0 => finL L m 0
 | k + 1 => if (L[k + 1]?.map isDig) = some true then litS L m k else finL L m (k + 1)
theorem numIn (s : ByteArray) (k m : Nat) (hk : k ≤ m) (hm : m + 2 = s.size) (hs : s.size ≤ 4611686018427387904) :
  Ev (fun q => (spec_l00Number.f q (s.extract ((wrap64 ((k : Int) + 1)) : Int).toNat ((wrap64 ((s.size : Int) - 1)) : Int).toNat)).bind fun bt101 => some (bt101.1, bt101.2)) (numO (((bl s).drop (k + 1)).take (m - k))) := by
 have hsz := bl_size s
 rw [w64s k (by omega), w64 (n := (s.size : Int) - 1) (by omega) (by omega)]
 have e : bl (s.extract (((k + 1 : Nat) : Int)).toNat ((s.size : Int) - 1).toNat) = ((bl s).drop (k + 1)).take (m - k) := by
  rw [bl_extract]
  congr 1
  ·omega
 have h := specNum_ev (s.extract (((k + 1 : Nat) : Int)).toNat ((s.size : Int) - 1).toNat) (by rw [bl_size, bl_extract, List.length_take, List.length_drop]; omega)
 rw [e] at h
 exact Ev.bind h (Ev.now _)
theorem specLit_l0 (s : ByteArray) (m : Nat) (hm : m + 2 = s.size) (hs : s.size ≤ 4611686018427387904) : ∀ k : Nat, k ≤ m → Ev (fun q => spec_l12Literal.l0 q s (k : Int)) (litS (bl s) m k) := by
 have hsz := bl_size s
 have hfin : ∀ k : Nat, k ≤ m → ∀ b : UInt8, (bl s)[k]? = some b → Ev (fun q => if (b.toNat : Int) = 123 then (if (wrap64 ((wrap64 ((s.size : Int) - 2)) - (k : Int))) > 6 then (some (0, false)) else (if 0 ≤ (wrap64 ((k : Int) + 1)) then (if (wrap64 ((k : Int) + 1)) ≤ (wrap64 ((s.size : Int) - 1)) then (if (wrap64 ((s.size : Int) - 1)) ≤ (s.size : Int) then ((spec_l00Number.f q (s.extract ((wrap64 ((k : Int) + 1)) : Int).toNat ((wrap64 ((s.size : Int) - 1)) : Int).toNat)).bind fun bt101 => (some (bt101.1, bt101.2))) else (none)) else (none)) else (none))) else (some (0, false))) (finL (bl s) m k) := by
  intro k hk b hb
  have e2 : wrap64 ((s.size : Int) - 2) = (m : Int) := by rw [w64 (by omega) (by omega)]; omega
  have e3 : wrap64 ((m : Int) - (k : Int)) = ((m - k : Nat) : Int) := w64sub m k hk (by omega)
  have e1 : wrap64 ((s.size : Int) - 1) = (s.size : Int) - 1 := w64 (by omega) (by omega)
  have e4 : wrap64 ((k : Int) + 1) = ((k + 1 : Nat) : Int) := w64s k (by omega)
  unfold finL
  rw [hb]
  by_cases h : b = 123
  ·have h' : (b.toNat : Int) = 123 := by rw [h]; rfl
   by_cases h6 : m - k ≤ 6
   ·rw [if_pos ⟨congrArg some h, h6⟩]
    refine Ev.congr (fun q => ?_) (numIn s k m hk hm hs)
    rw [if_pos h', e2, e3, if_neg (by omega), if_pos (by rw [e4]; omega), if_pos (by rw [e4, e1]; omega), if_pos (by rw [e1]; omega)]
   ·rw [if_neg (fun q => h6 q.2)]
    refine Ev.congr (fun q => ?_) (Ev.now _)
    rw [if_pos h', e2, e3, if_pos (by omega)]
  ·rw [if_neg (fun q => h (Option.some.inj q.1))]
   refine Ev.congr (fun q => ?_) (Ev.now _)
   rw [if_neg (fun q => h ((isC b 123 123 rfl).1 q))]
 intro k
 induction k with
 | zero =>
  intro hk
  have hlt : 0 < (bl s).length := by omega
  have hv := bt_eq s 0 hlt
  have hg : (bl s)[0]? = some (bl s)[0] := List.getElem?_eq_getElem hlt
  have hb := byte_lt (bl s)[0]
  have h := hfin 0 (Nat.zero_le _) (bl s)[0] hg
  unfold litS
  refine Ev.step (fun q => ?_) h
  simp only [spec_l12Literal.l0, hv]
  rw [if_neg (by omega), if_pos (by omega), if_pos (by omega)]
 | succ k ih =>
  intro hk
  have hlt : k + 1 < (bl s).length := by omega
  have hv := bt_eq s (k + 1) hlt
  have hg : (bl s)[k + 1]? = some (bl s)[k + 1] := List.getElem?_eq_getElem hlt
  have hb := byte_lt (bl s)[k + 1]
  have h := hfin (k + 1) hk (bl s)[k + 1] hg
  unfold litS
  rw [hg, Option.map_some]
  by_cases hd : 48 ≤ (bl s)[k + 1].toNat ∧ (bl s)[k + 1].toNat ≤ 57
  ·rw [if_pos (congrArg some ((isDig_iff _).2 hd))]
   refine Ev.step (fun q => ?_) (ih (by omega))
   simp only [spec_l12Literal.l0, hv]
   rw [if_pos (by omega), if_pos (by omega), if_pos (by omega), if_pos (by omega), if_pos (by omega), w64 (by omega) (by omega), show (((k + 1 : Nat) : Int) - 1) = (k : Int) by omega]
  ·rw [if_neg (fun q => hd ((isDig_iff _).1 (Option.some.inj q)))]
   refine Ev.step (fun q => ?_) h
   simp only [spec_l12Literal.l0, hv]
   rw [if_pos (by omega), if_pos (by omega), if_pos (by omega)]
   by_cases h1 : ((bl s)[k + 1].toNat : Int) ≥ 48
   ·rw [if_pos h1, if_neg (by omega)]
   ·rw [if_neg h1]
theorem litS_none (L : List UInt8) (m : Nat) : ∀ k, (∀ j, j ≤ k → ¬ L[j]? = some 123) → litS L m k = (0, false)
 | 0, h => by unfold litS finL; exact if_neg (fun q => h 0 (Nat.le_refl _) q.1)
 | k + 1, h => by
  unfold litS
  split
  ·exact litS_none L m k fun j hj => h j (by omega)
  ·unfold finL; exact if_neg (fun q => h (k + 1) (Nat.le_refl _) q.1)
open Classical in
theorem litS_at (L : List UInt8) (m t : Nat) (ht : L[t]? = some 123) : ∀ d, (∀ j, t < j → j ≤ t + d → ¬ L[j]? = some 123) → litS L m (t + d) = if (∀ j, t < j → j ≤ t + d → (L[j]?.map isDig) = some true) then finL L m t else (0, false)
 | 0, _ => by
  rw [if_pos (fun j h1 h2 => by omega)]
  cases t with
  | zero => rfl
  | succ t =>
   show litS L m (t + 1) = _
   unfold litS
   rw [ht]
   exact if_neg (by decide)
 | d + 1, h => by
  have ih := litS_at L m t ht d fun j h1 h2 => h j h1 (by omega)
  show litS L m (t + d + 1) = _
  unfold litS
  by_cases hd : (L[t + d + 1]?.map isDig) = some true
  ·rw [if_pos hd, ih]
   by_cases ha : ∀ j, t < j → j ≤ t + d → (L[j]?.map isDig) = some true
   ·rw [if_pos ha, if_pos (fun j h1 h2 => by
     by_cases e : j = t + d + 1
     ·rw [e]; exact hd
     ·exact ha j h1 (by omega))]
   ·rw [if_neg ha, if_neg (fun q => ha fun j h1 h2 => q j h1 (by omega))]
  ·rw [if_neg hd, if_neg (fun q => hd (q (t + d + 1) (by omega) (by omega)))]
   unfold finL
   exact if_neg (fun q => h (t + d + 1) (by omega) (by omega) q.1)
theorem valF_ge : ∀ (l : List UInt8) (a : Nat), a ≤ valF a l
 | [], _ => Nat.le_refl _
 | b :: l, a => Nat.le_trans (by omega) (valF_ge l (a * 10 + (b.toNat - 48)))
/-- A good number without a sign is digits alone; with a sign it is less than nought. -/
theorem good_dig (l : List UInt8) (h : goodN l) : (l.all isDig = true ∧ 0 ≤ valN l) ∨ (l.all isDig = false ∧ valN l < 0) := by
 by_cases h45 : l[0]? = some 45
 ·refine .inr ⟨?_, ?_⟩
  ·cases l with
   | nil => cases h45
   | cons a r => rw [Option.some.inj h45]; rfl
  ·unfold valN
   rw [if_pos h45]
   have h1 := h.1.1
   have hd := h.2.2
   have h0 := h.2.1
   cases hl : digN l with
   | nil => rw [hl] at h1; exact absurd h1 (by decide)
   | cons a r =>
    rw [hl] at hd h0
    rw [List.all_cons, Bool.and_eq_true, isDig_iff] at hd
    have ha : a.toNat ≠ 48 := fun e => h0 ⟨congrArg some (UInt8.toNat_inj.1 (e.trans rfl)), .inr h45⟩
    have hge := valF_ge r (0 * 10 + (a.toNat - 48))
    have : valF 0 (a :: r) = valF (0 * 10 + (a.toNat - 48)) r := rfl
    omega
 ·refine .inl ⟨?_, ?_⟩
  ·have := h.2.2
   unfold digN at this
   rw [if_neg h45] at this
   exact this
  ·unfold valN
   rw [if_neg h45]
   exact Int.natCast_nonneg _
theorem valN_lt (l : List UInt8) (h : goodN l) : valN l < 1000000000000000000 := by
 have := valF_lt l h
 unfold valN
 split <;> omega
/-- What both tell of a line: the same word on whether it says a length; if so the same length. -/
def LitBoth (p q : Int × Bool) : Prop := p.2 = q.2 ∧ (p.2 = true → p.1 = q.1 ∧ 0 ≤ p.1 ∧ p.1 < 1000000000000000000)
theorem lit_both (s : ByteArray) (hs : s.size ≤ 4611686018427387904) : ∃ p q, Ev (fun k => spec_l12Literal.f k s) p ∧ Ev (fun k => impl_literal.f k s) q ∧ LitBoth p q := by
 classical
 have hsz := bl_size s
 have hlast := lastB_ev s hs
 have hjt : Ev (fun k => spec_l12Literal.j0 k s true) (0, false) := Ev.step (f := fun _ => some _) (fun k => by simp only [spec_l12Literal.j0]; exact if_pos trivial) (Ev.now _)
 -- the reference: what it says at each line
 have hspec : Ev (fun k => spec_l12Literal.f k s) (if 3 ≤ s.size ∧ (bl s)[s.size - 1]? = some 125 then litS (bl s) (s.size - 2) (s.size - 2) else (0, false)) := by
  by_cases h3 : 3 ≤ s.size
  ·have hlt : s.size - 1 < (bl s).length := by omega
   have hv := bt_eq s (s.size - 1) hlt
   have hg : (bl s)[s.size - 1]? = some (bl s)[s.size - 1] := List.getElem?_eq_getElem hlt
   have e1 : wrap64 ((s.size : Int) - 1) = ((s.size - 1 : Nat) : Int) := by rw [w64 (by omega) (by omega)]; omega
   by_cases h : (bl s)[s.size - 1] = 125
   ·rw [if_pos ⟨h3, by rw [hg, h]⟩]
    have hl := specLit_l0 s (s.size - 2) (by omega) hs (s.size - 2) (Nat.le_refl _)
    refine Ev.congr (f := fun k => spec_l12Literal.j0 k s false) (fun k => ?_) (Ev.step (fun k => ?_) hl)
    ·simp only [spec_l12Literal.f]
     rw [if_neg (by omega), e1, hv, h, if_pos (by omega), if_pos (by omega)]
     rfl
    ·simp only [spec_l12Literal.j0]
     rw [if_neg (by decide), w64 (by omega) (by omega), show ((s.size : Int) - 2) = ((s.size - 2 : Nat) : Int) by omega]
   ·rw [if_neg (fun q => h (by have := q.2; rw [hg] at this; exact Option.some.inj this))]
    refine Ev.congr (fun k => ?_) hjt
    simp only [spec_l12Literal.f]
    have hne : (((bl s)[s.size - 1].toNat : Int) != 125) = true := bne_iff_ne.mpr fun q => h ((isC _ 125 125 rfl).1 q)
    rw [if_neg (by omega), e1, hv, hne, if_pos (by omega), if_pos (by omega)]
  ·rw [if_neg (fun q => h3 q.1)]
   refine Ev.congr (fun k => ?_) hjt
   simp only [spec_l12Literal.f]
   rw [if_pos (by omega)]
 rcases lastI_facts (bl s) s.size with ⟨hl, hno⟩ | ⟨t, hl, htlt, ht, hafter⟩
 ·rw [hl] at hlast
  refine ⟨_, (0, false), hspec, ?_, ?_⟩
  ·refine Ev.congr (fun k => rfl) (Ev.bind hlast (Ev.congr (fun k => ?_) (Ev.now _)))
   exact if_pos (by decide)
  ·have e : (if 3 ≤ s.size ∧ (bl s)[s.size - 1]? = some 125 then litS (bl s) (s.size - 2) (s.size - 2) else (0, false)) = ((0, false) : Int × Bool) := by
    split
    ·exact litS_none _ _ _ fun j hj => hno j (by omega)
    ·rfl
   rw [e]
   exact ⟨rfl, fun h => by cases h⟩
 ·rw [hl] at hlast
  -- what follows the brace
  obtain ⟨a, ha⟩ : ∃ a : ByteArray, s.extract (t + 1) s.size = a := ⟨_, rfl⟩
  have hal : bl a = (bl s).drop (t + 1) := by rw [← ha, bl_extract]; exact List.take_of_length_le (by rw [List.length_drop]; omega)
  have has : a.size = s.size - (t + 1) := by rw [bl_size, hal, List.length_drop]; omega
  have hcut := cutSuf a 125 (by omega)
  have hat : ∀ j, (bl a)[j]? = (bl s)[t + 1 + j]? := fun j => by rw [hal, List.getElem?_drop]
  by_cases hend : 1 ≤ a.size ∧ (bl a)[a.size - 1]? = some 125
  ·rw [if_pos hend] at hcut
   obtain ⟨d, hd⟩ : ∃ d : ByteArray, a.extract 0 (a.size - 1) = d := ⟨_, rfl⟩
   rw [hd] at hcut
   have hdl : bl d = ((bl s).drop (t + 1)).take (s.size - 2 - t) := by
    rw [← hd, bl_extract, hal, List.drop_zero]
    congr 1
    omega
   have hds : d.size = s.size - 2 - t := by rw [bl_size, hdl, List.length_take, List.length_drop]; omega
   have hnum := implNum_ev d (by omega)
   have himpl : Ev (fun k => impl_literal.f k s) (if (numO (bl d)).2 = true then (if (numO (bl d)).1 ≥ 0 then ((numO (bl d)).1, decide ((d.size : Int) ≤ 6)) else ((numO (bl d)).1, false)) else ((numO (bl d)).1, false)) := by
    refine Ev.congr (fun k => rfl) (Ev.bind hlast (Ev.congr (f := fun k => (impl_number.f k d).bind fun bt104 => if bt104.2 = true then (if bt104.1 ≥ 0 then (some (bt104.1, decide ((d.size : Int) ≤ 6))) else (some (bt104.1, false))) else (some (bt104.1, false))) (fun k => ?_) (Ev.bind hnum (Ev.congr (fun k => ?_) (Ev.now _)))))
    ·have e1 : (((t + 1 : Nat) : Int)).toNat = t + 1 := Int.toNat_natCast _
     rw [if_neg (by omega), w64s t (by omega), if_pos (by omega), if_pos (by omega), e1, ha, hcut, bS]
     rfl
    ·split
     ·split <;> rfl
     ·rfl
   have hlast125 : (bl s)[s.size - 1]? = some 125 := by
    have := hend.2
    rw [hat, show t + 1 + (a.size - 1) = s.size - 1 by omega] at this
    exact this
   refine ⟨_, _, hspec, himpl, ?_⟩
   have hfinL : 3 ≤ s.size → litS (bl s) (s.size - 2) (s.size - 2) = if (bl d).all isDig = true then (if d.size ≤ 6 then numO (bl d) else (0, false)) else (0, false) := by
    intro h3
    have h := litS_at (bl s) (s.size - 2) t ht (s.size - 2 - t) fun j h1 h2 => hafter j h1 (by omega)
    rw [show t + (s.size - 2 - t) = s.size - 2 by omega] at h
    rw [h]
    have hiff : (∀ j, t < j → j ≤ s.size - 2 → ((bl s)[j]?.map isDig) = some true) ↔ (bl d).all isDig = true := by
     have hget : ∀ j, j < d.size → (bl d)[j]? = (bl s)[t + 1 + j]? := fun j hj => by
      rw [hdl, List.getElem?_take, if_pos (by omega), List.getElem?_drop]
     constructor
     ·intro H
      refine List.all_eq_true.2 fun x hx => ?_
      obtain ⟨j, hj, rfl⟩ := List.mem_iff_getElem.1 hx
      have hj' : j < d.size := by rw [bl_size]; exact hj
      have := H (t + 1 + j) (by omega) (by omega)
      rw [← hget j hj', List.getElem?_eq_getElem hj] at this
      exact Option.some.inj this
     ·intro H j h1 h2
      have hj : j - (t + 1) < d.size := by omega
      have := hget (j - (t + 1)) hj
      rw [show t + 1 + (j - (t + 1)) = j by omega] at this
      have hj2 : j - (t + 1) < (bl d).length := by rw [← bl_size]; exact hj
      rw [← this, List.getElem?_eq_getElem hj2, Option.map_some]
      exact congrArg some (List.all_eq_true.1 H _ (List.getElem_mem hj2))
    by_cases hall : (bl d).all isDig = true
    ·rw [if_pos (hiff.2 hall), if_pos hall]
     unfold finL
     by_cases h6 : d.size ≤ 6
     ·rw [if_pos ⟨ht, by omega⟩, if_pos h6, hdl]
     ·rw [if_neg (fun q => h6 (by have := q.2; omega)), if_neg h6]
    ·rw [if_neg (fun q => hall (hiff.1 q)), if_neg hall]
   by_cases hg : goodN (bl d)
   ·have hpos : 1 ≤ (bl d).length := by
     have := hg.1.1
     unfold digN at this
     split at this
     ·rw [List.length_drop] at this; omega
     ·exact this
    rw [← bl_size] at hpos
    rw [if_pos ⟨by omega, hlast125⟩, hfinL (by omega), numO_good _ hg]
    have hlt := valN_lt _ hg
    rcases good_dig _ hg with ⟨h1, h2⟩ | ⟨h1, h2⟩
    ·rw [if_pos h1, if_pos rfl, if_pos h2]
     by_cases h6 : d.size ≤ 6
     ·rw [if_pos h6, decide_eq_true (by omega)]
      exact ⟨rfl, fun _ => ⟨rfl, h2, hlt⟩⟩
     ·rw [if_neg h6, decide_eq_false (by omega)]
      exact ⟨rfl, fun h => by cases h⟩
    ·rw [if_neg (by rw [h1]; decide), if_pos rfl, if_neg (by omega)]
     exact ⟨rfl, fun h => by cases h⟩
   ·have e : (if 3 ≤ s.size ∧ (bl s)[s.size - 1]? = some 125 then litS (bl s) (s.size - 2) (s.size - 2) else (0, false)) = ((0, false) : Int × Bool) := by
     split
     ·rename_i h
      rw [hfinL h.1, numO_bad _ hg]
      split
      ·split <;> rfl
      ·rfl
     ·rfl
    rw [e, numO_bad _ hg]
    exact ⟨rfl, fun h => by cases h⟩
  ·rw [if_neg hend] at hcut
   obtain ⟨v, hv⟩ : ∃ v, numO (bl a) = v := ⟨_, rfl⟩
   have hnum := implNum_ev a (by omega)
   rw [hv] at hnum
   have himpl : Ev (fun k => impl_literal.f k s) (v.1, false) := by
    refine Ev.congr (fun k => rfl) (Ev.bind hlast (Ev.congr (f := fun k => (impl_number.f k a).bind fun bt104 => some (bt104.1, false)) (fun k => ?_) (Ev.bind hnum (Ev.now _))))
    have e1 : (((t + 1 : Nat) : Int)).toNat = t + 1 := Int.toNat_natCast _
    rw [if_neg (by omega), w64s t (by omega), if_pos (by omega), if_pos (by omega), e1, ha, hcut, bS]
    rfl
   refine ⟨_, _, hspec, himpl, ?_⟩
   rw [if_neg (fun q => hend (by
    have ht' : (bl s)[s.size - 1]? = some 125 := q.2
    have hne : t ≠ s.size - 1 := fun e => by rw [← e, ht] at ht'; exact absurd (Option.some.inj ht') (by decide)
    refine ⟨by omega, ?_⟩
    rw [hat, show t + 1 + (a.size - 1) = s.size - 1 by omega]
    exact ht'))]
   exact ⟨rfl, fun h => by cases h⟩
/-- A line's end stands at place j. -/
def crlf (L : List UInt8) (j : Nat) : Prop := L[j]? = some 13 ∧ L[j + 1]? = some 10
theorem occ_iff (L : List UInt8) (j : Nat) : Lib.occAt L [13, 10] j = true ↔ crlf L j := by
 unfold Lib.occAt crlf
 have h0 : L[j]? = (L.drop j)[0]? := by rw [List.getElem?_drop]; rfl
 have h1 : L[j + 1]? = (L.drop j)[1]? := by rw [List.getElem?_drop]
 rw [h0, h1]
 generalize L.drop j = d
 cases d with
 | nil => simp
 | cons a d =>
  cases d with
  | nil => simp [List.isPrefixOf]
  | cons b d =>
   simp only [List.isPrefixOf, Bool.and_true, Bool.and_eq_true, beq_iff_eq, List.getElem?_cons_zero, List.getElem?_cons_succ, Option.some.injEq]
   exact ⟨fun h => ⟨h.1.symm, h.2.symm⟩, fun h => ⟨h.1.symm, h.2.symm⟩⟩
theorem least {P : Nat → Prop} (h : ∃ n, P n) : ∃ n, P n ∧ ∀ j, j < n → ¬ P j := by
 classical
 obtain ⟨n, hn⟩ := h
 induction n using Nat.strongRecOn with
 | _ n ih =>
  by_cases hj : ∃ j, j < n ∧ P j
  ·obtain ⟨j, h1, h2⟩ := hj
   exact ih j h1 h2
  ·exact ⟨n, hn, fun j h1 h2 => hj ⟨j, h1, h2⟩⟩
theorem crlf_lt {L : List UInt8} {j : Nat} (h : crlf L j) : j + 1 < L.length := by
 obtain ⟨hlt, _⟩ := List.getElem?_eq_some_iff.1 h.2
 exact hlt
theorem index_crlf (L : List UInt8) : (Lib.index L [13, 10] = -1 ∧ ∀ j, ¬ crlf L j) ∨ ∃ e : Nat, Lib.index L [13, 10] = (e : Int) ∧ crlf L e ∧ ∀ j, j < e → ¬ crlf L j := by
 classical
 by_cases h : ∃ j, crlf L j
 ·obtain ⟨e, he, hl⟩ := least h
  refine .inr ⟨e, Lib.index_first (by have := crlf_lt he; omega) ((occ_iff _ _).2 he) (fun j hj => ?_), he, hl⟩
  cases ho : Lib.occAt L [13, 10] j with
  | false => rfl
  | true => exact absurd ((occ_iff _ _).1 ho) (hl j hj)
 ·refine .inl ⟨Lib.index_none (fun j hj => ?_), fun j hj => h ⟨j, hj⟩⟩
  cases ho : Lib.occAt L [13, 10] j with
  | false => rfl
  | true => exact absurd ⟨j, (occ_iff _ _).1 ho⟩ h
theorem crlf_drop (L : List UInt8) (a j : Nat) : crlf (L.drop a) j ↔ crlf L (a + j) := by
 unfold crlf
 rw [List.getElem?_drop, List.getElem?_drop]
 exact Iff.rfl
/-- The scan goes on over what is no line's end. -/
theorem scan_on (s : ByteArray) (fr : Int) (hs : s.size ≤ 4611686018427387904) (e : Nat) {r : ByteArray × ByteArray × Int} (he : e ≤ 4001) (hr : Ev (fun q => spec_l12Take.l0 q s fr (e : Int)) r) :
  ∀ d k : Nat, k + d = e → (∀ j, k ≤ j → j < e → ¬ crlf (bl s) j) → (k < e → e < s.size) → Ev (fun q => spec_l12Take.l0 q s fr (k : Int)) r := by
 have hsz := bl_size s
 intro d
 induction d with
 | zero => intro k hk _ _; rw [show k = e by omega]; exact hr
 | succ d ih =>
  intro k hk hno hlt
  have hke : k < e := by omega
  have hes := hlt hke
  have h := ih (k + 1) (by omega) (fun j h1 h2 => hno j (by omega) h2) (fun _ => hes)
  have hj1 : Ev (fun q => spec_l12Take.j1 q s fr (k : Int) true) r := by
   refine Ev.step (fun q => ?_) h
   simp only [spec_l12Take.j1]
   rw [if_pos trivial, w64s k (by omega)]
  have h0 : k < (bl s).length := by omega
  have h1 : k + 1 < (bl s).length := by omega
  have v0 := bt_eq s k h0
  have v1 := bt_eq s (k + 1) h1
  refine Ev.step (fun q => ?_) hj1
  simp only [spec_l12Take.l0, v0]
  rw [w64s k (by omega), v1, if_pos (by omega), if_neg (by omega), if_pos (by omega), if_pos (by omega)]
  by_cases h13 : (bl s)[k] = 13
  ·rw [if_pos (by rw [h13]; rfl), if_pos (by omega)]
   have hne : (((bl s)[k + 1].toNat : Int) != 10) = true := bne_iff_ne.mpr fun q => hno k (Nat.le_refl _) hke ⟨by rw [List.getElem?_eq_getElem h0, h13], by rw [List.getElem?_eq_getElem h1]; exact congrArg some ((isC _ 10 10 rfl).1 q)⟩
   rw [hne]
  ·rw [if_neg (fun q => h13 ((isC _ 13 13 rfl).1 q))]
/-- What the reference tells from what the program tells: the end, or a code. -/
def takeR (s : ByteArray) (q : Int × Int) : ByteArray × ByteArray × Int := if q.2 = 0 then (s.extract 0 q.1.toNat, s.extract (q.1 + 2).toNat s.size, 0) else (⟨#[]⟩, s, q.2)
def takeOK (s : ByteArray) (q : Int × Int) : Prop := q.2 = 0 → 0 ≤ q.1 ∧ q.1 + 2 ≤ (s.size : Int)
/-- What follows a line's length in the program; in the reference. -/
def bodyI (s : ByteArray) (E k : Nat) (q : Int × Bool) : Option (Int × Int) := if q.2 = true then (if q.1 > 4000 then (impl_takeCommand.j1 k s (wrap64 (((E + 2 : Nat) : Int) + q.1)) true) else (impl_takeCommand.j1 k s (wrap64 (((E + 2 : Nat) : Int) + q.1)) (decide ((wrap64 (((E + 2 : Nat) : Int) + q.1)) > 4000)))) else (some ((E : Int), 0))
def bodyS (s : ByteArray) (E k : Nat) (p : Int × Bool) : Option (ByteArray × ByteArray × Int) := if p.2 = true then (if p.1 > 4000 then (some ((⟨#[]⟩ : ByteArray), s, 4)) else (spec_l12Take.l0 k s (wrap64 (((E + 2 : Nat) : Int) + p.1)) (wrap64 ((wrap64 ((wrap64 (((E + 2 : Nat) : Int) + p.1)) - 1)) + 1)))) else (some (s.extract 0 ((E : Nat) : Int).toNat, s.extract ((E + 2 : Nat) : Int).toNat s.size, 0))
theorem take_loop (s : ByteArray) (hs : s.size ≤ 1000000) : ∀ d at_ : Nat, 4001 ≤ at_ + d → at_ ≤ 4000 → at_ ≤ s.size →
  ∃ q, Ev (fun k => impl_takeCommand.l0 k s (at_ : Int)) q ∧ Ev (fun k => spec_l12Take.l0 k s (at_ : Int) (at_ : Int)) (takeR s q) ∧ takeOK s q := by
 have hsz := bl_size s
 intro d
 induction d with
 | zero => intro a h1 h2; omega
 | succ d ih =>
  intro a hd ha has
  have hrest : bl (s.extract (a : Int).toNat s.size) = (bl s).drop a := by
   rw [Int.toNat_natCast, bl_extract]; exact List.take_of_length_le (by rw [List.length_drop]; omega)
  have hrs : (s.extract (a : Int).toNat s.size).size ≤ s.size := by rw [bl_size, hrest, List.length_drop]; omega
  have hidx : strings_Index_2.f (s.extract (a : Int).toNat s.size) (⟨#[13, 10]⟩ : ByteArray) = some (Lib.index ((bl s).drop a) [13, 10]) := by
   unfold strings_Index_2.f
   rw [if_pos (by omega)]
   show some (Lib.index (bl (s.extract (a : Int).toNat s.size)) [13, 10]) = _
   rw [hrest]
  have htoo : a ≤ 4001 → 4002 < s.size → Ev (fun k => spec_l12Take.l0 k s (a : Int) ((4001 : Nat) : Int)) (takeR s (0, 4)) := by
   intro _ h
   refine Ev.step (f := fun _ => some _) (fun k => ?_) (Ev.now _)
   simp only [spec_l12Take.l0]
   rw [w64s 4001 (by omega), if_pos (by omega), if_pos (by omega)]
   rfl
  rcases index_crlf ((bl s).drop a) with ⟨hi, hno⟩ | ⟨e', hi, hat, hno⟩
  ·have hno' : ∀ j, a ≤ j → ¬ crlf (bl s) j := fun j hj h => hno (j - a) ((crlf_drop _ _ _).2 (by rw [show a + (j - a) = j by omega]; exact h))
   have himpl : Ev (fun k => impl_takeCommand.l0 k s (a : Int)) (if s.size > 4002 then (0, 4) else (0, 18)) := by
    refine Ev.step (f := fun _ => some _) (fun k => ?_) (Ev.now _)
    simp only [impl_takeCommand.l0, hidx, bS]
    rw [if_pos (by omega), if_pos (by omega), hi, if_pos (by decide)]
    by_cases h : s.size > 4002
    ·rw [if_pos (by omega), if_pos h]
    ·rw [if_neg (by omega), if_neg h]
   refine ⟨_, himpl, ?_, ?_⟩
   ·by_cases h : s.size > 4002
    ·rw [if_pos h]
     exact scan_on s a (by omega) 4001 (Nat.le_refl _) (htoo (by omega) h) (4001 - a) a (by omega) (fun j h1 _ => hno' j h1) (fun _ => by omega)
    ·rw [if_neg h]
     have hstop : ∀ x : Nat, s.size ≤ x + 1 → x ≤ 1000000 → Ev (fun k => spec_l12Take.l0 k s (a : Int) (x : Int)) (takeR s (0, 18)) := by
      intro x hx hx2
      refine Ev.step (f := fun _ => some _) (fun k => ?_) (Ev.now _)
      simp only [spec_l12Take.l0]
      rw [w64s x (by omega), if_neg (by omega), if_neg (by omega), if_neg (by omega)]
      rfl
     by_cases hax : s.size ≤ a + 1
     ·exact hstop a hax (by omega)
     ·exact scan_on s a (by omega) (s.size - 1) (by omega) (hstop (s.size - 1) (by omega) (by omega)) (s.size - 1 - a) a (by omega) (fun j h1 _ => hno' j h1) (fun _ => by omega)
   ·intro h
    split at h <;> cases h
  ·obtain ⟨e, rfl⟩ : ∃ e, e = a + e' := ⟨_, rfl⟩
   have hcr : crlf (bl s) (a + e') := (crlf_drop _ _ _).1 hat
   have hno' : ∀ j, a ≤ j → j < a + e' → ¬ crlf (bl s) j := fun j hj hj2 h => hno (j - a) (by omega) ((crlf_drop _ _ _).2 (by rw [show a + (j - a) = j by omega]; exact h))
   have hlt := crlf_lt hcr
   have hadd : Aside0 (wrap64 ((a : Int) + (e' : Int)) = ((a + e' : Nat) : Int)) := ⟨w64add a e' (by omega)⟩
   by_cases h4 : a + e' > 4000
   ·refine ⟨(0, 4), ?_, ?_, fun h => by cases h⟩
    ·refine Ev.step (f := fun _ => some _) (fun k => ?_) (Ev.now _)
     simp only [impl_takeCommand.l0, hidx, bS]
     rw [if_pos (by omega), if_pos (by omega), hi, if_neg (by omega), hadd.out, if_pos (by omega)]
    ·exact scan_on s a (by omega) 4001 (Nat.le_refl _) (htoo (by omega) (by omega)) (4001 - a) a (by omega) (fun j h1 h2 => hno' j h1 (by omega)) (fun _ => by omega)
   ·-- the line
    obtain ⟨p, q, hp, hq, hpq⟩ := lit_both (s.extract (a : Int).toNat ((a + e' : Nat) : Int).toNat) (by rw [bl_size, bl_extract, List.length_take, List.length_drop]; omega)
    have h0 : a + e' < (bl s).length := by omega
    have v0 := bt_eq s (a + e') h0
    have v1 := bt_eq s (a + e' + 1) hlt
    have b0 : (bl s)[a + e'] = 13 := by have := hcr.1; rw [List.getElem?_eq_getElem h0] at this; exact Option.some.inj this
    have b1 : (bl s)[a + e' + 1] = 10 := by have := hcr.2; rw [List.getElem?_eq_getElem hlt] at this; exact Option.some.inj this
    rw [b0] at v0
    rw [b1] at v1
    replace v0 : bt s ((a + e' : Nat) : Int) = 13 := v0
    replace v1 : bt s ((a + e' + 1 : Nat) : Int) = 10 := v1
    have hto : ∀ {r}, Ev (fun k => spec_l12Take.j1 k s (a : Int) ((a + e' : Nat) : Int) false) r → Ev (fun k => spec_l12Take.l0 k s (a : Int) (a : Int)) r := by
     intro r hr
     refine scan_on s a (by omega) (a + e') (by omega) (Ev.step (fun k => ?_) hr) e' a (by omega) hno' (fun _ => by omega)
     simp only [spec_l12Take.l0, v0]
     rw [w64s (a + e') (by omega), v1, if_pos (by omega), if_neg (by omega), if_pos (by omega), if_pos (by omega), if_pos trivial, if_pos (by omega)]
     rfl
    have e2 : Aside0 (wrap64 (((a + e' : Nat) : Int) + 2) = ((a + e' + 2 : Nat) : Int)) := ⟨by rw [w64 (by omega) (by omega)]; rfl⟩
    obtain ⟨hpq1, hpq2⟩ := hpq
    have hI : ∀ {r}, Ev (fun k => bodyI s (a + e') k q) r → Ev (fun k => impl_takeCommand.l0 k s (a : Int)) r := by
     intro r hr
     refine Ev.step (fun k => ?_) (Ev.bind (f := fun k q => bodyI s (a + e') k q) hq hr)
     simp only [impl_takeCommand.l0, hidx, bS]
     rw [if_pos (by omega), if_pos (by omega), hi, if_neg (by omega), hadd.out, if_neg (by omega), if_pos (by omega), if_pos (by omega), e2.out]
     rfl
    have hS : ∀ {r}, Ev (fun k => bodyS s (a + e') k p) r → Ev (fun k => spec_l12Take.l0 k s (a : Int) (a : Int)) r := by
     intro r hr
     refine hto (Ev.step (fun k => ?_) (Ev.bind (f := fun k p => bodyS s (a + e') k p) hp hr))
     simp only [spec_l12Take.j1]
     rw [if_neg (by decide), if_pos (by omega), if_pos (by omega), if_pos (by omega), if_pos (by omega), e2.out, if_pos (by omega), if_pos (by omega)]
     rfl
    cases hpb : p.2 with
    | false =>
     have hqb : q.2 = false := hpq1 ▸ hpb
     refine ⟨(((a + e' : Nat) : Int), 0), hI (Ev.congr (f := fun _ => some (((a + e' : Nat) : Int), 0)) (fun k => ?_) (Ev.now _)), ?_, fun _ => ?_⟩
     ·unfold bodyI
      rw [if_neg (by rw [hqb]; decide)]
     ·have e5 : takeR s (((a + e' : Nat) : Int), 0) = (s.extract 0 ((a + e' : Nat) : Int).toNat, s.extract ((a + e' + 2 : Nat) : Int).toNat s.size, 0) := by
       unfold takeR
       have e6 : (((a + e' : Nat) : Int)) + 2 = ((a + e' + 2 : Nat) : Int) := by omega
       rw [if_pos rfl, e6]
      rw [e5]
      refine hS (Ev.congr (f := fun _ => some (s.extract 0 ((a + e' : Nat) : Int).toNat, s.extract ((a + e' + 2 : Nat) : Int).toNat s.size, 0)) (fun k => ?_) (Ev.now _))
      unfold bodyS
      rw [if_neg (by rw [hpb]; decide)]
     ·have g1 : (0 : Int) ≤ ((a + e' : Nat) : Int) := by omega
      have g2 : ((a + e' : Nat) : Int) + 2 ≤ (s.size : Int) := by omega
      exact ⟨g1, g2⟩
    | true =>
     have hqb : q.2 = true := hpq1 ▸ hpb
     obtain ⟨hv, hv0, hv1⟩ := hpq2 hpb
     obtain ⟨n, hn⟩ : ∃ n : Nat, p.1 = (n : Int) := ⟨p.1.toNat, (Int.toNat_of_nonneg hv0).symm⟩
     have hqn : q.1 = (n : Int) := hv ▸ hn
     have hn1 : n < 1000000000000000000 := by omega
     obtain ⟨b, hb⟩ : ∃ b, b = a + e' + 2 + n := ⟨_, rfl⟩
     have e3 : Aside0 (wrap64 (((a + e' + 2 : Nat) : Int) + (n : Int)) = (b : Int)) := ⟨by rw [w64add _ _ (by omega), hb]⟩
     have e4 : Aside0 (wrap64 ((wrap64 ((b : Int) - 1)) + 1) = (b : Int)) := ⟨by
      rw [w64 (n := (b : Int) - 1) (by omega) (by omega), w64 (by omega) (by omega)]
      omega⟩
     by_cases hn4 : n > 4000
     ·refine ⟨(0, 4), hI (Ev.congr (f := fun k => impl_takeCommand.j1 k s (b : Int) true) (fun k => ?_) (Ev.step (f := fun _ => some (0, 4)) (fun k => ?_) (Ev.now _))), hS (Ev.congr (f := fun _ => some (takeR s (0, 4))) (fun k => ?_) (Ev.now _)), fun h => by cases h⟩
      ·unfold bodyI
       rw [if_pos hqb, hqn, e3.out, if_pos (by omega)]
      ·simp only [impl_takeCommand.j1]
       rw [if_pos trivial]
      ·unfold bodyS
       rw [if_pos hpb, hn, if_pos (by omega)]
       rfl
     ·have hI2 : ∀ {r}, Ev (fun k => impl_takeCommand.j1 k s (b : Int) (decide ((b : Int) > 4000))) r → Ev (fun k => impl_takeCommand.l0 k s (a : Int)) r := by
       intro r hr
       refine hI (Ev.congr (fun k => ?_) hr)
       unfold bodyI
       rw [if_pos hqb, hqn, e3.out, if_neg (by omega)]
      have hS2 : ∀ {r}, Ev (fun k => spec_l12Take.l0 k s (b : Int) (b : Int)) r → Ev (fun k => spec_l12Take.l0 k s (a : Int) (a : Int)) r := by
       intro r hr
       refine hS (Ev.congr (fun k => ?_) hr)
       unfold bodyS
       rw [if_pos hpb, hn, if_neg (by omega), e3.out, e4.out]
      by_cases hbig : b > 4000
      ·refine ⟨(0, 4), hI2 (Ev.step (f := fun _ => some (0, 4)) (fun k => ?_) (Ev.now _)), hS2 (Ev.step (f := fun _ => some (takeR s (0, 4))) (fun k => ?_) (Ev.now _)), fun h => by cases h⟩
       ·rw [decide_eq_true (show (b : Int) > 4000 by omega)]
        simp only [impl_takeCommand.j1]
        rw [if_pos trivial]
       ·simp only [spec_l12Take.l0]
        rw [w64s b (by omega)]
        by_cases hl : b + 1 < s.size
        ·rw [if_pos (by omega), if_pos (by omega)]
         rfl
        ·rw [if_neg (by omega)]
         by_cases hl2 : s.size > 4002
         ·rw [if_pos (by omega)]
          rfl
         ·rw [if_neg (by omega), if_pos (by omega)]
          rfl
      ·have hd4 : decide ((b : Int) > 4000) = false := decide_eq_false (by omega)
       have hI3 : ∀ {r}, Ev (fun k => impl_takeCommand.j1 k s (b : Int) false) r → Ev (fun k => impl_takeCommand.l0 k s (a : Int)) r := fun hr => hI2 (by rw [hd4]; exact hr)
       by_cases hpast : b > s.size
       ·refine ⟨(0, 18), hI3 (Ev.step (f := fun _ => some (0, 18)) (fun k => ?_) (Ev.now _)), hS2 (Ev.step (f := fun _ => some (takeR s (0, 18))) (fun k => ?_) (Ev.now _)), fun h => by cases h⟩
        ·simp only [impl_takeCommand.j1]
         rw [if_neg (by decide), if_pos (by omega)]
        ·simp only [spec_l12Take.l0]
         rw [w64s b (by omega), if_neg (by omega), if_neg (by omega), if_neg (by omega)]
         rfl
       ·obtain ⟨r, hr1, hr2, hr3⟩ := ih b (by omega) (by omega) (by omega)
        refine ⟨r, hI3 (Ev.step (fun k => ?_) hr1), hS2 hr2, hr3⟩
        simp only [impl_takeCommand.j1]
        rw [if_neg (by decide), if_neg (by omega)]
end Go.Proofs.YtcmifdcgmalnlaaDoor.P
/- Lemmas of mine: loops that count up: over any function of rounds. Plain. -/
set_option linter.unusedVariables false
set_option linter.unusedSimpArgs false
namespace Go.Proofs.YtcmifdcgmalnlaaDoor.P
open Go.RowKit Go.Proofs.YtcmifdcgmalnlaaDoorW.PrintWords
/-- A loop whose rounds change the place alone. -/
theorem up_loop {R : Type} (L : Nat → Int → Option R) (n : Nat) (r : R)
  (hstep : ∀ i : Nat, i < n → ∃ K, ∀ k, K ≤ k → L (k + 1) (i : Int) = L k ((i + 1 : Nat) : Int))
  (hend : ∃ K, ∀ k, K ≤ k → L (k + 1) (n : Int) = some r) : ∀ d i : Nat, i + d = n → Ev (fun k => L k (i : Int)) r := by
 intro d
 induction d with
 | zero =>
  intro i hi
  obtain rfl : i = n := by omega
  obtain ⟨K, h⟩ := hend
  exact ⟨K + 1, fun k hk => by obtain ⟨m, rfl⟩ : ∃ m, k = m + 1 := ⟨k - 1, by omega⟩; exact h m (by omega)⟩
 | succ d ih =>
  intro i hi
  obtain ⟨K, h⟩ := hstep i (by omega)
  obtain ⟨K2, h2⟩ := ih (i + 1) (by omega)
  refine ⟨K + K2 + 1, fun k hk => ?_⟩
  obtain ⟨m, rfl⟩ : ∃ m, k = m + 1 := ⟨k - 1, by omega⟩
  show L (m + 1) (i : Int) = some r
  rw [h m (by omega)]
  exact h2 m (by omega)
/-- A loop with a state: what holds of the state says what comes out. -/
theorem st_loop {σ R : Type} (L : Nat → σ → Int → Option R) (n : Nat) (out : Nat → σ → R → Prop)
  (hstep : ∀ (i : Nat) (s : σ), i < n → (∃ r, (∃ K, ∀ k, K ≤ k → L (k + 1) s (i : Int) = some r) ∧ out i s r) ∨ ∃ s', (∃ K, ∀ k, K ≤ k → L (k + 1) s (i : Int) = L k s' ((i + 1 : Nat) : Int)) ∧ ∀ r, out (i + 1) s' r → out i s r)
  (hend : ∀ s, ∃ r, (∃ K, ∀ k, K ≤ k → L (k + 1) s (n : Int) = some r) ∧ out n s r) : ∀ (d i : Nat) (s : σ), i + d = n → ∃ r, Ev (fun k => L k s (i : Int)) r ∧ out i s r := by
 intro d
 induction d with
 | zero =>
  intro i s hi
  obtain rfl : i = n := by omega
  obtain ⟨r, ⟨K, h⟩, ho⟩ := hend s
  exact ⟨r, ⟨K + 1, fun k hk => by obtain ⟨m, rfl⟩ : ∃ m, k = m + 1 := ⟨k - 1, by omega⟩; exact h m (by omega)⟩, ho⟩
 | succ d ih =>
  intro i s hi
  rcases hstep i s (by omega) with ⟨r, ⟨K, h⟩, ho⟩ | ⟨s', ⟨K, h⟩, ho⟩
  ·exact ⟨r, ⟨K + 1, fun k hk => by obtain ⟨m, rfl⟩ : ∃ m, k = m + 1 := ⟨k - 1, by omega⟩; exact h m (by omega)⟩, ho⟩
  ·obtain ⟨r, ⟨K2, h2⟩, ho2⟩ := ih (i + 1) s' (by omega)
   refine ⟨r, ⟨K + K2 + 1, fun k hk => ?_⟩, ho r ho2⟩
   obtain ⟨m, rfl⟩ : ∃ m, k = m + 1 := ⟨k - 1, by omega⟩
   show L (m + 1) s (i : Int) = some r
   rw [h m (by omega)]
   exact h2 m (by omega)
theorem map_set {α β : Type} (xs : List α) (ys : List β) (g : α → β) (i : Nat) (hi : i < xs.length) (hl : ys.length = xs.length) (hy : ys.take i = (xs.take i).map g) :
  (ys.set i (g (xs[i]'hi))).take (i + 1) = (xs.take (i + 1)).map g := by
 have e2 : (xs.take (i + 1)).map g = (xs.take i).map g ++ [g (xs[i]'hi)] := by
  rw [List.take_add_one, List.getElem?_eq_getElem hi, List.map_append]
  rfl
 have e : ((xs.take i).map g).length = i := by rw [List.length_map, List.length_take]; omega
 rw [e2, List.take_set, List.take_add_one, List.getElem?_eq_getElem (by omega), hy, List.set_append_right _ _ (by omega), e, Nat.sub_self]
 rfl
/-- A loop that fills a row of the same length. -/
theorem copy_loop {α β : Type} (L : Nat → List β → Int → Option (List β)) (xs : List α) (g : α → β)
  (hstep : ∀ (i : Nat) (ys : List β) (hi : i < xs.length), ys.length = xs.length → ∃ K, ∀ k, K ≤ k → L (k + 1) ys (i : Int) = L k (ys.set i (g (xs[i]'hi))) ((i + 1 : Nat) : Int))
  (hend : ∀ ys, ys.length = xs.length → ∃ K, ∀ k, K ≤ k → L (k + 1) ys (xs.length : Int) = some ys) :
  ∀ (d i : Nat) (ys : List β), i + d = xs.length → ys.length = xs.length → ys.take i = (xs.take i).map g → Ev (fun k => L k ys (i : Int)) (xs.map g) := by
 intro d
 induction d with
 | zero =>
  intro i ys hi hl hy
  obtain rfl : i = xs.length := by omega
  rw [List.take_of_length_le (by omega), List.take_of_length_le (Nat.le_refl _)] at hy
  subst hy
  obtain ⟨K, h⟩ := hend _ hl
  exact ⟨K + 1, fun k hk => by obtain ⟨m, rfl⟩ : ∃ m, k = m + 1 := ⟨k - 1, by omega⟩; exact h m (by omega)⟩
 | succ d ih =>
  intro i ys hi hl hy
  obtain ⟨K, h⟩ := hstep i ys (by omega) hl
  obtain ⟨K2, h2⟩ := ih (i + 1) (ys.set i (g (xs[i]'(by omega)))) (by omega) (by rw [List.length_set]; exact hl) (map_set xs ys g i (by omega) hl hy)
  refine ⟨K + K2 + 1, fun k hk => ?_⟩
  obtain ⟨m, rfl⟩ : ∃ m, k = m + 1 := ⟨k - 1, by omega⟩
  show L (m + 1) ys (i : Int) = _
  rw [h m (by omega)]
  exact h2 m (by omega)
theorem getD_nat {α : Type} (xs : List α) (z : α) (i : Nat) (h : i < xs.length) : xs.getD ((i : Nat) : Int).toNat z = xs[i]'h := by
 rw [Int.toNat_natCast, List.getD_eq_getElem?_getD, List.getElem?_eq_getElem h]; rfl
end Go.Proofs.YtcmifdcgmalnlaaDoor.P
namespace Go.Proofs.YtcmifdcgmalnlaaDoor.P
open Go.RowKit Go.Proofs.YtcmifdcgmalnlaaDoorW.PrintWords Go.Proofs.YtcmifdcgmalnlaaDoorW.PrintLast Go.Proofs.YtcmifdcgmalnlaaDoorW.PrintMore
attribute [local go_sem] max2_int min2_int max_two min_two max_three min_three max_four min_four   -- for this text's walks alone
set_option linter.unusedVariables false
set_option linter.unusedSimpArgs false

/-! ### laws_toRange: function 60 -/
def laws_toRange.f (a0_0 : Int) (a0_1 : Int) : Option (Int × Int) := some (a0_0, a0_1)
set_option maxHeartbeats 8000000 in
set_option maxRecDepth 100000 in
theorem laws_toRange.calls (a0_0 : Int) (a0_1 : Int) (r1 : Int) (r2 : Int) (w : World) (h : laws_toRange.f a0_0 a0_1 = some (r1, r2)) :
  Calls Tryd.prog 60 #[.agg #[.int .i64 a0_0, .int .i64 a0_1]] w fun e w' => e = .returned (.agg #[.int .i64 r1, .int .i64 r2]) ∧ Below w.heap.size w w' := by
 have hu73 := Tryd.underlying73
 have hu54 := Tryd.underlying54
 have HB := Aside0.mk (Below.refl w.heap.size w)
 have H : (some (a0_0, a0_1)) = some (r1, r2) := h
 clear h
 simp only [Option.some.injEq, Prod.mk.injEq] at H
 obtain ⟨rfl, rfl⟩ := H
 go_enter Tryd.func60, Tryd.ntmps60
 go_wp2_with (first | ((with_reducible refine gate_dst (N := 1) rfl ?_); refine box_event ?hg (N := 1) ?hd (cs := #[.int .i64 a0_0, .int .i64 a0_1]) (t := 73) ?hr ?_; (case hd => rfl); (case hg => rfl); (case hr => first | (go_simp; done) | (go_simp; rfl)); intro gb101 hg w2 hbox hb; have n0_ := Aside0.mk (below_step (by repeat (first | (with_reducible first | exact HB.out | apply below_alloc | apply pw_below_drewN | apply below_drew1) | exact HB.out)) hb); have n1_ := Aside0.mk (hbox); have n2_ := Aside0.mk ((by rw [hg]; exact (below_size (by repeat (first | (with_reducible first | exact HB.out | apply below_alloc | apply pw_below_drewN | apply below_drew1) | exact HB.out))) : w.heap.size ≤ gb101)); have n3_ := Aside0.mk ((by rw [hg]; exact (below_size (by repeat (first | (with_reducible first | exact HB.out | apply below_alloc | apply pw_below_drewN | apply below_drew1) | exact HB.out))) : w.heap.size ≤ gb101)); clear HB; have HB := n0_; have BK101 := n1_; have GW101 := n2_; have GE101 := n3_; clear n0_ n1_ n2_ n3_; clear hb hbox hg) | ((with_reducible refine gate_dst (N := 2) rfl ?_); refine box_event ?hg (N := 2) ?hd (cs := #[.int .i64 0, .int .i64 0]) (t := 54) ?hr ?_; (case hd => rfl); (case hg => rfl); (case hr => first | (go_simp; done) | (go_simp; rfl)); intro gb102 hg w3 hbox hb; have n0_ := Aside0.mk (blk_below (g := gb101) (o := .cells #[.int .i64 a0_0, .int .i64 a0_1] 73 (0, 0)) (by (with_reducible repeat (first | refine blk_drewN ?_ _ | refine blk_drew ?_ | refine blk_alloc ?_ _)); exact BK101.out) hb); have n1_ := Aside0.mk (below_step (by repeat (first | (with_reducible first | exact HB.out | apply below_alloc | apply pw_below_drewN | apply below_drew1 | refine below_set ?_ GE101.out) | exact HB.out)) hb); have n2_ := Aside0.mk (hbox); have n3_ := Aside0.mk ((by rw [hg]; exact (below_size (by repeat (first | (with_reducible first | exact HB.out | apply below_alloc | apply pw_below_drewN | apply below_drew1 | refine below_set ?_ GE101.out) | exact HB.out))) : w.heap.size ≤ gb102)); have n4_ := Aside0.mk ((by rw [hg]; exact (below_size (by repeat (first | (with_reducible first | exact HB.out | apply below_alloc | apply pw_below_drewN | apply below_drew1 | refine below_set ?_ GE101.out) | exact HB.out))) : w.heap.size ≤ gb102)); have n5_ := Aside0.mk ((by rw [hg]; exact Nat.ne_of_lt (blk_lt (g := gb101) (o := .cells #[.int .i64 a0_0, .int .i64 a0_1] 73 (0, 0)) (by (with_reducible repeat (first | refine blk_drewN ?_ _ | refine blk_drew ?_ | refine blk_alloc ?_ _)); exact BK101.out)) : gb101 ≠ gb102)); have n6_ := Aside0.mk ((by rw [hg]; exact Nat.ne_of_gt (blk_lt (g := gb101) (o := .cells #[.int .i64 a0_0, .int .i64 a0_1] 73 (0, 0)) (by (with_reducible repeat (first | refine blk_drewN ?_ _ | refine blk_drew ?_ | refine blk_alloc ?_ _)); exact BK101.out)) : gb102 ≠ gb101)); clear BK101; clear HB; have BK101 := n0_; have HB := n1_; have BK102 := n2_; have GW102 := n3_; have GE102 := n4_; have NB101_102 := n5_; have NB102_101 := n6_; clear n0_ n1_ n2_ n3_ n4_ n5_ n6_; clear hb hbox hg) | ((with_reducible refine gate_dst (N := 3) rfl ?_); refine box_event ?hg (N := 3) ?hd (cs := #[.int .i64 0, .int .i64 0]) (t := 54) ?hr ?_; (case hd => rfl); (case hg => rfl); (case hr => first | (go_simp; done) | (go_simp; rfl)); intro gb103 hg w4 hbox hb; have n0_ := Aside0.mk (blk_below (g := gb101) (o := .cells #[.int .i64 a0_0, .int .i64 a0_1] 73 (0, 0)) (by (with_reducible repeat (first | refine blk_drewN ?_ _ | refine blk_drew ?_ | refine blk_alloc ?_ _)); exact BK101.out) hb); have n1_ := Aside0.mk (blk_below (g := gb102) (o := .cells #[.int .i64 0, .int .i64 0] 54 (0, 0)) (by (with_reducible repeat (first | refine blk_drewN ?_ _ | refine blk_drew ?_ | refine blk_alloc ?_ _)); exact BK102.out) hb); have n2_ := Aside0.mk (below_step (by repeat (first | (with_reducible first | exact HB.out | apply below_alloc | apply pw_below_drewN | apply below_drew1 | refine below_set ?_ GE101.out | refine below_set ?_ GE102.out) | exact HB.out)) hb); have n3_ := Aside0.mk (hbox); have n4_ := Aside0.mk ((by rw [hg]; exact (below_size (by repeat (first | (with_reducible first | exact HB.out | apply below_alloc | apply pw_below_drewN | apply below_drew1 | refine below_set ?_ GE101.out | refine below_set ?_ GE102.out) | exact HB.out))) : w.heap.size ≤ gb103)); have n5_ := Aside0.mk ((by rw [hg]; exact (below_size (by repeat (first | (with_reducible first | exact HB.out | apply below_alloc | apply pw_below_drewN | apply below_drew1 | refine below_set ?_ GE101.out | refine below_set ?_ GE102.out) | exact HB.out))) : w.heap.size ≤ gb103)); have n6_ := Aside0.mk ((by rw [hg]; exact Nat.ne_of_lt (blk_lt (g := gb101) (o := .cells #[.int .i64 a0_0, .int .i64 a0_1] 73 (0, 0)) (by (with_reducible repeat (first | refine blk_drewN ?_ _ | refine blk_drew ?_ | refine blk_alloc ?_ _)); exact BK101.out)) : gb101 ≠ gb103)); have n7_ := Aside0.mk ((by rw [hg]; exact Nat.ne_of_gt (blk_lt (g := gb101) (o := .cells #[.int .i64 a0_0, .int .i64 a0_1] 73 (0, 0)) (by (with_reducible repeat (first | refine blk_drewN ?_ _ | refine blk_drew ?_ | refine blk_alloc ?_ _)); exact BK101.out)) : gb103 ≠ gb101)); have n8_ := Aside0.mk ((by rw [hg]; exact Nat.ne_of_lt (blk_lt (g := gb102) (o := .cells #[.int .i64 0, .int .i64 0] 54 (0, 0)) (by (with_reducible repeat (first | refine blk_drewN ?_ _ | refine blk_drew ?_ | refine blk_alloc ?_ _)); exact BK102.out)) : gb102 ≠ gb103)); have n9_ := Aside0.mk ((by rw [hg]; exact Nat.ne_of_gt (blk_lt (g := gb102) (o := .cells #[.int .i64 0, .int .i64 0] 54 (0, 0)) (by (with_reducible repeat (first | refine blk_drewN ?_ _ | refine blk_drew ?_ | refine blk_alloc ?_ _)); exact BK102.out)) : gb103 ≠ gb102)); clear BK101; clear BK102; clear HB; have BK101 := n0_; have BK102 := n1_; have HB := n2_; have BK103 := n3_; have GW103 := n4_; have GE103 := n5_; have NB101_103 := n6_; have NB103_101 := n7_; have NB102_103 := n8_; have NB103_102 := n9_; clear n0_ n1_ n2_ n3_ n4_ n5_ n6_ n7_ n8_ n9_; clear hb hbox hg; have hnb5 := NB101_102.out; have hnc5 := NB102_101.out; have hnb6 := NB101_103.out; have hnc6 := NB103_101.out; have hcz7_0 : w4.cell? ⟨gb101, 0, none⟩ = some (.int .i64 a0_0) := (blk_cell BK101.out 0).trans rfl; have hcz7_1 : w4.cell? ⟨gb101, 1, none⟩ = some (.int .i64 a0_1) := (blk_cell BK101.out 1).trans rfl; have hfz7_0 := blk_frozen BK101.out 0; have hfz7_1 := blk_frozen BK101.out 1; have hnb8 := NB103_102.out; have hnc8 := NB102_103.out; have hcz9_0 : w4.cell? ⟨gb103, 0, none⟩ = some (.int .i64 0) := (blk_cell BK103.out 0).trans rfl; have hcz9_1 : w4.cell? ⟨gb103, 1, none⟩ = some (.int .i64 0) := (blk_cell BK103.out 1).trans rfl; have hfz9_0 := blk_frozen BK103.out 0; have hfz9_1 := blk_frozen BK103.out 1; have hcz10_0 : w4.cell? ⟨gb102, 0, none⟩ = some (.int .i64 0) := (blk_cell BK102.out 0).trans rfl; have hcz10_1 : w4.cell? ⟨gb102, 1, none⟩ = some (.int .i64 0) := (blk_cell BK102.out 1).trans rfl; have hfz10_0 := blk_frozen BK102.out 0; have hfz10_1 := blk_frozen BK102.out 1))
 refine bodyPost_ret (results_cell_row rfl _ _ gb102 54 #[.int .i64 a0_0, .int .i64 a0_1] (0, 0) _ rfl (by (with_reducible repeat (first | refine blk_drewN ?_ _ | refine blk_drew ?_ | refine blk_alloc ?_ _)); refine blk_put (cs := #[.int .i64 a0_0, .int .i64 0]) ?_ 1 _ rfl; (with_reducible repeat (first | refine blk_drewN ?_ _ | refine blk_drew ?_ | refine blk_alloc ?_ _)); refine blk_put (cs := #[.int .i64 0, .int .i64 0]) ?_ 0 _ rfl; (with_reducible repeat (first | refine blk_drewN ?_ _ | refine blk_drew ?_ | refine blk_alloc ?_ _)); refine blk_far ?_ NB102_103.out _; (with_reducible repeat (first | refine blk_drewN ?_ _ | refine blk_drew ?_ | refine blk_alloc ?_ _)); refine blk_far ?_ NB102_103.out _; (with_reducible repeat (first | refine blk_drewN ?_ _ | refine blk_drew ?_ | refine blk_alloc ?_ _)); exact BK102.out) Tryd.underlying54 rfl (by kernel_rfl)) rfl ?_
 exact ⟨by first | rfl | (simp [errW_none, errW_some] <;> rfl) | (simp [*, errW_none, errW_some] <;> rfl), by repeat (first | (with_reducible first | exact HB.out | apply below_alloc | apply pw_below_drewN | apply below_drew1 | refine below_set ?_ GE101.out | refine below_set ?_ GE102.out | refine below_set ?_ GE103.out) | exact HB.out)⟩


/-! ### laws_toRangeS: function 22 -/
def laws_toRangeS.l0 : Nat → List (S73) → List (S54) → Int → Option ((List (S54)))
 | 0, _, _, _ => none
 | k + 1, x0, x3, x4 => if x4 < (x0.length : Int) then (if 0 ≤ x4 then ((laws_toRange.f ((rd_T73 x0 x4).f0) ((rd_T73 x0 x4).f1)).bind fun bt105 => (if x4 < (x3.length : Int) then (laws_toRangeS.l0 k x0 (x3.set (x4 : Int).toNat (⟨bt105.1, bt105.2⟩ : S54)) (wrap64 (x4 + 1))) else (none))) else (none)) else (some x3)
def laws_toRangeS.f (k : Nat) (l0 : List (S73)) : Option ((List (S54))) := if 0 ≤ (l0.length : Int) then (if ((l0.length : Int) : Int).toNat ≤ 17592186044416 then (laws_toRangeS.l0 k l0 (List.replicate ((l0.length : Int) : Int).toNat z54) 0) else (none)) else (none)
theorem laws_toRangeS.mono_l : ∀ k, (∀ y0 y1 y2, LeO (laws_toRangeS.l0 k y0 y1 y2) (laws_toRangeS.l0 (k + 1) y0 y1 y2))
 | 0 => fun _ _ _ r h => by simp [laws_toRangeS.l0] at h
 | k + 1 => by
  have ih0 := laws_toRangeS.mono_l k
  ·intro y0 y1 y2
   unfold laws_toRangeS.l0
   repeat' first
   | (with_reducible exact ih0 _ _ _)
   | (with_reducible exact LeO.refl _)
   | (with_reducible exact LeO.none _)
   | (with_reducible refine LeO.ite ?_ ?_)
   | (with_reducible refine LeO.bind ?_ (fun _ => ?_))
   | exact ih0 _ _ _
   | exact LeO.none _
   | refine LeO.ite ?_ ?_
   | refine LeO.bind ?_ (fun _ => ?_)
theorem laws_toRangeS.mono : ∀ a0 k, LeO (laws_toRangeS.f k a0) (laws_toRangeS.f (k + 1) a0) := by
 intro a0 k
 have ih0 := laws_toRangeS.mono_l k
 unfold laws_toRangeS.f
 repeat' first
   | (with_reducible exact ih0 _ _ _)
   | (with_reducible exact LeO.refl _)
   | (with_reducible exact LeO.none _)
   | (with_reducible refine LeO.ite ?_ ?_)
   | (with_reducible refine LeO.bind ?_ (fun _ => ?_))
   | exact ih0 _ _ _
   | exact LeO.none _
   | refine LeO.ite ?_ ?_
   | refine LeO.bind ?_ (fun _ => ?_)
set_option maxHeartbeats 8000000 in
set_option maxRecDepth 100000 in
theorem laws_toRangeS.calls (k : Nat) (A0 : Option Addr) (c0 : Nat) (l0 : List (S73)) (r : List (S54)) (w : World) (hr0 : Kd.C k73 w A0 l0.length l0) (hc0 : l0.length ≤ c0) (h : laws_toRangeS.f k l0 = some r) :
  Calls Tryd.prog 22 #[.slice A0 l0.length c0] w fun e w' => ∃ v0_ : Value, e = .returned (v0_) ∧ Kd.R k54 54 w' w.heap.size (fun _ => True) v0_ r ∧ Below w.heap.size w w' := by
 have hu73 := Tryd.underlying73
 have hu54 := Tryd.underlying54
 have HR0 := Aside0.mk hr0
 have HC0 := Aside0.mk hc0
 clear hr0 hc0
 have HB := Aside0.mk (Below.refl w.heap.size w)
 have H : (if 0 ≤ (l0.length : Int) then (if ((l0.length : Int) : Int).toNat ≤ 17592186044416 then (laws_toRangeS.l0 k l0 (List.replicate ((l0.length : Int) : Int).toNat z54) 0) else (none)) else (none)) = some r := h
 clear h
 by_cases c2 : 0 ≤ (l0.length : Int)
 ·rw [if_pos c2] at H
  have c2b0 := eq_true c2
  have c2b1 : decide (0 ≤ (l0.length : Int)) = true := decide_eq_true c2
  clear c2
  by_cases c3 : ((l0.length : Int) : Int).toNat ≤ 17592186044416
  ·rw [if_pos c3] at H
   have c3b0 := eq_true c3
   have c3b1 : decide (((l0.length : Int) : Int).toNat ≤ 17592186044416) = true := decide_eq_true c3
   clear c3
   obtain ⟨y101, hy101⟩ : ∃ y_ : List (S54), y_ = (List.replicate ((l0.length : Int) : Int).toNat z54) := ⟨_, rfl⟩
   replace H : (laws_toRangeS.l0 k l0 y101 0) = some r := by first | (rw [hy101]; with_reducible exact H) | (have H2_ := (Option.bind_some _ _).symm.trans H; rw [hy101]; with_reducible exact H2_) | (have H2_ := (Option.bind_some _ _).symm.trans H; with_reducible exact H2_) | with_reducible exact H | (rw [hy101]; exact H) | exact H
   have Ny101 := Aside0.mk hy101
   clear hy101
   have H' := Aside0.mk H
   clear H
   go_enter Tryd.func22, Tryd.ntmps22
   go_wp2_with (first | ((with_reducible refine gate_dst (N := 7) rfl ?_); refine Kd.R_make k54 _ 54 rfl (N := 7) rfl 34 _ _ rfl (l0.length : Int) rfl rfl Tryd.underlying34 (.agg #[(.int .i64 0), (.int .i64 0)]) 16 info54 rfl (by decide) (by omega) z54 (ok := fun _ => True) (okp := fun _ => True) (k54_mkM _ _ _ z54 ) (fun _ hk => hk) trivial (of_decide_eq_true (by first | (with_reducible assumption) | assumption)) (Nat.le_trans (Nat.mul_le_mul_right _ (of_decide_eq_true (by first | (with_reducible assumption) | assumption) : (l0.length : Int).toNat ≤ 17592186044416)) (by omega)) (Below.refl _ _) (Nat.le_refl _) ?_; intro v102 w4 ho5 hb hg_ hnew_; clear hg_ hnew_; (first | rw [← Ny101.out] at ho5 | (simp only [Int.reduceToNat] at ho5; rw [← Ny101.out] at ho5)); have n0_ := Aside0.mk (Kd.R_lower ho5 (below_size (by repeat (first | (with_reducible first | exact HB.out | apply below_alloc | apply pw_below_drewN | apply below_drew1) | exact HB.out)))); have n1_ := Aside0.mk (below_step (by repeat (first | (with_reducible first | exact HB.out | apply below_alloc | apply pw_below_drewN | apply below_drew1) | exact HB.out)) hb); clear HB; have HO103 := n0_; have HB := n1_; clear n0_ n1_; clear hb ho5))
   go_loopg [4] k (fun kq v4 w' => ∃ (x3_1 : List (S54)) (x4_1 : Int), v4 = .int .i64 x4_1 ∧ Aside0 (laws_toRangeS.l0 kq l0 x3_1 x4_1 = some r) ∧ Aside0 (kq ≤ k) ∧ Aside0 (Kd.R k54 54 w' w.heap.size (fun _ => True) v102 x3_1) ∧ Aside0 (Below w.heap.size w w'))
   case atStart => exact ⟨(y101), (0), (by first | rfl | (simp; done) | (simp [*]; done)), H', ⟨Nat.le_refl _⟩, ⟨by (with_reducible repeat (first | apply Kd.R_alloc | apply Kd.R_drewN | apply Kd.R_drew)); exact HO103.out⟩, ⟨by repeat (first | (with_reducible first | exact HB.out | apply below_alloc | apply pw_below_drewN | apply below_drew1) | exact HB.out)⟩⟩
   case round =>
    clear H'
    try clear c2
    try clear c2b0
    try clear c2b1
    try clear p2
    try clear c3
    try clear c3b0
    try clear c3b1
    obtain ⟨x3_1, x4_1, rfl, HA, HK1, HO_3, HB⟩ := hrel
    cases gk with
    | zero => exact absurd HA.out (by simp [laws_toRangeS.l0])
    | succ k1 =>
     have H := HA.out
     clear HA
     simp only [laws_toRangeS.l0] at H
     by_cases c6 : x4_1 < (l0.length : Int)
     ·rw [if_pos c6] at H
      have c6b0 : decide (x4_1 < (l0.length : Int)) = true := decide_eq_true c6
      clear c6
      by_cases c7 : 0 ≤ x4_1
      ·rw [if_pos c7] at H
       have c7b0 : decide (0 ≤ x4_1) = true := decide_eq_true c7
       clear c7
       replace H := Option.bind_eq_some_iff.mp H
       obtain ⟨⟨t105, t106⟩, A80, H⟩ := H
       replace H : (if x4_1 < (x3_1.length : Int) then (laws_toRangeS.l0 k1 l0 (x3_1.set (x4_1 : Int).toNat (⟨t105, t106⟩ : S54)) (wrap64 (x4_1 + 1))) else (none)) = some r := H
       have A8 := Aside0.mk A80
       clear A80
       by_cases c9 : x4_1 < (x3_1.length : Int)
       ·rw [if_pos c9] at H
        have c9b0 : decide (x4_1 < (x3_1.length : Int)) = true := decide_eq_true c9
        clear c9
        obtain ⟨y107, hy107⟩ : ∃ y_ : List (S54), y_ = (x3_1.set (x4_1 : Int).toNat (⟨t105, t106⟩ : S54)) := ⟨_, rfl⟩
        replace H : (laws_toRangeS.l0 k1 l0 y107 (wrap64 (x4_1 + 1))) = some r := by first | (rw [hy107]; with_reducible exact H) | (have H2_ := (Option.bind_some _ _).symm.trans H; rw [hy107]; with_reducible exact H2_) | (have H2_ := (Option.bind_some _ _).symm.trans H; with_reducible exact H2_) | with_reducible exact H | (rw [hy107]; exact H) | exact H
        have Ny107 := Aside0.mk hy107
        clear hy107
        have H' := Aside0.mk H
        clear H
        have p104 : 0 ≤ (x4_1 : Int) := of_decide_eq_true (by first | (with_reducible assumption) | assumption)
        have q104 : x4_1 < (l0.length : Int) := of_decide_eq_true (by first | (with_reducible assumption) | assumption)
        obtain ⟨ad104, e104, hx104_0, hx104_1⟩ := at_T73 HR0.out x4_1 p104 q104
        cases e104
        replace hx104_0 := (HB.out.cell (World.block_lt_of_cell? w _ hx104_0)).trans hx104_0
        replace hx104_1 := (HB.out.cell (World.block_lt_of_cell? w _ hx104_1)).trans hx104_1
        replace p104 := eq_true p104
        replace q104 := eq_true q104
        go_wp2_with (first | ((with_reducible refine gate_callee (f := 60) rfl ?_); refine goesL_ (some 20) rfl rfl Tryd.func60 (by kernel_rfl) rfl #[.agg #[.int .i64 ((rd_T73 l0 x4_1).f0), .int .i64 ((rd_T73 l0 x4_1).f1)]] rfl (by (try simp only [List.map_toArray, List.map_cons, List.map_nil]); first | done | rfl | (simp only [List.length_drop, List.length_take]; rfl)) ?_; (with_reducible refine (laws_toRange.calls ((rd_T73 l0 x4_1).f0) ((rd_T73 l0 x4_1).f1) t105 t106 _ A8.out).mono ?_); rintro e w11 ⟨rfl, hb⟩; refine ⟨_, rfl, ?_⟩; have n0_ := Aside0.mk (Kd.R_below (by (with_reducible repeat (first | apply Kd.R_alloc | apply Kd.R_drewN | apply Kd.R_drew)); exact HO_3.out) hb); have n1_ := Aside0.mk (below_step (by repeat (first | (with_reducible first | exact HB.out | apply below_alloc | apply pw_below_drewN | apply below_drew1) | exact HB.out)) hb); clear HO_3; clear HB; have HO_3 := n0_; have HB := n1_; clear n0_ n1_; (try clear hb); (try clear hb2); (try clear hk); (try clear hi); have p10 : 0 ≤ (x4_1 : Int) := of_decide_eq_true (by first | (with_reducible assumption) | assumption); have q10 : (x4_1 : Int) < ((x3_1.length : Int) : Int) := of_decide_eq_true (by first | (with_reducible assumption) | assumption); obtain ⟨go10, co10, eo10, gb10, gl10, cl10, HG10⟩ := Kd.R_form HO_3.out (by omega); (first | cases eo10 | (injection eo10 with ea_ en_ ec_; (first | subst ea_ | (injection ea_ with ea_; subst ea_)); subst ec_; clear en_)); have GB10 := Aside0.mk gb10; have GG10 := Aside0.mk HG10; clear gb10 gl10 HG10; obtain ⟨ce10, hcl10, hM10, hcc10, hfr10⟩ := Kd.R_elem HO_3.out z54 (x4_1 : Int) p10 q10; obtain rfl := k54_openM hM10; have hx10_0 : w11.cell? ⟨go10, (x4_1 : Int).toNat * 2, none⟩ = some (.int .i64 ((rd_T54 x3_1 x4_1).f0)) := hcc10 0 _ rfl; have hx10_1 : w11.cell? ⟨go10, (x4_1 : Int).toNat * 2 + 1, none⟩ = some (.int .i64 ((rd_T54 x3_1 x4_1).f1)) := hcc10 1 _ rfl; have hf10_0 : w11.frozen? ⟨go10, (x4_1 : Int).toNat * 2, none⟩ = false := hfr10 0; have hf10_1 : w11.frozen? ⟨go10, (x4_1 : Int).toNat * 2 + 1, none⟩ = false := hfr10 1; clear hcl10 hcc10 hfr10 hM10; replace p10 := eq_true p10; replace q10 := eq_true q10; have HX12 := Aside0.mk (show Kd.R k54 54 w11 w.heap.size (fun _ => True) (.slice (some ⟨go10, 0, none⟩) x3_1.length co10) x3_1 from (by (with_reducible repeat (first | apply Kd.R_alloc | apply Kd.R_drewN | apply Kd.R_drew)); exact HO_3.out)); obtain ⟨ce12, hcl12, hM12, hcc12, hfr12⟩ := Kd.R_elem HX12.out z54 (x4_1 : Int) (of_decide_eq_true (by first | (with_reducible assumption) | assumption)) (by have h_ : (x4_1 : Int) < ((x3_1.length : Int) : Int) := of_decide_eq_true (by first | (with_reducible assumption) | assumption); first | exact h_ | (have e_ := (Kd.R_reads' HO_3.out).1; omega) | simpa using h_); obtain rfl := k54_openM hM12; have HP12 := Kd.R_seg HX12.out (x4_1 : Int) (of_decide_eq_true (by first | (with_reducible assumption) | assumption)) (by have h_ : (x4_1 : Int) < ((x3_1.length : Int) : Int) := of_decide_eq_true (by first | (with_reducible assumption) | assumption); first | exact h_ | (have e_ := (Kd.R_reads' HO_3.out).1; omega) | simpa using h_) (seg := [.int .i64 t105, .int .i64 t106]) (j := 0) hcl12 hcc12 (show 2 ≤ 2 from by decide) (x' := (⟨t105, t106⟩ : S54)) (k54_mkM _ _ _ (⟨t105, t106⟩ : S54) ) (fun _ hk => hk); have hx12_0 := hcc12 0 _ rfl; (try simp only [show (k54).sz = 2 from rfl, Nat.mul_one, Nat.add_zero] at hx12_0); have hf12_0 := hfr12 0; (try simp only [show (k54).sz = 2 from rfl, Nat.mul_one, Nat.add_zero] at hf12_0); have hx12_1 := hcc12 1 _ rfl; (try simp only [show (k54).sz = 2 from rfl, Nat.mul_one, Nat.add_zero] at hx12_1); have hf12_1 := hfr12 1; (try simp only [show (k54).sz = 2 from rfl, Nat.mul_one, Nat.add_zero] at hf12_1); clear hcl12 hcc12 hfr12 hM12) | ((with_reducible refine gate_store (t := 54) (p := 21) rfl ?_); refine store_event (t := 54) (p := 21) (v := ?vo_w13) (w1 := ((w11.setCell ⟨go10, (x4_1 : Int).toNat * 2, none⟩ (.int .i64 t105)).setCell ⟨go10, (x4_1 : Int).toNat * 2 + 1, none⟩ (.int .i64 t106))) ?hg ?ho ?hn ?hr ?_; (case ho => rfl); (case hg => rfl); (case hn => rfl); (case hr => first | (go_simp; done) | (go_simp; rfl)); intro w13 hw; have hg : w11.grownBy w13 (some go10) := (by rw [hw]; exact HP12.2); have hp_ : Kd.R k54 54 w13 w.heap.size (fun _ => True) (.slice (some ⟨go10, 0, none⟩) x3_1.length co10) y107 := (by rw [hw, Ny107.out]; exact HP12.1); clear HP12; have n0_ := Aside0.mk (hp_); have n1_ := Aside0.mk ((by rw [hw]; exact below_set (below_set (HB.out) GB10.out) GB10.out : Below w.heap.size w w13)); clear HO_3; clear HB; have HO_3 := n0_; have HB := n1_; clear n0_ n1_; clear hg hw hp_))
        go_roundg k1
        case measure => have := HK1.out; omega
        case rel => exact ⟨(y107), (wrap64 (x4_1 + 1)), (by first | rfl | (simp; done) | (simp [*]; done)), H', ⟨by have := HK1.out; omega⟩, ⟨by (with_reducible repeat (first | apply Kd.R_alloc | apply Kd.R_drewN | apply Kd.R_drew)); exact HO_3.out⟩, ⟨by repeat (first | (with_reducible first | exact HB.out | apply below_alloc | apply pw_below_drewN | apply below_drew1) | exact HB.out)⟩⟩
       ·rw [if_neg c9] at H
        exact absurd H (by simp)
      ·rw [if_neg c7] at H
       exact absurd H (by simp)
     ·rw [if_neg c6] at H
      have c6b0 : decide (x4_1 < (l0.length : Int)) = false := decide_eq_false c6
      clear c6
      obtain rfl := Option.some.inj H
      go_wp2
      go_ret
      exact ⟨_, by first | rfl | (simp [errW_none, errW_some] <;> rfl) | (simp [*, errW_none, errW_some] <;> rfl), by (with_reducible repeat (first | apply Kd.R_alloc | apply Kd.R_drewN | apply Kd.R_drew)); exact HO_3.out, by repeat (first | (with_reducible first | exact HB.out | apply below_alloc | apply pw_below_drewN | apply below_drew1) | exact HB.out)⟩
  ·rw [if_neg c3] at H
   exact absurd H (by simp)
 ·rw [if_neg c2] at H
  exact absurd H (by simp)


/-! ### laws_eqRange: function 64 -/
def laws_eqRange.f (a0_0 : Int) (a0_1 : Int) (a1_0 : Int) (a1_1 : Int) : Option (Bool) := if a0_0 = a1_0 then (if a0_1 = a1_1 then (some true) else (some false)) else (some false)
set_option maxHeartbeats 8000000 in
set_option maxRecDepth 100000 in
theorem laws_eqRange.calls (a0_0 : Int) (a0_1 : Int) (a1_0 : Int) (a1_1 : Int) (r : Bool) (w : World) (h : laws_eqRange.f a0_0 a0_1 a1_0 a1_1 = some r) :
  Calls Tryd.prog 64 #[.agg #[.int .i64 a0_0, .int .i64 a0_1], .agg #[.int .i64 a1_0, .int .i64 a1_1]] w fun e w' => e = .returned (.bool r) ∧ Below w.heap.size w w' := by
 have hu54 := Tryd.underlying54
 have HB := Aside0.mk (Below.refl w.heap.size w)
 have H : (if a0_0 = a1_0 then (if a0_1 = a1_1 then (some true) else (some false)) else (some false)) = some r := h
 clear h
 by_cases c3 : a0_0 = a1_0
 ·rw [if_pos c3] at H
  have c3b0 : (a0_0 == a1_0) = true := beq_iff_eq.mpr c3
  have c3b1 : (a0_0 != a1_0) = false := bne_eq_false_iff_eq.mpr c3
  clear c3
  by_cases c4 : a0_1 = a1_1
  ·rw [if_pos c4] at H
   have c4b0 : (a0_1 == a1_1) = true := beq_iff_eq.mpr c4
   have c4b1 : (a0_1 != a1_1) = false := bne_eq_false_iff_eq.mpr c4
   clear c4
   obtain rfl := Option.some.inj H
   go_enter Tryd.func64, Tryd.ntmps64
   go_wp2_with (first | ((with_reducible refine gate_dst (N := 2) rfl ?_); refine box_event ?hg (N := 2) ?hd (cs := #[.int .i64 a0_0, .int .i64 a0_1]) (t := 54) ?hr ?_; (case hd => rfl); (case hg => rfl); (case hr => first | (go_simp; done) | (go_simp; rfl)); intro gb101 hg w5 hbox hb; have n0_ := Aside0.mk (below_step (by repeat (first | (with_reducible first | exact HB.out | apply below_alloc | apply pw_below_drewN | apply below_drew1) | exact HB.out)) hb); have n1_ := Aside0.mk (hbox); have n2_ := Aside0.mk ((by rw [hg]; exact (below_size (by repeat (first | (with_reducible first | exact HB.out | apply below_alloc | apply pw_below_drewN | apply below_drew1) | exact HB.out))) : w.heap.size ≤ gb101)); have n3_ := Aside0.mk ((by rw [hg]; exact (below_size (by repeat (first | (with_reducible first | exact HB.out | apply below_alloc | apply pw_below_drewN | apply below_drew1) | exact HB.out))) : w.heap.size ≤ gb101)); clear HB; have HB := n0_; have BK101 := n1_; have GW101 := n2_; have GE101 := n3_; clear n0_ n1_ n2_ n3_; clear hb hbox hg) | ((with_reducible refine gate_dst (N := 3) rfl ?_); refine box_event ?hg (N := 3) ?hd (cs := #[.int .i64 a1_0, .int .i64 a1_1]) (t := 54) ?hr ?_; (case hd => rfl); (case hg => rfl); (case hr => first | (go_simp; done) | (go_simp; rfl)); intro gb102 hg w6 hbox hb; have n0_ := Aside0.mk (blk_below (g := gb101) (o := .cells #[.int .i64 a0_0, .int .i64 a0_1] 54 (0, 0)) (by (with_reducible repeat (first | refine blk_drewN ?_ _ | refine blk_drew ?_ | refine blk_alloc ?_ _)); exact BK101.out) hb); have n1_ := Aside0.mk (below_step (by repeat (first | (with_reducible first | exact HB.out | apply below_alloc | apply pw_below_drewN | apply below_drew1 | refine below_set ?_ GE101.out) | exact HB.out)) hb); have n2_ := Aside0.mk (hbox); have n3_ := Aside0.mk ((by rw [hg]; exact (below_size (by repeat (first | (with_reducible first | exact HB.out | apply below_alloc | apply pw_below_drewN | apply below_drew1 | refine below_set ?_ GE101.out) | exact HB.out))) : w.heap.size ≤ gb102)); have n4_ := Aside0.mk ((by rw [hg]; exact (below_size (by repeat (first | (with_reducible first | exact HB.out | apply below_alloc | apply pw_below_drewN | apply below_drew1 | refine below_set ?_ GE101.out) | exact HB.out))) : w.heap.size ≤ gb102)); have n5_ := Aside0.mk ((by rw [hg]; exact Nat.ne_of_lt (blk_lt (g := gb101) (o := .cells #[.int .i64 a0_0, .int .i64 a0_1] 54 (0, 0)) (by (with_reducible repeat (first | refine blk_drewN ?_ _ | refine blk_drew ?_ | refine blk_alloc ?_ _)); exact BK101.out)) : gb101 ≠ gb102)); have n6_ := Aside0.mk ((by rw [hg]; exact Nat.ne_of_gt (blk_lt (g := gb101) (o := .cells #[.int .i64 a0_0, .int .i64 a0_1] 54 (0, 0)) (by (with_reducible repeat (first | refine blk_drewN ?_ _ | refine blk_drew ?_ | refine blk_alloc ?_ _)); exact BK101.out)) : gb102 ≠ gb101)); clear BK101; clear HB; have BK101 := n0_; have HB := n1_; have BK102 := n2_; have GW102 := n3_; have GE102 := n4_; have NB101_102 := n5_; have NB102_101 := n6_; clear n0_ n1_ n2_ n3_ n4_ n5_ n6_; clear hb hbox hg; have hnb7 := NB101_102.out; have hnc7 := NB102_101.out; have hcz8_0 : w6.cell? ⟨gb101, 0, none⟩ = some (.int .i64 a0_0) := (blk_cell BK101.out 0).trans rfl; have hcz8_1 : w6.cell? ⟨gb101, 1, none⟩ = some (.int .i64 a0_1) := (blk_cell BK101.out 1).trans rfl; have hfz8_0 := blk_frozen BK101.out 0; have hfz8_1 := blk_frozen BK101.out 1; have hcz9_0 : w6.cell? ⟨gb102, 0, none⟩ = some (.int .i64 a1_0) := (blk_cell BK102.out 0).trans rfl; have hcz9_1 : w6.cell? ⟨gb102, 1, none⟩ = some (.int .i64 a1_1) := (blk_cell BK102.out 1).trans rfl; have hfz9_0 := blk_frozen BK102.out 0; have hfz9_1 := blk_frozen BK102.out 1))
   go_ret
   exact ⟨by first | rfl | (simp [errW_none, errW_some] <;> rfl) | (simp [*, errW_none, errW_some] <;> rfl), by repeat (first | (with_reducible first | exact HB.out | apply below_alloc | apply pw_below_drewN | apply below_drew1 | refine below_set ?_ GE101.out | refine below_set ?_ GE102.out) | exact HB.out)⟩
  ·rw [if_neg c4] at H
   have c4b0 : (a0_1 == a1_1) = false := beq_eq_false_iff_ne.mpr c4
   have c4b1 : (a0_1 != a1_1) = true := bne_iff_ne.mpr c4
   obtain rfl := Option.some.inj H
   go_enter Tryd.func64, Tryd.ntmps64
   go_wp2_with (first | ((with_reducible refine gate_dst (N := 2) rfl ?_); refine box_event ?hg (N := 2) ?hd (cs := #[.int .i64 a0_0, .int .i64 a0_1]) (t := 54) ?hr ?_; (case hd => rfl); (case hg => rfl); (case hr => first | (go_simp; done) | (go_simp; rfl)); intro gb101 hg w10 hbox hb; have n0_ := Aside0.mk (below_step (by repeat (first | (with_reducible first | exact HB.out | apply below_alloc | apply pw_below_drewN | apply below_drew1) | exact HB.out)) hb); have n1_ := Aside0.mk (hbox); have n2_ := Aside0.mk ((by rw [hg]; exact (below_size (by repeat (first | (with_reducible first | exact HB.out | apply below_alloc | apply pw_below_drewN | apply below_drew1) | exact HB.out))) : w.heap.size ≤ gb101)); have n3_ := Aside0.mk ((by rw [hg]; exact (below_size (by repeat (first | (with_reducible first | exact HB.out | apply below_alloc | apply pw_below_drewN | apply below_drew1) | exact HB.out))) : w.heap.size ≤ gb101)); clear HB; have HB := n0_; have BK101 := n1_; have GW101 := n2_; have GE101 := n3_; clear n0_ n1_ n2_ n3_; clear hb hbox hg) | ((with_reducible refine gate_dst (N := 3) rfl ?_); refine box_event ?hg (N := 3) ?hd (cs := #[.int .i64 a1_0, .int .i64 a1_1]) (t := 54) ?hr ?_; (case hd => rfl); (case hg => rfl); (case hr => first | (go_simp; done) | (go_simp; rfl)); intro gb102 hg w11 hbox hb; have n0_ := Aside0.mk (blk_below (g := gb101) (o := .cells #[.int .i64 a0_0, .int .i64 a0_1] 54 (0, 0)) (by (with_reducible repeat (first | refine blk_drewN ?_ _ | refine blk_drew ?_ | refine blk_alloc ?_ _)); exact BK101.out) hb); have n1_ := Aside0.mk (below_step (by repeat (first | (with_reducible first | exact HB.out | apply below_alloc | apply pw_below_drewN | apply below_drew1 | refine below_set ?_ GE101.out) | exact HB.out)) hb); have n2_ := Aside0.mk (hbox); have n3_ := Aside0.mk ((by rw [hg]; exact (below_size (by repeat (first | (with_reducible first | exact HB.out | apply below_alloc | apply pw_below_drewN | apply below_drew1 | refine below_set ?_ GE101.out) | exact HB.out))) : w.heap.size ≤ gb102)); have n4_ := Aside0.mk ((by rw [hg]; exact (below_size (by repeat (first | (with_reducible first | exact HB.out | apply below_alloc | apply pw_below_drewN | apply below_drew1 | refine below_set ?_ GE101.out) | exact HB.out))) : w.heap.size ≤ gb102)); have n5_ := Aside0.mk ((by rw [hg]; exact Nat.ne_of_lt (blk_lt (g := gb101) (o := .cells #[.int .i64 a0_0, .int .i64 a0_1] 54 (0, 0)) (by (with_reducible repeat (first | refine blk_drewN ?_ _ | refine blk_drew ?_ | refine blk_alloc ?_ _)); exact BK101.out)) : gb101 ≠ gb102)); have n6_ := Aside0.mk ((by rw [hg]; exact Nat.ne_of_gt (blk_lt (g := gb101) (o := .cells #[.int .i64 a0_0, .int .i64 a0_1] 54 (0, 0)) (by (with_reducible repeat (first | refine blk_drewN ?_ _ | refine blk_drew ?_ | refine blk_alloc ?_ _)); exact BK101.out)) : gb102 ≠ gb101)); clear BK101; clear HB; have BK101 := n0_; have HB := n1_; have BK102 := n2_; have GW102 := n3_; have GE102 := n4_; have NB101_102 := n5_; have NB102_101 := n6_; clear n0_ n1_ n2_ n3_ n4_ n5_ n6_; clear hb hbox hg; have hnb12 := NB101_102.out; have hnc12 := NB102_101.out; have hcz13_0 : w11.cell? ⟨gb101, 0, none⟩ = some (.int .i64 a0_0) := (blk_cell BK101.out 0).trans rfl; have hcz13_1 : w11.cell? ⟨gb101, 1, none⟩ = some (.int .i64 a0_1) := (blk_cell BK101.out 1).trans rfl; have hfz13_0 := blk_frozen BK101.out 0; have hfz13_1 := blk_frozen BK101.out 1; have hcz14_0 : w11.cell? ⟨gb102, 0, none⟩ = some (.int .i64 a1_0) := (blk_cell BK102.out 0).trans rfl; have hcz14_1 : w11.cell? ⟨gb102, 1, none⟩ = some (.int .i64 a1_1) := (blk_cell BK102.out 1).trans rfl; have hfz14_0 := blk_frozen BK102.out 0; have hfz14_1 := blk_frozen BK102.out 1))
   go_ret
   exact ⟨by first | rfl | (simp [errW_none, errW_some] <;> rfl) | (simp [*, errW_none, errW_some] <;> rfl), by repeat (first | (with_reducible first | exact HB.out | apply below_alloc | apply pw_below_drewN | apply below_drew1 | refine below_set ?_ GE101.out | refine below_set ?_ GE102.out) | exact HB.out)⟩
 ·rw [if_neg c3] at H
  have c3b0 : (a0_0 == a1_0) = false := beq_eq_false_iff_ne.mpr c3
  have c3b1 : (a0_0 != a1_0) = true := bne_iff_ne.mpr c3
  obtain rfl := Option.some.inj H
  go_enter Tryd.func64, Tryd.ntmps64
  go_wp2_with (first | ((with_reducible refine gate_dst (N := 2) rfl ?_); refine box_event ?hg (N := 2) ?hd (cs := #[.int .i64 a0_0, .int .i64 a0_1]) (t := 54) ?hr ?_; (case hd => rfl); (case hg => rfl); (case hr => first | (go_simp; done) | (go_simp; rfl)); intro gb101 hg w15 hbox hb; have n0_ := Aside0.mk (below_step (by repeat (first | (with_reducible first | exact HB.out | apply below_alloc | apply pw_below_drewN | apply below_drew1) | exact HB.out)) hb); have n1_ := Aside0.mk (hbox); have n2_ := Aside0.mk ((by rw [hg]; exact (below_size (by repeat (first | (with_reducible first | exact HB.out | apply below_alloc | apply pw_below_drewN | apply below_drew1) | exact HB.out))) : w.heap.size ≤ gb101)); have n3_ := Aside0.mk ((by rw [hg]; exact (below_size (by repeat (first | (with_reducible first | exact HB.out | apply below_alloc | apply pw_below_drewN | apply below_drew1) | exact HB.out))) : w.heap.size ≤ gb101)); clear HB; have HB := n0_; have BK101 := n1_; have GW101 := n2_; have GE101 := n3_; clear n0_ n1_ n2_ n3_; clear hb hbox hg) | ((with_reducible refine gate_dst (N := 3) rfl ?_); refine box_event ?hg (N := 3) ?hd (cs := #[.int .i64 a1_0, .int .i64 a1_1]) (t := 54) ?hr ?_; (case hd => rfl); (case hg => rfl); (case hr => first | (go_simp; done) | (go_simp; rfl)); intro gb102 hg w16 hbox hb; have n0_ := Aside0.mk (blk_below (g := gb101) (o := .cells #[.int .i64 a0_0, .int .i64 a0_1] 54 (0, 0)) (by (with_reducible repeat (first | refine blk_drewN ?_ _ | refine blk_drew ?_ | refine blk_alloc ?_ _)); exact BK101.out) hb); have n1_ := Aside0.mk (below_step (by repeat (first | (with_reducible first | exact HB.out | apply below_alloc | apply pw_below_drewN | apply below_drew1 | refine below_set ?_ GE101.out) | exact HB.out)) hb); have n2_ := Aside0.mk (hbox); have n3_ := Aside0.mk ((by rw [hg]; exact (below_size (by repeat (first | (with_reducible first | exact HB.out | apply below_alloc | apply pw_below_drewN | apply below_drew1 | refine below_set ?_ GE101.out) | exact HB.out))) : w.heap.size ≤ gb102)); have n4_ := Aside0.mk ((by rw [hg]; exact (below_size (by repeat (first | (with_reducible first | exact HB.out | apply below_alloc | apply pw_below_drewN | apply below_drew1 | refine below_set ?_ GE101.out) | exact HB.out))) : w.heap.size ≤ gb102)); have n5_ := Aside0.mk ((by rw [hg]; exact Nat.ne_of_lt (blk_lt (g := gb101) (o := .cells #[.int .i64 a0_0, .int .i64 a0_1] 54 (0, 0)) (by (with_reducible repeat (first | refine blk_drewN ?_ _ | refine blk_drew ?_ | refine blk_alloc ?_ _)); exact BK101.out)) : gb101 ≠ gb102)); have n6_ := Aside0.mk ((by rw [hg]; exact Nat.ne_of_gt (blk_lt (g := gb101) (o := .cells #[.int .i64 a0_0, .int .i64 a0_1] 54 (0, 0)) (by (with_reducible repeat (first | refine blk_drewN ?_ _ | refine blk_drew ?_ | refine blk_alloc ?_ _)); exact BK101.out)) : gb102 ≠ gb101)); clear BK101; clear HB; have BK101 := n0_; have HB := n1_; have BK102 := n2_; have GW102 := n3_; have GE102 := n4_; have NB101_102 := n5_; have NB102_101 := n6_; clear n0_ n1_ n2_ n3_ n4_ n5_ n6_; clear hb hbox hg; have hnb17 := NB101_102.out; have hnc17 := NB102_101.out; have hcz18_0 : w16.cell? ⟨gb101, 0, none⟩ = some (.int .i64 a0_0) := (blk_cell BK101.out 0).trans rfl; have hcz18_1 : w16.cell? ⟨gb101, 1, none⟩ = some (.int .i64 a0_1) := (blk_cell BK101.out 1).trans rfl; have hfz18_0 := blk_frozen BK101.out 0; have hfz18_1 := blk_frozen BK101.out 1; have hcz19_0 : w16.cell? ⟨gb102, 0, none⟩ = some (.int .i64 a1_0) := (blk_cell BK102.out 0).trans rfl; have hcz19_1 : w16.cell? ⟨gb102, 1, none⟩ = some (.int .i64 a1_1) := (blk_cell BK102.out 1).trans rfl; have hfz19_0 := blk_frozen BK102.out 0; have hfz19_1 := blk_frozen BK102.out 1))
  go_ret
  exact ⟨by first | rfl | (simp [errW_none, errW_some] <;> rfl) | (simp [*, errW_none, errW_some] <;> rfl), by repeat (first | (with_reducible first | exact HB.out | apply below_alloc | apply pw_below_drewN | apply below_drew1 | refine below_set ?_ GE101.out | refine below_set ?_ GE102.out) | exact HB.out)⟩


/-! ### laws_eqRangeS: function 24 -/
def laws_eqRangeS.l0 : Nat → List (S54) → List (S54) → Int → Option (Bool)
 | 0, _, _, _ => none
 | k + 1, x0, x1, x5 => if x5 < (x0.length : Int) then (if 0 ≤ x5 then (if x5 < (x1.length : Int) then ((laws_eqRange.f ((rd_T54 x0 x5).f0) ((rd_T54 x0 x5).f1) ((rd_T54 x1 x5).f0) ((rd_T54 x1 x5).f1)).bind fun t103 => (if t103 = true then (laws_eqRangeS.l0 k x0 x1 (wrap64 (x5 + 1))) else (some false))) else (none)) else (none)) else (some true)
def laws_eqRangeS.f (k : Nat) (l0 : List (S54)) (l1 : List (S54)) : Option (Bool) := if (l0.length : Int) = (l1.length : Int) then (laws_eqRangeS.l0 k l0 l1 0) else (some false)
theorem laws_eqRangeS.mono_l : ∀ k, (∀ y0 y1 y2, LeO (laws_eqRangeS.l0 k y0 y1 y2) (laws_eqRangeS.l0 (k + 1) y0 y1 y2))
 | 0 => fun _ _ _ r h => by simp [laws_eqRangeS.l0] at h
 | k + 1 => by
  have ih0 := laws_eqRangeS.mono_l k
  ·intro y0 y1 y2
   unfold laws_eqRangeS.l0
   repeat' first
   | (with_reducible exact ih0 _ _ _)
   | (with_reducible exact LeO.refl _)
   | (with_reducible exact LeO.none _)
   | (with_reducible refine LeO.ite ?_ ?_)
   | (with_reducible refine LeO.bind ?_ (fun _ => ?_))
   | exact ih0 _ _ _
   | exact LeO.none _
   | refine LeO.ite ?_ ?_
   | refine LeO.bind ?_ (fun _ => ?_)
theorem laws_eqRangeS.mono : ∀ a0 a1 k, LeO (laws_eqRangeS.f k a0 a1) (laws_eqRangeS.f (k + 1) a0 a1) := by
 intro a0 a1 k
 have ih0 := laws_eqRangeS.mono_l k
 unfold laws_eqRangeS.f
 repeat' first
   | (with_reducible exact ih0 _ _ _)
   | (with_reducible exact LeO.refl _)
   | (with_reducible exact LeO.none _)
   | (with_reducible refine LeO.ite ?_ ?_)
   | (with_reducible refine LeO.bind ?_ (fun _ => ?_))
   | exact ih0 _ _ _
   | exact LeO.none _
   | refine LeO.ite ?_ ?_
   | refine LeO.bind ?_ (fun _ => ?_)
def laws_eqRangeS.T6 : Bool × List (List Nat × List Nat) := (true, [([], []), ([], []), ([0, 1], [0, 1]), ([2], [2]), ([], []), ([], []), ([4, 5], [4, 5]), ([6], [6]), ([3, 7], [3, 7]), ([8], [8])])
def laws_eqRangeS.B6 : List Nat := [0, 0, 3, 7, 0, 0, 48, 112, 255, 511]
theorem laws_eqRangeS.tab6 : rtab .any (opsOf Tryd.f24 6) = laws_eqRangeS.T6 := by kernel_rfl
theorem laws_eqRangeS.bits6 : waitsOk laws_eqRangeS.T6.2 laws_eqRangeS.B6 = true := by kernel_rfl
set_option maxHeartbeats 8000000 in
set_option maxRecDepth 100000 in
theorem laws_eqRangeS.calls (k : Nat) (A0 : Option Addr) (c0 : Nat) (l0 : List (S54)) (A1 : Option Addr) (c1 : Nat) (l1 : List (S54)) (r : Bool) (w : World) (hr0 : Kd.C k54 w A0 l0.length l0) (hc0 : l0.length ≤ c0) (hr1 : Kd.C k54 w A1 l1.length l1) (hc1 : l1.length ≤ c1) (h : laws_eqRangeS.f k l0 l1 = some r) :
  Calls Tryd.prog 24 #[.slice A0 l0.length c0, .slice A1 l1.length c1] w fun e w' => e = .returned (.bool r) ∧ Below w.heap.size w w' := by
 have hu54 := Tryd.underlying54
 have HR0 := Aside0.mk hr0
 have HC0 := Aside0.mk hc0
 clear hr0 hc0
 have HR1 := Aside0.mk hr1
 have HC1 := Aside0.mk hc1
 clear hr1 hc1
 have HB := Aside0.mk (Below.refl w.heap.size w)
 have H : (if (l0.length : Int) = (l1.length : Int) then (laws_eqRangeS.l0 k l0 l1 0) else (some false)) = some r := h
 clear h
 by_cases c3 : (l0.length : Int) = (l1.length : Int)
 ·rw [if_pos c3] at H
  have c3b0 : ((l0.length : Int) == (l1.length : Int)) = true := beq_iff_eq.mpr c3
  have c3b1 : ((l0.length : Int) != (l1.length : Int)) = false := bne_eq_false_iff_eq.mpr c3
  have c3b2 : (l0.length == l1.length) = true := by first | simpa using c3 | (simp at c3 ⊢; omega)
  clear c3
  have H' := Aside0.mk H
  clear H
  go_enter Tryd.func24, Tryd.ntmps24
  go_wp2
  go_loopg [5] k (fun kq v5 w' => ∃ (x5_1 : Int), v5 = .int .i64 x5_1 ∧ Aside0 (laws_eqRangeS.l0 kq l0 l1 x5_1 = some r) ∧ Aside0 (kq ≤ k) ∧ Aside0 (Below w.heap.size w w'))
  case atStart => exact ⟨(0), (by first | rfl | (simp; done) | (simp [*]; done)), H', ⟨Nat.le_refl _⟩, ⟨by repeat (first | (with_reducible first | exact HB.out | apply below_alloc | apply pw_below_drewN | apply below_drew1) | exact HB.out)⟩⟩
  case round =>
   clear H'
   try clear c1
   try clear c2
   try clear p2
   try clear c3
   try clear c3b0
   try clear c3b1
   try clear c3b2
   obtain ⟨x5_1, rfl, HA, HK1, HB⟩ := hrel
   cases gk with
   | zero => exact absurd HA.out (by simp [laws_eqRangeS.l0])
   | succ k1 =>
    have H := HA.out
    clear HA
    simp only [laws_eqRangeS.l0] at H
    by_cases c4 : x5_1 < (l0.length : Int)
    ·rw [if_pos c4] at H
     have c4b0 : decide (x5_1 < (l0.length : Int)) = true := decide_eq_true c4
     clear c4
     by_cases c5 : 0 ≤ x5_1
     ·rw [if_pos c5] at H
      have c5b0 : decide (0 ≤ x5_1) = true := decide_eq_true c5
      clear c5
      by_cases c6 : x5_1 < (l1.length : Int)
      ·rw [if_pos c6] at H
       have c6b0 : decide (x5_1 < (l1.length : Int)) = true := decide_eq_true c6
       clear c6
       replace H := Option.bind_eq_some_iff.mp H
       obtain ⟨t103, A70, H⟩ := H
       replace H : (if t103 = true then (laws_eqRangeS.l0 k1 l0 l1 (wrap64 (x5_1 + 1))) else (some false)) = some r := H
       have A7 := Aside0.mk A70
       clear A70
       by_cases c8 : t103 = true
       ·subst c8
        have H1 : (laws_eqRangeS.l0 k1 l0 l1 (wrap64 (x5_1 + 1))) = some r := by rw [if_pos rfl] at H; exact H
        clear H
        have H := H1
        clear H1
        have H' := Aside0.mk H
        clear H
        try go_wp2
        have n0_ := Aside0.mk (below_drew1 HB.out)
        clear HB
        have HB := n0_
        clear n0_
        have p101 : 0 ≤ (x5_1 : Int) := of_decide_eq_true (by first | (with_reducible assumption) | assumption)
        have q101 : x5_1 < (l0.length : Int) := of_decide_eq_true (by first | (with_reducible assumption) | assumption)
        obtain ⟨ad101, e101, hx101_0, hx101_1⟩ := at_T54 HR0.out x5_1 p101 q101
        have hw101_1 := hx101_1
        have hw101_0 := hx101_0
        cases e101
        replace hx101_0 := (HB.out.cell (World.block_lt_of_cell? w _ hx101_0)).trans hx101_0
        replace hx101_1 := (HB.out.cell (World.block_lt_of_cell? w _ hx101_1)).trans hx101_1
        replace p101 := eq_true p101
        replace q101 := eq_true q101
        have p102 : 0 ≤ (x5_1 : Int) := of_decide_eq_true (by first | (with_reducible assumption) | assumption)
        have q102 : x5_1 < (l1.length : Int) := of_decide_eq_true (by first | (with_reducible assumption) | assumption)
        obtain ⟨ad102, e102, hx102_0, hx102_1⟩ := at_T54 HR1.out x5_1 p102 q102
        have hw102_1 := hx102_1
        have hw102_0 := hx102_0
        cases e102
        replace hx102_0 := (HB.out.cell (World.block_lt_of_cell? w _ hx102_0)).trans hx102_0
        replace hx102_1 := (HB.out.cell (World.block_lt_of_cell? w _ hx102_1)).trans hx102_1
        replace p102 := eq_true p102
        replace q102 := eq_true q102
        refine start_ (n := 10) (S := fun w' => w'.cell? (ad101.add ((x5_1).toNat * 2)) = some (.int .i64 ((rd_T54 l0 x5_1).f0)) ∧ w'.cell? ⟨(ad101.add ((x5_1).toNat * 2)).block, (ad101.add ((x5_1).toNat * 2)).off + 1, none⟩ = some (.int .i64 ((rd_T54 l0 x5_1).f1)) ∧ w'.cell? (ad102.add ((x5_1).toNat * 2)) = some (.int .i64 ((rd_T54 l1 x5_1).f0)) ∧ w'.cell? ⟨(ad102.add ((x5_1).toNat * 2)).block, (ad102.add ((x5_1).toNat * 2)).off + 1, none⟩ = some (.int .i64 ((rd_T54 l1 x5_1).f1))) (ds := []) #[false, false, false, false, false, false, false, false, false, false] (by kernel_rfl) rfl rfl ⟨((HB.out.cell (World.block_lt_of_cell? w _ hw101_0)).trans hw101_0), ((HB.out.cell (World.block_lt_of_cell? w _ hw101_1)).trans hw101_1), ((HB.out.cell (World.block_lt_of_cell? w _ hw102_0)).trans hw102_0), ((HB.out.cell (World.block_lt_of_cell? w _ hw102_1)).trans hw102_1)⟩ (fun hHeld => ?_); refine with_tabW laws_eqRangeS.tab6 laws_eqRangeS.bits6 (fun HT_ HW_ => ?_)
        generalize wr.drew = w9 at HB hx101_0 hx101_1 hx102_0 hx102_1 hHeld ⊢
        refine pure_ (i := 0) (N := some 17) (v := ?_) (a' := ?_) #[true, false, false, false, false, false, false, false, false, false] rfl rfl (any_of HT_.out (by kernel_rfl)) (fun _ _ _ h => h) (Or.inl ⟨by rfl, ?_⟩) ?_ ?_
        rotate_left
        ·intro w'
         go_simp
         with_reducible rfl
        rotate_left
        ·simp only [Act.put, List.setIfInBounds_toArray, List.set_cons_zero, List.set_cons_succ, i64_w, i32_w]
         rfl
        refine pure_ (i := 1) (N := some 18) (v := ?_) (a' := ?_) #[true, true, false, false, false, false, false, false, false, false] rfl rfl (any_of HT_.out (by kernel_rfl)) (fun _ _ _ h => h) (Or.inl ⟨by rfl, ?_⟩) ?_ ?_
        rotate_left
        ·intro w'
         go_simp
         with_reducible rfl
        rotate_left
        ·simp only [Act.put, List.setIfInBounds_toArray, List.set_cons_zero, List.set_cons_succ, i64_w, i32_w]
         rfl
        refine pure_ (i := 2) (N := some 19) (v := ?_) (a' := ?_) #[true, true, true, false, false, false, false, false, false, false] rfl rfl (any_of HT_.out (by kernel_rfl)) (fun _ _ _ h => h) (Or.inl ⟨by rfl, ?_⟩) ?_ ?_
        rotate_left
        ·intro w'
         go_simp
         with_reducible rfl
        rotate_left
        ·simp only [Act.put, List.setIfInBounds_toArray, List.set_cons_zero, List.set_cons_succ, i64_w, i32_w]
         rfl
        refine pure_ (i := 4) (N := some 21) (v := ?_) (a' := ?_) #[true, true, true, false, true, false, false, false, false, false] rfl rfl (any_of HT_.out (by kernel_rfl)) (fun _ _ _ h => h) (Or.inl ⟨by rfl, ?_⟩) ?_ ?_
        rotate_left
        ·intro w'
         go_simp
         with_reducible rfl
        rotate_left
        ·simp only [Act.put, List.setIfInBounds_toArray, List.set_cons_zero, List.set_cons_succ, i64_w, i32_w]
         rfl
        refine pure_ (i := 5) (N := some 22) (v := ?_) (a' := ?_) #[true, true, true, false, true, true, false, false, false, false] rfl rfl (any_of HT_.out (by kernel_rfl)) (fun _ _ _ h => h) (Or.inl ⟨by rfl, ?_⟩) ?_ ?_
        rotate_left
        ·intro w'
         go_simp
         with_reducible rfl
        rotate_left
        ·simp only [Act.put, List.setIfInBounds_toArray, List.set_cons_zero, List.set_cons_succ, i64_w, i32_w]
         rfl
        refine pure_ (i := 6) (N := some 23) (v := ?_) (a' := ?_) #[true, true, true, false, true, true, true, false, false, false] rfl rfl (any_of HT_.out (by kernel_rfl)) (fun _ _ _ h => h) (Or.inl ⟨by rfl, ?_⟩) ?_ ?_
        rotate_left
        ·intro w'
         go_simp
         with_reducible rfl
        rotate_left
        ·simp only [Act.put, List.setIfInBounds_toArray, List.set_cons_zero, List.set_cons_succ, i64_w, i32_w]
         rfl
        refine take_ (i := 3) (N := some 20) (v := ?_) (a' := ?_) #[true, true, true, true, true, true, true, false, false, false] rfl rfl (take_ofW HT_.out HW_.out (by kernel_rfl)) (fun _ _ _ h => h) (Or.inl ⟨by rfl, ?_⟩) hHeld ?_ ?_
        rotate_left
        ·rintro w' ⟨s0, s1, s2, s3⟩
         go_simp
         with_reducible rfl
        rotate_left
        ·simp only [Act.put, List.setIfInBounds_toArray, List.set_cons_zero, List.set_cons_succ, i64_w, i32_w]
         rfl
        refine take_ (i := 7) (N := some 24) (v := ?_) (a' := ?_) #[true, true, true, true, true, true, true, true, false, false] rfl rfl (take_ofW HT_.out HW_.out (by kernel_rfl)) (fun _ _ _ h => h) (Or.inl ⟨by rfl, ?_⟩) hHeld ?_ ?_
        rotate_left
        ·rintro w' ⟨s0, s1, s2, s3⟩
         go_simp
         with_reducible rfl
        rotate_left
        ·simp only [Act.put, List.setIfInBounds_toArray, List.set_cons_zero, List.set_cons_succ, i64_w, i32_w]
         rfl
        refine one_ (i := 8) (N := some 25) #[true, true, true, true, true, true, true, true, true, false] rfl rfl (one_of HT_.out (by kernel_rfl)) (by decide) (fun K hK => ?_)
        refine goes_ Tryd.func64 (by kernel_rfl) rfl #[.agg #[.int .i64 ((rd_T54 l0 x5_1).f0), .int .i64 ((rd_T54 l0 x5_1).f1)], .agg #[.int .i64 ((rd_T54 l1 x5_1).f0), .int .i64 ((rd_T54 l1 x5_1).f1)]] (by rfl) rfl rfl (by (try simp only [List.map_toArray, List.map_cons, List.map_nil]); first | done | rfl | (simp only [List.length_drop, List.length_take]; rfl)) ?_
        with_reducible refine (laws_eqRange.calls ((rd_T54 l0 x5_1).f0) ((rd_T54 l0 x5_1).f1) ((rd_T54 l1 x5_1).f0) ((rd_T54 l1 x5_1).f1) true _ A7.out).mono ?_
        rintro e w10 ⟨rfl, hb⟩
        refine ⟨_, rfl, ?_⟩
        have n0_ := Aside0.mk (below_step (by repeat (first | (with_reducible first | exact HB.out | apply below_alloc | apply pw_below_drewN | apply below_drew1) | exact HB.out)) hb)
        clear HB
        have HB := n0_
        clear n0_
        (try clear hb)
        (try clear hb2)
        (try clear hk)
        (try clear hi)
        refine hK.out _ _ ⟨((HB.out.cell (World.block_lt_of_cell? w _ hw101_0)).trans hw101_0), ((HB.out.cell (World.block_lt_of_cell? w _ hw101_1)).trans hw101_1), ((HB.out.cell (World.block_lt_of_cell? w _ hw102_0)).trans hw102_0), ((HB.out.cell (World.block_lt_of_cell? w _ hw102_1)).trans hw102_1)⟩ (fun hHeld => ?_)
        clear hK K
        refine norm_ (a' := ?_) ?_ ?_
        rotate_left
        ·show Act.put _ (some 25) _ = _
         simp only [Act.put, List.setIfInBounds_toArray, List.set_cons_zero, List.set_cons_succ, i64_w, i32_w]
         rfl
        refine pure_ (i := 9) (N := some 26) (v := ?_) (a' := ?_) #[true, true, true, true, true, true, true, true, true, true] rfl rfl (any_of HT_.out (by kernel_rfl)) (fun _ _ _ h => h) (Or.inl ⟨by rfl, ?_⟩) ?_ ?_
        rotate_left
        ·intro w'
         go_simp
         with_reducible rfl
        rotate_left
        ·simp only [Act.put, List.setIfInBounds_toArray, List.set_cons_zero, List.set_cons_succ, i64_w, i32_w]
         rfl
        refine done_ (done_of HT_.out (by kernel_rfl)) ?_
        try go_wp2
        go_roundg k1
        case measure => have := HK1.out; omega
        case rel => exact ⟨(wrap64 (x5_1 + 1)), (by first | rfl | (simp; done) | (simp [*]; done)), H', ⟨by have := HK1.out; omega⟩, ⟨by repeat (first | (with_reducible first | exact HB.out | apply below_alloc | apply pw_below_drewN | apply below_drew1) | exact HB.out)⟩⟩
       ·replace c8 := Bool.eq_false_iff.mpr c8
        subst c8
        have H1 : (some false) = some r := by rw [if_neg (show ¬ (false = true) by decide)] at H; exact H
        clear H
        have H := H1
        clear H1
        obtain rfl := Option.some.inj H
        try go_wp2
        have n0_ := Aside0.mk (below_drew1 HB.out)
        clear HB
        have HB := n0_
        clear n0_
        have p101 : 0 ≤ (x5_1 : Int) := of_decide_eq_true (by first | (with_reducible assumption) | assumption)
        have q101 : x5_1 < (l0.length : Int) := of_decide_eq_true (by first | (with_reducible assumption) | assumption)
        obtain ⟨ad101, e101, hx101_0, hx101_1⟩ := at_T54 HR0.out x5_1 p101 q101
        have hw101_1 := hx101_1
        have hw101_0 := hx101_0
        cases e101
        replace hx101_0 := (HB.out.cell (World.block_lt_of_cell? w _ hx101_0)).trans hx101_0
        replace hx101_1 := (HB.out.cell (World.block_lt_of_cell? w _ hx101_1)).trans hx101_1
        replace p101 := eq_true p101
        replace q101 := eq_true q101
        have p102 : 0 ≤ (x5_1 : Int) := of_decide_eq_true (by first | (with_reducible assumption) | assumption)
        have q102 : x5_1 < (l1.length : Int) := of_decide_eq_true (by first | (with_reducible assumption) | assumption)
        obtain ⟨ad102, e102, hx102_0, hx102_1⟩ := at_T54 HR1.out x5_1 p102 q102
        have hw102_1 := hx102_1
        have hw102_0 := hx102_0
        cases e102
        replace hx102_0 := (HB.out.cell (World.block_lt_of_cell? w _ hx102_0)).trans hx102_0
        replace hx102_1 := (HB.out.cell (World.block_lt_of_cell? w _ hx102_1)).trans hx102_1
        replace p102 := eq_true p102
        replace q102 := eq_true q102
        refine start_ (n := 10) (S := fun w' => w'.cell? (ad101.add ((x5_1).toNat * 2)) = some (.int .i64 ((rd_T54 l0 x5_1).f0)) ∧ w'.cell? ⟨(ad101.add ((x5_1).toNat * 2)).block, (ad101.add ((x5_1).toNat * 2)).off + 1, none⟩ = some (.int .i64 ((rd_T54 l0 x5_1).f1)) ∧ w'.cell? (ad102.add ((x5_1).toNat * 2)) = some (.int .i64 ((rd_T54 l1 x5_1).f0)) ∧ w'.cell? ⟨(ad102.add ((x5_1).toNat * 2)).block, (ad102.add ((x5_1).toNat * 2)).off + 1, none⟩ = some (.int .i64 ((rd_T54 l1 x5_1).f1))) (ds := []) #[false, false, false, false, false, false, false, false, false, false] (by kernel_rfl) rfl rfl ⟨((HB.out.cell (World.block_lt_of_cell? w _ hw101_0)).trans hw101_0), ((HB.out.cell (World.block_lt_of_cell? w _ hw101_1)).trans hw101_1), ((HB.out.cell (World.block_lt_of_cell? w _ hw102_0)).trans hw102_0), ((HB.out.cell (World.block_lt_of_cell? w _ hw102_1)).trans hw102_1)⟩ (fun hHeld => ?_); refine with_tabW laws_eqRangeS.tab6 laws_eqRangeS.bits6 (fun HT_ HW_ => ?_)
        generalize wr.drew = w11 at HB hx101_0 hx101_1 hx102_0 hx102_1 hHeld ⊢
        refine pure_ (i := 0) (N := some 17) (v := ?_) (a' := ?_) #[true, false, false, false, false, false, false, false, false, false] rfl rfl (any_of HT_.out (by kernel_rfl)) (fun _ _ _ h => h) (Or.inl ⟨by rfl, ?_⟩) ?_ ?_
        rotate_left
        ·intro w'
         go_simp
         with_reducible rfl
        rotate_left
        ·simp only [Act.put, List.setIfInBounds_toArray, List.set_cons_zero, List.set_cons_succ, i64_w, i32_w]
         rfl
        refine pure_ (i := 1) (N := some 18) (v := ?_) (a' := ?_) #[true, true, false, false, false, false, false, false, false, false] rfl rfl (any_of HT_.out (by kernel_rfl)) (fun _ _ _ h => h) (Or.inl ⟨by rfl, ?_⟩) ?_ ?_
        rotate_left
        ·intro w'
         go_simp
         with_reducible rfl
        rotate_left
        ·simp only [Act.put, List.setIfInBounds_toArray, List.set_cons_zero, List.set_cons_succ, i64_w, i32_w]
         rfl
        refine pure_ (i := 2) (N := some 19) (v := ?_) (a' := ?_) #[true, true, true, false, false, false, false, false, false, false] rfl rfl (any_of HT_.out (by kernel_rfl)) (fun _ _ _ h => h) (Or.inl ⟨by rfl, ?_⟩) ?_ ?_
        rotate_left
        ·intro w'
         go_simp
         with_reducible rfl
        rotate_left
        ·simp only [Act.put, List.setIfInBounds_toArray, List.set_cons_zero, List.set_cons_succ, i64_w, i32_w]
         rfl
        refine pure_ (i := 4) (N := some 21) (v := ?_) (a' := ?_) #[true, true, true, false, true, false, false, false, false, false] rfl rfl (any_of HT_.out (by kernel_rfl)) (fun _ _ _ h => h) (Or.inl ⟨by rfl, ?_⟩) ?_ ?_
        rotate_left
        ·intro w'
         go_simp
         with_reducible rfl
        rotate_left
        ·simp only [Act.put, List.setIfInBounds_toArray, List.set_cons_zero, List.set_cons_succ, i64_w, i32_w]
         rfl
        refine pure_ (i := 5) (N := some 22) (v := ?_) (a' := ?_) #[true, true, true, false, true, true, false, false, false, false] rfl rfl (any_of HT_.out (by kernel_rfl)) (fun _ _ _ h => h) (Or.inl ⟨by rfl, ?_⟩) ?_ ?_
        rotate_left
        ·intro w'
         go_simp
         with_reducible rfl
        rotate_left
        ·simp only [Act.put, List.setIfInBounds_toArray, List.set_cons_zero, List.set_cons_succ, i64_w, i32_w]
         rfl
        refine pure_ (i := 6) (N := some 23) (v := ?_) (a' := ?_) #[true, true, true, false, true, true, true, false, false, false] rfl rfl (any_of HT_.out (by kernel_rfl)) (fun _ _ _ h => h) (Or.inl ⟨by rfl, ?_⟩) ?_ ?_
        rotate_left
        ·intro w'
         go_simp
         with_reducible rfl
        rotate_left
        ·simp only [Act.put, List.setIfInBounds_toArray, List.set_cons_zero, List.set_cons_succ, i64_w, i32_w]
         rfl
        refine take_ (i := 3) (N := some 20) (v := ?_) (a' := ?_) #[true, true, true, true, true, true, true, false, false, false] rfl rfl (take_ofW HT_.out HW_.out (by kernel_rfl)) (fun _ _ _ h => h) (Or.inl ⟨by rfl, ?_⟩) hHeld ?_ ?_
        rotate_left
        ·rintro w' ⟨s0, s1, s2, s3⟩
         go_simp
         with_reducible rfl
        rotate_left
        ·simp only [Act.put, List.setIfInBounds_toArray, List.set_cons_zero, List.set_cons_succ, i64_w, i32_w]
         rfl
        refine take_ (i := 7) (N := some 24) (v := ?_) (a' := ?_) #[true, true, true, true, true, true, true, true, false, false] rfl rfl (take_ofW HT_.out HW_.out (by kernel_rfl)) (fun _ _ _ h => h) (Or.inl ⟨by rfl, ?_⟩) hHeld ?_ ?_
        rotate_left
        ·rintro w' ⟨s0, s1, s2, s3⟩
         go_simp
         with_reducible rfl
        rotate_left
        ·simp only [Act.put, List.setIfInBounds_toArray, List.set_cons_zero, List.set_cons_succ, i64_w, i32_w]
         rfl
        refine one_ (i := 8) (N := some 25) #[true, true, true, true, true, true, true, true, true, false] rfl rfl (one_of HT_.out (by kernel_rfl)) (by decide) (fun K hK => ?_)
        refine goes_ Tryd.func64 (by kernel_rfl) rfl #[.agg #[.int .i64 ((rd_T54 l0 x5_1).f0), .int .i64 ((rd_T54 l0 x5_1).f1)], .agg #[.int .i64 ((rd_T54 l1 x5_1).f0), .int .i64 ((rd_T54 l1 x5_1).f1)]] (by rfl) rfl rfl (by (try simp only [List.map_toArray, List.map_cons, List.map_nil]); first | done | rfl | (simp only [List.length_drop, List.length_take]; rfl)) ?_
        with_reducible refine (laws_eqRange.calls ((rd_T54 l0 x5_1).f0) ((rd_T54 l0 x5_1).f1) ((rd_T54 l1 x5_1).f0) ((rd_T54 l1 x5_1).f1) false _ A7.out).mono ?_
        rintro e w12 ⟨rfl, hb⟩
        refine ⟨_, rfl, ?_⟩
        have n0_ := Aside0.mk (below_step (by repeat (first | (with_reducible first | exact HB.out | apply below_alloc | apply pw_below_drewN | apply below_drew1) | exact HB.out)) hb)
        clear HB
        have HB := n0_
        clear n0_
        (try clear hb)
        (try clear hb2)
        (try clear hk)
        (try clear hi)
        refine hK.out _ _ ⟨((HB.out.cell (World.block_lt_of_cell? w _ hw101_0)).trans hw101_0), ((HB.out.cell (World.block_lt_of_cell? w _ hw101_1)).trans hw101_1), ((HB.out.cell (World.block_lt_of_cell? w _ hw102_0)).trans hw102_0), ((HB.out.cell (World.block_lt_of_cell? w _ hw102_1)).trans hw102_1)⟩ (fun hHeld => ?_)
        clear hK K
        refine norm_ (a' := ?_) ?_ ?_
        rotate_left
        ·show Act.put _ (some 25) _ = _
         simp only [Act.put, List.setIfInBounds_toArray, List.set_cons_zero, List.set_cons_succ, i64_w, i32_w]
         rfl
        refine pure_ (i := 9) (N := some 26) (v := ?_) (a' := ?_) #[true, true, true, true, true, true, true, true, true, true] rfl rfl (any_of HT_.out (by kernel_rfl)) (fun _ _ _ h => h) (Or.inl ⟨by rfl, ?_⟩) ?_ ?_
        rotate_left
        ·intro w'
         go_simp
         with_reducible rfl
        rotate_left
        ·simp only [Act.put, List.setIfInBounds_toArray, List.set_cons_zero, List.set_cons_succ, i64_w, i32_w]
         rfl
        refine done_ (done_of HT_.out (by kernel_rfl)) ?_
        try go_wp2
        go_ret
        exact ⟨by first | rfl | (simp [errW_none, errW_some] <;> rfl) | (simp [*, errW_none, errW_some] <;> rfl), by repeat (first | (with_reducible first | exact HB.out | apply below_alloc | apply pw_below_drewN | apply below_drew1) | exact HB.out)⟩
      ·rw [if_neg c6] at H
       exact absurd H (by simp)
     ·rw [if_neg c5] at H
      exact absurd H (by simp)
    ·rw [if_neg c4] at H
     have c4b0 : decide (x5_1 < (l0.length : Int)) = false := decide_eq_false c4
     clear c4
     obtain rfl := Option.some.inj H
     go_wp2
     go_ret
     exact ⟨by first | rfl | (simp [errW_none, errW_some] <;> rfl) | (simp [*, errW_none, errW_some] <;> rfl), by repeat (first | (with_reducible first | exact HB.out | apply below_alloc | apply pw_below_drewN | apply below_drew1) | exact HB.out)⟩
 ·rw [if_neg c3] at H
  have c3b0 : ((l0.length : Int) == (l1.length : Int)) = false := beq_eq_false_iff_ne.mpr c3
  have c3b1 : ((l0.length : Int) != (l1.length : Int)) = true := bne_iff_ne.mpr c3
  have c3b2 : (l0.length == l1.length) = false := by first | simpa using c3 | (simp at c3 ⊢; omega)
  obtain rfl := Option.some.inj H
  go_enter Tryd.func24, Tryd.ntmps24
  go_wp2
  go_ret
  exact ⟨by first | rfl | (simp [errW_none, errW_some] <;> rfl) | (simp [*, errW_none, errW_some] <;> rfl), by repeat (first | (with_reducible first | exact HB.out | apply below_alloc | apply pw_below_drewN | apply below_drew1) | exact HB.out)⟩


/-! ### laws_szRangeS: function 20 -/
def laws_szRangeS.f (l0 : List (S73)) (a1 : Int) : Option (Int) := if (wrap64 (a1 - (l0.length : Int))) < 0 then (some (-1)) else (some (wrap64 (a1 - (l0.length : Int))))
set_option maxHeartbeats 8000000 in
set_option maxRecDepth 100000 in
theorem laws_szRangeS.calls (A0 : Option Addr) (c0 : Nat) (l0 : List (S73)) (a1 : Int) (r : Int) (w : World) (hr0 : Kd.C k73 w A0 l0.length l0) (hc0 : l0.length ≤ c0) (h : laws_szRangeS.f l0 a1 = some r) :
  Calls Tryd.prog 20 #[.slice A0 l0.length c0, .int .i64 a1] w fun e w' => e = .returned (.int .i64 r) ∧ Drawn0 w w' := by
 have HR0 := Aside0.mk hr0
 have HC0 := Aside0.mk hc0
 clear hr0 hc0
 have H : (if (wrap64 (a1 - (l0.length : Int))) < 0 then (some (-1)) else (some (wrap64 (a1 - (l0.length : Int))))) = some r := h
 clear h
 by_cases c3 : (wrap64 (a1 - (l0.length : Int))) < 0
 ·rw [if_pos c3] at H
  have c3b0 : decide ((wrap64 (a1 - (l0.length : Int))) < 0) = true := decide_eq_true c3
  clear c3
  obtain rfl := Option.some.inj H
  go_enter Tryd.func20, Tryd.ntmps20
  go_wp2
  go_ret
  exact ⟨by first | rfl | (simp; done) | (simp [*]; done), by repeat (first | exact Drawn0.refl _ | apply Drawn0.step)⟩
 ·rw [if_neg c3] at H
  have c3b0 : decide ((wrap64 (a1 - (l0.length : Int))) < 0) = false := decide_eq_false c3
  clear c3
  obtain rfl := Option.some.inj H
  go_enter Tryd.func20, Tryd.ntmps20
  go_wp2
  go_ret
  exact ⟨by first | rfl | (simp; done) | (simp [*]; done), by repeat (first | exact Drawn0.refl _ | apply Drawn0.step)⟩

end Go.Proofs.YtcmifdcgmalnlaaDoor.P
