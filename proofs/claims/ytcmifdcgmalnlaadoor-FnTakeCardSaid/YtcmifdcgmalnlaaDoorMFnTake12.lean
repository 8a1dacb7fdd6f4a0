/- Part 12 of what the law FnTake stands on; the last part ends with the law's row. No condition of mine. -/
import Derived.Test.YtcmifdcgmalnlaaDoorMFnTake7
import Derived.Test.YtcmifdcgmalnlaaDoorMFnTake11
import Derived.Test.YtcmifdcgmalnlaaDoorMFnTake10
import Derived.Test.YtcmifdcgmalnlaaDoorMFnTake4
import Derived.Test.YtcmifdcgmalnlaaDoorMFnTake5
import Derived.Test.YtcmifdcgmalnlaaDoorMFnTake2
/- Lemmas of mine: a set read from its text: the two ReadSet tell the same. Plain. -/
set_option linter.unusedVariables false
set_option linter.unusedSimpArgs false
namespace Go.Proofs.YtcmifdcgmalnlaaDoor.P
open Go.RowKit Go.Proofs.YtcmifdcgmalnlaaDoorW.PrintWords
/-- An end of a range. -/
noncomputable def endO (l : List UInt8) : Int × Bool := if l = [42] then (0, true) else if (numO l).2 = true then ((numO l).1, decide (1 ≤ (numO l).1 ∧ (numO l).1 ≤ 4294967295)) else ((numO l).1, false)
theorem specOne_ev (s : ByteArray) (hs : s.size ≤ 4611686018427387904) : Ev (fun k => spec_l11One.f k s) (endO (bl s)) := by
 obtain ⟨K, hK⟩ := specNum_ev s hs
 refine ⟨K, fun k hk => ?_⟩
 have e := hK k hk
 simp only at e
 simp only [spec_l11One.f, e, bS, toList_bl, l01In_eq]
 unfold endO
 split
 ·rfl
 ·split <;> rfl
theorem implEnd_ev (s : ByteArray) (hs : s.size ≤ 4611686018427387904) : Ev (fun k => impl_endOf.f k s) (endO (bl s)) := by
 obtain ⟨K, hK⟩ := implNum_ev s hs
 refine ⟨K, fun k hk => ?_⟩
 have e := hK k hk
 simp only at e
 simp only [impl_endOf.f, e, bS, toList_bl, within_eq]
 unfold endO
 split
 ·rfl
 ·split <;> rfl
theorem endO_colon (l : List UInt8) (h : 58 ∈ l) : (endO l).2 = false := by
 unfold endO
 rw [if_neg (fun e => by rw [e] at h; simp at h)]
 have hn : ¬ goodN l := by
  intro hg
  have hd : (58 : UInt8) ∈ digN l := by
   unfold digN
   cases l with
   | nil => cases h
   | cons a r =>
    split
    ·rename_i h0
     have ha : a = 45 := Option.some.inj h0
     subst ha
     rcases List.mem_cons.1 h with e | e
     ·exact absurd e (by decide)
     ·exact e
    ·exact h
  have := List.all_eq_true.1 hg.2.2 _ hd
  exact absurd this (by decide)
 rw [numO_bad _ hn]
 rfl
/-- Behind the first end: one, or two. -/
noncomputable def partR (w : ByteArray) : Option (Int × Int) :=
 match cutB 58 w with
 | [a] => if (endO (bl a)).2 = true then some ((endO (bl a)).1, (endO (bl a)).1) else none
 | [a, b] => if (endO (bl a)).2 = true then (if (endO (bl b)).2 = true then some ((endO (bl a)).1, (endO (bl b)).1) else none) else none
 | _ => none
theorem cut58 (w : ByteArray) (hw : w.size ≤ 4611686018427387904) : (cutB 58 w = [w] ∧ strings_Cut.f w (⟨#[58]⟩ : ByteArray) = some (w, (⟨#[]⟩ : ByteArray), false)) ∨
  ∃ a b : ByteArray, cutB 58 w = a :: cutB 58 b ∧ a.size ≤ w.size ∧ b.size ≤ w.size ∧ strings_Cut.f w (⟨#[58]⟩ : ByteArray) = some (a, b, true) := by
 have hsz := bl_size w
 rcases Nat.eq_zero_or_pos ((bl w).count 58) with hc | hc
 ·left
  have hn : (58 : UInt8) ∉ bl w := List.count_eq_zero.1 hc
  refine ⟨by unfold cutB; rw [cutA_none _ _ hn, List.map_cons, List.map_nil, mkB_bl], ?_⟩
  have hidx : stringslite_Index.f w (⟨#[58]⟩ : ByteArray) = some (-1) := by
   unfold stringslite_Index.f
   rw [if_pos (show (⟨#[58]⟩ : ByteArray).data.toList.length = 1 from rfl)]
   have : ∀ l : List UInt8, (58 : UInt8) ∉ l → Lib.indexByte l 58 = -1 := by
    intro l
    induction l with
    | nil => intro _; rfl
    | cons b l ih =>
     intro h
     unfold Lib.indexByte
     have hb : (b == 58) = false := beq_eq_false_iff_ne.mpr fun e => h (by rw [e]; exact List.mem_cons_self ..)
     rw [hb, ih (fun e => h (List.mem_cons_of_mem _ e))]
     rfl
   exact congrArg some (this _ hn)
  simp only [strings_Cut.f, stringslite_Cut.f, hidx, bS]
  rw [if_neg (by decide)]
  rfl
 ·right
  obtain ⟨m, h1, h2, h3, h4⟩ := index_free 58 (bl w) hc
  have hidx : stringslite_Index.f w (⟨#[58]⟩ : ByteArray) = some (m : Int) := by
   unfold stringslite_Index.f
   rw [if_pos (show (⟨#[58]⟩ : ByteArray).data.toList.length = 1 from rfl)]
   exact congrArg some h1
  have he : bl (w.extract (m + 1) w.size) = (bl w).drop (m + 1) := by
   rw [bl_extract]
   exact List.take_of_length_le (by rw [List.length_drop]; omega)
  refine ⟨w.extract 0 m, w.extract (m + 1) w.size, ?_, ?_, ?_, ?_⟩
  ·unfold cutB
   rw [he]
   conv => lhs; rw [h3]
   rw [cutA_at _ _ _ h4, List.map_cons]
   congr 1
   refine bl_inj ?_
   rw [bl_mkB, bl_extract]
   simp
  ·rw [bl_size, bl_extract, List.length_take, List.length_drop]; omega
  ·rw [bl_size, he, List.length_drop]; omega
  ·have hone : (⟨#[58]⟩ : ByteArray).size = 1 := rfl
   have w1 : Aside0 (wrap64 ((m : Int) + ((⟨#[58]⟩ : ByteArray).size : Int)) = ((m + 1 : Nat) : Int)) := ⟨by rw [hone]; exact w64s m (by omega)⟩
   clear hone
   simp only [strings_Cut.f, stringslite_Cut.f, hidx, bS]
   rw [w1.out, if_pos (by omega), if_pos (by omega), if_pos (by omega), if_pos (by omega), if_pos (by omega), bS]
   simp only [Int.toNat_natCast]
theorem cutB_ne (c : UInt8) (s : ByteArray) : cutB c s ≠ [] := by
 intro h
 have := congrArg List.length h
 unfold cutB at this
 rw [List.length_map, cutA_length] at this
 simp at this
/-- The ranges of pieces, behind ranges. -/
noncomputable def foldS : List ByteArray → List S54 → List S54 × Bool
 | [], out => (out, true)
 | w :: ws, out => match partR w with
  | some (a, b) => if out.length = 50 then ([], false) else foldS ws (out ++ [⟨a, b⟩])
  | none => ([], false)
theorem rd_hd (a : ByteArray) (l : List ByteArray) : rdOf ByteArray.empty (a :: l) 0 = a := rfl
theorem rd_sn (a b : ByteArray) (l : List ByteArray) : rdOf ByteArray.empty (a :: b :: l) 1 = b := rfl
theorem specSet_l0 (l : List ByteArray) (hl : l.length ≤ 4611686018427387904) (hs : ∀ x ∈ l, x.size ≤ 8796093022000) : ∀ (d i : Nat) (out : List S54), i + d = l.length → out.length ≤ 50 → Ev (fun k => spec_l11Set.l0 k out l (i : Int)) (foldS (l.drop i) out) := by
 intro d
 induction d with
 | zero =>
  intro i out hi ho
  rw [List.drop_eq_nil_of_le (by omega)]
  refine Ev.step (f := fun _ => some _) (fun k => ?_) (Ev.now _)
  simp only [spec_l11Set.l0, foldS]
  rw [if_neg (by omega)]
 | succ d ih =>
  intro i out hi ho
  have hlt : i < l.length := by omega
  have hr := rdOf_nat2 l i hlt
  have hw := hs _ (List.getElem_mem hlt)
  rw [List.drop_eq_getElem_cons hlt]
  generalize l[i]'hlt = w at hr hw
  obtain ⟨K1, hK1⟩ := specCut_ev w 58 hw
  have hsub := cutB_size 58 w
  have ejt : ∀ (p : List ByteArray) (a : Int), Ev (fun k => spec_l11Set.j1 k out l (i : Int) p a true) ([], false) := fun p a => Ev.step (f := fun _ => some _) (fun k => by simp only [spec_l11Set.j1]; exact if_pos trivial) (Ev.now _)
  -- the first piece
  obtain ⟨a, q, hp⟩ : ∃ a q, cutB 58 w = a :: q := by
   cases h : cutB 58 w with
   | nil => exact absurd h (cutB_ne 58 w)
   | cons a q => exact ⟨a, q, rfl⟩
  rw [hp] at hsub
  obtain ⟨K2, hK2⟩ := specOne_ev a (by have := hsub a (List.mem_cons_self ..); omega)
  have hstep : ∀ (b : Bool) (k : Nat), K1 + K2 ≤ k → b = (if (endO (bl a)).2 = true then (if q.length + 1 > 2 then true else ((out.length : Int) == 50)) else true) → spec_l11Set.l0 (k + 1) out l (i : Int) = spec_l11Set.j1 k out l (i : Int) (a :: q) (endO (bl a)).1 b := by
   intro b k hk hb
   have e1 : spec_l00Cut.f k w 58 = some (a :: q) := by have := hK1 k (by omega); rw [hp] at this; exact this
   have e2 := hK2 k (by omega)
   simp only at e2
   have hlen : ((a :: q).length : Int) = (q.length : Int) + 1 := by rw [List.length_cons]; omega
   simp only [spec_l11Set.l0, hr, e1, bS, rd_hd, e2, hlen]
   rw [if_pos (by omega), if_pos (by omega), if_pos (by omega), hb]
   by_cases h1 : (endO (bl a)).2 = true
   ·rw [if_pos h1, if_pos h1]
    by_cases h2 : q.length + 1 > 2
    ·rw [if_pos h2, if_pos (by omega)]
    ·rw [if_neg h2, if_neg (by omega)]
   ·rw [if_neg h1, if_neg h1]
  have hfail : ∀ (b : Bool), b = true → b = (if (endO (bl a)).2 = true then (if q.length + 1 > 2 then true else ((out.length : Int) == 50)) else true) → Ev (fun k => spec_l11Set.l0 k out l (i : Int)) ([], false) := by
   intro b hb hb2
   subst hb
   obtain ⟨K3, hK3⟩ := ejt (a :: q) (endO (bl a)).1
   refine ⟨K1 + K2 + K3 + 1, fun k hk => ?_⟩
   obtain ⟨m, rfl⟩ : ∃ m, k = m + 1 := ⟨k - 1, by omega⟩
   simp only
   rw [hstep true m (by omega) hb2]
   exact hK3 m (by omega)
  simp only [foldS]
  by_cases h1 : (endO (bl a)).2 = true
  ·by_cases h50 : out.length = 50
   ·have hres : (match partR w with | some (a, b) => if out.length = 50 then (([], false) : List S54 × Bool) else foldS (l.drop (i + 1)) (out ++ [⟨a, b⟩]) | none => ([], false)) = ([], false) := by
     cases partR w with
     | none => rfl
     | some p => exact if_pos h50
    rw [hres]
    refine hfail true rfl ?_
    rw [if_pos h1]
    split
    ·rfl
    ·exact (beq_iff_eq.mpr (by omega)).symm
   ·have h50' : ((out.length : Int) == 50) = false := beq_eq_false_iff_ne.mpr (by omega)
    cases q with
    | nil =>
     have hpart : partR w = some ((endO (bl a)).1, (endO (bl a)).1) := by unfold partR; rw [hp]; exact if_pos h1
     rw [hpart]
     simp only
     rw [if_neg h50]
     obtain ⟨K3, hK3⟩ := ih (i + 1) (out ++ [⟨(endO (bl a)).1, (endO (bl a)).1⟩]) (by omega) (by rw [List.length_append, List.length_cons, List.length_nil]; omega)
     refine ⟨K1 + K2 + K3 + 2, fun k hk => ?_⟩
     obtain ⟨m, rfl⟩ : ∃ m, k = m + 1 + 1 := ⟨k - 2, by omega⟩
     have e3 := hK3 m (by omega)
     simp only at e3 ⊢
     rw [hstep false (m + 1) (by omega) (by rw [if_pos h1, if_neg (by simp), h50'])]
     simp only [spec_l11Set.j1]
     rw [if_neg (by decide), if_neg (by simp), if_pos (by omega), w64s i (by omega)]
     exact e3
    | cons b r =>
     cases r with
     | nil =>
      obtain ⟨K4, hK4⟩ := specOne_ev b (by have := hsub b (List.mem_cons_of_mem _ (List.mem_cons_self ..)); omega)
      by_cases h2 : (endO (bl b)).2 = true
      ·have hpart : partR w = some ((endO (bl a)).1, (endO (bl b)).1) := by unfold partR; rw [hp]; simp only; rw [if_pos h1, if_pos h2]
       rw [hpart]
       simp only
       rw [if_neg h50]
       obtain ⟨K3, hK3⟩ := ih (i + 1) (out ++ [⟨(endO (bl a)).1, (endO (bl b)).1⟩]) (by omega) (by rw [List.length_append, List.length_cons, List.length_nil]; omega)
       refine ⟨K1 + K2 + K3 + K4 + 2, fun k hk => ?_⟩
       obtain ⟨m, rfl⟩ : ∃ m, k = m + 1 + 1 := ⟨k - 2, by omega⟩
       have e3 := hK3 m (by omega)
       have e4 := hK4 m (by omega)
       simp only at e3 e4 ⊢
       rw [hstep false (m + 1) (by omega) (by rw [if_pos h1, if_neg (by simp), h50'])]
       simp only [spec_l11Set.j1, rd_sn, e4, bS]
       rw [if_neg (by decide), if_pos (by simp), if_pos (by simp), if_pos h2, if_pos (by omega), w64s i (by omega)]
       exact e3
      ·have hpart : partR w = none := by unfold partR; rw [hp]; simp only; rw [if_pos h1, if_neg h2]
       rw [hpart]
       refine ⟨K1 + K2 + K4 + 2, fun k hk => ?_⟩
       obtain ⟨m, rfl⟩ : ∃ m, k = m + 1 + 1 := ⟨k - 2, by omega⟩
       have e4 := hK4 m (by omega)
       simp only at e4 ⊢
       rw [hstep false (m + 1) (by omega) (by rw [if_pos h1, if_neg (by simp), h50'])]
       simp only [spec_l11Set.j1, rd_sn, e4, bS]
       rw [if_neg (by decide), if_pos (by simp), if_pos (by simp), if_neg h2]
     | cons c r =>
      have hpart : partR w = none := by unfold partR; rw [hp]
      rw [hpart]
      exact hfail true rfl (by rw [if_pos h1, if_pos (by simp)])
  ·have hpart : partR w = none := by
    unfold partR
    rw [hp]
    cases q with
    | nil => exact if_neg h1
    | cons b r =>
     cases r with
     | nil => exact if_neg h1
     | cons _ _ => rfl
   rw [hpart]
   exact hfail true rfl (by rw [if_neg h1])
theorem implSet_l0 (l : List ByteArray) (hl : l.length ≤ 4611686018427387904) (hs : ∀ x ∈ l, x.size ≤ 8796093022000) : ∀ (d i : Nat) (out : List S54), i + d = l.length → out.length ≤ 50 → Ev (fun k => impl_readSet.l0 k out l (l.length : Int) (i : Int)) (foldS (l.drop i) out) := by
 intro d
 induction d with
 | zero =>
  intro i out hi ho
  rw [List.drop_eq_nil_of_le (by omega)]
  refine Ev.step (f := fun _ => some _) (fun k => ?_) (Ev.now _)
  simp only [impl_readSet.l0, foldS]
  rw [if_neg (by omega)]
 | succ d ih =>
  intro i out hi ho
  have hlt : i < l.length := by omega
  have hr := rdOf_nat2 l i hlt
  have hw := hs _ (List.getElem_mem hlt)
  rw [List.drop_eq_getElem_cons hlt]
  generalize l[i]'hlt = w at hr hw
  simp only [foldS]
  rcases cut58 w (by omega) with ⟨hp, hcut⟩ | ⟨a, b, hp, ha, hb, hcut⟩
  ·obtain ⟨K2, hK2⟩ := implEnd_ev w (by omega)
   have hstep : ∀ k, K2 ≤ k → impl_readSet.l0 (k + 1) out l (l.length : Int) (i : Int) = impl_readSet.j1 k out (⟨#[]⟩ : ByteArray) (endO (bl w)).1 (endO (bl w)).2 (endO (bl w)).1 l (l.length : Int) (i : Int) false := by
    intro k hk
    have e2 := hK2 k hk
    simp only at e2
    simp only [impl_readSet.l0, hr, hcut, e2, bS]
    rw [if_pos (by omega), if_pos (by omega), if_pos (by omega), if_neg (by decide)]
   by_cases h1 : (endO (bl w)).2 = true
   ·have hpart : partR w = some ((endO (bl w)).1, (endO (bl w)).1) := by unfold partR; rw [hp]; exact if_pos h1
    rw [hpart]
    simp only
    by_cases h50 : out.length = 50
    ·rw [if_pos h50]
     refine ⟨K2 + 2, fun k hk => ?_⟩
     obtain ⟨m, rfl⟩ : ∃ m, k = m + 1 + 1 := ⟨k - 2, by omega⟩
     simp only
     rw [hstep (m + 1) (by omega)]
     simp only [impl_readSet.j1]
     rw [if_neg (by decide), if_pos h1, if_pos (by omega)]
    ·rw [if_neg h50]
     obtain ⟨K3, hK3⟩ := ih (i + 1) (out ++ [⟨(endO (bl w)).1, (endO (bl w)).1⟩]) (by omega) (by rw [List.length_append, List.length_cons, List.length_nil]; omega)
     refine ⟨K2 + K3 + 2, fun k hk => ?_⟩
     obtain ⟨m, rfl⟩ : ∃ m, k = m + 1 + 1 := ⟨k - 2, by omega⟩
     have e3 := hK3 m (by omega)
     simp only at e3 ⊢
     rw [hstep (m + 1) (by omega)]
     simp only [impl_readSet.j1]
     rw [if_neg (by decide), if_pos h1, if_neg (by omega), if_pos (by omega), w64s i (by omega)]
     exact e3
   ·have hpart : partR w = none := by unfold partR; rw [hp]; exact if_neg h1
    rw [hpart]
    refine ⟨K2 + 2, fun k hk => ?_⟩
    obtain ⟨m, rfl⟩ : ∃ m, k = m + 1 + 1 := ⟨k - 2, by omega⟩
    simp only
    rw [hstep (m + 1) (by omega)]
    simp only [impl_readSet.j1]
    rw [if_neg (by decide), if_neg h1]
  ·obtain ⟨K2, hK2⟩ := implEnd_ev a (by omega)
   obtain ⟨K4, hK4⟩ := implEnd_ev b (by omega)
   have hstep : ∀ k, K2 ≤ k → impl_readSet.l0 (k + 1) out l (l.length : Int) (i : Int) = impl_readSet.j1 k out b (endO (bl a)).1 (endO (bl a)).2 (endO (bl a)).1 l (l.length : Int) (i : Int) (endO (bl a)).2 := by
    intro k hk
    have e2 := hK2 k hk
    simp only at e2
    simp only [impl_readSet.l0, hr, hcut, e2, bS]
    rw [if_pos (by omega), if_pos (by omega), if_pos (by omega), if_pos trivial]
   by_cases h1 : (endO (bl a)).2 = true
   ·by_cases h2 : (endO (bl b)).2 = true
    ·have hb1 : cutB 58 b = [b] := by
      rcases cut58 b (by omega) with ⟨h, _⟩ | ⟨c, e, h, _, _, _⟩
      ·exact h
      ·exfalso
       have hm : (58 : UInt8) ∈ bl b := by
        rcases Nat.eq_zero_or_pos ((bl b).count 58) with hc | hc
        ·have := congrArg List.length h
         unfold cutB at this
         rw [List.length_cons, List.length_map, List.length_map, cutA_length, cutA_length, hc] at this
         omega
        ·exact List.count_pos_iff.1 hc
       rw [endO_colon _ hm] at h2
       cases h2
     have hpart : partR w = some ((endO (bl a)).1, (endO (bl b)).1) := by unfold partR; rw [hp, hb1]; simp only; rw [if_pos h1, if_pos h2]
     rw [hpart]
     simp only
     by_cases h50 : out.length = 50
     ·rw [if_pos h50]
      refine ⟨K2 + K4 + 2, fun k hk => ?_⟩
      obtain ⟨m, rfl⟩ : ∃ m, k = m + 1 + 1 := ⟨k - 2, by omega⟩
      have e4 := hK4 m (by omega)
      simp only at e4 ⊢
      rw [hstep (m + 1) (by omega)]
      simp only [impl_readSet.j1, e4, bS]
      rw [if_pos h1, if_pos h2, if_pos (by omega)]
     ·rw [if_neg h50]
      obtain ⟨K3, hK3⟩ := ih (i + 1) (out ++ [⟨(endO (bl a)).1, (endO (bl b)).1⟩]) (by omega) (by rw [List.length_append, List.length_cons, List.length_nil]; omega)
      refine ⟨K2 + K3 + K4 + 2, fun k hk => ?_⟩
      obtain ⟨m, rfl⟩ : ∃ m, k = m + 1 + 1 := ⟨k - 2, by omega⟩
      have e3 := hK3 m (by omega)
      have e4 := hK4 m (by omega)
      simp only at e3 e4 ⊢
      rw [hstep (m + 1) (by omega)]
      simp only [impl_readSet.j1, e4, bS]
      rw [if_pos h1, if_pos h2, if_neg (by omega), if_pos (by omega), w64s i (by omega)]
      exact e3
    ·have hpart : partR w = none := by
      unfold partR
      rw [hp]
      rcases cut58 b (by omega) with ⟨h, _⟩ | ⟨c, e, h, _, _, _⟩
      ·rw [h]; simp only; rw [if_pos h1, if_neg h2]
      ·rw [h]
       cases he : cutB 58 e with
       | nil => exact absurd he (cutB_ne 58 e)
       | cons _ _ => rfl
     rw [hpart]
     refine ⟨K2 + K4 + 2, fun k hk => ?_⟩
     obtain ⟨m, rfl⟩ : ∃ m, k = m + 1 + 1 := ⟨k - 2, by omega⟩
     have e4 := hK4 m (by omega)
     simp only at e4 ⊢
     rw [hstep (m + 1) (by omega)]
     simp only [impl_readSet.j1, e4, bS]
     rw [if_pos h1, if_neg h2]
   ·have hf : (endO (bl a)).2 = false := by
     cases h : (endO (bl a)).2 with
     | false => rfl
     | true => exact absurd h h1
    have hpart : partR w = none := by
     unfold partR
     rw [hp]
     cases hq : cutB 58 b with
     | nil => exact absurd hq (cutB_ne 58 b)
     | cons c r =>
      cases r with
      | nil => exact if_neg h1
      | cons _ _ => rfl
    rw [hpart]
    refine ⟨K2 + 2, fun k hk => ?_⟩
    obtain ⟨m, rfl⟩ : ∃ m, k = m + 1 + 1 := ⟨k - 2, by omega⟩
    simp only
    rw [hstep (m + 1) (by omega), hf]
    simp only [impl_readSet.j1]
    rw [if_neg (by decide), if_neg (by decide)]
theorem foldS_len : ∀ (l : List ByteArray) (out : List S54), out.length ≤ 50 → (foldS l out).1.length ≤ 50
 | [], out, h => h
 | w :: ws, out, h => by
  simp only [foldS]
  split
  ·split
   ·exact Nat.zero_le _
   ·exact foldS_len ws _ (by rw [List.length_append, List.length_cons, List.length_nil]; omega)
  ·exact Nat.zero_le _
theorem set_both (s : ByteArray) : ∃ r, Ev (fun k => spec_ReadSet.f k s) r ∧ Ev (fun k => impl_ReadSet.f k s) r ∧ r.1.length ≤ 50 := by
 by_cases h : s.size > 65536
 ·refine ⟨([], 2), ⟨0, fun k _ => ?_⟩, ⟨0, fun k _ => ?_⟩, by simp⟩
  ·simp only [spec_ReadSet.f]; rw [if_pos (by omega)]
  ·simp only [impl_ReadSet.f]; rw [if_pos (by omega)]
 ·obtain ⟨K1, hK1⟩ := specCut_ev s 44 (by omega)
  obtain ⟨K2, hK2⟩ := split_ev s 44 (by omega)
  have hcl := cutB_length 44 s
  have hcs : ∀ y ∈ cutB 44 s, y.size ≤ 8796093022000 := fun y hy => by have := cutB_size 44 s y hy; omega
  obtain ⟨K3, hK3⟩ := specSet_l0 (cutB 44 s) (by omega) hcs _ 0 [] (Nat.zero_add _) (by simp)
  obtain ⟨K4, hK4⟩ := implSet_l0 (cutB 44 s) (by omega) hcs _ 0 [] (Nat.zero_add _) (by simp)
  have hlen := foldS_len ((cutB 44 s).drop 0) [] (by simp)
  generalize foldS ((cutB 44 s).drop 0) [] = r at hK3 hK4 hlen
  obtain ⟨a, b⟩ := r
  have e1 : ∀ k, K1 + K3 ≤ k → spec_l11Set.f k s = some (a, b) := fun k hk => by
   have e1 : spec_l00Cut.f k s 44 = some (cutB 44 s) := hK1 k (by omega)
   have e3 := hK3 k (by omega)
   simp only [spec_l11Set.f, e1, bS]
   exact e3
  have e2 : ∀ k, K2 + K4 ≤ k → impl_readSet.f k s = some (a, b) := fun k hk => by
   have e1 : strings_Split.f k s (⟨#[44]⟩ : ByteArray) = some (cutB 44 s) := hK2 k (by omega)
   have e4 := hK4 k (by omega)
   simp only [impl_readSet.f, e1, bS]
   exact e4
  cases b with
  | true =>
   refine ⟨(a, 0), ⟨K1 + K3, fun k hk => ?_⟩, ⟨K2 + K4, fun k hk => ?_⟩, hlen⟩
   ·simp only [spec_ReadSet.f, e1 k hk, bS]; rw [if_neg (by omega), if_pos trivial]
   ·simp only [impl_ReadSet.f, e2 k hk, bS]; rw [if_neg (by omega), if_pos trivial]
  | false =>
   refine ⟨([], 3), ⟨K1 + K3, fun k hk => ?_⟩, ⟨K2 + K4, fun k hk => ?_⟩, by simp⟩
   ·simp only [spec_ReadSet.f, e1 k hk, bS]; rw [if_neg (by omega), if_neg (by decide)]
   ·simp only [impl_ReadSet.f, e2 k hk, bS]; rw [if_neg (by omega), if_neg (by decide)]
end Go.Proofs.YtcmifdcgmalnlaaDoor.P
/- Lemmas of mine: the drawn sets' texts, read and told again. Plain. -/
set_option linter.unusedVariables false
set_option linter.unusedSimpArgs false
namespace Go.Proofs.YtcmifdcgmalnlaaDoor.P
open Go.RowKit Go.Proofs.YtcmifdcgmalnlaaDoorW.PrintWords
theorem endO_num (l : List UInt8) (v : Int) (hl : l ≠ [42]) (h : goodN l) (hv : valN l = v) (hr : 1 ≤ v ∧ v ≤ 4294967295) : endO l = (v, true) := by
 unfold endO
 rw [if_neg hl, numO_good l h, if_pos rfl]
 show (valN l, decide (1 ≤ valN l ∧ valN l ≤ 4294967295)) = (v, true)
 rw [hv, decide_eq_true hr]
theorem endO_star : endO [42] = (0, true) := by unfold endO; rw [if_pos rfl]
/-- A plain number: digits without a nought ahead. -/
def numB (l : List UInt8) : Bool := decide (1 ≤ l.length ∧ l.length ≤ 18) && (l.all isDig && decide (¬ l[0]? = some 48))
theorem numB_good (l : List UInt8) (h : numB l = true) : goodN l ∧ valN l = (valF 0 l : Int) ∧ l ≠ [42] := by
 unfold numB at h
 rw [Bool.and_eq_true, Bool.and_eq_true, decide_eq_true_eq, decide_eq_true_eq] at h
 obtain ⟨h1, h2, h3⟩ := h
 have h45 : ¬ l[0]? = some 45 := by
  intro e
  cases l with
  | nil => cases e
  | cons a r =>
   have ha : a = 45 := Option.some.inj e
   rw [List.all_cons, Bool.and_eq_true, ha] at h2
   exact absurd h2.1 (by decide)
 have hd : digN l = l := by unfold digN; exact if_neg h45
 refine ⟨⟨by rw [hd]; exact h1, by rw [hd]; exact fun q => h3 q.1, by rw [hd]; exact h2⟩, ?_, ?_⟩
 ·unfold valN; rw [if_neg h45, hd]
 ·intro e
  rw [e] at h2
  exact absurd h2 (by decide)
theorem endO_dig (l : List UInt8) (v : Nat) (h : numB l = true) (hv : valF 0 l = v) (hr : 1 ≤ v ∧ v ≤ 4294967295) : endO l = ((v : Int), true) := by
 obtain ⟨h1, h2, h3⟩ := numB_good l h
 exact endO_num l v h3 h1 (by rw [h2, hv]) (by omega)
theorem part1 (w a : ByteArray) (v : Int) (h : cutB 58 w = [a]) (he : endO (bl a) = (v, true)) : partR w = some (v, v) := by
 unfold partR
 rw [h]
 show (if (endO (bl a)).2 = true then some ((endO (bl a)).1, (endO (bl a)).1) else none) = _
 rw [he]; rfl
theorem part2 (w a b : ByteArray) (v u : Int) (h : cutB 58 w = [a, b]) (he : endO (bl a) = (v, true)) (hf : endO (bl b) = (u, true)) : partR w = some (v, u) := by
 unfold partR
 rw [h]
 show (if (endO (bl a)).2 = true then (if (endO (bl b)).2 = true then some ((endO (bl a)).1, (endO (bl b)).1) else none) else none) = _
 rw [he, hf]; rfl
theorem foldS_step (w : ByteArray) (ws : List ByteArray) (out : List S54) (a b : Int) (h : partR w = some (a, b)) (ho : ¬ out.length = 50) : foldS (w :: ws) out = foldS ws (out ++ [⟨a, b⟩]) := by
 rw [foldS, h]
 exact if_neg ho
/-- What both tell of a text that is a set. -/
theorem set_at (s : ByteArray) (L : List S54) (h : s.size ≤ 65536) (hf : foldS (cutB 44 s) [] = (L, true)) : Ev (fun k => spec_ReadSet.f k s) (L, 0) ∧ Ev (fun k => impl_ReadSet.f k s) (L, 0) := by
 obtain ⟨K1, hK1⟩ := specCut_ev s 44 (by omega)
 obtain ⟨K2, hK2⟩ := split_ev s 44 (by omega)
 have hcl := cutB_length 44 s
 have hcs : ∀ y ∈ cutB 44 s, y.size ≤ 8796093022000 := fun y hy => by have := cutB_size 44 s y hy; omega
 obtain ⟨K3, hK3⟩ := specSet_l0 (cutB 44 s) (by omega) hcs _ 0 [] (Nat.zero_add _) (by simp)
 obtain ⟨K4, hK4⟩ := implSet_l0 (cutB 44 s) (by omega) hcs _ 0 [] (Nat.zero_add _) (by simp)
 rw [List.drop_zero, hf] at hK3 hK4
 have e1 : ∀ k, K1 + K3 ≤ k → spec_l11Set.f k s = some (L, true) := fun k hk => by
  have e1 : spec_l00Cut.f k s 44 = some (cutB 44 s) := hK1 k (by omega)
  have e3 := hK3 k (by omega)
  simp only [spec_l11Set.f, e1, bS]
  exact e3
 have e2 : ∀ k, K2 + K4 ≤ k → impl_readSet.f k s = some (L, true) := fun k hk => by
  have e1 : strings_Split.f k s (⟨#[44]⟩ : ByteArray) = some (cutB 44 s) := hK2 k (by omega)
  have e4 := hK4 k (by omega)
  simp only [impl_readSet.f, e1, bS]
  exact e4
 refine ⟨⟨K1 + K3, fun k hk => ?_⟩, ⟨K2 + K4, fun k hk => ?_⟩⟩
 ·simp only [spec_ReadSet.f, e1 k hk, bS]; rw [if_neg (by omega), if_pos trivial]
 ·simp only [impl_ReadSet.f, e2 k hk, bS]; rw [if_neg (by omega), if_pos trivial]
/-- The program's text of a set. -/
theorem text_at (l : List S54) (hs : setR l = true) : Ev (fun k => impl_SetText.f k l) (mkT (jn (l.map rngT)), 0) := by
 obtain ⟨hl, hok⟩ := setR_ok hs
 obtain ⟨K2, h2⟩ := implText_l0 l hl.2 hok l.length 0 (List.replicate l.length (⟨#[]⟩ : ByteArray)) (by omega) (by simp) (by simp)
 refine ⟨K2, fun k hk => ?_⟩
 have e2 := h2 k hk
 simp only at e2
 simp only [impl_SetText.f, implSetOK_eq, hs, bS, Int.toNat_natCast]
 rw [if_neg (by omega), if_pos trivial, if_pos (by omega), if_pos (by omega)]
 exact e2
theorem dd1 (d : Nat) (h : d < 10) : Lib.decDigits d = [UInt8.ofNat (48 + d)] := by rw [Lib.decDigits, dif_pos h]
theorem dd2 (n : Nat) (l : List UInt8) (h : ¬ n < 10) (hl : Lib.decDigits (n / 10) = l) : Lib.decDigits n = l ++ [UInt8.ofNat (48 + n % 10)] := by rw [Lib.decDigits, dif_neg h, hl]
theorem dd_big : Lib.decDigits 4294967295 = [52, 50, 57, 52, 57, 54, 55, 50, 57, 53] :=
 Eq.trans (dd2 4294967295 _ (by decide) (dd2 429496729 _ (by decide) (dd2 42949672 _ (by decide) (dd2 4294967 _ (by decide) (dd2 429496 _ (by decide) (dd2 42949 _ (by decide) (dd2 4294 _ (by decide) (dd2 429 _ (by decide) (dd2 42 _ (by decide) (dd1 4 (by decide))))))))))) (by decide)
/-- A set's text that is read and told again as it was. -/
def Good (s : ByteArray) : Prop := ∃ L : List S54, (foldS (cutB 44 s) [] = (L, true) ∧ mkT (jn (L.map rngT)) = s) ∧ setR L = true ∧ s.size ≤ 65536
theorem e1 : endO [49] = (1, true) := endO_dig _ 1 (by decide) (by decide) (by decide)
theorem e2 : endO [50] = (2, true) := endO_dig _ 2 (by decide) (by decide) (by decide)
theorem e3 : endO [51] = (3, true) := endO_dig _ 3 (by decide) (by decide) (by decide)
theorem e4 : endO [52] = (4, true) := endO_dig _ 4 (by decide) (by decide) (by decide)
theorem e5 : endO [53] = (5, true) := endO_dig _ 5 (by decide) (by decide) (by decide)
theorem e7 : endO [55] = (7, true) := endO_dig _ 7 (by decide) (by decide) (by decide)
theorem eB : endO [52, 50, 57, 52, 57, 54, 55, 50, 57, 53] = (4294967295, true) := endO_dig _ 4294967295 (by decide) (by decide) (by decide)
theorem t0 : endT 0 = [42] := by unfold endT; rw [if_pos rfl]
theorem tN (n : Nat) (l : List UInt8) (h : n ≠ 0) (hl : Lib.decDigits n = l) : endT (n : Int) = l := by unfold endT; rw [if_neg (by omega), Int.toNat_natCast, hl]
theorem t1 : endT 1 = [49] := tN 1 _ (by decide) (dd1 1 (by decide))
theorem t2 : endT 2 = [50] := tN 2 _ (by decide) (dd1 2 (by decide))
theorem t3 : endT 3 = [51] := tN 3 _ (by decide) (dd1 3 (by decide))
theorem t4 : endT 4 = [52] := tN 4 _ (by decide) (dd1 4 (by decide))
theorem t5 : endT 5 = [53] := tN 5 _ (by decide) (dd1 5 (by decide))
theorem t7 : endT 7 = [55] := tN 7 _ (by decide) (dd1 7 (by decide))
theorem tB : endT 4294967295 = [52, 50, 57, 52, 57, 54, 55, 50, 57, 53] := tN 4294967295 _ (by decide) dd_big
theorem r1 (a : Int) (l : List UInt8) (h : endT a = l) : rngT ⟨a, a⟩ = l := by unfold rngT; rw [if_pos rfl, h]
theorem r2 (a b : Int) (l m : List UInt8) (hn : ¬ b = a) (h : endT a = l) (h2 : endT b = m) : rngT ⟨a, b⟩ = l ++ 58 :: m := by unfold rngT; rw [if_neg hn, h, h2]
theorem good1 (s : ByteArray) (a b : Int) (l : List UInt8) (hc : cutB 44 s = [s]) (hp : partR s = some (a, b)) (hr : rngT ⟨a, b⟩ = l) (hl : mkT l = s) (hok : setR [(⟨a, b⟩ : S54)] = true) (hz : s.size ≤ 65536) : Good s := by
 refine ⟨[⟨a, b⟩], ⟨?_, ?_⟩, hok, hz⟩
 ·rw [hc, foldS_step _ _ _ a b hp (by decide)]; rfl
 ·show mkT (jn [rngT ⟨a, b⟩]) = s
  rw [hr]; exact hl
theorem g0 : Good (⟨#[49]⟩ : ByteArray) := good1 _ 1 1 [49] rfl (part1 _ _ 1 rfl e1) (r1 1 _ t1) rfl (by decide) (by decide)
theorem g1 : Good (⟨#[49, 58, 51]⟩ : ByteArray) := good1 _ 1 3 _ rfl (part2 _ _ _ 1 3 rfl e1 e3) (r2 1 3 _ _ (by decide) t1 t3) rfl (by decide) (by decide)
theorem g2 : Good (⟨#[42]⟩ : ByteArray) := good1 _ 0 0 _ rfl (part1 _ _ 0 rfl endO_star) (r1 0 _ t0) rfl (by decide) (by decide)
theorem g3 : Good (⟨#[50, 58, 42]⟩ : ByteArray) := good1 _ 2 0 _ rfl (part2 _ _ _ 2 0 rfl e2 endO_star) (r2 2 0 _ _ (by decide) t2 t0) rfl (by decide) (by decide)
theorem g5 : Good (⟨#[42, 58, 49]⟩ : ByteArray) := good1 _ 0 1 _ rfl (part2 _ _ _ 0 1 rfl endO_star e1) (r2 0 1 _ _ (by decide) t0 t1) rfl (by decide) (by decide)
theorem g6 : Good (⟨#[52, 50, 57, 52, 57, 54, 55, 50, 57, 53]⟩ : ByteArray) := good1 _ 4294967295 4294967295 _ rfl (part1 _ _ _ rfl eB) (r1 _ _ tB) rfl (by decide) (by decide)
theorem g8 : Good (⟨#[55]⟩ : ByteArray) := good1 _ 7 7 _ rfl (part1 _ _ 7 rfl e7) (r1 7 _ t7) rfl (by decide) (by decide)
theorem g7 : Good (⟨#[49, 58, 50, 44, 52]⟩ : ByteArray) := by
 have p1 := part2 (⟨#[49, 58, 50]⟩ : ByteArray) (⟨#[49]⟩ : ByteArray) (⟨#[50]⟩ : ByteArray) 1 2 rfl e1 e2
 have p2 := part1 (⟨#[52]⟩ : ByteArray) (⟨#[52]⟩ : ByteArray) 4 rfl e4
 refine ⟨[⟨1, 2⟩, ⟨4, 4⟩], ⟨?_, ?_⟩, by decide, by decide⟩
 ·rw [show cutB 44 (⟨#[49, 58, 50, 44, 52]⟩ : ByteArray) = [⟨#[49, 58, 50]⟩, ⟨#[52]⟩] from rfl, foldS_step _ _ [] 1 2 p1 (by decide), foldS_step _ _ ([] ++ [(⟨1, 2⟩ : S54)]) 4 4 p2 (by decide)]; rfl
 ·show mkT (jn [rngT ⟨1, 2⟩, rngT ⟨4, 4⟩]) = _
  rw [r2 1 2 _ _ (by decide) t1 t2, r1 4 _ t4]; rfl
theorem g4 : Good (⟨#[49, 44, 51, 44, 53, 58, 52]⟩ : ByteArray) := by
 have p1 := part1 (⟨#[49]⟩ : ByteArray) (⟨#[49]⟩ : ByteArray) 1 rfl e1
 have p2 := part1 (⟨#[51]⟩ : ByteArray) (⟨#[51]⟩ : ByteArray) 3 rfl e3
 have p3 := part2 (⟨#[53, 58, 52]⟩ : ByteArray) (⟨#[53]⟩ : ByteArray) (⟨#[52]⟩ : ByteArray) 5 4 rfl e5 e4
 refine ⟨[⟨1, 1⟩, ⟨3, 3⟩, ⟨5, 4⟩], ⟨?_, ?_⟩, by decide, by decide⟩
 ·rw [show cutB 44 (⟨#[49, 44, 51, 44, 53, 58, 52]⟩ : ByteArray) = [⟨#[49]⟩, ⟨#[51]⟩, ⟨#[53, 58, 52]⟩] from rfl, foldS_step _ _ [] 1 1 p1 (by decide), foldS_step _ _ ([] ++ [(⟨1, 1⟩ : S54)]) 3 3 p2 (by decide), foldS_step _ _ ([] ++ [(⟨1, 1⟩ : S54)] ++ [(⟨3, 3⟩ : S54)]) 5 4 p3 (by decide)]; rfl
 ·show mkT (jn [rngT ⟨1, 1⟩, rngT ⟨3, 3⟩, rngT ⟨5, 4⟩]) = _
  rw [r1 1 _ t1, r1 3 _ t3, r2 5 4 _ _ (by decide) t5 t4]; rfl
end Go.Proofs.YtcmifdcgmalnlaaDoor.P
/- Lemmas of mine: the drawn commands are lines without an end in them. Plain. -/
set_option linter.unusedVariables false
set_option linter.unusedSimpArgs false
namespace Go.Proofs.YtcmifdcgmalnlaaDoor.P
open Go.RowKit Go.Proofs.YtcmifdcgmalnlaaDoorW.PrintWords
/-- A text of at most n bytes, none of which ends a line or opens a length. -/
def LO (n : Nat) (s : ByteArray) : Prop := s.size ≤ n ∧ ∀ b ∈ bl s, b ≠ 13 ∧ b ≠ 123
def loB (n : Nat) (s : ByteArray) : Bool := decide (s.size ≤ n) && (bl s).all fun b => decide (b ≠ 13 ∧ b ≠ 123)
theorem lo_dec {n : Nat} {s : ByteArray} (h : loB n s = true) : LO n s := by
 unfold loB at h
 rw [Bool.and_eq_true, decide_eq_true_eq, List.all_eq_true] at h
 exact ⟨h.1, fun b hb => of_decide_eq_true (h.2 b hb)⟩
theorem lo_app {n m : Nat} {a b : ByteArray} (ha : LO n a) (hb : LO m b) : LO (n + m) (a ++ b) := by
 refine ⟨?_, fun x hx => ?_⟩
 ·have h1 := ha.1; have h2 := hb.1
  rw [bl_size] at h1 h2 ⊢
  rw [bl_append, List.length_append]; omega
 ·rw [bl_append] at hx
  rcases List.mem_append.1 hx with h | h
  ·exact ha.2 x h
  ·exact hb.2 x h
theorem lo_le {n m : Nat} {a : ByteArray} (ha : LO n a) (h : n ≤ m) : LO m a := ⟨Nat.le_trans ha.1 h, ha.2⟩
theorem app_size (a b : ByteArray) : (a ++ b).size = a.size + b.size := by rw [bl_size, bl_append, List.length_append, ← bl_size, ← bl_size]
theorem setText_ok {l : List Int} {a s B : Int} (h : Src l a s B) (hB : B ≤ 4611686018427387900) : ∃ r a' s', spec_l00Src_setText.f l a s = some (r, a', s') ∧ Src l a' s' (B + 3) ∧ LO 10 r ∧ Good r := by
 unfold spec_l00Src_setText.f
 obtain ⟨r, a', s', e, h', hm⟩ := pick_ok _ h hB
 rw [e]
 refine ⟨r, a', s', rfl, h', ?_⟩
 rcases hm with hm | ⟨hm, _⟩
 ·have hP : ∀ x ∈ ([(⟨#[49]⟩ : ByteArray), (⟨#[49, 58, 51]⟩ : ByteArray), (⟨#[42]⟩ : ByteArray), (⟨#[50, 58, 42]⟩ : ByteArray), (⟨#[49, 44, 51, 44, 53, 58, 52]⟩ : ByteArray), (⟨#[42, 58, 49]⟩ : ByteArray), (⟨#[52, 50, 57, 52, 57, 54, 55, 50, 57, 53]⟩ : ByteArray), (⟨#[49, 58, 50, 44, 52]⟩ : ByteArray), (⟨#[55]⟩ : ByteArray)] : List ByteArray), LO 10 x ∧ Good x := by
   intro x hx
   simp only [List.mem_cons, List.not_mem_nil, or_false] at hx
   rcases hx with rfl | rfl | rfl | rfl | rfl | rfl | rfl | rfl | rfl
   ·exact ⟨lo_dec (by decide), g0⟩
   ·exact ⟨lo_dec (by decide), g1⟩
   ·exact ⟨lo_dec (by decide), g2⟩
   ·exact ⟨lo_dec (by decide), g3⟩
   ·exact ⟨lo_dec (by decide), g4⟩
   ·exact ⟨lo_dec (by decide), g5⟩
   ·exact ⟨lo_dec (by decide), g6⟩
   ·exact ⟨lo_dec (by decide), g7⟩
   ·exact ⟨lo_dec (by decide), g8⟩
  exact hP r hm
 ·cases hm
theorem lo_lit {n m k : Nat} {a b c : ByteArray} (ha : LO n a) (hb : LO m b) (hc : LO k c) (h : n + m + k ≤ 110) : LO 110 ((a ++ b) ++ c) := lo_le (lo_app (lo_app ha hb) hc) h
theorem cmd_ok {l : List Int} {a s B : Int} (h : Src l a s B) (hB : B ≤ 4611686018427387000) : ∃ r a' s', Ev (fun k => spec_l00Src_imapCommand.f k l a s) (r, a', s') ∧ Src l a' s' (B + 20) ∧ LO 200 r := by
 obtain ⟨r1, a1, s1, e1, h1, m1⟩ := pick_ok (([(⟨#[97]⟩ : ByteArray), (⟨#[98, 49]⟩ : ByteArray), (⟨#[120]⟩ : ByteArray)] : List ByteArray)) h (by omega)
 have l1 : LO 2 r1 := by
  rcases m1 with m1 | ⟨m1, _⟩
  ·simp only [List.mem_cons, List.not_mem_nil, or_false] at m1
   rcases m1 with rfl | rfl | rfl
   ·exact lo_dec (by decide)
   ·exact lo_dec (by decide)
   ·exact lo_dec (by decide)
  ·cases m1
 obtain ⟨r2, a2, s2, e2, h2, b2, c2⟩ := next_ok 9 h1 (by omega)
 have c2 := c2 (by decide)
 obtain ⟨d, hd⟩ : ∃ d : Nat, r2 = (d : Int) := ⟨r2.toNat, (Int.toNat_of_nonneg b2).symm⟩
 subst hd
 have hdig := digits_ev d (by omega)
 have ldig : LO 1 (mkT (Lib.decDigits d)) := by
  rw [dd1 d (by omega)]
  have : d = 0 ∨ d = 1 ∨ d = 2 ∨ d = 3 ∨ d = 4 ∨ d = 5 ∨ d = 6 ∨ d = 7 ∨ d = 8 := by omega
  rcases this with rfl | rfl | rfl | rfl | rfl | rfl | rfl | rfl | rfl <;> exact lo_dec (by decide)
 generalize mkT (Lib.decDigits d) = t at hdig ldig
 obtain ⟨r3, a3, s3, e3, h3, l3, _⟩ := setText_ok h2 (by omega)
 obtain ⟨r4, a4, s4, e4, h4, l4, _⟩ := setText_ok h3 (by omega)
 obtain ⟨r5, a5, s5, e5, h5, l5, _⟩ := setText_ok h4 (by omega)
 have z1 : r1.size ≤ 2 := l1.1
 have zt : t.size ≤ 1 := ldig.1
 have z3 : r3.size ≤ 10 := l3.1
 have z4 : r4.size ≤ 10 := l4.1
 have z5 : r5.size ≤ 10 := l5.1
 have k1 : (⟨#[102, 101, 116, 99, 104, 32]⟩ : ByteArray).size = 6 := rfl
 have k2 : (⟨#[117, 105, 100, 32, 102, 101, 116, 99, 104, 32]⟩ : ByteArray).size = 10 := rfl
 have k3 : (⟨#[115, 116, 111, 114, 101, 32]⟩ : ByteArray).size = 6 := rfl
 have k4 : (⟨#[32]⟩ : ByteArray).size = 1 := rfl
 have key : ∀ (xs : List ByteArray) (F : ByteArray × Int × Int → Option (ByteArray × Int × Int)), (∀ x ∈ xs, LO 110 x) → (∀ r a' s', LO 110 r → F (r, a', s') = some (((r1 ++ t) ++ (⟨#[32]⟩ : ByteArray)) ++ r, a', s')) →
   ∃ out, (spec_l00Src_pick.f l a5 s5 xs).bind F = some out ∧ Src l out.2.1 out.2.2 (B + 20) ∧ LO 200 out.1 := by
  intro xs F hx hF
  obtain ⟨r, a', s', e, h', hm⟩ := pick_ok xs h5 (by omega)
  have lr : LO 110 r := by
   rcases hm with hm | ⟨_, hm⟩
   ·exact hx r hm
   ·rw [hm]; exact lo_dec (by decide)
  refine ⟨(((r1 ++ t) ++ (⟨#[32]⟩ : ByteArray)) ++ r, a', s'), ?_, h'.grow (by omega), lo_le (lo_app (lo_app (lo_app l1 ldig) (lo_dec (n := 1) (s := (⟨#[32]⟩ : ByteArray)) (by decide))) lr) (by decide)⟩
  rw [e, bS, hF r a' s' lr]
 obtain ⟨K, hK⟩ := hdig
 have main : ∃ out, spec_l00Src_imapCommand.f K l a s = some out ∧ Src l out.2.1 out.2.2 (B + 20) ∧ LO 200 out.1 := by
  have hd := hK K (Nat.le_refl _)
  simp only at hd
  simp only [spec_l00Src_imapCommand.f, e1, e2, bS, hd, e3, e4, e5]
  rw [if_pos (by omega), if_pos (by rw [app_size]; omega), if_pos (by omega), if_pos (by rw [app_size, k1]; omega), if_pos (by omega), if_pos (by rw [app_size, k2]; omega), if_pos (by omega), if_pos (by rw [app_size, k3]; omega)]
  refine key _ _ ?_ ?_
  ·repeat' (refine List.forall_mem_cons.2 ⟨?_, ?_⟩)
   all_goals first
    | exact lo_dec (by decide)
    | exact lo_lit (lo_dec (n := 50) (by decide)) l3 (lo_dec (n := 50) (by decide)) (by decide)
    | exact lo_lit (lo_dec (n := 50) (by decide)) l4 (lo_dec (n := 50) (by decide)) (by decide)
    | exact lo_lit (lo_dec (n := 50) (by decide)) l5 (lo_dec (n := 50) (by decide)) (by decide)
    | exact fun x hx => absurd hx (List.not_mem_nil)
  ·intro r a' s' lr
   have := lr.1
   show (if ((r1 ++ t) ++ (⟨#[32]⟩ : ByteArray)).size + r.size ≤ _ then some (((r1 ++ t) ++ (⟨#[32]⟩ : ByteArray)) ++ r, a', s') else none) = _
   rw [if_pos (by rw [app_size, app_size, k4]; omega)]
 obtain ⟨⟨r, a', s'⟩, ho, hS, hL⟩ := main
 refine ⟨r, a', s', ⟨K, fun k hk => ?_⟩, hS, hL⟩
 rw [← ho]
 have hd := hK K (Nat.le_refl _)
 have hd2 := hK k hk
 simp only at hd hd2
 simp only [spec_l00Src_imapCommand.f, e1, e2, bS, hd, hd2]
theorem lines_l0 {l : List Int} : ∀ (d : Nat) (xs : List ByteArray) (a s B : Int), Src l a s B → B + 20 * (d : Int) ≤ 4611686018427386000 → xs.length + d ≤ 100 → (∀ x ∈ xs, LO 200 x) →
  ∃ ys a' s', Ev (fun k => spec_l00Src_imapLines.l0 k xs (d : Int) l a s) (ys, a', s') ∧ (∀ y ∈ ys, LO 200 y) ∧ ys.length ≤ xs.length + d
 | 0, xs, a, s, B, h, hB, hl, hx => ⟨xs, a, s, Ev.step (f := fun _ => some (xs, a, s)) (fun k => by simp only [spec_l00Src_imapLines.l0]; rw [if_neg (by omega)]) (Ev.now _), hx, Nat.le_refl _⟩
 | d + 1, xs, a, s, B, h, hB, hl, hx => by
  obtain ⟨r, a1, s1, e1, h1, l1⟩ := cmd_ok h (by omega)
  obtain ⟨ys, a2, s2, e2, h2, l2⟩ := lines_l0 d (xs ++ [r]) a1 s1 (B + 20) h1 (by omega) (by rw [List.length_append]; simp only [List.length_cons, List.length_nil]; omega) (fun x hx' => by
   rcases List.mem_append.1 hx' with h | h
   ·exact hx x h
   ·rw [List.mem_singleton.1 h]; exact l1)
  refine ⟨ys, a2, s2, Ev.step (fun k => ?_) (Ev.bind (f := fun k bt => if xs.length < 8796093022208 then (spec_l00Src_imapLines.l0 k (xs ++ [bt.1]) (wrap64 ((((d + 1 : Nat)) : Int) - 1)) l bt.2.1 bt.2.2) else none) e1 (Ev.congr (fun k => ?_) e2)), h2, ?_⟩
  ·simp only [spec_l00Src_imapLines.l0]
   rw [if_pos (by omega)]
  ·have e3 : wrap64 ((((d + 1 : Nat)) : Int) - 1) = (d : Int) := by rw [w64 (by omega) (by omega)]; omega
   simp only [e3]
   rw [if_pos (by omega)]
  ·rw [List.length_append] at l2
   simp only [List.length_cons, List.length_nil] at l2
   omega
theorem imapLines_ok (l : List Int) (hl : l.length ≤ 1048576) (hw : ∀ y ∈ l, 0 ≤ y ∧ y ≤ 255) : ∃ ys, Ev (fun k => spec_ImapLinesOf.f k l) ys ∧ (∀ y ∈ ys, LO 200 y) ∧ ys.length ≤ 20 := by
 obtain ⟨s0, e0, h0⟩ := source_ok l hw
 obtain ⟨z, hz, hz1⟩ : ∃ z : Int, mn (wrap64 (1 + (wrap64 ((l.length : Int) / 12)))) 14 = z ∧ 1 ≤ z ∧ z ≤ 14 := by
  refine ⟨_, rfl, ?_⟩
  rw [w64 (n := (l.length : Int) / 12) (by omega) (by omega), w64 (by omega) (by omega)]
  unfold mn
  split <;> omega
 obtain ⟨r, a1, s1, e1, h1, b1, c1⟩ := next_ok (z + 3) h0 (by omega)
 have c1 := c1 (by omega)
 obtain ⟨d, hd⟩ : ∃ d : Nat, r = (d : Int) := ⟨r.toNat, (Int.toNat_of_nonneg b1).symm⟩
 subst hd
 obtain ⟨ys, a2, s2, e2, h2, l2⟩ := lines_l0 d (([(⟨#[97, 48, 32, 108, 111, 103, 105, 110, 32, 117, 115, 101, 114, 32, 102, 101, 101, 100]⟩ : ByteArray), (⟨#[97, 49, 32, 115, 101, 108, 101, 99, 116, 32, 110, 101, 119, 115]⟩ : ByteArray)] : List ByteArray)) a1 s1 _ h1 (by omega) (by simp only [List.length_cons, List.length_nil]; omega) (fun x hx => by
  simp only [List.mem_cons, List.not_mem_nil, or_false] at hx
  rcases hx with rfl | rfl
  ·exact lo_dec (by decide)
  ·exact lo_dec (by decide))
 refine ⟨ys, ?_, h2, by simp only [List.length_cons, List.length_nil] at l2; omega⟩
 obtain ⟨K, hK⟩ := e2
 refine ⟨K, fun k hk => ?_⟩
 have e2 := hK k hk
 simp only at e2
 have ez : wrap64 (z + 3) = z + 3 := w64 (by omega) (by omega)
 simp only [spec_ImapLinesOf.f, e0, bS, spec_l00Src_imapLines.f, spec_l00Src_size.f, hz, ez, e1, e2]
end Go.Proofs.YtcmifdcgmalnlaaDoor.P
/- Lemmas of mine: a choice out of a row's bytes always lies within its bound. Plain. -/
set_option linter.unusedVariables false
set_option linter.unusedSimpArgs false
namespace Go.Proofs.YtcmifdcgmalnlaaDoor.P
open Go.RowKit Go.Proofs.YtcmifdcgmalnlaaDoorW.PrintWords
theorem wfByteA {x : Int} (h : (Lit.int .u8 x).wf = true) : 0 ≤ x ∧ x ≤ 255 := by
 have h2 : IntKind.u8.min ≤ x ∧ x ≤ IntKind.u8.max := by simpa [Lit.wf] using h
 have e1 : IntKind.u8.min = 0 := by decide +kernel
 have e2 : IntKind.u8.max = 255 := by decide +kernel
 rw [e1, e2] at h2
 exact h2
theorem at_ok (l : List Int) (hw : ∀ y ∈ l, 0 ≤ y ∧ y ≤ 255) (hl : l.length ≤ 1048576) (i m : Nat) (hi : i ≤ 1000000000000) (hm : 2 ≤ m) (hm2 : m ≤ 1000) : ∃ n : Nat, laws_at.f l (i : Int) (m : Int) = some (n : Int) ∧ n < m := by
 simp only [laws_at.f]
 rw [if_neg (by omega)]
 have hfin : ∀ x : Int, 0 ≤ x → ∃ n : Nat, (if (m : Int) = 0 then none else some (Int.tmod x (m : Int))) = some (n : Int) ∧ n < m := by
  intro x hx
  have h1 := Int.emod_nonneg x (show (m : Int) ≠ 0 by omega)
  have h2 := Int.emod_lt_of_pos x (show (0 : Int) < (m : Int) by omega)
  refine ⟨(x % (m : Int)).toNat, ?_, ?_⟩
  ·rw [if_neg (by omega), Int.tmod_eq_emod_of_nonneg hx, Int.toNat_of_nonneg (by omega)]
  ·omega
 by_cases h0 : (l.length : Int) = 0
 ·rw [if_pos h0, w64 (n := (i : Int) * 7) (by omega) (by omega)]
  exact hfin _ (by omega)
 ·rw [if_neg h0]
  have hpos : 0 < l.length := by omega
  obtain ⟨p, hp, hp1⟩ : ∃ p : Nat, Int.tmod (i : Int) (l.length : Int) = (p : Int) ∧ p < l.length := by
   refine ⟨i % l.length, ?_, Nat.mod_lt _ hpos⟩
   rw [Int.tmod_eq_emod_of_nonneg (by omega)]
   rfl
  obtain ⟨q, hq, hq1⟩ : ∃ q : Nat, Int.tmod (((i + 1 : Nat)) : Int) (l.length : Int) = (q : Int) ∧ q < l.length := by
   refine ⟨(i + 1) % l.length, ?_, Nat.mod_lt _ hpos⟩
   rw [Int.tmod_eq_emod_of_nonneg (by omega)]
   rfl
  obtain ⟨d, hd, hd1⟩ : ∃ d : Nat, Int.tdiv (i : Int) (l.length : Int) = (d : Int) ∧ d ≤ i := by
   refine ⟨i / l.length, ?_, Nat.div_le_self _ _⟩
   rw [Int.tdiv_eq_ediv_of_nonneg (by omega)]
   rfl
  rw [w64s i (by omega), hp, hq, hd, w64n d (by omega), if_pos (by omega), if_pos (by omega), if_pos (by omega), if_pos (by omega)]
  have hr : ∀ i : Nat, i < l.length → 0 ≤ rd l (i : Int) ∧ rd l (i : Int) ≤ 255 := fun i hi => by
   unfold rd
   rw [Int.toNat_natCast, List.getD_eq_getElem?_getD, List.getElem?_eq_getElem hi]
   exact hw _ (List.getElem_mem hi)
  have h1 := hr p hp1
  have h2 := hr q hq1
  generalize rd l (p : Int) = a at h1
  generalize rd l (q : Int) = b at h2
  have e1 : wrap64 a = a := w64 (by omega) (by omega)
  have e2 : wrap64 b = b := w64 (by omega) (by omega)
  rw [e1, e2]
  clear e1 e2 hr
  have e3 : wrap64 (a * 31) = a * 31 := w64 (by omega) (by omega)
  rw [e3]
  clear e3
  have e4 : wrap64 (a * 31 + b) = a * 31 + b := w64 (by omega) (by omega)
  rw [e4]
  clear e4
  have e5 : wrap64 (a * 31 + b + (d : Int)) = a * 31 + b + (d : Int) := w64 (by omega) (by omega)
  rw [e5]
  clear e5
  exact hfin _ (by omega)
end Go.Proofs.YtcmifdcgmalnlaaDoor.P
/- The pure statement of the law FnTake: drawn commands that come in pieces are taken off one by one, as they were. No condition. -/
set_option linter.unusedVariables false
set_option linter.unusedSimpArgs false
namespace Go.Proofs.YtcmifdcgmalnlaaDoor.P
open Go.RowKit Go.Proofs.YtcmifdcgmalnlaaDoorW.PrintWords
theorem sameT_self (ys : List ByteArray) (h : ys.length ≤ 4611686018427387904) : Ev (fun k => laws_sameTexts.f k ys ys) true := by
 have hl : ∀ (d i : Nat), i + d = ys.length → Ev (fun k => laws_sameTexts.l0 k ys ys (i : Int)) true := by
  intro d
  induction d with
  | zero =>
   intro i hi
   exact Ev.step (f := fun _ => some _) (fun k => by simp only [laws_sameTexts.l0]; rw [if_neg (by omega)]) (Ev.now _)
  | succ d ih =>
   intro i hi
   refine Ev.step (fun k => ?_) (ih (i + 1) (by omega))
   simp only [laws_sameTexts.l0]
   rw [if_pos (by omega), if_pos (by omega), if_pos (by omega), if_pos trivial, w64s i (by omega)]
 refine Ev.congr (fun k => ?_) (hl ys.length 0 (by omega))
 simp only [laws_sameTexts.f]
 rw [if_pos trivial]
 rfl
theorem flat_len (N : Nat) : ∀ l : List (List UInt8), (∀ x ∈ l, x.length ≤ N) → (flatL l).length ≤ l.length * (N + 2)
 | [], _ => Nat.zero_le _
 | a :: r, h => by
  have h1 := flat_len N r fun x hx => h x (List.mem_cons_of_mem _ hx)
  have h2 := h a (List.mem_cons_self ..)
  show (a ++ 13 :: 10 :: flatL r).length ≤ (r.length + 1) * (N + 2)
  rw [List.length_append, List.length_cons, List.length_cons, Nat.add_mul, Nat.one_mul]
  omega
/-- What is taken while the pieces come. -/
theorem pieces (x : List Int) (hw : ∀ y ∈ x, 0 ≤ y ∧ y ≤ 255) (hx : x.length ≤ 1048576) (ls : List ByteArray) (hls : ls.length ≤ 100) (hok : ∀ y ∈ ls, lineOk (bl y)) :
  ∀ (n : Nat) (all : ByteArray), all.size = n → ∀ (rem got : List ByteArray) (buf : ByteArray) (i : Nat), ls = got ++ rem → bl buf ++ bl all = flatL (rem.map bl) → (flatL (rem.map bl)).length ≤ 40000 → i + n ≤ 100000 →
   Ev (fun k => laws_FnTake.l2 k x ls all got buf (i : Int)) true := by
 intro n
 induction n using Nat.strongRecOn with
 | ind n ih =>
  intro all hall rem
  induction rem with
  | nil =>
   intro got buf i hgot hflat hlen hi
   have hf : bl buf ++ bl all = [] := hflat
   obtain ⟨hb, ha⟩ := List.append_eq_nil_iff.1 hf
   have hbs : buf.size = 0 := by rw [bl_size, hb]; rfl
   rw [List.append_nil] at hgot
   subst hgot
   have hsame := sameT_self ls (by omega)
   have hmore := take_more buf (by omega) (fun j hc => by have := crlf_lt hc; rw [hb] at this; exact absurd this (Nat.not_lt_zero _))
   refine Ev.step (fun k => ?_) (Ev.bind hmore (f := fun k bt => if bt.2.2 = 18 then (if bt.2.1.toList = buf.toList then (laws_FnTake.l1 k x ls all ls buf (wrap64 ((i : Int) + 1))) else (some false)) else (if bt.2.2 = 0 then (if (ls.length : Int) = (ls.length : Int) then (some false) else (if ls.length < 8796093022208 then (laws_FnTake.l2 k x ls all (ls ++ [bt.1]) bt.2.1 (i : Int)) else (none))) else (some false))) (Ev.congr (f := fun k => laws_FnTake.l1 k x ls all ls buf (wrap64 ((i : Int) + 1))) (fun k => ?_) (Ev.step (f := fun k => (laws_sameTexts.f k ls ls).bind fun t => some t) (fun k => ?_) (Ev.bind hsame (Ev.now _)))))
   ·simp only [laws_FnTake.l2]
   ·rw [if_pos rfl, if_pos rfl]
   ·simp only [laws_FnTake.l1]
    rw [if_pos (by rw [toList_bl]; exact ha), if_pos (by rw [toList_bl]; exact hb)]
  | cons l rem ihr =>
   intro got buf i hgot hflat hlen hi
   have hlok : lineOk (bl l) := hok l (by rw [hgot]; simp)
   have hflat' : bl buf ++ bl all = bl l ++ 13 :: 10 :: flatL (rem.map bl) := hflat
   have hlen' : (flatL ((l :: rem).map bl)).length = (bl l).length + 2 + (flatL (rem.map bl)).length := by
    show (bl l ++ 13 :: 10 :: flatL (rem.map bl)).length = _
    rw [List.length_append, List.length_cons, List.length_cons]; omega
   have hsum := congrArg List.length hflat
   rw [List.length_append, hlen'] at hsum
   have hbz := bl_size buf
   have haz := bl_size all
   have hgl : ls.length = got.length + (rem.length + 1) := by rw [hgot, List.length_append, List.length_cons]
   by_cases hlong : (bl l).length + 2 ≤ (bl buf).length
   ·obtain ⟨b', hb1, hb2⟩ := long_line _ _ _ _ hflat' hlong
    have htake := take_done buf (bl l) b' (by omega) hb1 hlok
    have hnext := ihr (got ++ [l]) (mkT b') i (by rw [hgot]; simp) (by rw [bl_mkT]; exact hb2) (by omega) hi
    have el : mkT (bl l) = l := mk_bl l
    rw [el] at htake
    refine Ev.step (fun k => ?_) (Ev.bind htake (f := fun k bt => if bt.2.2 = 18 then (if bt.2.1.toList = buf.toList then (laws_FnTake.l1 k x ls all got buf (wrap64 ((i : Int) + 1))) else (some false)) else (if bt.2.2 = 0 then (if (got.length : Int) = (ls.length : Int) then (some false) else (if got.length < 8796093022208 then (laws_FnTake.l2 k x ls all (got ++ [bt.1]) bt.2.1 (i : Int)) else (none))) else (some false))) (Ev.congr (fun k => ?_) hnext))
    ·simp only [laws_FnTake.l2]
    ·rw [if_neg (show ¬ (0 : Int) = 18 by decide), if_pos rfl, if_neg (by omega), if_pos (by omega)]
   ·have hmore := take_more buf (by have := hlok.1; omega) (no_crlf_short _ _ _ _ hlok.2 hflat' (by omega))
    obtain ⟨t, ht, ht9⟩ := at_ok x hw hx (i + 1) 9 (by omega) (by omega) (by omega)
    have hpos : 0 < all.size := by omega
    obtain ⟨q, hq, hq1, hq2⟩ : ∃ q : Nat, mn (all.size : Int) (wrap64 (1 + (t : Int))) = (q : Int) ∧ 1 ≤ q ∧ q ≤ all.size := by
     rw [w64 (n := 1 + (t : Int)) (by omega) (by omega)]
     unfold mn
     split
     ·exact ⟨1 + t, by omega, by omega, by omega⟩
     ·exact ⟨all.size, rfl, by omega, Nat.le_refl _⟩
    have ea : bl (all.extract q all.size) = (bl all).drop q := by rw [bl_extract]; exact List.take_of_length_le (by rw [List.length_drop]; omega)
    have eb : bl (all.extract 0 q) = (bl all).take q := by rw [bl_extract, List.drop_zero, Nat.sub_zero]
    have ez : (all.extract q all.size).size = n - q := by rw [bl_size, ea, List.length_drop]; omega
    have ez2 : (all.extract 0 q).size = q := by rw [bl_size, eb, List.length_take]; omega
    have hnext := ih (n - q) (by omega) (all.extract q all.size) ez (l :: rem) got (buf ++ all.extract 0 q) (i + 1) hgot (by
     rw [bl_append, eb, ea, List.append_assoc, List.take_append_drop]; exact hflat) hlen (by omega)
    have ew : wrap64 ((i : Int) + 1) = ((i + 1 : Nat) : Int) := w64s i (by omega)
    have hne : ¬ all.toList = ([] : List UInt8) := by
     rw [toList_bl]
     intro e
     rw [e] at haz
     exact absurd haz (by simp only [List.length_nil]; omega)
    refine Ev.step (fun k => ?_) (Ev.bind hmore (f := fun k bt => if bt.2.2 = 18 then (if bt.2.1.toList = buf.toList then (laws_FnTake.l1 k x ls all got buf (wrap64 ((i : Int) + 1))) else (some false)) else (if bt.2.2 = 0 then (if (got.length : Int) = (ls.length : Int) then (some false) else (if got.length < 8796093022208 then (laws_FnTake.l2 k x ls all (got ++ [bt.1]) bt.2.1 (i : Int)) else (none))) else (some false))) (Ev.congr (f := fun k => laws_FnTake.l1 k x ls all got buf ((i + 1 : Nat) : Int)) (fun k => ?_) (Ev.step (fun k => ?_) hnext)))
    ·simp only [laws_FnTake.l2]
    ·rw [if_pos rfl, if_pos rfl, ew]
    ·have ht' : laws_at.f x (((i + 1 : Nat)) : Int) 9 = some (t : Int) := ht
     simp only [laws_FnTake.l1, ht', bS, hq, Int.toNat_natCast]
     rw [if_neg hne, if_pos (by omega), if_pos (by omega), if_pos (by omega)]
theorem all_l0 (x : List Int) (ls : List ByteArray) (hls : ls.length ≤ 100) (hz : ∀ y ∈ ls, (bl y).length ≤ 300) (r : Bool) :
  ∀ (d i : Nat) (all : ByteArray), i + d = ls.length → bl all = flatL ((ls.take i).map bl) → (∀ a : ByteArray, bl a = flatL (ls.map bl) → Ev (fun k => laws_FnTake.l1 k x ls a ([] : List ByteArray) (⟨#[]⟩ : ByteArray) 0) r) →
   Ev (fun k => laws_FnTake.l0 k x ls all (i : Int)) r
 | 0, i, all, hi, ha, h => by
  rw [List.take_of_length_le (by omega)] at ha
  refine Ev.step (fun k => ?_) (h all ha)
  simp only [laws_FnTake.l0]
  rw [if_neg (by omega)]
 | d + 1, i, all, hi, ha, h => by
  have hlt : i < ls.length := by omega
  have hr := rdOf_nat2 ls i hlt
  have hx := hz _ (List.getElem_mem hlt)
  have hfl := flat_len 300 ((ls.take i).map bl) (fun y hy => by
   obtain ⟨z, hz1, rfl⟩ := List.mem_map.1 hy
   exact hz z (List.mem_of_mem_take hz1))
  rw [← ha, List.length_map, List.length_take, ← bl_size] at hfl
  have hm : min i ls.length ≤ 100 := by omega
  have hal : all.size ≤ 30200 := by
   have : min i ls.length * (300 + 2) ≤ 100 * 302 := Nat.mul_le_mul hm (Nat.le_refl _)
   omega
  rw [← bl_size] at hx
  have htake : (ls.take (i + 1)).map bl = (ls.take i).map bl ++ [bl (ls[i]'hlt)] := by
   rw [List.take_add_one, List.getElem?_eq_getElem hlt, List.map_append]; rfl
  have hnext := all_l0 x ls hls hz r d (i + 1) (all ++ ((ls[i]'hlt) ++ (⟨#[13, 10]⟩ : ByteArray))) (by omega) (by
   rw [htake, flatL_app, bl_append, bl_append, ha]; rfl) h
  refine Ev.step (fun k => ?_) hnext
  have e2 : ((ls[i]'hlt) ++ (⟨#[13, 10]⟩ : ByteArray)).size = (ls[i]'hlt).size + 2 := app_size _ _
  simp only [laws_FnTake.l0, hr]
  rw [if_pos (by omega), if_pos (by omega), if_pos (by omega), if_pos (by omega), w64s i (by omega)]
end Go.Proofs.YtcmifdcgmalnlaaDoor.P
namespace Go.Proofs.YtcmifdcgmalnlaaDoor.Pure
open Go.RowKit Go.Proofs.YtcmifdcgmalnlaaDoor.P Go.Proofs.YtcmifdcgmalnlaaDoorW.PrintWords
theorem FnTake : laws_FnTake.Pure := by
 intro x y hx hy
 refine Ev.k (?_ : Ev (fun k => laws_FnTake.f k x y) true)
 have hT : Ev (fun k => laws_FnTake.j0 k x y true) true := Ev.step (f := fun _ => some true) (fun k => by simp only [laws_FnTake.j0]; exact if_pos trivial) (Ev.now _)
 by_cases h1 : (x.length : Int) > 1048576
 ·exact Ev.congr (fun k => by simp only [laws_FnTake.f]; exact if_pos h1) hT
 ·by_cases h2 : (y.length : Int) > 1048576
  ·exact Ev.congr (fun k => by simp only [laws_FnTake.f]; rw [if_neg h1, decide_eq_true h2]) hT
  ·refine Ev.congr (fun k => by simp only [laws_FnTake.f]; rw [if_neg h1, decide_eq_false h2]) ?_
   have hwy : ∀ z ∈ y, 0 ≤ z ∧ z ≤ 255 := fun z hz => wfByteA (hy.2.2 z hz)
   obtain ⟨ls, hls, hok, hlen⟩ := imapLines_ok x (by omega) fun z hz => wfByteA (hx.2.2 z hz)
   have hok' : ∀ z ∈ ls, lineOk (bl z) := fun z hz => ⟨by have := (hok z hz).1; rw [bl_size] at this; omega, (hok z hz).2⟩
   have hfl := flat_len 200 (ls.map bl) (fun z hz => by
    obtain ⟨w, hw1, rfl⟩ := List.mem_map.1 hz
    have := (hok w hw1).1
    rw [bl_size] at this
    exact this)
   rw [List.length_map] at hfl
   have hfl2 : (flatL (ls.map bl)).length ≤ 4040 := by
    have : ls.length * (200 + 2) ≤ 20 * 202 := Nat.mul_le_mul hlen (Nat.le_refl _)
    omega
   have hl0 := all_l0 y ls (by omega) (fun z hz => by have := (hok z hz).1; rw [bl_size] at this; omega) true ls.length 0 (⟨#[]⟩ : ByteArray) (by omega) rfl ?_
   ·refine Ev.step (fun k => ?_) (Ev.bind hls (f := fun k t => laws_FnTake.l0 k y t (⟨#[]⟩ : ByteArray) 0) hl0)
    simp only [laws_FnTake.j0]
    exact if_neg (by decide)
   ·intro all hall
    have hasz : all.size ≤ 4040 := by rw [bl_size, hall]; exact hfl2
    have haz := bl_size all
    by_cases hpos : all.size = 0
    ·have hnil : bl all = [] := List.length_eq_zero_iff.1 (by omega)
     have hls0 : ls = [] := by
      cases ls with
      | nil => rfl
      | cons a r =>
       rw [hnil] at hall
       have := congrArg List.length hall
       have e : (flatL ((a :: r).map bl)) = bl a ++ 13 :: 10 :: flatL (r.map bl) := rfl
       rw [e, List.length_append, List.length_cons] at this
       simp only [List.length_nil] at this
       omega
     subst hls0
     refine Ev.step (f := fun k => (laws_sameTexts.f k [] []).bind fun t => some t) (fun k => ?_) (Ev.bind (sameT_self [] (by simp)) (Ev.now _))
     simp only [laws_FnTake.l1]
     rw [if_pos (by rw [toList_bl]; exact hnil), if_pos (by rw [toList_bl]; rfl)]
    ·obtain ⟨t, ht, ht9⟩ := at_ok y hwy (by omega) 0 9 (by omega) (by omega) (by omega)
     obtain ⟨q, hq, hq1, hq2⟩ : ∃ q : Nat, mn (all.size : Int) (wrap64 (1 + (t : Int))) = (q : Int) ∧ 1 ≤ q ∧ q ≤ all.size := by
      rw [w64 (n := 1 + (t : Int)) (by omega) (by omega)]
      unfold mn
      split
      ·exact ⟨1 + t, by omega, by omega, by omega⟩
      ·exact ⟨all.size, rfl, by omega, Nat.le_refl _⟩
     have ea : bl (all.extract q all.size) = (bl all).drop q := by rw [bl_extract]; exact List.take_of_length_le (by rw [List.length_drop]; omega)
     have eb : bl (all.extract 0 q) = (bl all).take q := by rw [bl_extract, List.drop_zero, Nat.sub_zero]
     have ez : (all.extract q all.size).size = all.size - q := by rw [bl_size, ea, List.length_drop]; omega
     have ez2 : (all.extract 0 q).size = q := by rw [bl_size, eb, List.length_take]; omega
     have hnext := pieces y hwy (by omega) ls (by omega) hok' (all.size - q) (all.extract q all.size) ez ls [] ((⟨#[]⟩ : ByteArray) ++ all.extract 0 q) 0 rfl (by
      rw [bl_append, eb, ea, bl_empty, List.nil_append, List.take_append_drop]; exact hall) (by omega) (by omega)
     have hne : ¬ all.toList = ([] : List UInt8) := by
      rw [toList_bl]
      intro e
      rw [e] at haz
      exact absurd haz (by simp only [List.length_nil]; omega)
     have hz0 : (⟨#[]⟩ : ByteArray).size = 0 := rfl
     refine Ev.step (fun k => ?_) hnext
     have ht' : laws_at.f y 0 9 = some (t : Int) := ht
     simp only [laws_FnTake.l1, ht', bS, hq, Int.toNat_natCast]
     rw [if_neg hne, if_pos (by omega), if_pos (by omega), if_pos (by omega)]
     rfl
end Go.Proofs.YtcmifdcgmalnlaaDoor.Pure
