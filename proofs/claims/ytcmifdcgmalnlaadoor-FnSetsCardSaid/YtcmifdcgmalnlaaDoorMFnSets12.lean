/- Part 12 of what the law FnSets stands on; the last part ends with the law's row. No condition of mine. -/
import Derived.Test.YtcmifdcgmalnlaaDoorMFnSets8
import Derived.Test.YtcmifdcgmalnlaaDoorMFnSets3
import Derived.Test.YtcmifdcgmalnlaaDoorMFnSets5
import Derived.Test.YtcmifdcgmalnlaaDoorMFnSets11
import Derived.Test.YtcmifdcgmalnlaaDoorMFnSets2
import Derived.Test.YtcmifdcgmalnlaaDoorMFnSets1
/- Lemmas of mine: a set read from its text: the two ReadSet tell the same. Plain. -/
set_option linter.unusedVariables false
set_option linter.unusedSimpArgs false
namespace Go.Proofs.YtcmifdcgmalnlaaDoor.P
open Go.RowKit Go.Proofs.YtcmifdcgmalnlaaDoorW.PrintWords
/-- An end of a range. -/
noncomputable def endO (l : List UInt8) : Int × Bool := if l = [42] then (0, true) else if (numO l).2 = true then ((numO l).1, decide (1 ≤ (numO l).1 ∧ (numO l).1 ≤ 4294967295)) else ((numO l).1, false)
theorem specOne_ev (s : ByteArray) (hs : s.size ≤ 4611686018427387904) : Ev (fun k => spec_l11One.f k s) (endO (bl s)) := by
 obtain ⟨K, hK⟩ := specNum_ev s hs
 refine ⟨K, fun k hk => ?_⟩
 have e := hK k hk
 simp only at e
 simp only [spec_l11One.f, e, bS, toList_bl, l01In_eq]
 unfold endO
 split
 ·rfl
 ·split <;> rfl
theorem implEnd_ev (s : ByteArray) (hs : s.size ≤ 4611686018427387904) : Ev (fun k => impl_endOf.f k s) (endO (bl s)) := by
 obtain ⟨K, hK⟩ := implNum_ev s hs
 refine ⟨K, fun k hk => ?_⟩
 have e := hK k hk
 simp only at e
 simp only [impl_endOf.f, e, bS, toList_bl, within_eq]
 unfold endO
 split
 ·rfl
 ·split <;> rfl
theorem endO_colon (l : List UInt8) (h : 58 ∈ l) : (endO l).2 = false := by
 unfold endO
 rw [if_neg (fun e => by rw [e] at h; simp at h)]
 have hn : ¬ goodN l := by
  intro hg
  have hd : (58 : UInt8) ∈ digN l := by
   unfold digN
   cases l with
   | nil => cases h
   | cons a r =>
    split
    ·rename_i h0
     have ha : a = 45 := Option.some.inj h0
     subst ha
     rcases List.mem_cons.1 h with e | e
     ·exact absurd e (by decide)
     ·exact e
    ·exact h
  have := List.all_eq_true.1 hg.2.2 _ hd
  exact absurd this (by decide)
 rw [numO_bad _ hn]
 rfl
/-- Behind the first end: one, or two. -/
noncomputable def partR (w : ByteArray) : Option (Int × Int) :=
 match cutB 58 w with
 | [a] => if (endO (bl a)).2 = true then some ((endO (bl a)).1, (endO (bl a)).1) else none
 | [a, b] => if (endO (bl a)).2 = true then (if (endO (bl b)).2 = true then some ((endO (bl a)).1, (endO (bl b)).1) else none) else none
 | _ => none
theorem cut58 (w : ByteArray) (hw : w.size ≤ 4611686018427387904) : (cutB 58 w = [w] ∧ strings_Cut.f w (⟨#[58]⟩ : ByteArray) = some (w, (⟨#[]⟩ : ByteArray), false)) ∨
  ∃ a b : ByteArray, cutB 58 w = a :: cutB 58 b ∧ a.size ≤ w.size ∧ b.size ≤ w.size ∧ strings_Cut.f w (⟨#[58]⟩ : ByteArray) = some (a, b, true) := by
 have hsz := bl_size w
 rcases Nat.eq_zero_or_pos ((bl w).count 58) with hc | hc
 ·left
  have hn : (58 : UInt8) ∉ bl w := List.count_eq_zero.1 hc
  refine ⟨by unfold cutB; rw [cutA_none _ _ hn, List.map_cons, List.map_nil, mkB_bl], ?_⟩
  have hidx : stringslite_Index.f w (⟨#[58]⟩ : ByteArray) = some (-1) := by
   unfold stringslite_Index.f
   rw [if_pos (show (⟨#[58]⟩ : ByteArray).data.toList.length = 1 from rfl)]
   have : ∀ l : List UInt8, (58 : UInt8) ∉ l → Lib.indexByte l 58 = -1 := by
    intro l
    induction l with
    | nil => intro _; rfl
    | cons b l ih =>
     intro h
     unfold Lib.indexByte
     have hb : (b == 58) = false := beq_eq_false_iff_ne.mpr fun e => h (by rw [e]; exact List.mem_cons_self ..)
     rw [hb, ih (fun e => h (List.mem_cons_of_mem _ e))]
     rfl
   exact congrArg some (this _ hn)
  simp only [strings_Cut.f, stringslite_Cut.f, hidx, bS]
  rw [if_neg (by decide)]
  rfl
 ·right
  obtain ⟨m, h1, h2, h3, h4⟩ := index_free 58 (bl w) hc
  have hidx : stringslite_Index.f w (⟨#[58]⟩ : ByteArray) = some (m : Int) := by
   unfold stringslite_Index.f
   rw [if_pos (show (⟨#[58]⟩ : ByteArray).data.toList.length = 1 from rfl)]
   exact congrArg some h1
  have he : bl (w.extract (m + 1) w.size) = (bl w).drop (m + 1) := by
   rw [bl_extract]
   exact List.take_of_length_le (by rw [List.length_drop]; omega)
  refine ⟨w.extract 0 m, w.extract (m + 1) w.size, ?_, ?_, ?_, ?_⟩
  ·unfold cutB
   rw [he]
   conv => lhs; rw [h3]
   rw [cutA_at _ _ _ h4, List.map_cons]
   congr 1
   refine bl_inj ?_
   rw [bl_mkB, bl_extract]
   simp
  ·rw [bl_size, bl_extract, List.length_take, List.length_drop]; omega
  ·rw [bl_size, he, List.length_drop]; omega
  ·have hone : (⟨#[58]⟩ : ByteArray).size = 1 := rfl
   have w1 : Aside0 (wrap64 ((m : Int) + ((⟨#[58]⟩ : ByteArray).size : Int)) = ((m + 1 : Nat) : Int)) := ⟨by rw [hone]; exact w64s m (by omega)⟩
   clear hone
   simp only [strings_Cut.f, stringslite_Cut.f, hidx, bS]
   rw [w1.out, if_pos (by omega), if_pos (by omega), if_pos (by omega), if_pos (by omega), if_pos (by omega), bS]
   simp only [Int.toNat_natCast]
theorem cutB_ne (c : UInt8) (s : ByteArray) : cutB c s ≠ [] := by
 intro h
 have := congrArg List.length h
 unfold cutB at this
 rw [List.length_map, cutA_length] at this
 simp at this
/-- The ranges of pieces, behind ranges. -/
noncomputable def foldS : List ByteArray → List S54 → List S54 × Bool
 | [], out => (out, true)
 | w :: ws, out => match partR w with
  | some (a, b) => if out.length = 50 then ([], false) else foldS ws (out ++ [⟨a, b⟩])
  | none => ([], false)
theorem rd_hd (a : ByteArray) (l : List ByteArray) : rdOf ByteArray.empty (a :: l) 0 = a := rfl
theorem rd_sn (a b : ByteArray) (l : List ByteArray) : rdOf ByteArray.empty (a :: b :: l) 1 = b := rfl
theorem specSet_l0 (l : List ByteArray) (hl : l.length ≤ 4611686018427387904) (hs : ∀ x ∈ l, x.size ≤ 8796093022000) : ∀ (d i : Nat) (out : List S54), i + d = l.length → out.length ≤ 50 → Ev (fun k => spec_l11Set.l0 k out l (i : Int)) (foldS (l.drop i) out) := by
 intro d
 induction d with
 | zero =>
  intro i out hi ho
  rw [List.drop_eq_nil_of_le (by omega)]
  refine Ev.step (f := fun _ => some _) (fun k => ?_) (Ev.now _)
  simp only [spec_l11Set.l0, foldS]
  rw [if_neg (by omega)]
 | succ d ih =>
  intro i out hi ho
  have hlt : i < l.length := by omega
  have hr := rdOf_nat2 l i hlt
  have hw := hs _ (List.getElem_mem hlt)
  rw [List.drop_eq_getElem_cons hlt]
  generalize l[i]'hlt = w at hr hw
  obtain ⟨K1, hK1⟩ := specCut_ev w 58 hw
  have hsub := cutB_size 58 w
  have ejt : ∀ (p : List ByteArray) (a : Int), Ev (fun k => spec_l11Set.j1 k out l (i : Int) p a true) ([], false) := fun p a => Ev.step (f := fun _ => some _) (fun k => by simp only [spec_l11Set.j1]; exact if_pos trivial) (Ev.now _)
  -- the first piece
  obtain ⟨a, q, hp⟩ : ∃ a q, cutB 58 w = a :: q := by
   cases h : cutB 58 w with
   | nil => exact absurd h (cutB_ne 58 w)
   | cons a q => exact ⟨a, q, rfl⟩
  rw [hp] at hsub
  obtain ⟨K2, hK2⟩ := specOne_ev a (by have := hsub a (List.mem_cons_self ..); omega)
  have hstep : ∀ (b : Bool) (k : Nat), K1 + K2 ≤ k → b = (if (endO (bl a)).2 = true then (if q.length + 1 > 2 then true else ((out.length : Int) == 50)) else true) → spec_l11Set.l0 (k + 1) out l (i : Int) = spec_l11Set.j1 k out l (i : Int) (a :: q) (endO (bl a)).1 b := by
   intro b k hk hb
   have e1 : spec_l00Cut.f k w 58 = some (a :: q) := by have := hK1 k (by omega); rw [hp] at this; exact this
   have e2 := hK2 k (by omega)
   simp only at e2
   have hlen : ((a :: q).length : Int) = (q.length : Int) + 1 := by rw [List.length_cons]; omega
   simp only [spec_l11Set.l0, hr, e1, bS, rd_hd, e2, hlen]
   rw [if_pos (by omega), if_pos (by omega), if_pos (by omega), hb]
   by_cases h1 : (endO (bl a)).2 = true
   ·rw [if_pos h1, if_pos h1]
    by_cases h2 : q.length + 1 > 2
    ·rw [if_pos h2, if_pos (by omega)]
    ·rw [if_neg h2, if_neg (by omega)]
   ·rw [if_neg h1, if_neg h1]
  have hfail : ∀ (b : Bool), b = true → b = (if (endO (bl a)).2 = true then (if q.length + 1 > 2 then true else ((out.length : Int) == 50)) else true) → Ev (fun k => spec_l11Set.l0 k out l (i : Int)) ([], false) := by
   intro b hb hb2
   subst hb
   obtain ⟨K3, hK3⟩ := ejt (a :: q) (endO (bl a)).1
   refine ⟨K1 + K2 + K3 + 1, fun k hk => ?_⟩
   obtain ⟨m, rfl⟩ : ∃ m, k = m + 1 := ⟨k - 1, by omega⟩
   simp only
   rw [hstep true m (by omega) hb2]
   exact hK3 m (by omega)
  simp only [foldS]
  by_cases h1 : (endO (bl a)).2 = true
  ·by_cases h50 : out.length = 50
   ·have hres : (match partR w with | some (a, b) => if out.length = 50 then (([], false) : List S54 × Bool) else foldS (l.drop (i + 1)) (out ++ [⟨a, b⟩]) | none => ([], false)) = ([], false) := by
     cases partR w with
     | none => rfl
     | some p => exact if_pos h50
    rw [hres]
    refine hfail true rfl ?_
    rw [if_pos h1]
    split
    ·rfl
    ·exact (beq_iff_eq.mpr (by omega)).symm
   ·have h50' : ((out.length : Int) == 50) = false := beq_eq_false_iff_ne.mpr (by omega)
    cases q with
    | nil =>
     have hpart : partR w = some ((endO (bl a)).1, (endO (bl a)).1) := by unfold partR; rw [hp]; exact if_pos h1
     rw [hpart]
     simp only
     rw [if_neg h50]
     obtain ⟨K3, hK3⟩ := ih (i + 1) (out ++ [⟨(endO (bl a)).1, (endO (bl a)).1⟩]) (by omega) (by rw [List.length_append, List.length_cons, List.length_nil]; omega)
     refine ⟨K1 + K2 + K3 + 2, fun k hk => ?_⟩
     obtain ⟨m, rfl⟩ : ∃ m, k = m + 1 + 1 := ⟨k - 2, by omega⟩
     have e3 := hK3 m (by omega)
     simp only at e3 ⊢
     rw [hstep false (m + 1) (by omega) (by rw [if_pos h1, if_neg (by simp), h50'])]
     simp only [spec_l11Set.j1]
     rw [if_neg (by decide), if_neg (by simp), if_pos (by omega), w64s i (by omega)]
     exact e3
    | cons b r =>
     cases r with
     | nil =>
      obtain ⟨K4, hK4⟩ := specOne_ev b (by have := hsub b (List.mem_cons_of_mem _ (List.mem_cons_self ..)); omega)
      by_cases h2 : (endO (bl b)).2 = true
      ·have hpart : partR w = some ((endO (bl a)).1, (endO (bl b)).1) := by unfold partR; rw [hp]; simp only; rw [if_pos h1, if_pos h2]
       rw [hpart]
       simp only
       rw [if_neg h50]
       obtain ⟨K3, hK3⟩ := ih (i + 1) (out ++ [⟨(endO (bl a)).1, (endO (bl b)).1⟩]) (by omega) (by rw [List.length_append, List.length_cons, List.length_nil]; omega)
       refine ⟨K1 + K2 + K3 + K4 + 2, fun k hk => ?_⟩
       obtain ⟨m, rfl⟩ : ∃ m, k = m + 1 + 1 := ⟨k - 2, by omega⟩
       have e3 := hK3 m (by omega)
       have e4 := hK4 m (by omega)
       simp only at e3 e4 ⊢
       rw [hstep false (m + 1) (by omega) (by rw [if_pos h1, if_neg (by simp), h50'])]
       simp only [spec_l11Set.j1, rd_sn, e4, bS]
       rw [if_neg (by decide), if_pos (by simp), if_pos (by simp), if_pos h2, if_pos (by omega), w64s i (by omega)]
       exact e3
      ·have hpart : partR w = none := by unfold partR; rw [hp]; simp only; rw [if_pos h1, if_neg h2]
       rw [hpart]
       refine ⟨K1 + K2 + K4 + 2, fun k hk => ?_⟩
       obtain ⟨m, rfl⟩ : ∃ m, k = m + 1 + 1 := ⟨k - 2, by omega⟩
       have e4 := hK4 m (by omega)
       simp only at e4 ⊢
       rw [hstep false (m + 1) (by omega) (by rw [if_pos h1, if_neg (by simp), h50'])]
       simp only [spec_l11Set.j1, rd_sn, e4, bS]
       rw [if_neg (by decide), if_pos (by simp), if_pos (by simp), if_neg h2]
     | cons c r =>
      have hpart : partR w = none := by unfold partR; rw [hp]
      rw [hpart]
      exact hfail true rfl (by rw [if_pos h1, if_pos (by simp)])
  ·have hpart : partR w = none := by
    unfold partR
    rw [hp]
    cases q with
    | nil => exact if_neg h1
    | cons b r =>
     cases r with
     | nil => exact if_neg h1
     | cons _ _ => rfl
   rw [hpart]
   exact hfail true rfl (by rw [if_neg h1])
theorem implSet_l0 (l : List ByteArray) (hl : l.length ≤ 4611686018427387904) (hs : ∀ x ∈ l, x.size ≤ 8796093022000) : ∀ (d i : Nat) (out : List S54), i + d = l.length → out.length ≤ 50 → Ev (fun k => impl_readSet.l0 k out l (l.length : Int) (i : Int)) (foldS (l.drop i) out) := by
 intro d
 induction d with
 | zero =>
  intro i out hi ho
  rw [List.drop_eq_nil_of_le (by omega)]
  refine Ev.step (f := fun _ => some _) (fun k => ?_) (Ev.now _)
  simp only [impl_readSet.l0, foldS]
  rw [if_neg (by omega)]
 | succ d ih =>
  intro i out hi ho
  have hlt : i < l.length := by omega
  have hr := rdOf_nat2 l i hlt
  have hw := hs _ (List.getElem_mem hlt)
  rw [List.drop_eq_getElem_cons hlt]
  generalize l[i]'hlt = w at hr hw
  simp only [foldS]
  rcases cut58 w (by omega) with ⟨hp, hcut⟩ | ⟨a, b, hp, ha, hb, hcut⟩
  ·obtain ⟨K2, hK2⟩ := implEnd_ev w (by omega)
   have hstep : ∀ k, K2 ≤ k → impl_readSet.l0 (k + 1) out l (l.length : Int) (i : Int) = impl_readSet.j1 k out (⟨#[]⟩ : ByteArray) (endO (bl w)).1 (endO (bl w)).2 (endO (bl w)).1 l (l.length : Int) (i : Int) false := by
    intro k hk
    have e2 := hK2 k hk
    simp only at e2
    simp only [impl_readSet.l0, hr, hcut, e2, bS]
    rw [if_pos (by omega), if_pos (by omega), if_pos (by omega), if_neg (by decide)]
   by_cases h1 : (endO (bl w)).2 = true
   ·have hpart : partR w = some ((endO (bl w)).1, (endO (bl w)).1) := by unfold partR; rw [hp]; exact if_pos h1
    rw [hpart]
    simp only
    by_cases h50 : out.length = 50
    ·rw [if_pos h50]
     refine ⟨K2 + 2, fun k hk => ?_⟩
     obtain ⟨m, rfl⟩ : ∃ m, k = m + 1 + 1 := ⟨k - 2, by omega⟩
     simp only
     rw [hstep (m + 1) (by omega)]
     simp only [impl_readSet.j1]
     rw [if_neg (by decide), if_pos h1, if_pos (by omega)]
    ·rw [if_neg h50]
     obtain ⟨K3, hK3⟩ := ih (i + 1) (out ++ [⟨(endO (bl w)).1, (endO (bl w)).1⟩]) (by omega) (by rw [List.length_append, List.length_cons, List.length_nil]; omega)
     refine ⟨K2 + K3 + 2, fun k hk => ?_⟩
     obtain ⟨m, rfl⟩ : ∃ m, k = m + 1 + 1 := ⟨k - 2, by omega⟩
     have e3 := hK3 m (by omega)
     simp only at e3 ⊢
     rw [hstep (m + 1) (by omega)]
     simp only [impl_readSet.j1]
     rw [if_neg (by decide), if_pos h1, if_neg (by omega), if_pos (by omega), w64s i (by omega)]
     exact e3
   ·have hpart : partR w = none := by unfold partR; rw [hp]; exact if_neg h1
    rw [hpart]
    refine ⟨K2 + 2, fun k hk => ?_⟩
    obtain ⟨m, rfl⟩ : ∃ m, k = m + 1 + 1 := ⟨k - 2, by omega⟩
    simp only
    rw [hstep (m + 1) (by omega)]
    simp only [impl_readSet.j1]
    rw [if_neg (by decide), if_neg h1]
  ·obtain ⟨K2, hK2⟩ := implEnd_ev a (by omega)
   obtain ⟨K4, hK4⟩ := implEnd_ev b (by omega)
   have hstep : ∀ k, K2 ≤ k → impl_readSet.l0 (k + 1) out l (l.length : Int) (i : Int) = impl_readSet.j1 k out b (endO (bl a)).1 (endO (bl a)).2 (endO (bl a)).1 l (l.length : Int) (i : Int) (endO (bl a)).2 := by
    intro k hk
    have e2 := hK2 k hk
    simp only at e2
    simp only [impl_readSet.l0, hr, hcut, e2, bS]
    rw [if_pos (by omega), if_pos (by omega), if_pos (by omega), if_pos trivial]
   by_cases h1 : (endO (bl a)).2 = true
   ·by_cases h2 : (endO (bl b)).2 = true
    ·have hb1 : cutB 58 b = [b] := by
      rcases cut58 b (by omega) with ⟨h, _⟩ | ⟨c, e, h, _, _, _⟩
      ·exact h
      ·exfalso
       have hm : (58 : UInt8) ∈ bl b := by
        rcases Nat.eq_zero_or_pos ((bl b).count 58) with hc | hc
        ·have := congrArg List.length h
         unfold cutB at this
         rw [List.length_cons, List.length_map, List.length_map, cutA_length, cutA_length, hc] at this
         omega
        ·exact List.count_pos_iff.1 hc
       rw [endO_colon _ hm] at h2
       cases h2
     have hpart : partR w = some ((endO (bl a)).1, (endO (bl b)).1) := by unfold partR; rw [hp, hb1]; simp only; rw [if_pos h1, if_pos h2]
     rw [hpart]
     simp only
     by_cases h50 : out.length = 50
     ·rw [if_pos h50]
      refine ⟨K2 + K4 + 2, fun k hk => ?_⟩
      obtain ⟨m, rfl⟩ : ∃ m, k = m + 1 + 1 := ⟨k - 2, by omega⟩
      have e4 := hK4 m (by omega)
      simp only at e4 ⊢
      rw [hstep (m + 1) (by omega)]
      simp only [impl_readSet.j1, e4, bS]
      rw [if_pos h1, if_pos h2, if_pos (by omega)]
     ·rw [if_neg h50]
      obtain ⟨K3, hK3⟩ := ih (i + 1) (out ++ [⟨(endO (bl a)).1, (endO (bl b)).1⟩]) (by omega) (by rw [List.length_append, List.length_cons, List.length_nil]; omega)
      refine ⟨K2 + K3 + K4 + 2, fun k hk => ?_⟩
      obtain ⟨m, rfl⟩ : ∃ m, k = m + 1 + 1 := ⟨k - 2, by omega⟩
      have e3 := hK3 m (by omega)
      have e4 := hK4 m (by omega)
      simp only at e3 e4 ⊢
      rw [hstep (m + 1) (by omega)]
      simp only [impl_readSet.j1, e4, bS]
      rw [if_pos h1, if_pos h2, if_neg (by omega), if_pos (by omega), w64s i (by omega)]
      exact e3
    ·have hpart : partR w = none := by
      unfold partR
      rw [hp]
      rcases cut58 b (by omega) with ⟨h, _⟩ | ⟨c, e, h, _, _, _⟩
      ·rw [h]; simp only; rw [if_pos h1, if_neg h2]
      ·rw [h]
       cases he : cutB 58 e with
       | nil => exact absurd he (cutB_ne 58 e)
       | cons _ _ => rfl
     rw [hpart]
     refine ⟨K2 + K4 + 2, fun k hk => ?_⟩
     obtain ⟨m, rfl⟩ : ∃ m, k = m + 1 + 1 := ⟨k - 2, by omega⟩
     have e4 := hK4 m (by omega)
     simp only at e4 ⊢
     rw [hstep (m + 1) (by omega)]
     simp only [impl_readSet.j1, e4, bS]
     rw [if_pos h1, if_neg h2]
   ·have hf : (endO (bl a)).2 = false := by
     cases h : (endO (bl a)).2 with
     | false => rfl
     | true => exact absurd h h1
    have hpart : partR w = none := by
     unfold partR
     rw [hp]
     cases hq : cutB 58 b with
     | nil => exact absurd hq (cutB_ne 58 b)
     | cons c r =>
      cases r with
      | nil => exact if_neg h1
      | cons _ _ => rfl
    rw [hpart]
    refine ⟨K2 + 2, fun k hk => ?_⟩
    obtain ⟨m, rfl⟩ : ∃ m, k = m + 1 + 1 := ⟨k - 2, by omega⟩
    simp only
    rw [hstep (m + 1) (by omega), hf]
    simp only [impl_readSet.j1]
    rw [if_neg (by decide), if_neg (by decide)]
theorem foldS_len : ∀ (l : List ByteArray) (out : List S54), out.length ≤ 50 → (foldS l out).1.length ≤ 50
 | [], out, h => h
 | w :: ws, out, h => by
  simp only [foldS]
  split
  ·split
   ·exact Nat.zero_le _
   ·exact foldS_len ws _ (by rw [List.length_append, List.length_cons, List.length_nil]; omega)
  ·exact Nat.zero_le _
theorem set_both (s : ByteArray) : ∃ r, Ev (fun k => spec_ReadSet.f k s) r ∧ Ev (fun k => impl_ReadSet.f k s) r ∧ r.1.length ≤ 50 := by
 by_cases h : s.size > 65536
 ·refine ⟨([], 2), ⟨0, fun k _ => ?_⟩, ⟨0, fun k _ => ?_⟩, by simp⟩
  ·simp only [spec_ReadSet.f]; rw [if_pos (by omega)]
  ·simp only [impl_ReadSet.f]; rw [if_pos (by omega)]
 ·obtain ⟨K1, hK1⟩ := specCut_ev s 44 (by omega)
  obtain ⟨K2, hK2⟩ := split_ev s 44 (by omega)
  have hcl := cutB_length 44 s
  have hcs : ∀ y ∈ cutB 44 s, y.size ≤ 8796093022000 := fun y hy => by have := cutB_size 44 s y hy; omega
  obtain ⟨K3, hK3⟩ := specSet_l0 (cutB 44 s) (by omega) hcs _ 0 [] (Nat.zero_add _) (by simp)
  obtain ⟨K4, hK4⟩ := implSet_l0 (cutB 44 s) (by omega) hcs _ 0 [] (Nat.zero_add _) (by simp)
  have hlen := foldS_len ((cutB 44 s).drop 0) [] (by simp)
  generalize foldS ((cutB 44 s).drop 0) [] = r at hK3 hK4 hlen
  obtain ⟨a, b⟩ := r
  have e1 : ∀ k, K1 + K3 ≤ k → spec_l11Set.f k s = some (a, b) := fun k hk => by
   have e1 : spec_l00Cut.f k s 44 = some (cutB 44 s) := hK1 k (by omega)
   have e3 := hK3 k (by omega)
   simp only [spec_l11Set.f, e1, bS]
   exact e3
  have e2 : ∀ k, K2 + K4 ≤ k → impl_readSet.f k s = some (a, b) := fun k hk => by
   have e1 : strings_Split.f k s (⟨#[44]⟩ : ByteArray) = some (cutB 44 s) := hK2 k (by omega)
   have e4 := hK4 k (by omega)
   simp only [impl_readSet.f, e1, bS]
   exact e4
  cases b with
  | true =>
   refine ⟨(a, 0), ⟨K1 + K3, fun k hk => ?_⟩, ⟨K2 + K4, fun k hk => ?_⟩, hlen⟩
   ·simp only [spec_ReadSet.f, e1 k hk, bS]; rw [if_neg (by omega), if_pos trivial]
   ·simp only [impl_ReadSet.f, e2 k hk, bS]; rw [if_neg (by omega), if_pos trivial]
  | false =>
   refine ⟨([], 3), ⟨K1 + K3, fun k hk => ?_⟩, ⟨K2 + K4, fun k hk => ?_⟩, by simp⟩
   ·simp only [spec_ReadSet.f, e1 k hk, bS]; rw [if_neg (by omega), if_neg (by decide)]
   ·simp only [impl_ReadSet.f, e2 k hk, bS]; rw [if_neg (by omega), if_neg (by decide)]
end Go.Proofs.YtcmifdcgmalnlaaDoor.P
/- Lemmas of mine: the drawn sets' texts, read and told again. Plain. -/
set_option linter.unusedVariables false
set_option linter.unusedSimpArgs false
namespace Go.Proofs.YtcmifdcgmalnlaaDoor.P
open Go.RowKit Go.Proofs.YtcmifdcgmalnlaaDoorW.PrintWords
theorem endO_num (l : List UInt8) (v : Int) (hl : l ≠ [42]) (h : goodN l) (hv : valN l = v) (hr : 1 ≤ v ∧ v ≤ 4294967295) : endO l = (v, true) := by
 unfold endO
 rw [if_neg hl, numO_good l h, if_pos rfl]
 show (valN l, decide (1 ≤ valN l ∧ valN l ≤ 4294967295)) = (v, true)
 rw [hv, decide_eq_true hr]
theorem endO_star : endO [42] = (0, true) := by unfold endO; rw [if_pos rfl]
/-- A plain number: digits without a nought ahead. -/
def numB (l : List UInt8) : Bool := decide (1 ≤ l.length ∧ l.length ≤ 18) && (l.all isDig && decide (¬ l[0]? = some 48))
theorem numB_good (l : List UInt8) (h : numB l = true) : goodN l ∧ valN l = (valF 0 l : Int) ∧ l ≠ [42] := by
 unfold numB at h
 rw [Bool.and_eq_true, Bool.and_eq_true, decide_eq_true_eq, decide_eq_true_eq] at h
 obtain ⟨h1, h2, h3⟩ := h
 have h45 : ¬ l[0]? = some 45 := by
  intro e
  cases l with
  | nil => cases e
  | cons a r =>
   have ha : a = 45 := Option.some.inj e
   rw [List.all_cons, Bool.and_eq_true, ha] at h2
   exact absurd h2.1 (by decide)
 have hd : digN l = l := by unfold digN; exact if_neg h45
 refine ⟨⟨by rw [hd]; exact h1, by rw [hd]; exact fun q => h3 q.1, by rw [hd]; exact h2⟩, ?_, ?_⟩
 ·unfold valN; rw [if_neg h45, hd]
 ·intro e
  rw [e] at h2
  exact absurd h2 (by decide)
theorem endO_dig (l : List UInt8) (v : Nat) (h : numB l = true) (hv : valF 0 l = v) (hr : 1 ≤ v ∧ v ≤ 4294967295) : endO l = ((v : Int), true) := by
 obtain ⟨h1, h2, h3⟩ := numB_good l h
 exact endO_num l v h3 h1 (by rw [h2, hv]) (by omega)
theorem part1 (w a : ByteArray) (v : Int) (h : cutB 58 w = [a]) (he : endO (bl a) = (v, true)) : partR w = some (v, v) := by
 unfold partR
 rw [h]
 show (if (endO (bl a)).2 = true then some ((endO (bl a)).1, (endO (bl a)).1) else none) = _
 rw [he]; rfl
theorem part2 (w a b : ByteArray) (v u : Int) (h : cutB 58 w = [a, b]) (he : endO (bl a) = (v, true)) (hf : endO (bl b) = (u, true)) : partR w = some (v, u) := by
 unfold partR
 rw [h]
 show (if (endO (bl a)).2 = true then (if (endO (bl b)).2 = true then some ((endO (bl a)).1, (endO (bl b)).1) else none) else none) = _
 rw [he, hf]; rfl
theorem foldS_step (w : ByteArray) (ws : List ByteArray) (out : List S54) (a b : Int) (h : partR w = some (a, b)) (ho : ¬ out.length = 50) : foldS (w :: ws) out = foldS ws (out ++ [⟨a, b⟩]) := by
 rw [foldS, h]
 exact if_neg ho
/-- What both tell of a text that is a set. -/
theorem set_at (s : ByteArray) (L : List S54) (h : s.size ≤ 65536) (hf : foldS (cutB 44 s) [] = (L, true)) : Ev (fun k => spec_ReadSet.f k s) (L, 0) ∧ Ev (fun k => impl_ReadSet.f k s) (L, 0) := by
 obtain ⟨K1, hK1⟩ := specCut_ev s 44 (by omega)
 obtain ⟨K2, hK2⟩ := split_ev s 44 (by omega)
 have hcl := cutB_length 44 s
 have hcs : ∀ y ∈ cutB 44 s, y.size ≤ 8796093022000 := fun y hy => by have := cutB_size 44 s y hy; omega
 obtain ⟨K3, hK3⟩ := specSet_l0 (cutB 44 s) (by omega) hcs _ 0 [] (Nat.zero_add _) (by simp)
 obtain ⟨K4, hK4⟩ := implSet_l0 (cutB 44 s) (by omega) hcs _ 0 [] (Nat.zero_add _) (by simp)
 rw [List.drop_zero, hf] at hK3 hK4
 have e1 : ∀ k, K1 + K3 ≤ k → spec_l11Set.f k s = some (L, true) := fun k hk => by
  have e1 : spec_l00Cut.f k s 44 = some (cutB 44 s) := hK1 k (by omega)
  have e3 := hK3 k (by omega)
  simp only [spec_l11Set.f, e1, bS]
  exact e3
 have e2 : ∀ k, K2 + K4 ≤ k → impl_readSet.f k s = some (L, true) := fun k hk => by
  have e1 : strings_Split.f k s (⟨#[44]⟩ : ByteArray) = some (cutB 44 s) := hK2 k (by omega)
  have e4 := hK4 k (by omega)
  simp only [impl_readSet.f, e1, bS]
  exact e4
 refine ⟨⟨K1 + K3, fun k hk => ?_⟩, ⟨K2 + K4, fun k hk => ?_⟩⟩
 ·simp only [spec_ReadSet.f, e1 k hk, bS]; rw [if_neg (by omega), if_pos trivial]
 ·simp only [impl_ReadSet.f, e2 k hk, bS]; rw [if_neg (by omega), if_pos trivial]
/-- The program's text of a set. -/
theorem text_at (l : List S54) (hs : setR l = true) : Ev (fun k => impl_SetText.f k l) (mkT (jn (l.map rngT)), 0) := by
 obtain ⟨hl, hok⟩ := setR_ok hs
 obtain ⟨K2, h2⟩ := implText_l0 l hl.2 hok l.length 0 (List.replicate l.length (⟨#[]⟩ : ByteArray)) (by omega) (by simp) (by simp)
 refine ⟨K2, fun k hk => ?_⟩
 have e2 := h2 k hk
 simp only at e2
 simp only [impl_SetText.f, implSetOK_eq, hs, bS, Int.toNat_natCast]
 rw [if_neg (by omega), if_pos trivial, if_pos (by omega), if_pos (by omega)]
 exact e2
theorem dd1 (d : Nat) (h : d < 10) : Lib.decDigits d = [UInt8.ofNat (48 + d)] := by rw [Lib.decDigits, dif_pos h]
theorem dd2 (n : Nat) (l : List UInt8) (h : ¬ n < 10) (hl : Lib.decDigits (n / 10) = l) : Lib.decDigits n = l ++ [UInt8.ofNat (48 + n % 10)] := by rw [Lib.decDigits, dif_neg h, hl]
theorem dd_big : Lib.decDigits 4294967295 = [52, 50, 57, 52, 57, 54, 55, 50, 57, 53] :=
 Eq.trans (dd2 4294967295 _ (by decide) (dd2 429496729 _ (by decide) (dd2 42949672 _ (by decide) (dd2 4294967 _ (by decide) (dd2 429496 _ (by decide) (dd2 42949 _ (by decide) (dd2 4294 _ (by decide) (dd2 429 _ (by decide) (dd2 42 _ (by decide) (dd1 4 (by decide))))))))))) (by decide)
/-- A set's text that is read and told again as it was. -/
def Good (s : ByteArray) : Prop := ∃ L : List S54, (foldS (cutB 44 s) [] = (L, true) ∧ mkT (jn (L.map rngT)) = s) ∧ setR L = true ∧ s.size ≤ 65536
theorem e1 : endO [49] = (1, true) := endO_dig _ 1 (by decide) (by decide) (by decide)
theorem e2 : endO [50] = (2, true) := endO_dig _ 2 (by decide) (by decide) (by decide)
theorem e3 : endO [51] = (3, true) := endO_dig _ 3 (by decide) (by decide) (by decide)
theorem e4 : endO [52] = (4, true) := endO_dig _ 4 (by decide) (by decide) (by decide)
theorem e5 : endO [53] = (5, true) := endO_dig _ 5 (by decide) (by decide) (by decide)
theorem e7 : endO [55] = (7, true) := endO_dig _ 7 (by decide) (by decide) (by decide)
theorem eB : endO [52, 50, 57, 52, 57, 54, 55, 50, 57, 53] = (4294967295, true) := endO_dig _ 4294967295 (by decide) (by decide) (by decide)
theorem t0 : endT 0 = [42] := by unfold endT; rw [if_pos rfl]
theorem tN (n : Nat) (l : List UInt8) (h : n ≠ 0) (hl : Lib.decDigits n = l) : endT (n : Int) = l := by unfold endT; rw [if_neg (by omega), Int.toNat_natCast, hl]
theorem t1 : endT 1 = [49] := tN 1 _ (by decide) (dd1 1 (by decide))
theorem t2 : endT 2 = [50] := tN 2 _ (by decide) (dd1 2 (by decide))
theorem t3 : endT 3 = [51] := tN 3 _ (by decide) (dd1 3 (by decide))
theorem t4 : endT 4 = [52] := tN 4 _ (by decide) (dd1 4 (by decide))
theorem t5 : endT 5 = [53] := tN 5 _ (by decide) (dd1 5 (by decide))
theorem t7 : endT 7 = [55] := tN 7 _ (by decide) (dd1 7 (by decide))
theorem tB : endT 4294967295 = [52, 50, 57, 52, 57, 54, 55, 50, 57, 53] := tN 4294967295 _ (by decide) dd_big
theorem r1 (a : Int) (l : List UInt8) (h : endT a = l) : rngT ⟨a, a⟩ = l := by unfold rngT; rw [if_pos rfl, h]
theorem r2 (a b : Int) (l m : List UInt8) (hn : ¬ b = a) (h : endT a = l) (h2 : endT b = m) : rngT ⟨a, b⟩ = l ++ 58 :: m := by unfold rngT; rw [if_neg hn, h, h2]
theorem good1 (s : ByteArray) (a b : Int) (l : List UInt8) (hc : cutB 44 s = [s]) (hp : partR s = some (a, b)) (hr : rngT ⟨a, b⟩ = l) (hl : mkT l = s) (hok : setR [(⟨a, b⟩ : S54)] = true) (hz : s.size ≤ 65536) : Good s := by
 refine ⟨[⟨a, b⟩], ⟨?_, ?_⟩, hok, hz⟩
 ·rw [hc, foldS_step _ _ _ a b hp (by decide)]; rfl
 ·show mkT (jn [rngT ⟨a, b⟩]) = s
  rw [hr]; exact hl
theorem g0 : Good (⟨#[49]⟩ : ByteArray) := good1 _ 1 1 [49] rfl (part1 _ _ 1 rfl e1) (r1 1 _ t1) rfl (by decide) (by decide)
theorem g1 : Good (⟨#[49, 58, 51]⟩ : ByteArray) := good1 _ 1 3 _ rfl (part2 _ _ _ 1 3 rfl e1 e3) (r2 1 3 _ _ (by decide) t1 t3) rfl (by decide) (by decide)
theorem g2 : Good (⟨#[42]⟩ : ByteArray) := good1 _ 0 0 _ rfl (part1 _ _ 0 rfl endO_star) (r1 0 _ t0) rfl (by decide) (by decide)
theorem g3 : Good (⟨#[50, 58, 42]⟩ : ByteArray) := good1 _ 2 0 _ rfl (part2 _ _ _ 2 0 rfl e2 endO_star) (r2 2 0 _ _ (by decide) t2 t0) rfl (by decide) (by decide)
theorem g5 : Good (⟨#[42, 58, 49]⟩ : ByteArray) := good1 _ 0 1 _ rfl (part2 _ _ _ 0 1 rfl endO_star e1) (r2 0 1 _ _ (by decide) t0 t1) rfl (by decide) (by decide)
theorem g6 : Good (⟨#[52, 50, 57, 52, 57, 54, 55, 50, 57, 53]⟩ : ByteArray) := good1 _ 4294967295 4294967295 _ rfl (part1 _ _ _ rfl eB) (r1 _ _ tB) rfl (by decide) (by decide)
theorem g8 : Good (⟨#[55]⟩ : ByteArray) := good1 _ 7 7 _ rfl (part1 _ _ 7 rfl e7) (r1 7 _ t7) rfl (by decide) (by decide)
theorem g7 : Good (⟨#[49, 58, 50, 44, 52]⟩ : ByteArray) := by
 have p1 := part2 (⟨#[49, 58, 50]⟩ : ByteArray) (⟨#[49]⟩ : ByteArray) (⟨#[50]⟩ : ByteArray) 1 2 rfl e1 e2
 have p2 := part1 (⟨#[52]⟩ : ByteArray) (⟨#[52]⟩ : ByteArray) 4 rfl e4
 refine ⟨[⟨1, 2⟩, ⟨4, 4⟩], ⟨?_, ?_⟩, by decide, by decide⟩
 ·rw [show cutB 44 (⟨#[49, 58, 50, 44, 52]⟩ : ByteArray) = [⟨#[49, 58, 50]⟩, ⟨#[52]⟩] from rfl, foldS_step _ _ [] 1 2 p1 (by decide), foldS_step _ _ ([] ++ [(⟨1, 2⟩ : S54)]) 4 4 p2 (by decide)]; rfl
 ·show mkT (jn [rngT ⟨1, 2⟩, rngT ⟨4, 4⟩]) = _
  rw [r2 1 2 _ _ (by decide) t1 t2, r1 4 _ t4]; rfl
theorem g4 : Good (⟨#[49, 44, 51, 44, 53, 58, 52]⟩ : ByteArray) := by
 have p1 := part1 (⟨#[49]⟩ : ByteArray) (⟨#[49]⟩ : ByteArray) 1 rfl e1
 have p2 := part1 (⟨#[51]⟩ : ByteArray) (⟨#[51]⟩ : ByteArray) 3 rfl e3
 have p3 := part2 (⟨#[53, 58, 52]⟩ : ByteArray) (⟨#[53]⟩ : ByteArray) (⟨#[52]⟩ : ByteArray) 5 4 rfl e5 e4
 refine ⟨[⟨1, 1⟩, ⟨3, 3⟩, ⟨5, 4⟩], ⟨?_, ?_⟩, by decide, by decide⟩
 ·rw [show cutB 44 (⟨#[49, 44, 51, 44, 53, 58, 52]⟩ : ByteArray) = [⟨#[49]⟩, ⟨#[51]⟩, ⟨#[53, 58, 52]⟩] from rfl, foldS_step _ _ [] 1 1 p1 (by decide), foldS_step _ _ ([] ++ [(⟨1, 1⟩ : S54)]) 3 3 p2 (by decide), foldS_step _ _ ([] ++ [(⟨1, 1⟩ : S54)] ++ [(⟨3, 3⟩ : S54)]) 5 4 p3 (by decide)]; rfl
 ·show mkT (jn [rngT ⟨1, 1⟩, rngT ⟨3, 3⟩, rngT ⟨5, 4⟩]) = _
  rw [r1 1 _ t1, r1 3 _ t3, r2 5 4 _ _ (by decide) t5 t4]; rfl
end Go.Proofs.YtcmifdcgmalnlaaDoor.P
namespace Go.Proofs.YtcmifdcgmalnlaaDoor.P
open Go.RowKit Go.Proofs.YtcmifdcgmalnlaaDoorW.PrintWords Go.Proofs.YtcmifdcgmalnlaaDoorW.PrintLast Go.Proofs.YtcmifdcgmalnlaaDoorW.PrintMore
attribute [local go_sem] max2_int min2_int max_two min_two max_three min_three max_four min_four   -- for this text's walks alone
set_option linter.unusedVariables false
set_option linter.unusedSimpArgs false

/-! ### spec_l00Src_size: function 106 -/
def spec_l00Src_size.f (s0_0 : List Int) (s0_1 : Int) (s0_2 : Int) (a1 : Int) : Option (Int × Int × Int) := some (mn (wrap64 (1 + (wrap64 ((s0_0.length : Int) / 12)))) a1, s0_1, s0_2)
set_option maxHeartbeats 8000000 in
set_option maxRecDepth 100000 in
theorem spec_l00Src_size.calls (g : Nat) (s0_0 : List Int) (s0_1 : Int) (s0_2 : Int) (a1 : Int) (r1 : Int) (r2 : Int) (r3 : Int) (w0 w : World) (hI : IsS111 w0 w g s0_0 s0_1 s0_2) (hB : Below w0.heap.size w0 w) (h : spec_l00Src_size.f s0_0 s0_1 s0_2 a1 = some (r1, r2, r3)) :
  Calls Tryd.prog 106 #[.pointer (some ⟨g, 0, none⟩), .int .i64 a1] w fun e w' => e = .returned (.int .i64 r1) ∧ IsS111 w0 w' g s0_0 r2 r3 ∧ Below w0.heap.size w0 w' ∧ KeepBut w w' g none := by
 have HI0 := Aside0.mk hI
 have HK := Aside0.mk (KeepBut.refl w g none)
 have HL := Aside0.mk hB.size
 clear hI
 have HW0 := Aside0.mk hB.size
 have HB := Aside0.mk hB
 clear hB
 have H : (some (mn (wrap64 (1 + (wrap64 ((s0_0.length : Int) / 12)))) a1, s0_1, s0_2)) = some (r1, r2, r3) := h
 clear h
 obtain ⟨ji3, hji3⟩ : ∃ j_ : Int, (mn (wrap64 (1 + (wrap64 ((s0_0.length : Int) / 12)))) a1) = j_ := ⟨_, rfl⟩
 replace H : (some (ji3, s0_1, s0_2)) = some (r1, r2, r3) := by first | (rw [hji3] at H; exact H) | (simp only [hji3] at H ⊢; exact H)
 have hji3_ : (if a1 < (wrap64 (1 + (wrap64 ((s0_0.length : Int) / 12)))) then a1 else (wrap64 (1 + (wrap64 ((s0_0.length : Int) / 12))))) = ji3 := hji3
 simp only [Option.some.injEq, Prod.mk.injEq] at H
 obtain ⟨rfl, rfl, rfl⟩ := H
 obtain ⟨ASz4_0, cSz4_0, HGz4, hgz4, HSz4_0⟩ := HI0.out
 have hcz4_0 := cellS111_0 HGz4
 have hcz4_1 := cellS111_1 HGz4
 have hcz4_2 := cellS111_2 HGz4
 have hfz4_1 := blk_frozen HGz4 1
 have hfz4_2 := blk_frozen HGz4 2
 clear HGz4 hgz4
 go_enter Tryd.func106, Tryd.ntmps106
 go_wp2
 go_ret
 exact ⟨by first | rfl | (simp [errW_none, errW_some] <;> rfl) | (simp only [← hji3]; first | rfl | (simp [errW_none, errW_some] <;> rfl)) | (simp [*, errW_none, errW_some] <;> rfl), by repeat (first | (with_reducible first | exact HI0.out | apply IsS111.alloc | apply IsS111.drewN | apply IsS111.drew | apply IsS111.set_1 | apply IsS111.set_2) | exact HI0.out), by repeat (first | (with_reducible first | exact HB.out | apply below_alloc | apply pw_below_drewN | apply below_drew1 | refine below_set ?_ (IsS111.ge HI0.out)) | exact HB.out), by repeat (first | (with_reducible first | exact HK.out | apply KeepBut.set_ | apply keep_drewN | apply keep_drew | apply keep_alloc) | exact HK.out)⟩

end Go.Proofs.YtcmifdcgmalnlaaDoor.P
