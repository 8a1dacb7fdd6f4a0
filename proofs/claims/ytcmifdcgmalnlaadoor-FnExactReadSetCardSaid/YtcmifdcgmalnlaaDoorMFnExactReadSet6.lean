/- Part 6 of what the law FnExactReadSet stands on; the last part ends with the law's row. No condition of mine. -/
import Derived.Test.YtcmifdcgmalnlaaDoorMFnExactReadSet5
import Derived.Test.YtcmifdcgmalnlaaDoorMFnExactReadSet3
import Derived.Test.YtcmifdcgmalnlaaDoorMFnExactReadSet4
/- Lemmas of mine: a set read from its text: the two ReadSet tell the same. Plain. -/
set_option linter.unusedVariables false
set_option linter.unusedSimpArgs false
namespace Go.Proofs.YtcmifdcgmalnlaaDoor.P
open Go.RowKit Go.Proofs.YtcmifdcgmalnlaaDoorW.PrintWords
/-- An end of a range. -/
noncomputable def endO (l : List UInt8) : Int × Bool := if l = [42] then (0, true) else if (numO l).2 = true then ((numO l).1, decide (1 ≤ (numO l).1 ∧ (numO l).1 ≤ 4294967295)) else ((numO l).1, false)
theorem specOne_ev (s : ByteArray) (hs : s.size ≤ 4611686018427387904) : Ev (fun k => spec_l11One.f k s) (endO (bl s)) := by
 obtain ⟨K, hK⟩ := specNum_ev s hs
 refine ⟨K, fun k hk => ?_⟩
 have e := hK k hk
 simp only at e
 simp only [spec_l11One.f, e, bS, toList_bl, l01In_eq]
 unfold endO
 split
 ·rfl
 ·split <;> rfl
theorem implEnd_ev (s : ByteArray) (hs : s.size ≤ 4611686018427387904) : Ev (fun k => impl_endOf.f k s) (endO (bl s)) := by
 obtain ⟨K, hK⟩ := implNum_ev s hs
 refine ⟨K, fun k hk => ?_⟩
 have e := hK k hk
 simp only at e
 simp only [impl_endOf.f, e, bS, toList_bl, within_eq]
 unfold endO
 split
 ·rfl
 ·split <;> rfl
theorem endO_colon (l : List UInt8) (h : 58 ∈ l) : (endO l).2 = false := by
 unfold endO
 rw [if_neg (fun e => by rw [e] at h; simp at h)]
 have hn : ¬ goodN l := by
  intro hg
  have hd : (58 : UInt8) ∈ digN l := by
   unfold digN
   cases l with
   | nil => cases h
   | cons a r =>
    split
    ·rename_i h0
     have ha : a = 45 := Option.some.inj h0
     subst ha
     rcases List.mem_cons.1 h with e | e
     ·exact absurd e (by decide)
     ·exact e
    ·exact h
  have := List.all_eq_true.1 hg.2.2 _ hd
  exact absurd this (by decide)
 rw [numO_bad _ hn]
 rfl
/-- Behind the first end: one, or two. -/
noncomputable def partR (w : ByteArray) : Option (Int × Int) :=
 match cutB 58 w with
 | [a] => if (endO (bl a)).2 = true then some ((endO (bl a)).1, (endO (bl a)).1) else none
 | [a, b] => if (endO (bl a)).2 = true then (if (endO (bl b)).2 = true then some ((endO (bl a)).1, (endO (bl b)).1) else none) else none
 | _ => none
theorem cut58 (w : ByteArray) (hw : w.size ≤ 4611686018427387904) : (cutB 58 w = [w] ∧ strings_Cut.f w (⟨#[58]⟩ : ByteArray) = some (w, (⟨#[]⟩ : ByteArray), false)) ∨
  ∃ a b : ByteArray, cutB 58 w = a :: cutB 58 b ∧ a.size ≤ w.size ∧ b.size ≤ w.size ∧ strings_Cut.f w (⟨#[58]⟩ : ByteArray) = some (a, b, true) := by
 have hsz := bl_size w
 rcases Nat.eq_zero_or_pos ((bl w).count 58) with hc | hc
 ·left
  have hn : (58 : UInt8) ∉ bl w := List.count_eq_zero.1 hc
  refine ⟨by unfold cutB; rw [cutA_none _ _ hn, List.map_cons, List.map_nil, mkB_bl], ?_⟩
  have hidx : stringslite_Index.f w (⟨#[58]⟩ : ByteArray) = some (-1) := by
   unfold stringslite_Index.f
   rw [if_pos (show (⟨#[58]⟩ : ByteArray).data.toList.length = 1 from rfl)]
   have : ∀ l : List UInt8, (58 : UInt8) ∉ l → Lib.indexByte l 58 = -1 := by
    intro l
    induction l with
    | nil => intro _; rfl
    | cons b l ih =>
     intro h
     unfold Lib.indexByte
     have hb : (b == 58) = false := beq_eq_false_iff_ne.mpr fun e => h (by rw [e]; exact List.mem_cons_self ..)
     rw [hb, ih (fun e => h (List.mem_cons_of_mem _ e))]
     rfl
   exact congrArg some (this _ hn)
  simp only [strings_Cut.f, stringslite_Cut.f, hidx, bS]
  rw [if_neg (by decide)]
  rfl
 ·right
  obtain ⟨m, h1, h2, h3, h4⟩ := index_free 58 (bl w) hc
  have hidx : stringslite_Index.f w (⟨#[58]⟩ : ByteArray) = some (m : Int) := by
   unfold stringslite_Index.f
   rw [if_pos (show (⟨#[58]⟩ : ByteArray).data.toList.length = 1 from rfl)]
   exact congrArg some h1
  have he : bl (w.extract (m + 1) w.size) = (bl w).drop (m + 1) := by
   rw [bl_extract]
   exact List.take_of_length_le (by rw [List.length_drop]; omega)
  refine ⟨w.extract 0 m, w.extract (m + 1) w.size, ?_, ?_, ?_, ?_⟩
  ·unfold cutB
   rw [he]
   conv => lhs; rw [h3]
   rw [cutA_at _ _ _ h4, List.map_cons]
   congr 1
   refine bl_inj ?_
   rw [bl_mkB, bl_extract]
   simp
  ·rw [bl_size, bl_extract, List.length_take, List.length_drop]; omega
  ·rw [bl_size, he, List.length_drop]; omega
  ·have hone : (⟨#[58]⟩ : ByteArray).size = 1 := rfl
   have w1 : Aside0 (wrap64 ((m : Int) + ((⟨#[58]⟩ : ByteArray).size : Int)) = ((m + 1 : Nat) : Int)) := ⟨by rw [hone]; exact w64s m (by omega)⟩
   clear hone
   simp only [strings_Cut.f, stringslite_Cut.f, hidx, bS]
   rw [w1.out, if_pos (by omega), if_pos (by omega), if_pos (by omega), if_pos (by omega), if_pos (by omega), bS]
   simp only [Int.toNat_natCast]
theorem cutB_ne (c : UInt8) (s : ByteArray) : cutB c s ≠ [] := by
 intro h
 have := congrArg List.length h
 unfold cutB at this
 rw [List.length_map, cutA_length] at this
 simp at this
/-- The ranges of pieces, behind ranges. -/
noncomputable def foldS : List ByteArray → List S54 → List S54 × Bool
 | [], out => (out, true)
 | w :: ws, out => match partR w with
  | some (a, b) => if out.length = 50 then ([], false) else foldS ws (out ++ [⟨a, b⟩])
  | none => ([], false)
theorem rd_hd (a : ByteArray) (l : List ByteArray) : rdOf ByteArray.empty (a :: l) 0 = a := rfl
theorem rd_sn (a b : ByteArray) (l : List ByteArray) : rdOf ByteArray.empty (a :: b :: l) 1 = b := rfl
theorem specSet_l0 (l : List ByteArray) (hl : l.length ≤ 4611686018427387904) (hs : ∀ x ∈ l, x.size ≤ 8796093022000) : ∀ (d i : Nat) (out : List S54), i + d = l.length → out.length ≤ 50 → Ev (fun k => spec_l11Set.l0 k out l (i : Int)) (foldS (l.drop i) out) := by
 intro d
 induction d with
 | zero =>
  intro i out hi ho
  rw [List.drop_eq_nil_of_le (by omega)]
  refine Ev.step (f := fun _ => some _) (fun k => ?_) (Ev.now _)
  simp only [spec_l11Set.l0, foldS]
  rw [if_neg (by omega)]
 | succ d ih =>
  intro i out hi ho
  have hlt : i < l.length := by omega
  have hr := rdOf_nat2 l i hlt
  have hw := hs _ (List.getElem_mem hlt)
  rw [List.drop_eq_getElem_cons hlt]
  generalize l[i]'hlt = w at hr hw
  obtain ⟨K1, hK1⟩ := specCut_ev w 58 hw
  have hsub := cutB_size 58 w
  have ejt : ∀ (p : List ByteArray) (a : Int), Ev (fun k => spec_l11Set.j1 k out l (i : Int) p a true) ([], false) := fun p a => Ev.step (f := fun _ => some _) (fun k => by simp only [spec_l11Set.j1]; exact if_pos trivial) (Ev.now _)
  -- the first piece
  obtain ⟨a, q, hp⟩ : ∃ a q, cutB 58 w = a :: q := by
   cases h : cutB 58 w with
   | nil => exact absurd h (cutB_ne 58 w)
   | cons a q => exact ⟨a, q, rfl⟩
  rw [hp] at hsub
  obtain ⟨K2, hK2⟩ := specOne_ev a (by have := hsub a (List.mem_cons_self ..); omega)
  have hstep : ∀ (b : Bool) (k : Nat), K1 + K2 ≤ k → b = (if (endO (bl a)).2 = true then (if q.length + 1 > 2 then true else ((out.length : Int) == 50)) else true) → spec_l11Set.l0 (k + 1) out l (i : Int) = spec_l11Set.j1 k out l (i : Int) (a :: q) (endO (bl a)).1 b := by
   intro b k hk hb
   have e1 : spec_l00Cut.f k w 58 = some (a :: q) := by have := hK1 k (by omega); rw [hp] at this; exact this
   have e2 := hK2 k (by omega)
   simp only at e2
   have hlen : ((a :: q).length : Int) = (q.length : Int) + 1 := by rw [List.length_cons]; omega
   simp only [spec_l11Set.l0, hr, e1, bS, rd_hd, e2, hlen]
   rw [if_pos (by omega), if_pos (by omega), if_pos (by omega), hb]
   by_cases h1 : (endO (bl a)).2 = true
   ·rw [if_pos h1, if_pos h1]
    by_cases h2 : q.length + 1 > 2
    ·rw [if_pos h2, if_pos (by omega)]
    ·rw [if_neg h2, if_neg (by omega)]
   ·rw [if_neg h1, if_neg h1]
  have hfail : ∀ (b : Bool), b = true → b = (if (endO (bl a)).2 = true then (if q.length + 1 > 2 then true else ((out.length : Int) == 50)) else true) → Ev (fun k => spec_l11Set.l0 k out l (i : Int)) ([], false) := by
   intro b hb hb2
   subst hb
   obtain ⟨K3, hK3⟩ := ejt (a :: q) (endO (bl a)).1
   refine ⟨K1 + K2 + K3 + 1, fun k hk => ?_⟩
   obtain ⟨m, rfl⟩ : ∃ m, k = m + 1 := ⟨k - 1, by omega⟩
   simp only
   rw [hstep true m (by omega) hb2]
   exact hK3 m (by omega)
  simp only [foldS]
  by_cases h1 : (endO (bl a)).2 = true
  ·by_cases h50 : out.length = 50
   ·have hres : (match partR w with | some (a, b) => if out.length = 50 then (([], false) : List S54 × Bool) else foldS (l.drop (i + 1)) (out ++ [⟨a, b⟩]) | none => ([], false)) = ([], false) := by
     cases partR w with
     | none => rfl
     | some p => exact if_pos h50
    rw [hres]
    refine hfail true rfl ?_
    rw [if_pos h1]
    split
    ·rfl
    ·exact (beq_iff_eq.mpr (by omega)).symm
   ·have h50' : ((out.length : Int) == 50) = false := beq_eq_false_iff_ne.mpr (by omega)
    cases q with
    | nil =>
     have hpart : partR w = some ((endO (bl a)).1, (endO (bl a)).1) := by unfold partR; rw [hp]; exact if_pos h1
     rw [hpart]
     simp only
     rw [if_neg h50]
     obtain ⟨K3, hK3⟩ := ih (i + 1) (out ++ [⟨(endO (bl a)).1, (endO (bl a)).1⟩]) (by omega) (by rw [List.length_append, List.length_cons, List.length_nil]; omega)
     refine ⟨K1 + K2 + K3 + 2, fun k hk => ?_⟩
     obtain ⟨m, rfl⟩ : ∃ m, k = m + 1 + 1 := ⟨k - 2, by omega⟩
     have e3 := hK3 m (by omega)
     simp only at e3 ⊢
     rw [hstep false (m + 1) (by omega) (by rw [if_pos h1, if_neg (by simp), h50'])]
     simp only [spec_l11Set.j1]
     rw [if_neg (by decide), if_neg (by simp), if_pos (by omega), w64s i (by omega)]
     exact e3
    | cons b r =>
     cases r with
     | nil =>
      obtain ⟨K4, hK4⟩ := specOne_ev b (by have := hsub b (List.mem_cons_of_mem _ (List.mem_cons_self ..)); omega)
      by_cases h2 : (endO (bl b)).2 = true
      ·have hpart : partR w = some ((endO (bl a)).1, (endO (bl b)).1) := by unfold partR; rw [hp]; simp only; rw [if_pos h1, if_pos h2]
       rw [hpart]
       simp only
       rw [if_neg h50]
       obtain ⟨K3, hK3⟩ := ih (i + 1) (out ++ [⟨(endO (bl a)).1, (endO (bl b)).1⟩]) (by omega) (by rw [List.length_append, List.length_cons, List.length_nil]; omega)
       refine ⟨K1 + K2 + K3 + K4 + 2, fun k hk => ?_⟩
       obtain ⟨m, rfl⟩ : ∃ m, k = m + 1 + 1 := ⟨k - 2, by omega⟩
       have e3 := hK3 m (by omega)
       have e4 := hK4 m (by omega)
       simp only at e3 e4 ⊢
       rw [hstep false (m + 1) (by omega) (by rw [if_pos h1, if_neg (by simp), h50'])]
       simp only [spec_l11Set.j1, rd_sn, e4, bS]
       rw [if_neg (by decide), if_pos (by simp), if_pos (by simp), if_pos h2, if_pos (by omega), w64s i (by omega)]
       exact e3
      ·have hpart : partR w = none := by unfold partR; rw [hp]; simp only; rw [if_pos h1, if_neg h2]
       rw [hpart]
       refine ⟨K1 + K2 + K4 + 2, fun k hk => ?_⟩
       obtain ⟨m, rfl⟩ : ∃ m, k = m + 1 + 1 := ⟨k - 2, by omega⟩
       have e4 := hK4 m (by omega)
       simp only at e4 ⊢
       rw [hstep false (m + 1) (by omega) (by rw [if_pos h1, if_neg (by simp), h50'])]
       simp only [spec_l11Set.j1, rd_sn, e4, bS]
       rw [if_neg (by decide), if_pos (by simp), if_pos (by simp), if_neg h2]
     | cons c r =>
      have hpart : partR w = none := by unfold partR; rw [hp]
      rw [hpart]
      exact hfail true rfl (by rw [if_pos h1, if_pos (by simp)])
  ·have hpart : partR w = none := by
    unfold partR
    rw [hp]
    cases q with
    | nil => exact if_neg h1
    | cons b r =>
     cases r with
     | nil => exact if_neg h1
     | cons _ _ => rfl
   rw [hpart]
   exact hfail true rfl (by rw [if_neg h1])
theorem implSet_l0 (l : List ByteArray) (hl : l.length ≤ 4611686018427387904) (hs : ∀ x ∈ l, x.size ≤ 8796093022000) : ∀ (d i : Nat) (out : List S54), i + d = l.length → out.length ≤ 50 → Ev (fun k => impl_readSet.l0 k out l (l.length : Int) (i : Int)) (foldS (l.drop i) out) := by
 intro d
 induction d with
 | zero =>
  intro i out hi ho
  rw [List.drop_eq_nil_of_le (by omega)]
  refine Ev.step (f := fun _ => some _) (fun k => ?_) (Ev.now _)
  simp only [impl_readSet.l0, foldS]
  rw [if_neg (by omega)]
 | succ d ih =>
  intro i out hi ho
  have hlt : i < l.length := by omega
  have hr := rdOf_nat2 l i hlt
  have hw := hs _ (List.getElem_mem hlt)
  rw [List.drop_eq_getElem_cons hlt]
  generalize l[i]'hlt = w at hr hw
  simp only [foldS]
  rcases cut58 w (by omega) with ⟨hp, hcut⟩ | ⟨a, b, hp, ha, hb, hcut⟩
  ·obtain ⟨K2, hK2⟩ := implEnd_ev w (by omega)
   have hstep : ∀ k, K2 ≤ k → impl_readSet.l0 (k + 1) out l (l.length : Int) (i : Int) = impl_readSet.j1 k out (⟨#[]⟩ : ByteArray) (endO (bl w)).1 (endO (bl w)).2 (endO (bl w)).1 l (l.length : Int) (i : Int) false := by
    intro k hk
    have e2 := hK2 k hk
    simp only at e2
    simp only [impl_readSet.l0, hr, hcut, e2, bS]
    rw [if_pos (by omega), if_pos (by omega), if_pos (by omega), if_neg (by decide)]
   by_cases h1 : (endO (bl w)).2 = true
   ·have hpart : partR w = some ((endO (bl w)).1, (endO (bl w)).1) := by unfold partR; rw [hp]; exact if_pos h1
    rw [hpart]
    simp only
    by_cases h50 : out.length = 50
    ·rw [if_pos h50]
     refine ⟨K2 + 2, fun k hk => ?_⟩
     obtain ⟨m, rfl⟩ : ∃ m, k = m + 1 + 1 := ⟨k - 2, by omega⟩
     simp only
     rw [hstep (m + 1) (by omega)]
     simp only [impl_readSet.j1]
     rw [if_neg (by decide), if_pos h1, if_pos (by omega)]
    ·rw [if_neg h50]
     obtain ⟨K3, hK3⟩ := ih (i + 1) (out ++ [⟨(endO (bl w)).1, (endO (bl w)).1⟩]) (by omega) (by rw [List.length_append, List.length_cons, List.length_nil]; omega)
     refine ⟨K2 + K3 + 2, fun k hk => ?_⟩
     obtain ⟨m, rfl⟩ : ∃ m, k = m + 1 + 1 := ⟨k - 2, by omega⟩
     have e3 := hK3 m (by omega)
     simp only at e3 ⊢
     rw [hstep (m + 1) (by omega)]
     simp only [impl_readSet.j1]
     rw [if_neg (by decide), if_pos h1, if_neg (by omega), if_pos (by omega), w64s i (by omega)]
     exact e3
   ·have hpart : partR w = none := by unfold partR; rw [hp]; exact if_neg h1
    rw [hpart]
    refine ⟨K2 + 2, fun k hk => ?_⟩
    obtain ⟨m, rfl⟩ : ∃ m, k = m + 1 + 1 := ⟨k - 2, by omega⟩
    simp only
    rw [hstep (m + 1) (by omega)]
    simp only [impl_readSet.j1]
    rw [if_neg (by decide), if_neg h1]
  ·obtain ⟨K2, hK2⟩ := implEnd_ev a (by omega)
   obtain ⟨K4, hK4⟩ := implEnd_ev b (by omega)
   have hstep : ∀ k, K2 ≤ k → impl_readSet.l0 (k + 1) out l (l.length : Int) (i : Int) = impl_readSet.j1 k out b (endO (bl a)).1 (endO (bl a)).2 (endO (bl a)).1 l (l.length : Int) (i : Int) (endO (bl a)).2 := by
    intro k hk
    have e2 := hK2 k hk
    simp only at e2
    simp only [impl_readSet.l0, hr, hcut, e2, bS]
    rw [if_pos (by omega), if_pos (by omega), if_pos (by omega), if_pos trivial]
   by_cases h1 : (endO (bl a)).2 = true
   ·by_cases h2 : (endO (bl b)).2 = true
    ·have hb1 : cutB 58 b = [b] := by
      rcases cut58 b (by omega) with ⟨h, _⟩ | ⟨c, e, h, _, _, _⟩
      ·exact h
      ·exfalso
       have hm : (58 : UInt8) ∈ bl b := by
        rcases Nat.eq_zero_or_pos ((bl b).count 58) with hc | hc
        ·have := congrArg List.length h
         unfold cutB at this
         rw [List.length_cons, List.length_map, List.length_map, cutA_length, cutA_length, hc] at this
         omega
        ·exact List.count_pos_iff.1 hc
       rw [endO_colon _ hm] at h2
       cases h2
     have hpart : partR w = some ((endO (bl a)).1, (endO (bl b)).1) := by unfold partR; rw [hp, hb1]; simp only; rw [if_pos h1, if_pos h2]
     rw [hpart]
     simp only
     by_cases h50 : out.length = 50
     ·rw [if_pos h50]
      refine ⟨K2 + K4 + 2, fun k hk => ?_⟩
      obtain ⟨m, rfl⟩ : ∃ m, k = m + 1 + 1 := ⟨k - 2, by omega⟩
      have e4 := hK4 m (by omega)
      simp only at e4 ⊢
      rw [hstep (m + 1) (by omega)]
      simp only [impl_readSet.j1, e4, bS]
      rw [if_pos h1, if_pos h2, if_pos (by omega)]
     ·rw [if_neg h50]
      obtain ⟨K3, hK3⟩ := ih (i + 1) (out ++ [⟨(endO (bl a)).1, (endO (bl b)).1⟩]) (by omega) (by rw [List.length_append, List.length_cons, List.length_nil]; omega)
      refine ⟨K2 + K3 + K4 + 2, fun k hk => ?_⟩
      obtain ⟨m, rfl⟩ : ∃ m, k = m + 1 + 1 := ⟨k - 2, by omega⟩
      have e3 := hK3 m (by omega)
      have e4 := hK4 m (by omega)
      simp only at e3 e4 ⊢
      rw [hstep (m + 1) (by omega)]
      simp only [impl_readSet.j1, e4, bS]
      rw [if_pos h1, if_pos h2, if_neg (by omega), if_pos (by omega), w64s i (by omega)]
      exact e3
    ·have hpart : partR w = none := by
      unfold partR
      rw [hp]
      rcases cut58 b (by omega) with ⟨h, _⟩ | ⟨c, e, h, _, _, _⟩
      ·rw [h]; simp only; rw [if_pos h1, if_neg h2]
      ·rw [h]
       cases he : cutB 58 e with
       | nil => exact absurd he (cutB_ne 58 e)
       | cons _ _ => rfl
     rw [hpart]
     refine ⟨K2 + K4 + 2, fun k hk => ?_⟩
     obtain ⟨m, rfl⟩ : ∃ m, k = m + 1 + 1 := ⟨k - 2, by omega⟩
     have e4 := hK4 m (by omega)
     simp only at e4 ⊢
     rw [hstep (m + 1) (by omega)]
     simp only [impl_readSet.j1, e4, bS]
     rw [if_pos h1, if_neg h2]
   ·have hf : (endO (bl a)).2 = false := by
     cases h : (endO (bl a)).2 with
     | false => rfl
     | true => exact absurd h h1
    have hpart : partR w = none := by
     unfold partR
     rw [hp]
     cases hq : cutB 58 b with
     | nil => exact absurd hq (cutB_ne 58 b)
     | cons c r =>
      cases r with
      | nil => exact if_neg h1
      | cons _ _ => rfl
    rw [hpart]
    refine ⟨K2 + 2, fun k hk => ?_⟩
    obtain ⟨m, rfl⟩ : ∃ m, k = m + 1 + 1 := ⟨k - 2, by omega⟩
    simp only
    rw [hstep (m + 1) (by omega), hf]
    simp only [impl_readSet.j1]
    rw [if_neg (by decide), if_neg (by decide)]
theorem foldS_len : ∀ (l : List ByteArray) (out : List S54), out.length ≤ 50 → (foldS l out).1.length ≤ 50
 | [], out, h => h
 | w :: ws, out, h => by
  simp only [foldS]
  split
  ·split
   ·exact Nat.zero_le _
   ·exact foldS_len ws _ (by rw [List.length_append, List.length_cons, List.length_nil]; omega)
  ·exact Nat.zero_le _
theorem set_both (s : ByteArray) : ∃ r, Ev (fun k => spec_ReadSet.f k s) r ∧ Ev (fun k => impl_ReadSet.f k s) r ∧ r.1.length ≤ 50 := by
 by_cases h : s.size > 65536
 ·refine ⟨([], 2), ⟨0, fun k _ => ?_⟩, ⟨0, fun k _ => ?_⟩, by simp⟩
  ·simp only [spec_ReadSet.f]; rw [if_pos (by omega)]
  ·simp only [impl_ReadSet.f]; rw [if_pos (by omega)]
 ·obtain ⟨K1, hK1⟩ := specCut_ev s 44 (by omega)
  obtain ⟨K2, hK2⟩ := split_ev s 44 (by omega)
  have hcl := cutB_length 44 s
  have hcs : ∀ y ∈ cutB 44 s, y.size ≤ 8796093022000 := fun y hy => by have := cutB_size 44 s y hy; omega
  obtain ⟨K3, hK3⟩ := specSet_l0 (cutB 44 s) (by omega) hcs _ 0 [] (Nat.zero_add _) (by simp)
  obtain ⟨K4, hK4⟩ := implSet_l0 (cutB 44 s) (by omega) hcs _ 0 [] (Nat.zero_add _) (by simp)
  have hlen := foldS_len ((cutB 44 s).drop 0) [] (by simp)
  generalize foldS ((cutB 44 s).drop 0) [] = r at hK3 hK4 hlen
  obtain ⟨a, b⟩ := r
  have e1 : ∀ k, K1 + K3 ≤ k → spec_l11Set.f k s = some (a, b) := fun k hk => by
   have e1 : spec_l00Cut.f k s 44 = some (cutB 44 s) := hK1 k (by omega)
   have e3 := hK3 k (by omega)
   simp only [spec_l11Set.f, e1, bS]
   exact e3
  have e2 : ∀ k, K2 + K4 ≤ k → impl_readSet.f k s = some (a, b) := fun k hk => by
   have e1 : strings_Split.f k s (⟨#[44]⟩ : ByteArray) = some (cutB 44 s) := hK2 k (by omega)
   have e4 := hK4 k (by omega)
   simp only [impl_readSet.f, e1, bS]
   exact e4
  cases b with
  | true =>
   refine ⟨(a, 0), ⟨K1 + K3, fun k hk => ?_⟩, ⟨K2 + K4, fun k hk => ?_⟩, hlen⟩
   ·simp only [spec_ReadSet.f, e1 k hk, bS]; rw [if_neg (by omega), if_pos trivial]
   ·simp only [impl_ReadSet.f, e2 k hk, bS]; rw [if_neg (by omega), if_pos trivial]
  | false =>
   refine ⟨([], 3), ⟨K1 + K3, fun k hk => ?_⟩, ⟨K2 + K4, fun k hk => ?_⟩, by simp⟩
   ·simp only [spec_ReadSet.f, e1 k hk, bS]; rw [if_neg (by omega), if_neg (by decide)]
   ·simp only [impl_ReadSet.f, e2 k hk, bS]; rw [if_neg (by omega), if_neg (by decide)]
end Go.Proofs.YtcmifdcgmalnlaaDoor.P
/- Lemmas of mine: the marks of a row of ranges. Plain. -/
set_option linter.unusedVariables false
set_option linter.unusedSimpArgs false
namespace Go.Proofs.YtcmifdcgmalnlaaDoor.P
open Go.RowKit Go.Proofs.YtcmifdcgmalnlaaDoorW.PrintWords
def rgs : Nat → Nat → List S54
 | _, 0 => []
 | n, m + 1 => ⟨(n : Int), ((n + 1 : Nat) : Int)⟩ :: rgs (n + 2) m
theorem rgs_length : ∀ m n, (rgs n m).length = m
 | 0, _ => rfl
 | m + 1, n => by rw [rgs, List.length_cons, rgs_length m]
theorem markR_l0 : ∀ (d i n : Nat) (xs : List S54), i + d = xs.length → xs.length ≤ 4611686018427387904 → n + 2 * d ≤ 9223372036854775000 →
  Ev (fun k => laws_markRangeS.l0 k xs (n : Int) (i : Int)) (((n + 2 * d : Nat) : Int), xs.take i ++ rgs n d) := by
 intro d
 induction d with
 | zero =>
  intro i n xs hi hx hn
  refine Ev.step (f := fun _ => some _) (fun k => ?_) (Ev.now _)
  simp only [laws_markRangeS.l0]
  rw [if_neg (by omega), List.take_of_length_le (by omega)]
  simp [rgs]
 | succ d ih =>
  intro i n xs hi hx hn
  have h := ih (i + 1) (n + 2) (xs.set i ⟨(n : Int), ((n + 1 : Nat) : Int)⟩) (by rw [List.length_set]; omega) (by rw [List.length_set]; omega) (by omega)
  have e : (xs.set i (⟨(n : Int), ((n + 1 : Nat) : Int)⟩ : S54)).take (i + 1) ++ rgs (n + 2) d = xs.take i ++ rgs n (d + 1) := by
   rw [List.take_set, List.take_add_one, List.getElem?_eq_getElem (by omega)]
   have hl : (xs.take i).length = i := by rw [List.length_take]; omega
   rw [List.set_append_right _ _ (by omega), hl, Nat.sub_self]
   simp only [Option.toList, List.set_cons_zero, List.append_assoc, List.cons_append, List.nil_append, rgs]
  rw [e, show n + 2 + 2 * d = n + 2 * (d + 1) by omega] at h
  refine Ev.step (fun k => ?_) h
  simp only [laws_markRangeS.l0, bS]
  have w1 : Aside0 (wrap64 ((n : Int) + 1) = ((n + 1 : Nat) : Int)) := ⟨w64s n (by omega)⟩
  have w2 : Aside0 (wrap64 (((n + 1 : Nat) : Int) + 1) = ((n + 2 : Nat) : Int)) := ⟨w64s (n + 1) (by omega)⟩
  rw [w1.out, w2.out, w64s i (by omega), if_pos (by omega), if_pos (by omega)]
  congr 1
  rw [Int.toNat_natCast, List.set_set]
  congr 1
  simp only [rd_T54, Int.toNat_natCast, List.getD_eq_getElem?_getD]
  rw [List.getElem?_set_self (by omega)]
  rfl
theorem markR_ev (xs : List S54) (n : Nat) (hx : xs.length ≤ 4611686018427387904) (hn : n + 2 * xs.length ≤ 9223372036854775000) : Ev (fun k => laws_markRangeS.f k xs (n : Int)) (((n + 2 * xs.length : Nat) : Int), rgs n xs.length) := by
 have h := markR_l0 xs.length 0 n xs (by omega) hx hn
 rw [List.take_zero, List.nil_append] at h
 exact h
theorem heldR_l0 (ys : List S54) (hy : ys.length ≤ 4611686018427387904) : ∀ (d i n : Nat), i + d = ys.length → ys.drop i = rgs n d → n + 2 * d ≤ 9223372036854775000 → Ev (fun k => laws_heldRangeS.l0 k ys (n : Int) (i : Int)) ((n + 2 * d : Nat) : Int) := by
 intro d
 induction d with
 | zero =>
  intro i n hi hd hn
  refine Ev.step (f := fun _ => some _) (fun k => ?_) (Ev.now _)
  simp only [laws_heldRangeS.l0]
  rw [if_neg (by omega)]
  rfl
 | succ d ih =>
  intro i n hi hd hn
  have hlt : i < ys.length := by omega
  rw [List.drop_eq_getElem_cons hlt, rgs] at hd
  injection hd with h1 h2
  have hr : rd_T54 ys (i : Int) = ⟨(n : Int), ((n + 1 : Nat) : Int)⟩ := by
   simp only [rd_T54, Int.toNat_natCast, List.getD_eq_getElem?_getD]
   rw [List.getElem?_eq_getElem hlt, h1]
   rfl
  have h := ih (i + 1) (n + 2) (by omega) h2 (by omega)
  rw [show n + 2 + 2 * d = n + 2 * (d + 1) by omega] at h
  refine Ev.step (fun k => ?_) h
  simp only [laws_heldRangeS.l0, hr]
  have w1 : Aside0 (wrap64 ((n : Int) + 1) = ((n + 1 : Nat) : Int)) := ⟨w64s n (by omega)⟩
  have w2 : Aside0 (wrap64 (((n + 1 : Nat) : Int) + 1) = ((n + 2 : Nat) : Int)) := ⟨w64s (n + 1) (by omega)⟩
  rw [w1.out, w2.out, w64s i (by omega), if_pos (by omega), if_pos (by omega), if_pos trivial, if_pos rfl]
theorem heldR_ev (n m : Nat) (hm : m ≤ 4611686018427387904) (hn : n + 2 * m ≤ 9223372036854775000) : Ev (fun k => laws_heldRangeS.f k (rgs n m) (n : Int)) ((n + 2 * m : Nat) : Int) :=
 heldR_l0 (rgs n m) (by rw [rgs_length]; exact hm) m 0 n (by rw [rgs_length]; omega) rfl hn
end Go.Proofs.YtcmifdcgmalnlaaDoor.P
/- The pure statement of the law FnExactReadSet: the two ReadSet tell the same, in memory of their own. No condition. -/
set_option linter.unusedVariables false
set_option linter.unusedSimpArgs false
namespace Go.Proofs.YtcmifdcgmalnlaaDoor.P
open Go.RowKit Go.Proofs.YtcmifdcgmalnlaaDoorW.PrintWords
theorem eqR_self (ys : List S54) (h : ys.length ≤ 4611686018427387904) : Ev (fun k => laws_eqRangeS.f k ys ys) true := by
 have hl : ∀ (d i : Nat), i + d = ys.length → Ev (fun k => laws_eqRangeS.l0 k ys ys (i : Int)) true := by
  intro d
  induction d with
  | zero =>
   intro i hi
   exact Ev.step (f := fun _ => some _) (fun k => by simp only [laws_eqRangeS.l0]; rw [if_neg (by omega)]) (Ev.now _)
  | succ d ih =>
   intro i hi
   refine Ev.step (fun k => ?_) (ih (i + 1) (by omega))
   simp only [laws_eqRangeS.l0, laws_eqRange.f, if_true, bS]
   rw [if_pos (by omega), if_pos (by omega), if_pos (by omega), w64s i (by omega)]
 refine Ev.congr (fun k => ?_) (hl ys.length 0 (by omega))
 simp only [laws_eqRangeS.f]
 rw [if_pos trivial]
 rfl
end Go.Proofs.YtcmifdcgmalnlaaDoor.P
namespace Go.Proofs.YtcmifdcgmalnlaaDoor.Pure
open Go.RowKit Go.Proofs.YtcmifdcgmalnlaaDoor.P Go.Proofs.YtcmifdcgmalnlaaDoorW.PrintWords
theorem FnExactReadSet : laws_FnExactReadSet.Pure := by
 intro s hs
 obtain ⟨⟨xs, c⟩, ⟨K1, h1⟩, ⟨K2, h2⟩, h3⟩ := set_both s
 simp only at h1 h2 h3
 obtain ⟨K3, h4⟩ := eqR_self xs (by omega)
 obtain ⟨K4, h5⟩ := markR_ev xs 1 (by omega) (by omega)
 obtain ⟨K5, h6⟩ := heldR_ev 1 xs.length (by omega) (by omega)
 have hb : (c != c) = false := by simp
 refine ⟨K1 + K2 + K3 + K4 + K5 + 2, ?_⟩
 have e : ∀ j : Nat, K1 + K2 + K3 + K4 + K5 ≤ j → laws_FnExactReadSet.j1 (j + 1) (rgs 1 xs.length) ((1 + 2 * xs.length : Nat) : Int) false = some true := fun j hj => by
  simp only [laws_FnExactReadSet.j1]
  have h6' := h6 j (by omega)
  rw [show ((1 : Nat) : Int) = 1 from rfl] at h6'
  simp only [h6', bS]
  rw [if_neg (by decide), if_neg (by omega), if_pos trivial]
 have e2 : ∀ j : Nat, K1 + K2 + K3 + K4 + K5 ≤ j → laws_FnExactReadSet.j0 (j + 1 + 1) s xs c xs false = some true := fun j hj => by
  simp only [laws_FnExactReadSet.j0]
  have h5' := h5 (j + 1) (by omega)
  have h6' := h6 (j + 1) (by omega)
  have h2' := h2 (j + 1) (by omega)
  have h4' := h4 (j + 1) (by omega)
  rw [show ((1 : Nat) : Int) = 1 from rfl] at h5' h6'
  simp only at h4'
  simp only [h5', h6', bS, h2', h4']
  rw [if_neg (by decide), if_neg (by omega), if_pos trivial, if_pos trivial, hb]
  exact e j hj
 have h1' := h1 (K1 + K2 + K3 + K4 + K5 + 2) (by omega)
 have h2' := h2 (K1 + K2 + K3 + K4 + K5 + 2) (by omega)
 have h4' := h4 (K1 + K2 + K3 + K4 + K5 + 2) (by omega)
 simp only at h4'
 simp only [laws_FnExactReadSet.f, h1', h2', h4', bS, if_true, hb]
 split
 ·rfl
 ·exact e2 _ (Nat.le_refl _)
end Go.Proofs.YtcmifdcgmalnlaaDoor.Pure
