/- Part 5 of what the law FnText stands on; the last part ends with the law's row. No condition of mine. -/
import Derived.Lib.QuoteLoop
import Derived.Test.YtcibmjgofebmdaaDoorMFnText4
import Derived.Test.YtcibmjgofebmdaaDoorMFnText2
import Derived.Lib.SpaceUEq
import Derived.Lib.ValidU
/- Lemmas of mine: the runes of a text, a repaired text, by the library's decoder. Plain. -/
set_option linter.unusedVariables false
set_option linter.unusedSimpArgs false
namespace Go.Proofs.YtcibmjgofebmdaaDoor.P
open Go.RowKit Go.Proofs.YtcibmjgofebmdaaDoorW.PrintWords
def Scalar (r : Nat) : Prop := r ≤ 55295 ∨ (57344 ≤ r ∧ r ≤ 1114111)
theorem dec2 (a b : UInt8) (t : List UInt8) (h : a.toNat / 32 = 6) (h1 : b.toNat / 64 = 2) (h2 : 128 ≤ a.toNat % 32 * 64 + b.toNat % 64) : Lib.decodeL (a :: b :: t) = (a.toNat % 32 * 64 + b.toNat % 64, 2) := by
 rw [Lib.decodeL_N]
 show Lib.decodeN (t.length + 1 + 1) a.toNat b.toNat _ _ = _
 unfold Lib.decodeN
 rw [if_neg (by omega), if_pos (by omega), if_pos h2]
theorem dec3 (a b c : UInt8) (t : List UInt8) (h : a.toNat / 16 = 14) (h1 : b.toNat / 64 = 2) (h2 : c.toNat / 64 = 2) (h3 : 2048 ≤ a.toNat % 16 * 4096 + b.toNat % 64 * 64 + c.toNat % 64) (h4 : Scalar (a.toNat % 16 * 4096 + b.toNat % 64 * 64 + c.toNat % 64)) : Lib.decodeL (a :: b :: c :: t) = (a.toNat % 16 * 4096 + b.toNat % 64 * 64 + c.toNat % 64, 3) := by
 have h4 : _ ≤ 55295 ∨ _ := h4
 rw [Lib.decodeL_N]
 show Lib.decodeN (t.length + 1 + 1 + 1) a.toNat b.toNat c.toNat _ = _
 unfold Lib.decodeN
 rw [if_neg (by omega), if_neg (by omega), if_pos (by omega), if_pos (by omega)]
theorem dec4 (a b c d : UInt8) (t : List UInt8) (h : a.toNat / 8 = 30) (h1 : b.toNat / 64 = 2) (h2 : c.toNat / 64 = 2) (h2' : d.toNat / 64 = 2) (h3 : 65536 ≤ a.toNat % 8 * 262144 + b.toNat % 64 * 4096 + c.toNat % 64 * 64 + d.toNat % 64) (h4 : a.toNat % 8 * 262144 + b.toNat % 64 * 4096 + c.toNat % 64 * 64 + d.toNat % 64 ≤ 1114111) : Lib.decodeL (a :: b :: c :: d :: t) = (a.toNat % 8 * 262144 + b.toNat % 64 * 4096 + c.toNat % 64 * 64 + d.toNat % 64, 4) := by
 rw [Lib.decodeL_N]
 show Lib.decodeN (t.length + 1 + 1 + 1 + 1) a.toNat b.toNat c.toNat d.toNat = _
 unfold Lib.decodeN
 rw [if_neg (by omega), if_neg (by omega), if_neg (by omega), if_pos (by omega), if_pos (by omega)]
theorem ub (x : Int) (h0 : 0 ≤ x) (h1 : x < 256) : ((x.toNat.toUInt8).toNat : Int) = x := by
 rw [Nat.toUInt8_eq, UInt8.toNat_ofNat']
 omega
/-- What was encoded is decoded. -/
theorem dec_enc (r : Nat) (h : Scalar r) (t : List UInt8) : Lib.decodeL (Lib.encodeRune (r : Int) ++ t) = (r, (Lib.encodeRune (r : Int)).length) ∧ Lib.encodeRune (r : Int) ≠ [] ∧ ¬ BadD (r, (Lib.encodeRune (r : Int)).length) := by
 have h : r ≤ 55295 ∨ (57344 ≤ r ∧ r ≤ 1114111) := h
 unfold Lib.encodeRune
 by_cases c1 : r ≤ 127
 ·rw [Lib.encodeRuneZ_one (by omega) (by omega)]
  have u := ub (r : Int) (by omega) (by omega)
  refine ⟨?_, by simp, fun q => ?_⟩
  ·show Lib.decodeL ((r : Int).toNat.toUInt8 :: t) = _
   rw [Lib.decodeL_ascii _ t (by omega)]
   apply Prod.ext
   ·show ((r : Int).toNat.toUInt8).toNat = r
    omega
   ·rfl
  ·have := q.1
   simp only at this
   omega
 by_cases c2 : r ≤ 2047
 ·rw [Lib.encodeRuneZ_two (by omega) (by omega)]
  have u := ub (192 + (r : Int) / 64) (by omega) (by omega)
  have v := ub (128 + (r : Int) % 64) (by omega) (by omega)
  refine ⟨?_, by simp, fun q => ?_⟩
  ·show Lib.decodeL ((192 + (r : Int) / 64).toNat.toUInt8 :: (128 + (r : Int) % 64).toNat.toUInt8 :: t) = _
   rw [dec2 _ _ t (by omega) (by omega) (by omega)]
   apply Prod.ext
   ·show _ % 32 * 64 + _ % 64 = r
    omega
   ·rfl
  ·have := q.2
   simp at this
 by_cases c3 : r ≤ 65535
 ·rw [Lib.encodeRuneZ_three (by omega)]
  have u := ub (224 + (r : Int) / 4096) (by omega) (by omega)
  have v := ub (128 + (r : Int) / 64 % 64) (by omega) (by omega)
  have x := ub (128 + (r : Int) % 64) (by omega) (by omega)
  have e : (224 + (r : Int) / 4096).toNat.toUInt8.toNat % 16 * 4096 + (128 + (r : Int) / 64 % 64).toNat.toUInt8.toNat % 64 * 64 + (128 + (r : Int) % 64).toNat.toUInt8.toNat % 64 = r := by omega
  refine ⟨?_, by simp, fun q => ?_⟩
  ·show Lib.decodeL ((224 + (r : Int) / 4096).toNat.toUInt8 :: (128 + (r : Int) / 64 % 64).toNat.toUInt8 :: (128 + (r : Int) % 64).toNat.toUInt8 :: t) = _
   rw [dec3 _ _ _ t (by omega) (by omega) (by omega) (by omega) (by rw [e]; exact h), e]
   rfl
  ·have := q.2
   simp at this
 ·rw [Lib.encodeRuneZ_four (by omega) (by omega)]
  have u := ub (240 + (r : Int) / 262144) (by omega) (by omega)
  have v := ub (128 + (r : Int) / 4096 % 64) (by omega) (by omega)
  have x := ub (128 + (r : Int) / 64 % 64) (by omega) (by omega)
  have y := ub (128 + (r : Int) % 64) (by omega) (by omega)
  have e : (240 + (r : Int) / 262144).toNat.toUInt8.toNat % 8 * 262144 + (128 + (r : Int) / 4096 % 64).toNat.toUInt8.toNat % 64 * 4096 + (128 + (r : Int) / 64 % 64).toNat.toUInt8.toNat % 64 * 64 + (128 + (r : Int) % 64).toNat.toUInt8.toNat % 64 = r := by omega
  refine ⟨?_, by simp, fun q => ?_⟩
  ·show Lib.decodeL ((240 + (r : Int) / 262144).toNat.toUInt8 :: (128 + (r : Int) / 4096 % 64).toNat.toUInt8 :: (128 + (r : Int) / 64 % 64).toNat.toUInt8 :: (128 + (r : Int) % 64).toNat.toUInt8 :: t) = _
   rw [dec4 _ _ _ _ t (by omega) (by omega) (by omega) (by omega) (by omega) (by omega), e]
   rfl
  ·have := q.2
   simp at this
theorem dec_scalar (l : List UInt8) : Scalar (Lib.decodeL l).1 := by
 rw [Lib.decodeL_N]
 rcases Lib.decodeN_valid l.length (l.getD 0 0).toNat (l.getD 1 0).toNat (l.getD 2 0).toNat (l.getD 3 0).toNat (l.getD 0 0).toNat_lt with h | h
 ·exact .inl (by omega)
 ·exact .inr (by omega)
theorem valid_enc (r : Nat) (h : Scalar r) (t : List UInt8) : Lib.validD (Lib.encodeRune (r : Int) ++ t) = Lib.validD t := by
 obtain ⟨h1, h2, h3⟩ := dec_enc r h t
 have hne : Lib.encodeRune (r : Int) ++ t ≠ [] := fun q => h2 (List.append_eq_nil_iff.1 q).1
 rw [Lib.validD_step _ hne, h1, if_neg (show ¬ ((r, (Lib.encodeRune (r : Int)).length).1 = 65533 ∧ (r, (Lib.encodeRune (r : Int)).length).2 = 1) from h3), List.drop_left' rfl]
theorem repair_enc (r : Nat) (h : Scalar r) (t : List UInt8) : repairD (Lib.encodeRune (r : Int) ++ t) = Lib.encodeRune (r : Int) ++ repairD t := by
 obtain ⟨h1, h2, h3⟩ := dec_enc r h t
 have hne : Lib.encodeRune (r : Int) ++ t ≠ [] := fun q => h2 (List.append_eq_nil_iff.1 q).1
 rw [repairD_step _ hne, h1, List.drop_left' rfl]
/-- By the runes of a text. -/
theorem by_runes {P : List UInt8 → Prop} (h0 : P []) (h1 : ∀ l, l ≠ [] → P (l.drop (Lib.decodeL l).2) → P l) : ∀ (n : Nat) (l : List UInt8), l.length ≤ n → P l
 | 0, l, h => by
  have : l = [] := List.eq_nil_of_length_eq_zero (by omega)
  subst this
  exact h0
 | n + 1, l, h => by
  by_cases hne : l = []
  ·subst hne
   exact h0
  ·refine h1 l hne (by_runes h0 h1 n _ ?_)
   have := Lib.decodeL_width l
   have := List.length_pos_iff.2 hne
   rw [List.length_drop]
   omega
theorem valid_repair (l : List UInt8) : Lib.validD (repairD l) = true :=
 by_runes (P := fun l => Lib.validD (repairD l) = true) rfl (fun l hne ih => by rw [repairD_step l hne, valid_enc _ (dec_scalar l)]; exact ih) l.length l (Nat.le_refl _)
theorem repair_repair (l : List UInt8) : repairD (repairD l) = repairD l :=
 by_runes (P := fun l => repairD (repairD l) = repairD l) rfl (fun l hne ih => by rw [repairD_step l hne, repair_enc _ (dec_scalar l), ih]) l.length l (Nat.le_refl _)
theorem repair_valid (l : List UInt8) : Lib.validD l = true → repairD l = l :=
 by_runes (P := fun l => Lib.validD l = true → repairD l = l) (fun _ => rfl) (fun l hne ih h => by
  rw [Lib.validD_step l hne] at h
  by_cases hb : (Lib.decodeL l).1 = 65533 ∧ (Lib.decodeL l).2 = 1
  ·rw [if_pos hb] at h; cases h
  ·rw [if_neg hb] at h
   rw [repairD_step l hne, ih h, Lib.encode_decode l hne hb, List.take_append_drop]) l.length l (Nat.le_refl _)
theorem valid_iff (l : List UInt8) : Lib.validD l = true ↔ repairD l = l := ⟨repair_valid l, fun h => by rw [← h]; exact valid_repair l⟩
theorem enc_len (r : Int) : (Lib.encodeRune r).length ≤ 4 := by rw [← Lib.runeCells_length]; exact (Lib.runeCells_le r).2
theorem repair_len (l : List UInt8) : (repairD l).length ≤ 4 * l.length :=
 by_runes (P := fun l => (repairD l).length ≤ 4 * l.length) (Nat.zero_le _) (fun l hne ih => by
  have := enc_len ((Lib.decodeL l).1 : Int)
  have := Lib.decodeL_width l
  have := List.length_pos_iff.2 hne
  rw [List.length_drop] at ih
  rw [repairD_step l hne, List.length_append]
  omega) l.length l (Nat.le_refl _)
theorem runes_len (l : List UInt8) : (runesD l).length ≤ l.length :=
 by_runes (P := fun l => (runesD l).length ≤ l.length) (Nat.le_refl _) (fun l hne ih => by
  have := Lib.decodeL_width l
  have := List.length_pos_iff.2 hne
  rw [List.length_drop] at ih
  rw [runesD_step l hne, List.length_cons]
  omega) l.length l (Nat.le_refl _)
theorem runes_scalar (l : List UInt8) : ∀ r ∈ runesD l, ∃ n : Nat, r = (n : Int) ∧ Scalar n :=
 by_runes (P := fun l => ∀ r ∈ runesD l, ∃ n : Nat, r = (n : Int) ∧ Scalar n) (fun r hr => by cases hr) (fun l hne ih r hr => by
  rw [runesD_step l hne] at hr
  rcases List.mem_cons.1 hr with rfl | hr
  ·exact ⟨_, rfl, dec_scalar l⟩
  ·exact ih r hr) l.length l (Nat.le_refl _)
-- the reference's loops
theorem rune_gen' (t : ByteArray) (hs : t.size ≤ 65536) (p : Nat) (hp : p < t.size) (q : Nat) (hq : 6 ≤ q) :
  spec_l01Rune.f q t (p : Int) = some (if BadD (Lib.decodeL ((bl t).drop p)) then (0, 1, false) else (((Lib.decodeL ((bl t).drop p)).1 : Int), ((Lib.decodeL ((bl t).drop p)).2 : Int), true)) := by
 obtain ⟨m, rfl⟩ : ∃ m, q = m + 6 := ⟨q - 6, by omega⟩
 exact rune_gen t hs p hp m
theorem drop_ne {l : List UInt8} {p : Nat} (h : p < l.length) : l.drop p ≠ [] := fun q => by
 have := congrArg List.length q
 rw [List.length_drop, List.length_nil] at this
 omega
theorem specRunes_l0 (t : ByteArray) (hs : t.size ≤ 65536) : ∀ (n p : Nat) (acc : List Int), t.size - p ≤ n → p ≤ t.size → acc.length ≤ p → Lib.validD ((bl t).drop p) = true → Ev (fun k => spec_RunesOf.l0 k t acc (p : Int)) (acc ++ runesD ((bl t).drop p), 0)
 | 0, p, acc, hn, hp, ha, hv => by
  have hsz := bl_size t
  rw [List.drop_eq_nil_of_le (by omega), runesD_nil, List.append_nil]
  exact Ev.step (f := fun _ => some _) (fun k => by simp only [spec_RunesOf.l0]; rw [if_neg (by omega)]) (Ev.now _)
 | n + 1, p, acc, hn, hp, ha, hv => by
  have hsz := bl_size t
  by_cases hlt : p < t.size
  ·have hne := drop_ne (l := bl t) (p := p) (by omega)
   have hw1 := Lib.decodeL_width ((bl t).drop p)
   have hw2 := Lib.decodeL_le ((bl t).drop p) hne
   rw [List.length_drop] at hw2
   rw [Lib.validD_step _ hne] at hv
   have hbad : ¬ BadD (Lib.decodeL ((bl t).drop p)) := fun hb => by rw [if_pos (show _ ∧ _ from hb)] at hv; cases hv
   rw [if_neg (show ¬ (_ ∧ _) from hbad), List.drop_drop] at hv
   have hst := runesD_step _ hne
   rw [List.drop_drop] at hst
   have hg := fun q hq => rune_gen' t hs p hlt q hq
   simp only [if_neg hbad] at hg
   generalize Lib.decodeL ((bl t).drop p) = d at *
   obtain ⟨K, ih⟩ := specRunes_l0 t hs n (p + d.2) (acc ++ [(d.1 : Int)]) (by omega) (by omega) (by rw [List.length_append, List.length_singleton]; omega) hv
   refine ⟨K + 7, fun k hk => ?_⟩
   obtain ⟨m, rfl⟩ : ∃ m, k = m + 1 := ⟨k - 1, by omega⟩
   have ih' := ih m (by omega)
   simp only at ih'
   have hf := hg m (by omega)
   show spec_RunesOf.l0 (m + 1) t acc (p : Int) = _
   simp only [spec_RunesOf.l0, hf, bS, w64add p d.2 (by omega)]
   rw [if_pos (by omega), if_pos trivial, if_pos (by omega), ih', hst, List.append_assoc]
   rfl
  ·rw [List.drop_eq_nil_of_le (by omega), runesD_nil, List.append_nil]
   exact Ev.step (f := fun _ => some _) (fun k => by simp only [spec_RunesOf.l0]; rw [if_neg (by omega)]) (Ev.now _)
theorem specRunes (t : ByteArray) (hs : t.size ≤ 65536) (hv : Lib.validD (bl t) = true) : Ev (fun k => spec_RunesOf.f k t) (runesD (bl t), 0) := by
 have h := specRunes_l0 t hs t.size 0 [] (by omega) (by omega) (by simp) hv
 refine Ev.congr (fun k => ?_) h
 simp only [spec_RunesOf.f]
 rw [if_neg (by omega)]
 rfl
theorem enc_bad : Lib.encodeRune 65533 = [239, 191, 189] := by decide +kernel
theorem specRepair_l0 (t : ByteArray) (hs : t.size ≤ 65536) : ∀ (n p : Nat) (acc : List UInt8), t.size - p ≤ n → p ≤ t.size → acc.length ≤ 4 * p → Ev (fun k => spec_l01Repair.l0 k t (nb acc) (p : Int)) ⟨(acc ++ repairD ((bl t).drop p)).toArray⟩
 | 0, p, acc, hn, hp, ha => by
  have hsz := bl_size t
  rw [List.drop_eq_nil_of_le (by omega), repairD_nil, List.append_nil, ← strOf_nb]
  exact Ev.step (f := fun _ => some _) (fun k => by simp only [spec_l01Repair.l0]; rw [if_neg (by omega)]) (Ev.now _)
 | n + 1, p, acc, hn, hp, ha => by
  have hsz := bl_size t
  by_cases hlt : p < t.size
  ·have hne := drop_ne (l := bl t) (p := p) (by omega)
   have hw1 := Lib.decodeL_width ((bl t).drop p)
   have hw2 := Lib.decodeL_le ((bl t).drop p) hne
   rw [List.length_drop] at hw2
   have hst := repairD_step _ hne
   rw [List.drop_drop] at hst
   have hg := fun q hq => rune_gen' t hs p hlt q hq
   have hen := Lib.encode_decode ((bl t).drop p) hne
   have hel := enc_len ((Lib.decodeL ((bl t).drop p)).1 : Int)
   generalize Lib.decodeL ((bl t).drop p) = d at *
   have hal : (acc ++ Lib.encodeRune (d.1 : Int)).length ≤ 4 * (p + d.2) := by rw [List.length_append]; omega
   obtain ⟨K, ih⟩ := specRepair_l0 t hs n (p + d.2) (acc ++ Lib.encodeRune (d.1 : Int)) (by omega) (by omega) hal
   refine ⟨K + 7, fun k hk => ?_⟩
   obtain ⟨m, rfl⟩ : ∃ m, k = m + 1 := ⟨k - 1, by omega⟩
   have ih' := ih m (by omega)
   simp only at ih'
   have hf := hg m (by omega)
   rw [hst, ← List.append_assoc]
   show spec_l01Repair.l0 (m + 1) t (nb acc) (p : Int) = _
   by_cases hb : BadD d
   ·rw [if_pos hb] at hf
    have h1 : d.1 = 65533 := hb.1
    have h2 : d.2 = 1 := hb.2
    simp only [spec_l01Repair.l0, hf, bS]
    rw [if_pos (by omega), if_neg (by decide), if_pos (by rw [nb_length]; simp only [List.length_cons, List.length_nil]; omega)]
    have e1 : nb acc ++ [239, 191, 189] = nb (acc ++ Lib.encodeRune (d.1 : Int)) := by
     rw [h1, show ((65533 : Nat) : Int) = 65533 from rfl, enc_bad, nb_append]
     rfl
    have e2 : wrap64 ((p : Int) + 1) = ((p + d.2 : Nat) : Int) := by rw [h2]; exact w64s p (by omega)
    rw [e1, e2]
    exact ih'
   ·rw [if_neg hb] at hf
    have hen := hen hb
    have e1 : bl (t.extract p (p + d.2)) = Lib.encodeRune (d.1 : Int) := by rw [bl_extract, hen, Nat.add_sub_cancel_left]
    simp only [spec_l01Repair.l0, hf, bS, w64add p d.2 (by omega), Int.toNat_natCast, bytesOf_bl, e1, ← nb_append]
    rw [if_pos (by omega), if_pos trivial, if_pos (by omega), if_pos (by omega), if_pos (by omega), if_pos (by rw [nb_length, bl_size, e1]; rw [List.length_append] at hal; omega)]
    exact ih'
  ·rw [List.drop_eq_nil_of_le (by omega), repairD_nil, List.append_nil, ← strOf_nb]
   exact Ev.step (f := fun _ => some _) (fun k => by simp only [spec_l01Repair.l0]; rw [if_neg (by omega)]) (Ev.now _)
theorem specRepair (t : ByteArray) (hs : t.size ≤ 65536) : Ev (fun k => spec_RepairText.f k t) (⟨(repairD (bl t)).toArray⟩, 0) := by
 obtain ⟨K, h⟩ := specRepair_l0 t hs t.size 0 [] (by omega) (by omega) (by simp)
 refine ⟨K, fun k hk => ?_⟩
 have h' : spec_l01Repair.l0 k t [] 0 = some _ := h k hk
 simp only [spec_RepairText.f, spec_l01Repair.f, h', bS]
 rw [if_neg (by omega)]
 rfl
end Go.Proofs.YtcibmjgofebmdaaDoor.P
/- Lemmas of mine: a text that is picked is one of the list. Plain. -/
set_option linter.unusedVariables false
set_option linter.unusedSimpArgs false
namespace Go.Proofs.YtcibmjgofebmdaaDoor.P
open Go.RowKit Go.Proofs.YtcibmjgofebmdaaDoorW.PrintWords
theorem pick_ok {l : List Int} {a s B : Int} (xs : List ByteArray) (h : Src l a s B) (hB : B ≤ 4611686018427387900) : ∃ r a' s', spec_l00Src_pick.f l a s xs = some (r, a', s') ∧ Src l a' s' (B + 3) ∧ (r ∈ xs ∨ (xs = [] ∧ r = (⟨#[]⟩ : ByteArray))) := by
 unfold spec_l00Src_pick.f
 by_cases c1 : (xs.length : Int) = 0
 ·rw [if_pos c1]
  exact ⟨_, _, _, rfl, h.grow (by omega), .inr ⟨List.length_eq_zero_iff.mp (by omega), rfl⟩⟩
 ·rw [if_neg c1]
  obtain ⟨r, a', s', e, h', b1, b2⟩ := next_ok (xs.length : Int) h hB
  rw [e]
  simp only [Option.bind_some]
  rw [if_pos b1, if_pos (b2 (by omega))]
  refine ⟨_, _, _, rfl, h', .inl ?_⟩
  have hlt : r.toNat < xs.length := by have := b2 (by omega); omega
  unfold rdOf
  rw [List.getD_eq_getElem?_getD, List.getElem?_eq_getElem hlt]
  exact List.getElem_mem hlt
end Go.Proofs.YtcibmjgofebmdaaDoor.P
/- Lemmas of mine: a text put together out of its runes, by the program; drawn texts with bytes of no rune. Plain. -/
set_option linter.unusedVariables false
set_option linter.unusedSimpArgs false
namespace Go.Proofs.YtcibmjgofebmdaaDoor.P
open Go.RowKit Go.Proofs.YtcibmjgofebmdaaDoorW.PrintWords
theorem within_t (a b c : Int) : impl_within.f a b c = some (decide (b ≤ a ∧ a ≤ c)) := l01In_t a b c
theorem isRune_f (n : Nat) (h : Scalar n) : impl_isRune.f (n : Int) = some true := by
 have h : n ≤ 55295 ∨ (57344 ≤ n ∧ n ≤ 1114111) := h
 unfold impl_isRune.f
 simp only [within_t, bS]
 rw [if_pos (decide_eq_true (by omega)), decide_eq_false (by omega)]
 rfl
theorem or192 : ∀ x : Fin 32, Go.bits .or .u8 192 ((x.val : Nat) : Int) = 192 + ((x.val : Nat) : Int) := by decide +kernel
theorem or224 : ∀ x : Fin 16, Go.bits .or .u8 224 ((x.val : Nat) : Int) = 224 + ((x.val : Nat) : Int) := by decide +kernel
theorem or240 : ∀ x : Fin 8, Go.bits .or .u8 240 ((x.val : Nat) : Int) = 240 + ((x.val : Nat) : Int) := by decide +kernel
theorem nb_enc (n : Nat) (h : Scalar n) : nb (Lib.encodeRune (n : Int)) = Lib.encodeRuneZ (n : Int) := by
 unfold nb Lib.encodeRune
 rw [List.map_map]
 conv => rhs; rw [← List.map_id (Lib.encodeRuneZ (n : Int))]
 refine List.map_congr_left fun x hx => ?_
 have := Lib.encodeRuneZ_byte (n : Int) x hx
 exact ub x this.1 this.2
theorem append_f (k n : Nat) (h : Scalar n) (acc : List Int) (hl : acc.length ≤ 1000000) : utf8_AppendRune.f (k + 1) acc (n : Int) = some (acc ++ Lib.encodeRuneZ (n : Int)) := by
 have h : n ≤ 55295 ∨ (57344 ≤ n ∧ n ≤ 1114111) := h
 have em : ((n : Int) % 4294967296) = (n : Int) := by omega
 unfold utf8_AppendRune.f
 rw [em]
 by_cases c1 : n ≤ 127
 ·rw [if_pos (by omega), if_pos (by omega), Lib.encodeRuneZ_one (by omega) (by omega), show ((n : Int) % 256) = (n : Int) by omega]
 rw [if_neg (by omega)]
 have key : utf8_appendRuneNonASCII.f (k + 1) acc (n : Int) = some (acc ++ Lib.encodeRuneZ (n : Int)) := by
  unfold utf8_appendRuneNonASCII.f
  rw [em]
  by_cases c2 : n ≤ 2047
  ·have hb : Go.bits .or .u8 192 (((n : Int) / 64) % 256) = 192 + (n : Int) / 64 := by
    have := or192 ⟨n / 64, by omega⟩
    simp only at this
    rw [show ((n : Int) / 64) % 256 = ((n / 64 : Nat) : Int) by omega, this]
    omega
   rw [if_pos (by omega), bS, hb, if_pos (by simp only [List.length_cons, List.length_nil]; omega), Lib.encodeRuneZ_two (by omega) (by omega)]
  rw [if_neg (by omega)]
  have h3 : ∀ b : Bool, b = decide (n ≤ 65535) → utf8_appendRuneNonASCII.j0 (k + 1) acc (n : Int) (n : Int) b = some (acc ++ Lib.encodeRuneZ (n : Int)) := by
   intro b hb
   subst hb
   simp only [utf8_appendRuneNonASCII.j0]
   by_cases c3 : n ≤ 65535
   ·have hb : Go.bits .or .u8 224 (((n : Int) / 4096) % 256) = 224 + (n : Int) / 4096 := by
     have := or224 ⟨n / 4096, by omega⟩
     simp only at this
     rw [show ((n : Int) / 4096) % 256 = ((n / 4096 : Nat) : Int) by omega, this]
     omega
    rw [if_pos (decide_eq_true c3), bS, hb, if_pos (by simp only [List.length_cons, List.length_nil]; omega), Lib.encodeRuneZ_three (by omega)]
   ·have hb : Go.bits .or .u8 240 (((n : Int) / 262144) % 256) = 240 + (n : Int) / 262144 := by
     have := or240 ⟨n / 262144, by omega⟩
     simp only at this
     rw [show ((n : Int) / 262144) % 256 = ((n / 262144 : Nat) : Int) by omega, this]
     omega
    rw [if_neg (fun q => c3 (of_decide_eq_true q)), if_pos (by omega), if_pos (by omega), bS, hb, if_pos (by simp only [List.length_cons, List.length_nil]; omega), Lib.encodeRuneZ_four (by omega) (by omega)]
  by_cases c4 : n < 55296
  ·rw [if_pos (by omega)]
   exact h3 _ (by rw [decide_eq_true (by omega), decide_eq_true (by omega)])
  ·rw [if_neg (by omega), if_pos (by omega)]
   refine h3 _ ?_
   by_cases c5 : n ≤ 65535
   ·rw [decide_eq_true c5]; exact decide_eq_true (by omega)
   ·rw [decide_eq_false c5]; exact decide_eq_false (by omega)
 rw [key, bS]
theorem w32n (n : Nat) (h : n ≤ 2000000) : wrap32 (n : Int) = (n : Int) := by unfold wrap32; omega
theorem textOf_l0 (xs : List Int) (hx : ∀ r ∈ xs, ∃ n : Nat, r = (n : Int) ∧ Scalar n) (hl : xs.length ≤ 70000) : ∀ (d i : Nat) (acc : List UInt8), xs.length - i = d → i ≤ xs.length → acc.length ≤ 4 * i →
  Ev (fun k => impl_TextOfRunes.l0 k (nb acc) xs (xs.length : Int) (i : Int)) (⟨(acc ++ (xs.drop i).flatMap Lib.encodeRune).toArray⟩, 0)
 | 0, i, acc, hd, hi, ha => by
  rw [List.drop_eq_nil_of_le (by omega), List.flatMap_nil, List.append_nil, ← strOf_nb]
  exact Ev.step (f := fun _ => some _) (fun k => by simp only [impl_TextOfRunes.l0]; rw [if_neg (by omega)]) (Ev.now _)
 | d + 1, i, acc, hd, hi, ha => by
  have hlt : i < xs.length := by omega
  obtain ⟨n, hn, hs⟩ := hx _ (List.getElem_mem hlt)
  have hs' : n ≤ 55295 ∨ (57344 ≤ n ∧ n ≤ 1114111) := hs
  have hrd : rd xs (i : Int) = (n : Int) := by
   rw [← hn]
   exact getD_nat xs 0 i hlt
  have hen := enc_len (n : Int)
  obtain ⟨K, ih⟩ := textOf_l0 xs hx hl d (i + 1) (acc ++ Lib.encodeRune (n : Int)) (by omega) (by omega) (by rw [List.length_append]; omega)
  have e1 : acc ++ Lib.encodeRune (n : Int) ++ (xs.drop (i + 1)).flatMap Lib.encodeRune = acc ++ (xs.drop i).flatMap Lib.encodeRune := by
   rw [List.drop_eq_getElem_cons hlt, List.flatMap_cons, hn, List.append_assoc]
  refine ⟨K + 2, fun k hk => ?_⟩
  obtain ⟨m, rfl⟩ : ∃ m, k = m + 1 := ⟨k - 1, by omega⟩
  have ih' := ih m (by omega)
  simp only at ih'
  rw [e1, nb_append, nb_enc n hs] at ih'
  obtain ⟨q, rfl⟩ : ∃ q, m = q + 1 := ⟨m - 1, by omega⟩
  have hap := append_f q n hs (nb acc) (by rw [nb_length]; omega)
  generalize hm : q + 1 = m at *
  simp only [impl_TextOfRunes.l0, hrd, isRune_f n hs, bS, w32n n (by omega), hap, w64s i (by omega)]
  rw [if_pos (by omega), if_pos (by omega), if_pos (by omega), if_pos trivial]
  exact ih'
theorem textOfRunes (xs : List Int) (hx : ∀ r ∈ xs, ∃ n : Nat, r = (n : Int) ∧ Scalar n) (hl : xs.length ≤ 4096) : Ev (fun k => impl_TextOfRunes.f k xs) (⟨(xs.flatMap Lib.encodeRune).toArray⟩, 0) := by
 have h := textOf_l0 xs hx (by omega) xs.length 0 [] (by omega) (by omega) (by simp)
 refine Ev.congr (fun k => ?_) h
 simp only [impl_TextOfRunes.f]
 rw [if_neg (by omega)]
 rfl
theorem runeSize_f (n : Nat) (h : Scalar n) (k : Nat) : impl_RuneSize.f (k + 1) (n : Int) = some (((Lib.encodeRune (n : Int)).length : Nat) : Int) := by
 have h' : n ≤ 55295 ∨ (57344 ≤ n ∧ n ≤ 1114111) := h
 have key : utf8_RuneLen.f (k + 1) (n : Int) = some (((Lib.encodeRune (n : Int)).length : Nat) : Int) := by
  unfold utf8_RuneLen.f Lib.encodeRune
  rw [if_neg (by omega)]
  by_cases c1 : n ≤ 127
  ·rw [if_pos (by omega), Lib.encodeRuneZ_one (by omega) (by omega)]
   rfl
  rw [if_neg (by omega)]
  by_cases c2 : n ≤ 2047
  ·rw [if_pos (by omega), Lib.encodeRuneZ_two (by omega) (by omega)]
   rfl
  rw [if_neg (by omega)]
  have h3 : utf8_RuneLen.j0 (k + 1) (n : Int) false = some ((((Lib.encodeRuneZ (n : Int)).map fun x => x.toNat.toUInt8).length : Nat) : Int) := by
   simp only [utf8_RuneLen.j0]
   rw [if_neg (by decide)]
   by_cases c3 : n ≤ 65535
   ·rw [if_pos (by omega), Lib.encodeRuneZ_three (by omega)]
    rfl
   ·rw [if_neg (by omega), if_pos (by omega), Lib.encodeRuneZ_four (by omega) (by omega)]
    rfl
  by_cases c4 : 55296 ≤ n
  ·rw [if_pos (by omega), decide_eq_false (by omega)]
   exact h3
  ·rw [if_neg (by omega)]
   exact h3
 unfold impl_RuneSize.f
 rw [isRune_f n h, bS, if_pos rfl, w32n n (by omega), key]
 rfl
theorem sameInts_self (xs : List Int) (hl : xs.length ≤ 4611686018427387904) : Ev (fun k => laws_sameInts.f k xs xs) true := by
 have go : ∀ (d i : Nat), xs.length - i = d → i ≤ xs.length → Ev (fun k => laws_sameInts.l0 k xs xs (i : Int)) true := by
  intro d
  induction d with
  | zero =>
   intro i hd hi
   exact Ev.step (f := fun _ => some _) (fun k => by simp only [laws_sameInts.l0]; rw [if_neg (by omega)]) (Ev.now _)
  | succ d ih =>
   intro i hd hi
   refine Ev.step (fun k => ?_) (ih (i + 1) (by omega) (by omega))
   simp only [laws_sameInts.l0, w64s i (by omega)]
   rw [if_pos (by omega), if_pos (by omega), if_pos (by omega), if_pos trivial]
 refine Ev.congr (fun k => ?_) (go xs.length 0 (by omega) (by omega))
 simp only [laws_sameInts.f]
 rw [if_pos trivial]
 rfl
theorem anyText_ok (l : List Int) (hw : ∀ y ∈ l, 0 ≤ y ∧ y ≤ 255) : ∃ t : ByteArray, Ev (fun k => spec_AnyTextOf.f k l) t ∧ t.size ≤ 100 := by
 obtain ⟨s0, e0, h0⟩ := source_ok l hw
 obtain ⟨r, a1, s1, e1, h1, b1, c1⟩ := next_ok 12 h0 (by omega)
 have c1 := c1 (by decide)
 obtain ⟨d, hd⟩ : ∃ d : Nat, r = (d : Int) := ⟨r.toNat, (Int.toNat_of_nonneg b1).symm⟩
 subst hd
 obtain ⟨qs, a2, s2, ⟨K, e⟩, hq, hle, h2⟩ := text_l0 d [] a1 s1 _ h1 (by omega) (by simp only [List.length_nil]; omega) (fun p hp => by cases hp)
 have hfl := flat_pieces qs hq
 simp only [List.length_nil] at hle
 obtain ⟨t, ht⟩ : ∃ t, t = strOfNums (nb qs.flatten) := ⟨_, rfl⟩
 have hts : t.size ≤ 48 := by rw [ht, bl_size, bl_strOf_nb]; omega
 have e2 : ∀ k, K ≤ k → spec_l00Src_text.l0 k [] (d : Int) l a1 s1 = some (t, a2, s2) := fun k hk => by rw [ht]; exact e k hk
 clear e ht
 obtain ⟨r2, a3, s3, e3, h3, b3, c3⟩ := next_ok 2 h2 (by omega)
 have hch : spec_l00Src_chance.f l a2 s2 2 = some ((r2 == 1), a3, s3) := by
  have w1 : wrap64 (2 - 1) = 1 := w64 (by omega) (by omega)
  simp only [spec_l00Src_chance.f, e3, bS, w1]
 by_cases hc : (r2 == 1) = true
 ·obtain ⟨r3, a4, s4, e4, h4, b4, c4⟩ := next_ok ((t.size : Int) + 1) h3 (by omega)
  have c4 := c4 (by omega)
  obtain ⟨x, a5, s5, e5, h5, hx⟩ := pick_ok [(⟨#[128]⟩ : ByteArray), (⟨#[192, 128]⟩ : ByteArray), (⟨#[237, 160, 128]⟩ : ByteArray), (⟨#[244, 144, 128, 128]⟩ : ByteArray), (⟨#[226, 130]⟩ : ByteArray), (⟨#[255]⟩ : ByteArray), (⟨#[240, 159]⟩ : ByteArray)] h4 (by omega)
  have hxs : x.size ≤ 4 := by
   rcases hx with hx | ⟨hx, _⟩
   ·have : ∀ y ∈ [(⟨#[128]⟩ : ByteArray), (⟨#[192, 128]⟩ : ByteArray), (⟨#[237, 160, 128]⟩ : ByteArray), (⟨#[244, 144, 128, 128]⟩ : ByteArray), (⟨#[226, 130]⟩ : ByteArray), (⟨#[255]⟩ : ByteArray), (⟨#[240, 159]⟩ : ByteArray)], y.size ≤ 4 := by
     intro y hy
     simp only [List.mem_cons, List.not_mem_nil, or_false] at hy
     rcases hy with rfl | rfl | rfl | rfl | rfl | rfl | rfl <;> decide
    exact this x hx
   ·cases hx
  have w1 : Aside0 (wrap64 ((t.size : Int) + 1) = (t.size : Int) + 1) := ⟨w64 (by omega) (by omega)⟩
  have z1 : (t.extract 0 r3.toNat).size = r3.toNat := by rw [ByteArray.size_extract]; omega
  have z2 : (t.extract r3.toNat t.size).size = t.size - r3.toNat := by rw [ByteArray.size_extract]; omega
  refine ⟨t.extract 0 r3.toNat ++ x ++ t.extract r3.toNat t.size, ⟨K, fun k hk => ?_⟩, by rw [ByteArray.size_append, ByteArray.size_append, z1, z2]; omega⟩
  simp only [spec_AnyTextOf.f, e0, bS, spec_l00Src_anyText.f, spec_l00Src_text.f, e1, e2 k hk, hch, hc, w1.out, e4, e5]
  rw [if_pos trivial, if_pos b4, if_pos (by omega), if_pos (by rw [z1]; omega), if_pos (by rw [ByteArray.size_append, z1, z2]; omega)]
  rfl
 ·refine ⟨t, ⟨K, fun k hk => ?_⟩, by omega⟩
  simp only [spec_AnyTextOf.f, e0, bS, spec_l00Src_anyText.f, spec_l00Src_text.f, e1, e2 k hk, hch]
  rw [if_neg hc]
  rfl
end Go.Proofs.YtcibmjgofebmdaaDoor.P
/- Lemmas of mine: drawn pieces are right texts. Plain. -/
set_option linter.unusedVariables false
set_option linter.unusedSimpArgs false
namespace Go.Proofs.YtcibmjgofebmdaaDoor.P
open Go.RowKit Go.Proofs.YtcibmjgofebmdaaDoorW.PrintWords
theorem piece_dec (q : List UInt8) (h : Piece q) (t : List UInt8) : (Lib.decodeL (q ++ t)).2 = q.length ∧ ¬ ((Lib.decodeL (q ++ t)).1 = 65533 ∧ (Lib.decodeL (q ++ t)).2 = 1) := by
  rcases h with ⟨b, hb, rfl⟩ | h
  · have e : Lib.decodeL ([b] ++ t) = (b.toNat, 1) := Lib.decodeL_ascii b t hb
    rw [e]
    exact ⟨rfl, fun q => by have := q.1; simp only at this; omega⟩
  · simp only [List.mem_cons, List.not_mem_nil, or_false] at h
    rcases h with rfl | rfl | rfl | rfl | rfl | rfl | rfl | rfl | rfl | rfl
    all_goals
      (rw [Lib.decodeL_N]
       simp [Lib.decodeN, List.getD])
theorem valid_go : ∀ (qs : List (List UInt8)), (∀ q ∈ qs, Piece q) → ∀ n, qs.flatten.length ≤ n → Lib.validGoD n qs.flatten = true
  | [], _, n, _ => by
    cases n with
    | zero => rfl
    | succ n => unfold Lib.validGoD; exact if_pos rfl
  | q :: qs, h, n, hn => by
    have hq := h q (List.mem_cons_self ..)
    have hl := piece_len hq
    rw [List.flatten_cons, List.length_append] at hn
    obtain ⟨m, rfl⟩ : ∃ m, n = m + 1 := ⟨n - 1, by omega⟩
    obtain ⟨h1, h2⟩ := piece_dec q hq qs.flatten
    have hne : q ++ qs.flatten ≠ [] := fun e => by
      have := congrArg List.length e
      rw [List.length_append, List.length_nil] at this
      omega
    rw [List.flatten_cons]
    unfold Lib.validGoD
    rw [if_neg hne, if_neg h2, h1, List.drop_left' rfl]
    exact valid_go qs (fun p hp => h p (List.mem_cons_of_mem _ hp)) m (by omega)
theorem valid_flat (qs : List (List UInt8)) (h : ∀ q ∈ qs, Piece q) : Lib.validD qs.flatten = true := valid_go qs h _ (Nat.le_refl _)
theorem wfByteT {x : Int} (h : (Lit.int .u8 x).wf = true) : 0 ≤ x ∧ x ≤ 255 := by
  have h2 : IntKind.u8.min ≤ x ∧ x ≤ IntKind.u8.max := by simpa [Lit.wf] using h
  have e1 : IntKind.u8.min = 0 := by decide +kernel
  have e2 : IntKind.u8.max = 255 := by decide +kernel
  rw [e1, e2] at h2
  exact h2
theorem validText_f (t : ByteArray) (hs : t.size ≤ 65536) : impl_ValidText.f t = some (Lib.validD (bl t)) := by
  unfold impl_ValidText.f utf8_ValidString.f
  rw [if_pos (by omega), if_pos (by omega)]
  rfl
end Go.Proofs.YtcibmjgofebmdaaDoor.P
/- The pure statement of the law FnText: a text is put together again out of its runes; what is repaired is right, and stays as it is if it was. No condition. -/
set_option linter.unusedVariables false
set_option linter.unusedSimpArgs false
namespace Go.Proofs.YtcibmjgofebmdaaDoor.Pure
open Go.RowKit Go.Proofs.YtcibmjgofebmdaaDoor.P Go.Proofs.YtcibmjgofebmdaaDoorW.PrintWords
theorem FnText : laws_FnText.Pure := by
 intro x y hx hy
 refine Ev.k (?_ : Ev (fun k => laws_FnText.f k x y) true)
 have hT : Ev (fun k => laws_FnText.j0 k x y true) true := Ev.step (f := fun _ => some true) (fun k => by simp only [laws_FnText.j0]; exact if_pos trivial) (Ev.now _)
 by_cases h1 : (x.length : Int) > 1048576
 ·exact Ev.congr (fun k => by simp only [laws_FnText.f]; exact if_pos h1) hT
 ·by_cases h2 : (y.length : Int) > 1048576
  ·exact Ev.congr (fun k => by simp only [laws_FnText.f]; rw [if_neg h1, decide_eq_true h2]) hT
  ·refine Ev.congr (fun k => by simp only [laws_FnText.f]; rw [if_neg h1, decide_eq_false h2]) ?_
   obtain ⟨qs, t, ⟨K1, ht⟩, hq, hp, hz⟩ := textOf_ok x fun z hz => wfByteT (hx.2.2 z hz)
   obtain ⟨u, ⟨K2, hu⟩, huz⟩ := anyText_ok y fun z hz => wfByteT (hy.2.2 z hz)
   have hv : Lib.validD (bl t) = true := by rw [hq]; exact valid_flat qs hp
   have hsz := bl_size t
   have hsu := bl_size u
   obtain ⟨K3, hr⟩ := specRunes t (by omega) hv
   have hxs := runes_scalar (bl t)
   have hxl := runes_len (bl t)
   obtain ⟨K4, ho⟩ := textOfRunes (runesD (bl t)) hxs (by omega)
   obtain ⟨K5, hsm⟩ := sameInts_self (runesD (bl t)) (by omega)
   obtain ⟨K6, hsp⟩ := specRepair u (by omega)
   have hback : (⟨((runesD (bl t)).flatMap Lib.encodeRune).toArray⟩ : ByteArray) = t := bl_inj (by rw [bl_mk]; exact repair_valid (bl t) hv)
   rw [hback] at ho
   have hf1 : impl_RunesOf.f t = some (runesD (bl t), 0) := by
    unfold impl_RunesOf.f
    rw [if_neg (by omega)]
    exact if_pos hv
   have hVt : impl_ValidText.f t = some true := by rw [validText_f t (by omega), hv]
   have hlu := repair_len (bl u)
   obtain ⟨v, hvv⟩ : ∃ v : ByteArray, v = ⟨(repairD (bl u)).toArray⟩ := ⟨_, rfl⟩
   have hbv : bl v = repairD (bl u) := by rw [hvv, bl_mk]
   have hsv := bl_size v
   rw [hbv] at hsv
   have hf2 : impl_RepairText.f u = some (v, 0) := by
    unfold impl_RepairText.f
    rw [if_neg (by omega), hvv]
    rfl
   have hf3 : impl_RepairText.f v = some (v, 0) := by
    unfold impl_RepairText.f
    rw [if_neg (by omega)]
    have e : (⟨(repairD v.data.toList).toArray⟩ : ByteArray) = v := bl_inj (by
     rw [bl_mk]
     show repairD (bl v) = bl v
     rw [hbv, repair_repair])
    rw [e]
   have hVv : impl_ValidText.f v = some true := by rw [validText_f v (by omega), hbv, valid_repair]
   have hVu : impl_ValidText.f u = some (Lib.validD (bl u)) := validText_f u (by omega)
   have heq : Lib.validD (bl u) = (v.toList == u.toList) := by
    rw [toList_bl, toList_bl, hbv]
    by_cases hc : repairD (bl u) = bl u
    ·rw [(valid_iff (bl u)).2 hc, hc]
     exact (beq_self_eq_true _).symm
    ·rw [Bool.eq_false_iff.2 (fun q => hc ((valid_iff (bl u)).1 q))]
     exact (beq_eq_false_iff_ne.2 hc).symm
   rw [← hvv] at hsp
   -- the end: what is repaired
   have hend : ∀ k, K2 + K6 ≤ k → laws_FnText.l0 (k + 1) y t (runesD (bl t)) (t.size : Int) ((runesD (bl t)).length : Int) = some true := fun k hk => by
    have f1 : spec_AnyTextOf.f k y = some u := hu k (by omega)
    have f2 : spec_RepairText.f k u = some (v, 0) := hsp k (by omega)
    simp only [laws_FnText.l0, f1, f2, hf2, hf3, hVv, hVu, bS]
    rw [if_neg (by omega), if_pos trivial, if_pos trivial, if_pos trivial, if_pos trivial, if_pos trivial, if_pos trivial, heq, beq_self_eq_true]
   -- the sum of the runes' sizes
   have hsum : ∀ (d i s : Nat), (runesD (bl t)).length - i = d → i ≤ (runesD (bl t)).length → s + (((runesD (bl t)).drop i).flatMap Lib.encodeRune).length = t.size → ∀ k, K2 + K6 + d + 1 ≤ k →
     laws_FnText.l0 (k + 1) y t (runesD (bl t)) (s : Int) (i : Int) = some true := by
    intro d
    induction d with
    | zero =>
     intro i s hd hi hs k hk
     have hi' : i = (runesD (bl t)).length := by omega
     rw [hi', List.drop_length, List.flatMap_nil, List.length_nil] at hs
     have hs' : s = t.size := by omega
     rw [hi', hs']
     exact hend k (by omega)
    | succ d ih =>
     intro i s hd hi hs k hk
     have hlt : i < (runesD (bl t)).length := by omega
     obtain ⟨n, hn, hsc⟩ := hxs _ (List.getElem_mem hlt)
     have hrd : rd (runesD (bl t)) (i : Int) = (n : Int) := by
      rw [← hn]
      exact getD_nat _ 0 i hlt
     rw [List.drop_eq_getElem_cons hlt, List.flatMap_cons, hn, List.length_append] at hs
     obtain ⟨m, rfl⟩ : ∃ m, k = m + 1 := ⟨k - 1, by omega⟩
     have ih' := ih (i + 1) (s + (Lib.encodeRune (n : Int)).length) (by omega) (by omega) (by omega) m (by omega)
     have hz' := runeSize_f n hsc m
     have hsl : s + (Lib.encodeRune (n : Int)).length ≤ 48 := by omega
     generalize hq' : m + 1 = q at *
     simp only [laws_FnText.l0, hrd, hz', bS, w64s i (by omega), w64add s _ (show s + (Lib.encodeRune (n : Int)).length ≤ 9223372036854775807 by omega)]
     rw [if_pos (by omega), if_pos (by omega)]
     exact ih'
   have hfl : (((runesD (bl t)).drop 0).flatMap Lib.encodeRune).length = t.size := by
    rw [List.drop_zero]
    exact (congrArg List.length (repair_valid (bl t) hv)).trans hsz.symm
   refine ⟨K1 + K2 + K3 + K4 + K5 + K6 + (runesD (bl t)).length + 9, fun k hk => ?_⟩
   obtain ⟨k, rfl⟩ : ∃ m, k = m + 3 := ⟨k - 3, by omega⟩
   have f1 : spec_TextOf.f (k + 2) x = some t := ht _ (by omega)
   have f2 : spec_RunesOf.f (k + 2) t = some (runesD (bl t), 0) := hr _ (by omega)
   have f3 : impl_TextOfRunes.f (k + 2) (runesD (bl t)) = some (t, 0) := ho _ (by omega)
   have f4 : laws_sameInts.f (k + 2) (runesD (bl t)) (runesD (bl t)) = some true := hsm _ (by omega)
   have f5 : laws_FnText.j1 (k + 2) y t (runesD (bl t)) false = some true := by
    have h0 := hsum _ 0 0 rfl (Nat.zero_le _) (by rw [hfl]; omega) k (by omega)
    generalize hq' : k + 1 = q at *
    have hk2 : k + 2 = q + 1 := by omega
    rw [hk2]
    simp only [laws_FnText.j1]
    rw [if_neg (by decide)]
    exact h0
   generalize hq' : k + 2 = q at *
   have hk3 : k + 3 = q + 1 := by omega
   show laws_FnText.j0 (k + 3) x y false = some true
   rw [hk3]
   simp only [laws_FnText.j0, f1, f2, f3, f4, hf1, hVt, bS]
   rw [if_neg (by decide), if_pos trivial, if_pos trivial, if_pos trivial, if_pos trivial]
   exact f5
end Go.Proofs.YtcibmjgofebmdaaDoor.Pure
