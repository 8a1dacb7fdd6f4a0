/- Part 6 of what the law FnLog stands on; the last part ends with the law's row. No condition of mine. -/
import Derived.Test.YtejdnbdppgakeaaMFnLog5
import Derived.Test.YtejdnbdppgakeaaMFnLog2
import Derived.Test.YtejdnbdppgakeaaMFnLog1
import Derived.Test.YtejdnbdppgakeaaMFnLog3
import Derived.Test.YtejdnbdppgakeaaMFnLog4
import Derived.Test.YtejdnbdppgakeaaRows
import Derived.WalkKit
import Derived.ProofKit
import Derived.OpenShut
import Derived.ShutString
import Derived.ChangeOld
import Derived.Below
import Derived.SizedLaws
import Derived.Carry
/- Lemmas of mine: the records of a log's data, in both programs. Plain. -/
set_option linter.unusedVariables false
set_option linter.unusedSimpArgs false
namespace Go.Proofs.Ytejdnbdppgakeaa.P
open Go.RowKit Go.Proofs.YtejdnbdppgakeaaW.PrintWords
/-- What one look at the data from a place on tells: an end with a code, or a record. -/
def lookAt (d : List UInt8) (at_ : Nat) : Int ⊕ List UInt8 :=
  let rest := d.drop at_
  if rest.length < 7 then .inl 18
  else
    let n := numOf (rest.take 3)
    if ¬ (1 ≤ n ∧ n ≤ 20000) then .inl 8
    else if rest.length < 7 + n then .inl 18
    else
      let r := (rest.drop 7).take n
      if rest.take (7 + n) = frame r then .inr r else .inl 8
theorem lookAt_short {d : List UInt8} {at_ : Nat} (h : (d.drop at_).length < 7) : lookAt d at_ = .inl 18 := by
  simp only [lookAt]
  rw [if_pos h]
theorem lookAt_size {d : List UInt8} {at_ : Nat} (h : ¬ (d.drop at_).length < 7) (h2 : ¬ (1 ≤ numOf ((d.drop at_).take 3) ∧ numOf ((d.drop at_).take 3) ≤ 20000)) : lookAt d at_ = .inl 8 := by
  simp only [lookAt]
  rw [if_neg h, if_pos h2]
theorem lookAt_more {d : List UInt8} {at_ : Nat} (h : ¬ (d.drop at_).length < 7) (h2 : 1 ≤ numOf ((d.drop at_).take 3) ∧ numOf ((d.drop at_).take 3) ≤ 20000) (h3 : (d.drop at_).length < 7 + numOf ((d.drop at_).take 3)) : lookAt d at_ = .inl 18 := by
  simp only [lookAt]
  rw [if_neg h, if_neg (by simpa using h2), if_pos h3]
theorem lookAt_sum {d : List UInt8} {at_ : Nat} (h : ¬ (d.drop at_).length < 7) (h2 : 1 ≤ numOf ((d.drop at_).take 3) ∧ numOf ((d.drop at_).take 3) ≤ 20000) (h3 : ¬ (d.drop at_).length < 7 + numOf ((d.drop at_).take 3))
    (h4 : ¬ (d.drop at_).take (7 + numOf ((d.drop at_).take 3)) = frame (((d.drop at_).drop 7).take (numOf ((d.drop at_).take 3)))) : lookAt d at_ = .inl 8 := by
  simp only [lookAt]
  rw [if_neg h, if_neg (by simpa using h2), if_neg h3, if_neg h4]
theorem lookAt_rec {d : List UInt8} {at_ : Nat} (h : ¬ (d.drop at_).length < 7) (h2 : 1 ≤ numOf ((d.drop at_).take 3) ∧ numOf ((d.drop at_).take 3) ≤ 20000) (h3 : ¬ (d.drop at_).length < 7 + numOf ((d.drop at_).take 3))
    (h4 : (d.drop at_).take (7 + numOf ((d.drop at_).take 3)) = frame (((d.drop at_).drop 7).take (numOf ((d.drop at_).take 3)))) : lookAt d at_ = .inr (((d.drop at_).drop 7).take (numOf ((d.drop at_).take 3))) := by
  simp only [lookAt]
  rw [if_neg h, if_neg (by simpa using h2), if_neg h3, if_pos h4]
theorem num3_lt (l : List UInt8) : numOf (l.take 3) < 16777216 := by
  have h := numOf_lt (l.take 3) 0
  have h2 : (l.take 3).length ≤ 3 := by simp; omega
  have h3 : (256 : Nat) ^ (l.take 3).length ≤ 256 ^ 3 := Nat.pow_le_pow_right (by decide) h2
  have h4 : (256 : Nat) ^ 3 = 16777216 := by decide
  unfold numOf
  omega
/-- What a step of a reader of records does. -/
def Steps (l0 : Nat → List ByteArray → Int → Option (List ByteArray × Int × Int)) (d : ByteArray) (out : List ByteArray) (at_ : Nat) : Prop :=
    (∀ c, lookAt (bl d) at_ = .inl c → Ev (fun k => l0 k out (at_ : Int)) (out, (at_ : Int), c)) ∧
    (∀ r, lookAt (bl d) at_ = .inr r → (1 ≤ r.length ∧ r.length ≤ 20000 ∧ at_ + 7 + r.length ≤ d.size) ∧ ∀ q, Ev (fun k => l0 k (out ++ [sm r]) ((at_ + 7 + r.length : Nat) : Int)) q → Ev (fun k => l0 k out (at_ : Int)) q)
theorem implRecs_step (r0 s0 : Int) (d : ByteArray) (hd : d.size ≤ 1048576) (out : List ByteArray) (ho : out.length ≤ 1048576) (at_ : Nat) (ha : at_ < d.size) :
    Steps (fun k o i => impl_Log_records.l0 k o i r0 d s0) d out at_ := by
  have hs : (bl d).length = d.size := (bl_size d).symm
  obtain ⟨R, hRd⟩ : ∃ R, d.extract at_ d.size = R := ⟨_, rfl⟩
  have hR : bl R = (bl d).drop at_ := by rw [← hRd, bl_extract, List.take_of_length_le (by rw [List.length_drop, hs]; exact Nat.le_refl _)]
  have hRs : R.size = d.size - at_ := by rw [bl_size, hR, List.length_drop, hs]
  have hRl : ((bl d).drop at_).length = R.size := by rw [← hR, bl_size]
  by_cases h7 : R.size < 7
  · have hl := lookAt_short (d := bl d) (at_ := at_) (by rw [hRl]; exact h7)
    refine ⟨fun c hc => ?_, fun r hr => by rw [hl] at hr; cases hr⟩
    rw [hl] at hc
    cases hc
    refine Ev.step (f := fun _ => some _) (fun k => ?_) (Ev.now _)
    simp only [impl_Log_records.l0, Int.toNat_natCast, hRd]
    rw [if_pos (by omega), if_pos (by omega), if_pos (by omega), if_pos (by omega)]
  · have hx : bl (R.extract 0 3) = ((bl d).drop at_).take 3 := by rw [bl_extract, hR]; simp
    obtain ⟨K1, h1⟩ := implNum_ev (R.extract 0 3) (by rw [hx]; simp; omega)
    rw [hx] at h1
    have hlt := num3_lt ((bl d).drop at_)
    obtain ⟨n, hn⟩ : ∃ n, numOf (((bl d).drop at_).take 3) = n := ⟨_, rfl⟩
    have e0 : ∀ k, impl_Log_records.l0 (k + 1) out (at_ : Int) r0 d s0 = ((impl_numberOf.f k (R.extract 0 3)).bind fun t105 => ((impl_within.f t105 1 20000).bind fun t106 => (if t106 = true then (if ((R.size : Int)) < (wrap64 (7 + t105)) then (some (out, (at_ : Int), 18)) else (if 7 ≤ (wrap64 (7 + t105)) then (if (wrap64 (7 + t105)) ≤ (R.size : Int) then ((impl_recordBytes.f k (R.extract 7 ((wrap64 (7 + t105)) : Int).toNat)).bind fun t107 => ((strings_HasPrefix.f R t107).bind fun t108 => (if t108 = true then (if out.length < 8796093022208 then (impl_Log_records.l0 k (out ++ [R.extract 7 ((wrap64 (7 + t105)) : Int).toNat]) (wrap64 ((at_ : Int) + (wrap64 (7 + t105)))) r0 d s0) else (none)) else (some (out, (at_ : Int), 8))))) else (none)) else (none))) else (some (out, (at_ : Int), 8))))) := fun k => by
      simp only [impl_Log_records.l0, Int.toNat_natCast, hRd]
      rw [if_pos (by omega), if_pos (by omega), if_pos (by omega), if_neg (by omega), if_pos (by omega), if_pos (by omega)]
    rw [hn] at h1 hlt
    by_cases hr : 1 ≤ n ∧ n ≤ 20000
    · have w7 : wrap64 (7 + (n : Int)) = ((7 + n : Nat) : Int) := by rw [w64 (by omega) (by omega)]; rfl
      have hwi : impl_within.f (n : Int) 1 20000 = some true := by rw [within_eq]; simp; omega
      by_cases hlen : R.size < 7 + n
      · have hl := lookAt_more (d := bl d) (at_ := at_) (by rw [hRl]; exact h7) (by rw [hn]; exact hr) (by rw [hRl, hn]; exact hlen)
        refine ⟨fun c hc => ?_, fun r hr => by rw [hl] at hr; cases hr⟩
        rw [hl] at hc
        cases hc
        refine ⟨K1 + 1, fun k hk => ?_⟩
        obtain ⟨m, rfl⟩ : ∃ m, k = m + 1 := ⟨k - 1, by omega⟩
        simp only [e0, h1 m (by omega), Option.bind_some, hwi, if_true, w7]
        rw [if_pos (by omega)]
      · have hrec : bl (R.extract 7 (7 + n)) = (((bl d).drop at_).drop 7).take n := by rw [bl_extract, hR, Nat.add_sub_cancel_left]
        have hrl : (((bl d).drop at_).drop 7).length = R.size - 7 := by rw [List.length_drop, hRl]
        have hrn : ((((bl d).drop at_).drop 7).take n).length = n := by rw [List.length_take, hrl]; omega
        obtain ⟨K2, h2⟩ := implRec_ev (R.extract 7 (7 + n)) (by rw [bl_size, hrec, hrn]; omega)
        rw [hrec] at h2
        have hpre : strings_HasPrefix.f R (sm (frame ((((bl d).drop at_).drop 7).take n))) = some (decide (((bl d).drop at_).take (7 + n) = frame ((((bl d).drop at_).drop 7).take n))) := by
          rw [hasPrefix_eq, sm_size, frame_length, hrn, bl_sm, hR]
          have : decide (7 + n ≤ R.size) = true := by simp; omega
          rw [this, Bool.true_and]
          exact congrArg some (by rw [Bool.eq_iff_iff]; simp)
        by_cases hf : ((bl d).drop at_).take (7 + n) = frame ((((bl d).drop at_).drop 7).take n)
        · have hl := lookAt_rec (d := bl d) (at_ := at_) (by rw [hRl]; exact h7) (by rw [hn]; exact hr) (by rw [hRl, hn]; exact hlen) (by rw [hn]; exact hf)
          rw [hn] at hl
          refine ⟨fun c hc => (by rw [hl] at hc; cases hc), fun r hr2 => ?_⟩
          rw [hl] at hr2
          cases hr2
          refine ⟨⟨by rw [hrn]; omega, by rw [hrn]; omega, by rw [hrn]; omega⟩, fun q h3 => ?_⟩
          obtain ⟨K3, h3⟩ := h3
          refine ⟨K1 + K2 + K3 + 1, fun k hk => ?_⟩
          obtain ⟨m, rfl⟩ : ∃ m, k = m + 1 := ⟨k - 1, by omega⟩
          have h4 := h3 m (by omega)
          rw [hrn] at h4
          simp only [e0, h1 m (by omega), Option.bind_some, hwi, if_true, w7]
          rw [if_neg (by omega), if_pos (by omega), if_pos (by omega), Int.toNat_natCast]
          simp only [h2 m (by omega), Option.bind_some, hpre, hf, decide_true, if_true]
          rw [if_pos (by omega)]
          have ew : wrap64 ((at_ : Int) + ((7 + n : Nat) : Int)) = ((at_ + 7 + n : Nat) : Int) := by rw [w64 (by omega) (by omega)]; omega
          have es : R.extract 7 (7 + n) = sm ((((bl d).drop at_).drop 7).take n) := bl_inj (by rw [bl_sm, hrec])
          rw [ew, es]
          exact h4
        · have hl := lookAt_sum (d := bl d) (at_ := at_) (by rw [hRl]; exact h7) (by rw [hn]; exact hr) (by rw [hRl, hn]; exact hlen) (by rw [hn]; exact hf)
          refine ⟨fun c hc => ?_, fun r hr => by rw [hl] at hr; cases hr⟩
          rw [hl] at hc
          cases hc
          refine ⟨K1 + K2 + 1, fun k hk => ?_⟩
          obtain ⟨m, rfl⟩ : ∃ m, k = m + 1 := ⟨k - 1, by omega⟩
          simp only [e0, h1 m (by omega), Option.bind_some, hwi, if_true, w7]
          rw [if_neg (by omega), if_pos (by omega), if_pos (by omega), Int.toNat_natCast]
          simp only [h2 m (by omega), Option.bind_some, hpre, hf, decide_false]
          rw [if_neg (by decide)]
    · have hwi : impl_within.f (n : Int) 1 20000 = some false := by rw [within_eq]; simp; omega
      have hl := lookAt_size (d := bl d) (at_ := at_) (by rw [hRl]; exact h7) (by rw [hn]; exact hr)
      refine ⟨fun c hc => ?_, fun r hr => by rw [hl] at hr; cases hr⟩
      rw [hl] at hc
      cases hc
      refine ⟨K1 + 1, fun k hk => ?_⟩
      obtain ⟨m, rfl⟩ : ∃ m, k = m + 1 := ⟨k - 1, by omega⟩
      simp only [e0, h1 m (by omega), Option.bind_some, hwi]
      rfl
theorem specRecs_step (d : ByteArray) (hd : d.size ≤ 1048576) (out : List ByteArray) (ho : out.length ≤ 1048576) (at_ : Nat) (ha : at_ < d.size) :
    Steps (fun k o i => spec_l08Records.l0 k d o i) d out at_ := by
  have hs : (bl d).length = d.size := (bl_size d).symm
  have hRl : ((bl d).drop at_).length = d.size - at_ := by rw [List.length_drop, hs]
  have w3 : Aside0 (wrap64 ((at_ : Int) + 3) = ((at_ + 3 : Nat) : Int)) := ⟨w64add at_ 3 (by omega)⟩
  have w7 : Aside0 (wrap64 ((at_ : Int) + 7) = ((at_ + 7 : Nat) : Int)) := ⟨w64add at_ 7 (by omega)⟩
  by_cases h7 : d.size - at_ < 7
  · have hl := lookAt_short (d := bl d) (at_ := at_) (by rw [hRl]; exact h7)
    refine ⟨fun c hc => ?_, fun r hr => by rw [hl] at hr; cases hr⟩
    rw [hl] at hc
    cases hc
    refine Ev.step (f := fun _ => some _) (fun k => ?_) (Ev.now _)
    simp only [spec_l08Records.l0, w7.out]
    rw [if_pos (by omega), if_pos (by omega)]
  · have hx : bl (d.extract at_ (at_ + 3)) = ((bl d).drop at_).take 3 := by rw [bl_extract, Nat.add_sub_cancel_left]
    obtain ⟨K1, h1⟩ := specNum_ev (d.extract at_ (at_ + 3)) (by rw [hx]; simp; omega)
    rw [hx] at h1
    have hlt := num3_lt ((bl d).drop at_)
    obtain ⟨n, hn⟩ : ∃ n, numOf (((bl d).drop at_).take 3) = n := ⟨_, rfl⟩
    rw [hn] at h1 hlt
    have e0 : ∀ k, spec_l08Records.l0 (k + 1) d out (at_ : Int) = ((spec_l08Number.f k (d.extract at_ (at_ + 3))).bind fun t104 => ((spec_l01In.f t104 1 20000).bind fun t105 => (if t105 = true then (if (wrap64 (((at_ + 7 : Nat) : Int) + t104)) > (d.size : Int) then (some (out, (at_ : Int), 18)) else (if 0 ≤ ((at_ + 7 : Nat) : Int) then (if ((at_ + 7 : Nat) : Int) ≤ (wrap64 (((at_ + 7 : Nat) : Int) + t104)) then (if (wrap64 (((at_ + 7 : Nat) : Int) + t104)) ≤ (d.size : Int) then ((spec_l08Frame.f k (d.extract (at_ + 7) ((wrap64 (((at_ + 7 : Nat) : Int) + t104)) : Int).toNat)).bind fun t106 => (if (at_ : Int) ≤ (wrap64 (((at_ + 7 : Nat) : Int) + t104)) then (if t106.toList = (d.extract at_ ((wrap64 (((at_ + 7 : Nat) : Int) + t104)) : Int).toNat).toList then (if out.length < 8796093022208 then (spec_l08Records.l0 k d (out ++ [d.extract (at_ + 7) ((wrap64 (((at_ + 7 : Nat) : Int) + t104)) : Int).toNat]) (wrap64 ((at_ : Int) + (wrap64 (7 + t104))))) else (none)) else (some (out, (at_ : Int), 8))) else (none))) else (none)) else (none)) else (none))) else (some (out, (at_ : Int), 8))))) := fun k => by
      simp only [spec_l08Records.l0, w7.out, w3.out, Int.toNat_natCast]
      rw [if_pos (by omega), if_neg (by omega), if_pos (by omega), if_pos (by omega), if_pos (by omega)]
    by_cases hr : 1 ≤ n ∧ n ≤ 20000
    · have wn : Aside0 (wrap64 (((at_ + 7 : Nat) : Int) + (n : Int)) = ((at_ + 7 + n : Nat) : Int)) := ⟨w64add (at_ + 7) n (by omega)⟩
      have wk : Aside0 (wrap64 ((at_ : Int) + wrap64 (7 + (n : Int))) = ((at_ + 7 + n : Nat) : Int)) := ⟨by
        have e1 : wrap64 (7 + (n : Int)) = ((7 + n : Nat) : Int) := w64add 7 n (by omega)
        rw [e1, w64add at_ (7 + n) (by clear e1; omega), Nat.add_assoc]⟩
      have hwi : spec_l01In.f (n : Int) 1 20000 = some true := by rw [l01In_eq]; simp; omega
      by_cases hlen : d.size - at_ < 7 + n
      · have hl := lookAt_more (d := bl d) (at_ := at_) (by rw [hRl]; exact h7) (by rw [hn]; exact hr) (by rw [hRl, hn]; exact hlen)
        refine ⟨fun c hc => ?_, fun r hr => by rw [hl] at hr; cases hr⟩
        rw [hl] at hc
        cases hc
        refine ⟨K1 + 1, fun k hk => ?_⟩
        obtain ⟨m, rfl⟩ : ∃ m, k = m + 1 := ⟨k - 1, by omega⟩
        simp only [e0, h1 m (by omega), Option.bind_some, hwi, if_true, wn.out]
        rw [if_pos (by omega)]
      · have hrec : bl (d.extract (at_ + 7) (at_ + 7 + n)) = (((bl d).drop at_).drop 7).take n := by rw [bl_extract, Nat.add_sub_cancel_left, List.drop_drop]
        have hall : bl (d.extract at_ (at_ + 7 + n)) = ((bl d).drop at_).take (7 + n) := by rw [bl_extract, Nat.add_assoc, Nat.add_sub_cancel_left]
        have hrl : (((bl d).drop at_).drop 7).length = d.size - at_ - 7 := by rw [List.length_drop, hRl]
        have hrn : ((((bl d).drop at_).drop 7).take n).length = n := by rw [List.length_take, hrl]; omega
        obtain ⟨K2, h2⟩ := specFrame_ev (d.extract (at_ + 7) (at_ + 7 + n)) (by rw [bl_size, hrec, hrn]; omega)
        rw [hrec] at h2
        by_cases hf : ((bl d).drop at_).take (7 + n) = frame ((((bl d).drop at_).drop 7).take n)
        · have hl := lookAt_rec (d := bl d) (at_ := at_) (by rw [hRl]; exact h7) (by rw [hn]; exact hr) (by rw [hRl, hn]; exact hlen) (by rw [hn]; exact hf)
          rw [hn] at hl
          refine ⟨fun c hc => (by rw [hl] at hc; cases hc), fun r hr2 => ?_⟩
          rw [hl] at hr2
          cases hr2
          refine ⟨⟨by rw [hrn]; omega, by rw [hrn]; omega, by rw [hrn]; omega⟩, fun q h3 => ?_⟩
          obtain ⟨K3, h3⟩ := h3
          refine ⟨K1 + K2 + K3 + 1, fun k hk => ?_⟩
          obtain ⟨m, rfl⟩ : ∃ m, k = m + 1 := ⟨k - 1, by omega⟩
          have h4 := h3 m (by omega)
          rw [hrn] at h4
          simp only [e0, h1 m (by omega), Option.bind_some, hwi, if_true, wn.out, wk.out, Int.toNat_natCast, h2 m (by omega)]
          have es : d.extract (at_ + 7) (at_ + 7 + n) = sm ((((bl d).drop at_).drop 7).take n) := bl_inj (by rw [bl_sm, hrec])
          rw [if_neg (by omega), if_pos (by omega), if_pos (by omega), if_pos (by omega), if_pos (by omega), if_pos (by rw [toList_bl, toList_bl, bl_sm, hall, hf]), if_pos (by omega), es]
          exact h4
        · have hl := lookAt_sum (d := bl d) (at_ := at_) (by rw [hRl]; exact h7) (by rw [hn]; exact hr) (by rw [hRl, hn]; exact hlen) (by rw [hn]; exact hf)
          refine ⟨fun c hc => ?_, fun r hr => by rw [hl] at hr; cases hr⟩
          rw [hl] at hc
          cases hc
          refine ⟨K1 + K2 + 1, fun k hk => ?_⟩
          obtain ⟨m, rfl⟩ : ∃ m, k = m + 1 := ⟨k - 1, by omega⟩
          simp only [e0, h1 m (by omega), Option.bind_some, hwi, if_true, wn.out, Int.toNat_natCast, h2 m (by omega)]
          rw [if_neg (by omega), if_pos (by omega), if_pos (by omega), if_pos (by omega), if_pos (by omega), if_neg (by rw [toList_bl, toList_bl, bl_sm, hall]; exact fun h => hf h.symm)]
    · have hwi : spec_l01In.f (n : Int) 1 20000 = some false := by rw [l01In_eq]; simp; omega
      have hl := lookAt_size (d := bl d) (at_ := at_) (by rw [hRl]; exact h7) (by rw [hn]; exact hr)
      refine ⟨fun c hc => ?_, fun r hr => by rw [hl] at hr; cases hr⟩
      rw [hl] at hc
      cases hc
      refine ⟨K1 + 1, fun k hk => ?_⟩
      obtain ⟨m, rfl⟩ : ∃ m, k = m + 1 := ⟨k - 1, by omega⟩
      simp only [e0, h1 m (by omega), Option.bind_some, hwi]
      rfl
/-- What both readers come to. -/
theorem recs_both (r0 s0 : Int) (d : ByteArray) (hd : d.size ≤ 1048576) : ∀ (m : Nat) (out : List ByteArray) (at_ : Nat), at_ ≤ d.size → d.size - at_ ≤ m → out.length ≤ at_ →
    ∃ q : List ByteArray × Int × Int, Ev (fun k => impl_Log_records.l0 k out (at_ : Int) r0 d s0) q ∧ Ev (fun k => spec_l08Records.l0 k d out (at_ : Int)) q ∧
      (0 ≤ q.2.1 ∧ q.2.1 ≤ d.size) ∧ (q.2.2 = 0 ∨ q.2.2 = 8 ∨ q.2.2 = 18) ∧ (q.1.length : Int) ≤ q.2.1 ∧ (∀ r ∈ q.1, r ∈ out ∨ (1 ≤ r.size ∧ r.size ≤ 20000)) := by
  intro m
  induction m with
  | zero =>
    intro out at_ ha hm ho
    refine ⟨(out, (at_ : Int), 0), ?_, ?_, ⟨by simp, by simpa using ha⟩, .inl rfl, by simpa using ho, fun r hr => .inl hr⟩
    · refine Ev.step (f := fun _ => some _) (fun k => ?_) (Ev.now _)
      simp only [impl_Log_records.l0]
      rw [if_neg (by omega)]
    · refine Ev.step (f := fun _ => some _) (fun k => ?_) (Ev.now _)
      simp only [spec_l08Records.l0]
      rw [if_neg (by omega)]
  | succ m ih =>
    intro out at_ ha hm ho
    by_cases hlt : at_ < d.size
    · obtain ⟨i1, i2⟩ := implRecs_step r0 s0 d hd out (by omega) at_ hlt
      obtain ⟨s1, s2⟩ := specRecs_step d hd out (by omega) at_ hlt
      cases hl : lookAt (bl d) at_ with
      | inl c =>
        refine ⟨_, i1 c hl, s1 c hl, ⟨by simp, by simpa using ha⟩, ?_, by simpa using ho, fun r hr => .inl hr⟩
        have : c = 8 ∨ c = 18 := by
          simp only [lookAt] at hl
          split at hl
          · cases hl; exact .inr rfl
          · split at hl
            · cases hl; exact .inl rfl
            · split at hl
              · cases hl; exact .inr rfl
              · split at hl
                · cases hl
                · cases hl; exact .inl rfl
        exact .inr this
      | inr r =>
        obtain ⟨⟨h1, h2, h3⟩, h4⟩ := i2 r hl
        obtain ⟨_, h5⟩ := s2 r hl
        obtain ⟨q, hq1, hq2, hq3, hq4, hq5, hq6⟩ := ih (out ++ [sm r]) (at_ + 7 + r.length) (by omega) (by omega) (by simp; omega)
        refine ⟨q, h4 q hq1, h5 q hq2, hq3, hq4, hq5, fun x hx => ?_⟩
        rcases hq6 x hx with h | h
        · rcases List.mem_append.1 h with h | h
          · exact .inl h
          · rw [List.mem_singleton] at h
            subst h
            exact .inr (by rw [sm_size]; exact ⟨h1, h2⟩)
        · exact .inr h
    · refine ⟨(out, (at_ : Int), 0), ?_, ?_, ⟨by simp, by simpa using ha⟩, .inl rfl, by simpa using ho, fun r hr => .inl hr⟩
      · refine Ev.step (f := fun _ => some _) (fun k => ?_) (Ev.now _)
        simp only [impl_Log_records.l0]
        rw [if_neg (by omega)]
      · refine Ev.step (f := fun _ => some _) (fun k => ?_) (Ev.now _)
        simp only [spec_l08Records.l0]
        rw [if_neg (by omega)]
theorem records_both (r0 s0 : Int) (d : ByteArray) (hd : d.size ≤ 1048576) :
    ∃ q : List ByteArray × Int × Int, Ev (fun k => impl_Log_records.f k r0 d s0) q ∧ Ev (fun k => spec_l08Records.f k d) q ∧
      (0 ≤ q.2.1 ∧ q.2.1 ≤ d.size) ∧ (q.2.2 = 0 ∨ q.2.2 = 8 ∨ q.2.2 = 18) ∧ (q.1.length : Int) ≤ q.2.1 ∧ (∀ r ∈ q.1, 1 ≤ r.size ∧ r.size ≤ 20000) := by
  obtain ⟨q, h1, h2, h3, h4, h5, h6⟩ := recs_both r0 s0 d hd d.size [] 0 (by omega) (by omega) (by simp)
  exact ⟨q, h1, h2, h3, h4, h5, fun r hr => by rcases h6 r hr with h | h; · cases h
                                               · exact h⟩
end Go.Proofs.Ytejdnbdppgakeaa.P
/- Lemmas of mine: a log with room has a record more; the records of a log are those that were appended. Plain. -/
set_option linter.unusedVariables false
set_option linter.unusedSimpArgs false
namespace Go.Proofs.Ytejdnbdppgakeaa.P
open Go.RowKit Go.Proofs.YtejdnbdppgakeaaW.PrintWords
theorem append_val (r : Int) (d : ByteArray) (s : Int) (x : ByteArray) (hl : LogRight r d s) (hr : 1 ≤ x.size ∧ x.size ≤ 20000) (hroom : (d.size : Int) + 7 + x.size ≤ r) :
    Ev (fun k => impl_LogAppend.f k r d s x) (r, d ++ sm (frame (bl x)), s, 0) ∧ Ev (fun k => spec_LogAppend.f k r d s x) (r, d ++ sm (frame (bl x)), s, 0) := by
  have hx : ¬ (x.size : Int) > 65536 := by omega
  obtain ⟨⟨hr0, hr1⟩, hd, _⟩ := hl
  have hl : LogRight r d s := ⟨⟨hr0, hr1⟩, hd, by assumption⟩
  obtain ⟨K1, h1⟩ := implRec_ev x hr.2
  obtain ⟨K2, h2⟩ := specFrame_ev x (by omega)
  have hf : (sm (frame (bl x))).size = 7 + x.size := by rw [sm_size, frame_length, ← bl_size]
  obtain ⟨F, hF⟩ : ∃ F, sm (frame (bl x)) = F := ⟨_, rfl⟩
  rw [hF] at h1 h2 hf ⊢
  clear hF
  have hw : Aside0 (wrap64 ((d.size : Int) + (F.size : Int)) = ((d.size + F.size : Nat) : Int)) := ⟨w64add _ _ (by omega)⟩
  refine ⟨⟨K1, fun k hk => ?_⟩, ⟨K2, fun k hk => ?_⟩⟩
  · simp only [impl_LogAppend.f, implLogOK_eq, within_eq, impl_Log_hasRoom.f, impl_Log_with.f, h1 k hk, bS, hl, decide_true, if_true]
    rw [if_neg hx, if_pos (by simp; omega), w64 (n := (d.size : Int) + 7) (by omega) (by omega), w64 (by omega) (by omega), if_pos (by simp; omega), if_pos (by omega)]
    rfl
  · simp only [spec_LogAppend.f, specLogOK_eq, l01In_eq, spec_l08Append.f, h2 k hk, bS, hl, decide_true, if_true, hw.out]
    rw [if_neg hx, if_pos (by simp; omega), if_neg (by omega), if_pos (by omega)]
    rfl
theorem numOf_be3 (n : Nat) (h : n < 16777216) : numOf (be3 n) = n := by
  simp only [numOf, be3, List.foldl_cons, List.foldl_nil, ofNat_toNat]
  omega
theorem lookAt_frame (pre r rest : List UInt8) (h : 1 ≤ r.length ∧ r.length ≤ 20000) : lookAt (pre ++ (frame r ++ rest)) pre.length = .inr r := by
  have hd : (pre ++ (frame r ++ rest)).drop pre.length = frame r ++ rest := by simp
  have ht : (frame r ++ rest).take 3 = be3 r.length := by simp [frame, be3]
  have hn : numOf ((frame r ++ rest).take 3) = r.length := by rw [ht, numOf_be3 _ (by omega)]
  have hl : (frame r ++ rest).length = 7 + r.length + rest.length := by rw [List.length_append, frame_length]
  have h7 : (frame r ++ rest).drop 7 = r ++ rest := by simp [frame, be3, be4]
  have hr : ((frame r ++ rest).drop 7).take r.length = r := by rw [h7]; simp
  have hf : (frame r ++ rest).take (7 + r.length) = frame r := by rw [← frame_length]; simp
  have := lookAt_rec (d := pre ++ (frame r ++ rest)) (at_ := pre.length) (by rw [hd, hl]; omega) (by rw [hd, hn]; exact h) (by rw [hd, hn, hl]; omega) (by rw [hd, hn, hr, hf])
  rw [this, hd, hn, hr]
/-- The bytes of records. -/
def flat (rs : List ByteArray) : List UInt8 := (rs.map fun x => frame (bl x)).flatten
theorem flat_cons (x : ByteArray) (rs : List ByteArray) : flat (x :: rs) = frame (bl x) ++ flat rs := by simp [flat]
theorem flat_snoc (rs : List ByteArray) (x : ByteArray) : flat (rs ++ [x]) = flat rs ++ frame (bl x) := by simp [flat]
theorem flat_le (n : Nat) : ∀ rs : List ByteArray, (∀ x ∈ rs, x.size ≤ n) → (flat rs).length ≤ (7 + n) * rs.length
  | [], _ => by simp [flat]
  | x :: rs, h => by
    have h1 := flat_le n rs (fun y hy => h y (List.mem_cons_of_mem _ hy))
    have h2 := h x List.mem_cons_self
    rw [flat_cons, List.length_append, frame_length, ← bl_size, List.length_cons, Nat.mul_succ]
    omega
theorem recs_all (r0 s0 : Int) (d : ByteArray) (hd : d.size ≤ 1048576) : ∀ (rs out : List ByteArray) (pre : List UInt8), (∀ x ∈ rs, 1 ≤ x.size ∧ x.size ≤ 20000) → bl d = pre ++ flat rs → out.length + rs.length ≤ 1048576 →
    Ev (fun k => impl_Log_records.l0 k out (pre.length : Int) r0 d s0) (out ++ rs, (d.size : Int), 0) := by
  intro rs
  induction rs with
  | nil =>
    intro out pre _ hb _
    have hl : pre.length = d.size := by rw [bl_size, hb]; simp [flat]
    rw [hl, List.append_nil]
    refine Ev.step (f := fun _ => some _) (fun k => ?_) (Ev.now _)
    simp only [impl_Log_records.l0]
    rw [if_neg (by omega)]
  | cons x rs ih =>
    intro out pre hs hb ho
    have hx := hs x List.mem_cons_self
    rw [flat_cons] at hb
    have hlen : d.size = pre.length + (7 + x.size + (flat rs).length) := by
      rw [bl_size, hb, List.length_append, List.length_append, frame_length, ← bl_size]
    simp only [List.length_cons] at ho
    obtain ⟨_, h2⟩ := implRecs_step r0 s0 d hd out (by omega) pre.length (by omega)
    have hlook : lookAt (bl d) pre.length = .inr (bl x) := by rw [hb]; exact lookAt_frame pre (bl x) (flat rs) (by rw [← bl_size]; exact hx)
    obtain ⟨_, h4⟩ := h2 _ hlook
    have hsm : sm (bl x) = x := mk_bl x
    have hih := ih (out ++ [x]) (pre ++ frame (bl x)) (fun y hy => hs y (List.mem_cons_of_mem _ hy)) (by rw [hb, List.append_assoc]) (by simp; omega)
    rw [List.length_append, frame_length, ← Nat.add_assoc, List.append_assoc] at hih
    refine h4 _ ?_
    rw [hsm]
    exact hih
end Go.Proofs.Ytejdnbdppgakeaa.P
/- Lemmas of mine: loops that count up: over any function of rounds. Plain. -/
set_option linter.unusedVariables false
set_option linter.unusedSimpArgs false
namespace Go.Proofs.Ytejdnbdppgakeaa.P
open Go.RowKit Go.Proofs.YtejdnbdppgakeaaW.PrintWords
/-- A loop whose rounds change the place alone. -/
theorem up_loop {R : Type} (L : Nat → Int → Option R) (n : Nat) (r : R)
    (hstep : ∀ i : Nat, i < n → ∃ K, ∀ k, K ≤ k → L (k + 1) (i : Int) = L k ((i + 1 : Nat) : Int))
    (hend : ∃ K, ∀ k, K ≤ k → L (k + 1) (n : Int) = some r) : ∀ d i : Nat, i + d = n → Ev (fun k => L k (i : Int)) r := by
  intro d
  induction d with
  | zero =>
    intro i hi
    obtain rfl : i = n := by omega
    obtain ⟨K, h⟩ := hend
    exact ⟨K + 1, fun k hk => by obtain ⟨m, rfl⟩ : ∃ m, k = m + 1 := ⟨k - 1, by omega⟩; exact h m (by omega)⟩
  | succ d ih =>
    intro i hi
    obtain ⟨K, h⟩ := hstep i (by omega)
    obtain ⟨K2, h2⟩ := ih (i + 1) (by omega)
    refine ⟨K + K2 + 1, fun k hk => ?_⟩
    obtain ⟨m, rfl⟩ : ∃ m, k = m + 1 := ⟨k - 1, by omega⟩
    show L (m + 1) (i : Int) = some r
    rw [h m (by omega)]
    exact h2 m (by omega)
/-- A loop with a state: what holds of the state says what comes out. -/
theorem st_loop {σ R : Type} (L : Nat → σ → Int → Option R) (n : Nat) (out : Nat → σ → R → Prop)
    (hstep : ∀ (i : Nat) (s : σ), i < n → (∃ r, (∃ K, ∀ k, K ≤ k → L (k + 1) s (i : Int) = some r) ∧ out i s r) ∨ ∃ s', (∃ K, ∀ k, K ≤ k → L (k + 1) s (i : Int) = L k s' ((i + 1 : Nat) : Int)) ∧ ∀ r, out (i + 1) s' r → out i s r)
    (hend : ∀ s, ∃ r, (∃ K, ∀ k, K ≤ k → L (k + 1) s (n : Int) = some r) ∧ out n s r) : ∀ (d i : Nat) (s : σ), i + d = n → ∃ r, Ev (fun k => L k s (i : Int)) r ∧ out i s r := by
  intro d
  induction d with
  | zero =>
    intro i s hi
    obtain rfl : i = n := by omega
    obtain ⟨r, ⟨K, h⟩, ho⟩ := hend s
    exact ⟨r, ⟨K + 1, fun k hk => by obtain ⟨m, rfl⟩ : ∃ m, k = m + 1 := ⟨k - 1, by omega⟩; exact h m (by omega)⟩, ho⟩
  | succ d ih =>
    intro i s hi
    rcases hstep i s (by omega) with ⟨r, ⟨K, h⟩, ho⟩ | ⟨s', ⟨K, h⟩, ho⟩
    · exact ⟨r, ⟨K + 1, fun k hk => by obtain ⟨m, rfl⟩ : ∃ m, k = m + 1 := ⟨k - 1, by omega⟩; exact h m (by omega)⟩, ho⟩
    · obtain ⟨r, ⟨K2, h2⟩, ho2⟩ := ih (i + 1) s' (by omega)
      refine ⟨r, ⟨K + K2 + 1, fun k hk => ?_⟩, ho r ho2⟩
      obtain ⟨m, rfl⟩ : ∃ m, k = m + 1 := ⟨k - 1, by omega⟩
      show L (m + 1) s (i : Int) = some r
      rw [h m (by omega)]
      exact h2 m (by omega)
theorem map_set {α β : Type} (xs : List α) (ys : List β) (g : α → β) (i : Nat) (hi : i < xs.length) (hl : ys.length = xs.length) (hy : ys.take i = (xs.take i).map g) :
    (ys.set i (g (xs[i]'hi))).take (i + 1) = (xs.take (i + 1)).map g := by
  have e2 : (xs.take (i + 1)).map g = (xs.take i).map g ++ [g (xs[i]'hi)] := by
    rw [List.take_add_one, List.getElem?_eq_getElem hi, List.map_append]
    rfl
  have e : ((xs.take i).map g).length = i := by rw [List.length_map, List.length_take]; omega
  rw [e2, List.take_set, List.take_add_one, List.getElem?_eq_getElem (by omega), hy, List.set_append_right _ _ (by omega), e, Nat.sub_self]
  rfl
/-- A loop that fills a row of the same length. -/
theorem copy_loop {α β : Type} (L : Nat → List β → Int → Option (List β)) (xs : List α) (g : α → β)
    (hstep : ∀ (i : Nat) (ys : List β) (hi : i < xs.length), ys.length = xs.length → ∃ K, ∀ k, K ≤ k → L (k + 1) ys (i : Int) = L k (ys.set i (g (xs[i]'hi))) ((i + 1 : Nat) : Int))
    (hend : ∀ ys, ys.length = xs.length → ∃ K, ∀ k, K ≤ k → L (k + 1) ys (xs.length : Int) = some ys) :
    ∀ (d i : Nat) (ys : List β), i + d = xs.length → ys.length = xs.length → ys.take i = (xs.take i).map g → Ev (fun k => L k ys (i : Int)) (xs.map g) := by
  intro d
  induction d with
  | zero =>
    intro i ys hi hl hy
    obtain rfl : i = xs.length := by omega
    rw [List.take_of_length_le (by omega), List.take_of_length_le (Nat.le_refl _)] at hy
    subst hy
    obtain ⟨K, h⟩ := hend _ hl
    exact ⟨K + 1, fun k hk => by obtain ⟨m, rfl⟩ : ∃ m, k = m + 1 := ⟨k - 1, by omega⟩; exact h m (by omega)⟩
  | succ d ih =>
    intro i ys hi hl hy
    obtain ⟨K, h⟩ := hstep i ys (by omega) hl
    obtain ⟨K2, h2⟩ := ih (i + 1) (ys.set i (g (xs[i]'(by omega)))) (by omega) (by rw [List.length_set]; exact hl) (map_set xs ys g i (by omega) hl hy)
    refine ⟨K + K2 + 1, fun k hk => ?_⟩
    obtain ⟨m, rfl⟩ : ∃ m, k = m + 1 := ⟨k - 1, by omega⟩
    show L (m + 1) ys (i : Int) = _
    rw [h m (by omega)]
    exact h2 m (by omega)
theorem getD_nat {α : Type} (xs : List α) (z : α) (i : Nat) (h : i < xs.length) : xs.getD ((i : Nat) : Int).toNat z = xs[i]'h := by
  rw [Int.toNat_natCast, List.getD_eq_getElem?_getD, List.getElem?_eq_getElem h]; rfl
end Go.Proofs.Ytejdnbdppgakeaa.P
/- Lemmas of mine: a source of choices always gives one, within its bounds. Plain. -/
set_option linter.unusedVariables false
set_option linter.unusedSimpArgs false
namespace Go.Proofs.Ytejdnbdppgakeaa.P
open Go.RowKit Go.Proofs.YtejdnbdppgakeaaW.PrintWords
/-- A source: its bytes, its place (at most B), its seed. -/
def Src (l : List Int) (a s B : Int) : Prop := (∀ y ∈ l, 0 ≤ y ∧ y ≤ 255) ∧ (0 ≤ a ∧ a ≤ B) ∧ (0 ≤ s ∧ s < 2147483648)
theorem Src.grow {l : List Int} {a s B C : Int} (h : Src l a s B) (hc : B ≤ C) : Src l a s C := ⟨h.1, ⟨h.2.1.1, by have := h.2.1.2; omega⟩, h.2.2⟩
theorem rd_mem (l : List Int) (i : Int) (h0 : 0 ≤ i) (h1 : i < (l.length : Int)) : rd l i ∈ l := by
  have h : i.toNat < l.length := by omega
  unfold rd
  rw [List.getD_eq_getElem?_getD, List.getElem?_eq_getElem h]
  exact List.getElem_mem h
theorem byte_ok {l : List Int} {a s B : Int} (h : Src l a s B) (hB : B ≤ 4611686018427387904) : ∃ r a' s', spec_l00Src_byte.f l a s = some (r, a', s') ∧ Src l a' s' (B + 1) ∧ 0 ≤ r ∧ r ≤ 255 := by
  obtain ⟨hl, ⟨h0, h1⟩, h2, h3⟩ := h
  unfold spec_l00Src_byte.f
  rw [if_pos ⟨h0, by omega, h2, h3⟩]
  by_cases c1 : a + 1 ≤ (l.length : Int)
  · have hm := hl _ (rd_mem l a h0 (by omega))
    rw [if_pos c1, if_pos hm]
    exact ⟨_, _, _, rfl, ⟨hl, ⟨by omega, by omega⟩, by omega, by omega⟩, hm.1, hm.2⟩
  · rw [if_neg c1]
    by_cases c2 : a + 1 > 3000
    · rw [if_pos c2]
      exact ⟨_, _, _, rfl, ⟨hl, ⟨by omega, by omega⟩, h2, h3⟩, by omega, by omega⟩
    · rw [if_neg c2]
      exact ⟨_, _, _, rfl, ⟨hl, ⟨by omega, by omega⟩, by omega, by omega⟩, by omega, by omega⟩
theorem tmod_in (n m : Int) (h0 : 0 ≤ n) (h1 : 0 < m) : 0 ≤ Int.tmod n m ∧ Int.tmod n m < m := ⟨Int.tmod_nonneg m h0, Int.tmod_lt_of_pos n h1⟩
theorem next_ok {l : List Int} {a s B : Int} (n : Int) (h : Src l a s B) (hB : B ≤ 4611686018427387900) : ∃ r a' s', spec_l00Src_next.f l a s n = some (r, a', s') ∧ Src l a' s' (B + 3) ∧ 0 ≤ r ∧ (1 ≤ n → r < n) := by
  unfold spec_l00Src_next.f
  by_cases c1 : n ≤ 1
  · rw [if_pos c1]
    exact ⟨_, _, _, rfl, h.grow (by omega), by omega, fun _ => by omega⟩
  · rw [if_neg c1]
    obtain ⟨r1, a1, s1, e1, h1, b1, d1⟩ := byte_ok h (by omega)
    by_cases c2 : n ≤ 256
    · rw [if_pos c2, e1]
      simp only [Option.bind_some]
      rw [if_neg (by omega)]
      obtain ⟨t1, t2⟩ := tmod_in r1 n b1 (by omega)
      exact ⟨_, _, _, rfl, h1.grow (by omega), t1, fun _ => t2⟩
    · rw [if_neg c2, e1]
      simp only [Option.bind_some]
      obtain ⟨r2, a2, s2, e2, h2, b2, d2⟩ := byte_ok h1 (by omega)
      rw [e2]
      simp only [Option.bind_some]
      obtain ⟨r3, a3, s3, e3, h3, b3, d3⟩ := byte_ok h2 (by omega)
      rw [e3]
      simp only [Option.bind_some]
      rw [if_neg (by omega), w64 (n := r1 * 65536) (by omega) (by omega), w64 (n := r2 * 256) (by omega) (by omega), w64 (n := r1 * 65536 + r2 * 256) (by omega) (by omega), w64 (n := r1 * 65536 + r2 * 256 + r3) (by omega) (by omega)]
      obtain ⟨t1, t2⟩ := tmod_in (r1 * 65536 + r2 * 256 + r3) n (by omega) (by omega)
      exact ⟨_, _, _, rfl, h3.grow (by omega), t1, fun _ => t2⟩
theorem pick_ok {l : List Int} {a s B : Int} (xs : List ByteArray) (h : Src l a s B) (hB : B ≤ 4611686018427387900) : ∃ r a' s', spec_l00Src_pick.f l a s xs = some (r, a', s') ∧ Src l a' s' (B + 3) ∧ (r ∈ xs ∨ (xs = [] ∧ r = (⟨#[]⟩ : ByteArray))) := by
  unfold spec_l00Src_pick.f
  by_cases c1 : (xs.length : Int) = 0
  · rw [if_pos c1]
    exact ⟨_, _, _, rfl, h.grow (by omega), .inr ⟨List.length_eq_zero_iff.mp (by omega), rfl⟩⟩
  · rw [if_neg c1]
    obtain ⟨r, a', s', e, h', b1, b2⟩ := next_ok (xs.length : Int) h hB
    rw [e]
    simp only [Option.bind_some]
    rw [if_pos b1, if_pos (b2 (by omega))]
    refine ⟨_, _, _, rfl, h', .inl ?_⟩
    have hlt : r.toNat < xs.length := by have := b2 (by omega); omega
    unfold rdOf
    rw [List.getD_eq_getElem?_getD, List.getElem?_eq_getElem hlt]
    exact List.getElem_mem hlt
theorem source_ok (l : List Int) (h : ∀ y ∈ l, 0 ≤ y ∧ y ≤ 255) : ∃ s, spec_l00Source.f l = some (l, 0, s) ∧ Src l 0 s 0 := by
  refine ⟨_, rfl, h, ⟨by omega, by omega⟩, by omega, by omega⟩
theorem u8_of_wf {y : Int} (h : (Lit.int .u8 y).wf = true) : 0 ≤ y ∧ y ≤ 255 := by
  have : IntKind.u8.min ≤ y ∧ y ≤ IntKind.u8.max := by simpa [Lit.wf] using h
  have e1 : IntKind.u8.min = 0 := by decide
  have e2 : IntKind.u8.max = 255 := by decide
  rw [e1, e2] at this
  exact this
end Go.Proofs.Ytejdnbdppgakeaa.P
/- Lemmas of mine: a drawn record is a text of 1 to 21 bytes. Plain. -/
set_option linter.unusedVariables false
set_option linter.unusedSimpArgs false
namespace Go.Proofs.Ytejdnbdppgakeaa.P
open Go.RowKit Go.Proofs.YtejdnbdppgakeaaW.PrintWords
theorem bytes_l0 {l : List Int} : ∀ (d : Nat) (xs : List Int) (n a s B : Int), n.toNat = d → 0 ≤ n → Src l a s B → B + 3 * n ≤ 4611686018427387900 → xs.length + n.toNat ≤ 1000000 →
    ∃ ys a' s', Ev (fun k => spec_l00Src_bytes.l0 k xs n l a s) (ys, a', s') ∧ Src l a' s' (B + 3 * n) ∧ ys.length = xs.length + n.toNat := by
  intro d
  induction d with
  | zero =>
    intro xs n a s B hd h0 hs hB hx
    refine ⟨xs, a, s, ⟨1, fun k hk => ?_⟩, hs.grow (by omega), by omega⟩
    obtain ⟨m, rfl⟩ : ∃ m, k = m + 1 := ⟨k - 1, by omega⟩
    simp only [spec_l00Src_bytes.l0]
    rw [if_neg (by omega)]
  | succ d ih =>
    intro xs n a s B hd h0 hs hB hx
    obtain ⟨r, a1, s1, e1, h1, _, _⟩ := next_ok 256 hs (by omega)
    obtain ⟨ys, a2, s2, ⟨K, h2⟩, h3, h4⟩ := ih (xs ++ [r % 256]) (n - 1) a1 s1 (B + 3) (by omega) (by omega) h1 (by omega) (by simp; omega)
    refine ⟨ys, a2, s2, ⟨K + 1, fun k hk => ?_⟩, h3.grow (by omega), by rw [h4]; simp; omega⟩
    obtain ⟨m, rfl⟩ : ∃ m, k = m + 1 := ⟨k - 1, by omega⟩
    simp only [spec_l00Src_bytes.l0, e1, Option.bind_some]
    rw [if_pos (by omega), if_pos (by omega), w64 (by omega) (by omega)]
    exact h2 m (by omega)
theorem bytes_ok {l : List Int} {a s B : Int} (n : Int) (h0 : 0 ≤ n) (hn : n ≤ 1000) (h : Src l a s B) (hB : B ≤ 4611686018427000000) : ∃ ys a' s', Ev (fun k => spec_l00Src_bytes.f k l a s n) (ys, a', s') ∧ Src l a' s' (B + 3 + 3 * n) ∧ ys.length ≤ n.toNat := by
  obtain ⟨r, a1, s1, e1, h1, b1, b2⟩ := next_ok (n + 1) h (by omega)
  have b3 := b2 (by omega)
  obtain ⟨ys, a2, s2, ⟨K, h2⟩, h3, h4⟩ := bytes_l0 r.toNat [] r a1 s1 (B + 3) rfl b1 h1 (by omega) (by simp; omega)
  refine ⟨ys, a2, s2, ⟨K, fun k hk => ?_⟩, h3.grow (by omega), by rw [h4]; simp; omega⟩
  have e := h2 k hk
  simp only [spec_l00Src_bytes.f]
  rw [w64 (by omega) (by omega), e1, Option.bind_some]
  exact e
theorem record_ok {l : List Int} {a s B : Int} (h : Src l a s B) (hB : B ≤ 4611686018427000000) : ∃ t a' s', Ev (fun k => spec_l00Src_record.f k l a s) (t, a', s') ∧ Src l a' s' (B + 66) ∧ 1 ≤ t.size ∧ t.size ≤ 21 := by
  obtain ⟨ys, a1, s1, ⟨K, h1⟩, h2, h3⟩ := bytes_ok 20 (by omega) (by omega) h hB
  have hz : (strOfNums ys).size = ys.length := strOfNums_size ys
  obtain ⟨r, a2, s2, e2, h4, hr⟩ := pick_ok [(⟨#[111, 110, 101]⟩ : ByteArray), (⟨#[114, 101, 99, 111, 114, 100, 32, 116, 119, 111]⟩ : ByteArray), (⟨#[120]⟩ : ByteArray), (⟨#[0, 0]⟩ : ByteArray), strOfNums ys ++ (⟨#[46]⟩ : ByteArray)] h2 (by omega)
  refine ⟨r, a2, s2, ⟨K, fun k hk => ?_⟩, h4.grow (by omega), ?_⟩
  · have e := h1 k hk
    simp only at e
    simp only [spec_l00Src_record.f, e, bS]
    rw [if_pos (by omega), e2, bS]
  · have hl : (20 : Int).toNat = 20 := rfl
    have hz2 : (strOfNums ys ++ (⟨#[46]⟩ : ByteArray)).size = ys.length + 1 := by rw [ByteArray.size_append, hz]; rfl
    rcases hr with hr | ⟨hr, _⟩
    · simp only [List.mem_cons, List.not_mem_nil, or_false] at hr
      rcases hr with rfl | rfl | rfl | rfl | rfl
      · exact ⟨by decide, by decide⟩
      · exact ⟨by decide, by decide⟩
      · exact ⟨by decide, by decide⟩
      · exact ⟨by decide, by decide⟩
      · rw [hz2]; omega
    · cases hr
theorem recordOf_ok (l : List Int) (h : ∀ y ∈ l, 0 ≤ y ∧ y ≤ 255) : ∃ t, Ev (fun k => spec_RecordOf.f k l) t ∧ 1 ≤ t.size ∧ t.size ≤ 21 := by
  obtain ⟨s, e, hs⟩ := source_ok l h
  obtain ⟨t, a', s', ⟨K, h1⟩, _, h3⟩ := record_ok hs (by omega)
  refine ⟨t, ⟨K, fun k hk => ?_⟩, h3⟩
  have e2 := h1 k hk
  simp only at e2
  simp only [spec_RecordOf.f, e, e2, bS]
end Go.Proofs.Ytejdnbdppgakeaa.P
/- The pure statement of the law FnLog: six drawn records appended are told again, in their order. No condition. -/
set_option linter.unusedVariables false
set_option linter.unusedSimpArgs false
namespace Go.Proofs.Ytejdnbdppgakeaa.P
open Go.RowKit Go.Proofs.YtejdnbdppgakeaaW.PrintWords
theorem sameTexts_self (xs : List ByteArray) (h : xs.length ≤ 4611686018427387904) : Ev (fun k => laws_sameTexts.f k xs xs) true := by
  refine Ev.congr (f := fun k => laws_sameTexts.l0 k xs xs ((0 : Nat) : Int)) (fun k => ?_)
    (up_loop (fun k i => laws_sameTexts.l0 k xs xs i) xs.length true ?_ ⟨0, fun k _ => ?_⟩ xs.length 0 (by omega))
  · unfold laws_sameTexts.f
    exact if_pos rfl
  · intro i hi
    refine ⟨0, fun k _ => ?_⟩
    simp only [laws_sameTexts.l0, if_true]
    rw [if_pos (by omega), if_pos (by omega), if_pos (by omega), w64s i (by omega)]
  · simp only [laws_sameTexts.l0]
    rw [if_neg (by omega)]
theorem fnLog_l0 (l : List Int) (hl : ∀ y ∈ l, 0 ≤ y ∧ y ≤ 255) (hlen : l.length ≤ 1048576) : ∀ (n i : Nat) (xs : List ByteArray) (d : ByteArray), i + n = 6 → xs.length = i → (∀ x ∈ xs, 1 ≤ x.size ∧ x.size ≤ 21) → bl d = flat xs →
    Ev (fun k => laws_FnLog.l0 k l 0 xs (i : Int) 2000 d 0) true := by
  intro n
  induction n with
  | zero =>
    intro i xs d hi hx hs hb
    have hfl := flat_le 21 xs (fun x hx => (hs x hx).2)
    have hd : d.size ≤ 168 := by rw [bl_size, hb]; rw [hx] at hfl; omega
    have hright : LogRight 2000 d 0 := ⟨⟨by omega, by omega⟩, by omega, by omega, by omega⟩
    obtain ⟨K1, h1⟩ := recs_all 2000 0 d (by omega) xs [] [] (fun x hx => ⟨(hs x hx).1, by have := (hs x hx).2; omega⟩) (by simpa using hb) (by simp; omega)
    obtain ⟨K2, h2⟩ := sameTexts_self xs (by omega)
    refine ⟨K1 + K2 + 1, fun k hk => ?_⟩
    obtain ⟨m, rfl⟩ : ∃ m, k = m + 1 := ⟨k - 1, by omega⟩
    have e1 := h1 m (by omega)
    have e2 := h2 m (by omega)
    simp only [List.nil_append, List.length_nil] at e1
    have e1' : impl_Log_records.f m 2000 d 0 = some (xs, (d.size : Int), 0) := e1
    simp only [laws_FnLog.l0, impl_LogRecords.f, implLogOK_eq, hright, decide_true, bS, if_true, e1', e2]
    rw [if_neg (by omega)]
  | succ n ih =>
    intro i xs d hi hx hs hb
    have hfl := flat_le 21 xs (fun x hx => (hs x hx).2)
    have hd : d.size ≤ 28 * i := by rw [bl_size, hb]; rw [hx] at hfl; omega
    have hright : LogRight 2000 d 0 := ⟨⟨by omega, by omega⟩, by omega, by omega, by omega⟩
    obtain ⟨t, ⟨K1, h1⟩, ht1, ht2⟩ := recordOf_ok ([(i : Int) % 256] ++ l) (fun y hy => by
      rcases List.mem_append.1 hy with h | h
      · rw [List.mem_singleton] at h; omega
      · exact hl y h)
    obtain ⟨⟨K2, h2⟩, K3, h3⟩ := append_val 2000 d 0 t hright ⟨ht1, by omega⟩ (by omega)
    obtain ⟨K4, h4⟩ := ih (i + 1) (xs ++ [t]) (d ++ sm (frame (bl t))) (by omega) (by simp; omega) (fun x hx => by
      rcases List.mem_append.1 hx with h | h
      · exact hs x h
      · rw [List.mem_singleton] at h; subst h; exact ⟨ht1, ht2⟩) (by rw [bl_append, hb, bl_sm, flat_snoc])
    obtain ⟨F, hF⟩ : ∃ F, d ++ sm (frame (bl t)) = F := ⟨_, rfl⟩
    rw [hF] at h2 h3 h4
    clear hF
    refine ⟨K1 + K2 + K3 + K4 + 1, fun k hk => ?_⟩
    obtain ⟨m, rfl⟩ : ∃ m, k = m + 1 := ⟨k - 1, by omega⟩
    have e1 : spec_RecordOf.f m ([(i : Int) % 256] ++ l) = some t := h1 m (by omega)
    have e2 : impl_LogAppend.f m 2000 d 0 t = some (2000, F, 0, 0) := h2 m (by omega)
    have e3 : spec_LogAppend.f m 2000 d 0 t = some (2000, F, 0, 0) := h3 m (by omega)
    have e4 : laws_FnLog.l0 m l 0 (xs ++ [t]) ((i + 1 : Nat) : Int) 2000 F 0 = some true := h4 m (by omega)
    clear h1 h2 h3 h4
    simp only [laws_FnLog.l0, bS, e1, e2, e3, if_true, beq_self_eq_true, Bool.not_true, Bool.or_self, Bool.false_eq_true, if_false, List.length_singleton]
    rw [if_pos (by omega), if_pos (by omega), if_pos (by omega), w64s i (by omega)]
    exact e4
end Go.Proofs.Ytejdnbdppgakeaa.P
namespace Go.Proofs.Ytejdnbdppgakeaa.Pure
open Go.RowKit Go.Proofs.Ytejdnbdppgakeaa.P Go.Proofs.YtejdnbdppgakeaaW.PrintWords
theorem FnLog : laws_FnLog.Pure := by
  intro l hl
  obtain ⟨_, _, hy⟩ := hl
  by_cases h : (l.length : Int) > 1048576
  · exact ⟨0, by simp only [laws_FnLog.f]; rw [if_pos h]⟩
  · obtain ⟨K, hK⟩ := fnLog_l0 l (fun y hm => u8_of_wf (hy y hm)) (by omega) 6 0 [] ⟨#[]⟩ (by omega) rfl (fun x hx => by cases hx) rfl
    refine ⟨K, ?_⟩
    have e := hK K (Nat.le_refl _)
    have en : impl_NewLog.f 2000 = some (2000, (⟨#[]⟩ : ByteArray), 0, 0) := by
      simp only [impl_NewLog.f, within_eq, bS]
      rw [if_pos (by decide)]
    simp only [laws_FnLog.f, en, bS]
    rw [if_neg h]
    exact e
end Go.Proofs.Ytejdnbdppgakeaa.Pure
/- The row of the law FnLog: for every input the call returns true and each argument reads behind the call as it read before. No condition of mine. -/
namespace Go.Proofs.Ytejdnbdppgakeaa.fnLog
open Go.ChangeShapes Go.WideShapes Go.ChangeAt Go.RowKit Go.Proofs.Ytejdnbdppgakeaa.P Go.Proofs.YtejdnbdppgakeaaW.PrintWords
open Go.ChangeMaps (open_string shut_string)
set_option linter.unusedVariables false
theorem own : ownKnob Try.prog.godebug = none := by kernel_rfl
theorem laidOut : laidOutB Try.prog = true := by kernel_rfl
set_option maxRecDepth 100000 in
theorem lifted (os : Os) (started : os.Started) (H : Type) (enc : TypeId × Value → H) :
    ReturnsInHanded {} Try.checked os 14 .any (Rows.fnLogSpec.pre6 enc Try.prog Try.f14 Rows.fnLogRow.domain false) (Rows.fnLogSpec.post enc Try.prog Try.f14 false true false false) := by
  refine returnsInHanded_of_change_sized (C := Try.checked) own started (by kernel_rfl) Try.func14
    (ChangeSpec.witness6 (enc := enc) (C := Try.checked) false ⟨#[], #[.slice none 0 0], []⟩ 8 (by kernel_rfl) (by kernel_rfl) (by kernel_rfl) (by kernel_rfl)) ?_
  intro W base args ds gs before hval0 hW hcnd hsz0 _
  have hsz : (DataW.weightsEach Try.prog (Try.f14.params.toList ++ Rows.fnLogSpec.plain.varTypes Try.prog) (ds ++ gs)).all (· ≤ reachBytes) = true := hsz0
  have hval : ∀ (j : Nat) t v, Try.f14.params[j]? = some t → args[j]? = some v → Value.okWide Try.prog W .any base t v := hval0
  have hW' := hW
  obtain ⟨p, q, hA0, hV, rfl, hfz, hnd⟩ := hW
  have hA : DataW.TrodAll enc Try.prog W 0 (fun _ => true) true Try.f14.params.toList args.toList ds p := hA0
  rw [Try.params14] at hA hval hsz
  obtain ⟨v0, vs0, d0, ds0, p0, q0, hargs, rfl, rfl, h0, r0⟩ := trodAll_cons hA
  obtain ⟨rfl, rfl, rfl⟩ := trodAll_nil r0
  obtain rfl : args = #[v0] := by cases args; simp_all
  obtain ⟨rfl, rfl⟩ := trodVars_none hV
  have kk0 := h0
  have lt0 : ∀ x ∈ p0, x.block < W.heap.size := by obtain ⟨m, hm⟩ := kk0; exact DataW.trod_lt m _ _ _ hm
  obtain ⟨x0, hK0, hS0⟩ := Tells.arg (Tells.slice (b := 1) Try.underlying74 (by kernel_rfl) (by kernel_rfl) (Tells.int Try.underlying5)) h0 hsz (j := 0) (t := 74) rfl rfl
  obtain ⟨a0, len0, cap0, rfl⟩ := okWide_slice Try.underlying74 (hval 0 74 v0 rfl rfl)
  obtain ⟨A0, c0, hq0, hl0, hC0⟩ := hK0
  obtain ⟨rfl, rfl, rfl⟩ : a0 = A0 ∧ len0 = x0.length ∧ cap0 = c0 := by simpa [Value.cells] using hq0
  clear hA0 hval0 hsz0 hsz
  obtain ⟨k, h⟩ := Pure.FnLog x0 hS0
  refine (laws_FnLog.calls k _ _ x0 true W hC0 hl0 h).mono fun e W' ⟨he, bel0⟩ => ?_
  have bel : Below W.heap.size W W' := bel0
  subst he
  exact ⟨_, rfl, _, _, _, [], _, [], hW', trodAll_mk1 (shut_bool Try.underlying4 _), (trodAll_cons_mk (Below.trod laidOut (by kernel_rfl) (of_decide_eq_true (by kernel_rfl)) kk0 bel lt0) trodAll_mk0), rfl, bel.frame _, fun h => by cases h⟩
theorem over : Rows.fnLogRow.holds Try.pinned (OpenSpec.ofChange Rows.fnLogSpec) :=
  OpenClaim.holds_of_wide 14 Try.f14 rfl rfl rfl rfl rfl rfl rfl ⟨rfl, rfl, rfl, rfl, rfl⟩ rfl rfl rfl rfl rfl (by kernel_rfl) Try.func14 (by kernel_rfl)
    (of_decide_eq_true (by kernel_rfl)) (by unfold Func.isWrapper; first | (rw [if_pos (by decide +kernel)]; kernel_rfl) | (rw [if_neg (by decide +kernel)]; exact ⟨rfl, rfl⟩))
    (fun os started H enc _ => lifted os started H enc)
theorem proved : Rows.FnLogSaid := over
#print axioms proved
end Go.Proofs.Ytejdnbdppgakeaa.fnLog
namespace Go.Proofs.Ytejdnbdppgakeaa
/-- The row, under a short name, for the claim. -/
theorem fnLog_holds : Rows.FnLogSaid := fnLog.proved
end Go.Proofs.Ytejdnbdppgakeaa
