/- Part 4 of what the law FnExactLogRepair stands on; the last part ends with the law's row. No condition of mine. -/
import Derived.Test.YtejdnbdppgakeaaMFnExactLogRepair0
import Derived.Test.YtejdnbdppgakeaaMFnExactLogRepair2
import Derived.Test.YtejdnbdppgakeaaMFnExactLogRepair3
import Derived.Test.YtejdnbdppgakeaaMFnExactLogRepair1
import Derived.Test.YtejdnbdppgakeaaRows
import Derived.WalkKit
import Derived.ProofKit
import Derived.OpenShut
import Derived.ShutString
import Derived.ChangeOld
import Derived.Below
import Derived.SizedLaws
import Derived.Carry
/- Lemmas of mine: bounds, the fields of a log. Plain. -/
set_option linter.unusedVariables false
set_option linter.unusedSimpArgs false
namespace Go.Proofs.Ytejdnbdppgakeaa.P
open Go.RowKit Go.Proofs.YtejdnbdppgakeaaW.PrintWords
theorem l01In_eq (a b c : Int) : spec_l01In.f a b c = some (decide (b ≤ a ∧ a ≤ c)) := by
  unfold spec_l01In.f
  by_cases h : a ≥ b
  · rw [if_pos h]; simp [show b ≤ a from h]
  · rw [if_neg h]; simp; omega
theorem within_eq (a b c : Int) : impl_within.f a b c = some (decide (b ≤ a ∧ a ≤ c)) := l01In_eq a b c
end Go.Proofs.Ytejdnbdppgakeaa.P
/- Lemmas of mine: bytes of numbers, a record's frame, in both programs. Plain. -/
set_option linter.unusedVariables false
set_option linter.unusedSimpArgs false
namespace Go.Proofs.Ytejdnbdppgakeaa.P
open Go.RowKit Go.Proofs.YtejdnbdppgakeaaW.PrintWords
def sm (l : List UInt8) : ByteArray := ⟨l.toArray⟩
theorem bl_sm (l : List UInt8) : bl (sm l) = l := bl_mk l
theorem sm_size (l : List UInt8) : (sm l).size = l.length := by rw [bl_size, bl_sm]
def be2 (n : Nat) : List UInt8 := [UInt8.ofNat (n / 256), UInt8.ofNat n]
def be3 (n : Nat) : List UInt8 := [UInt8.ofNat (n / 65536), UInt8.ofNat (n / 256), UInt8.ofNat n]
def be4 (n : Nat) : List UInt8 := [UInt8.ofNat (n / 16777216), UInt8.ofNat (n / 65536), UInt8.ofNat (n / 256), UInt8.ofNat n]
theorem ofNat_toNat (n : Nat) : (UInt8.ofNat n).toNat = n % 256 := by simp
theorem nb_be2 (n : Nat) : nb (be2 n) = [(n : Int) / 256 % 256, (n : Int) % 256] := by simp [nb, be2]
theorem nb_be3 (n : Nat) : nb (be3 n) = [(n : Int) / 65536 % 256, (n : Int) / 256 % 256, (n : Int) % 256] := by simp [nb, be3]
theorem nb_be4 (n : Nat) : nb (be4 n) = [(n : Int) / 16777216 % 256, (n : Int) / 65536 % 256, (n : Int) / 256 % 256, (n : Int) % 256] := by simp [nb, be4]
theorem specBytes2 (n k : Nat) : spec_l08Bytes.f (k + 3) (n : Int) 2 = some (nb (be2 n)) := by
  rw [nb_be2]
  simp [spec_l08Bytes.f, spec_l08Bytes.l0, wrap64, shr, IntKind.wrap, IntKind.bits, IntKind.signed]
theorem specBytes3 (n k : Nat) : spec_l08Bytes.f (k + 4) (n : Int) 3 = some (nb (be3 n)) := by
  rw [nb_be3]
  simp [spec_l08Bytes.f, spec_l08Bytes.l0, wrap64, shr, IntKind.wrap, IntKind.bits, IntKind.signed]
theorem specBytes4 (n k : Nat) : spec_l08Bytes.f (k + 5) (n : Int) 4 = some (nb (be4 n)) := by
  rw [nb_be4]
  simp [spec_l08Bytes.f, spec_l08Bytes.l0, wrap64, shr, IntKind.wrap, IntKind.bits, IntKind.signed]
theorem implBytes2 (n k : Nat) : impl_inBytes.f (k + 3) (n : Int) 2 = some (sm (be2 n)) := by
  have h : impl_inBytes.f (k + 3) (n : Int) 2 = some (strOfNums [(n : Int) / 256 % 256, (n : Int) % 256]) := by
    simp [impl_inBytes.f, impl_inBytes.l0, wrap64, List.replicate]
  rw [h, ← nb_be2, strOf_nb]
  rfl
theorem implBytes3 (n k : Nat) : impl_inBytes.f (k + 4) (n : Int) 3 = some (sm (be3 n)) := by
  have h : impl_inBytes.f (k + 4) (n : Int) 3 = some (strOfNums [(n : Int) / 256 / 256 % 256, (n : Int) / 256 % 256, (n : Int) % 256]) := by
    simp [impl_inBytes.f, impl_inBytes.l0, wrap64, List.replicate]
  have e : (n : Int) / 256 / 256 = (n : Int) / 65536 := by omega
  rw [h, e, ← nb_be3, strOf_nb]
  rfl
theorem implBytes4 (n k : Nat) : impl_inBytes.f (k + 5) (n : Int) 4 = some (sm (be4 n)) := by
  have h : impl_inBytes.f (k + 5) (n : Int) 4 = some (strOfNums [(n : Int) / 256 / 256 / 256 % 256, (n : Int) / 256 / 256 % 256, (n : Int) / 256 % 256, (n : Int) % 256]) := by
    simp [impl_inBytes.f, impl_inBytes.l0, wrap64, List.replicate]
  have e : (n : Int) / 256 / 256 = (n : Int) / 65536 := by omega
  have e2 : (n : Int) / 65536 / 256 = (n : Int) / 16777216 := by omega
  rw [h, e, e2, ← nb_be4, strOf_nb]
  rfl
/-- A record with its head. -/
def frame (r : List UInt8) : List UInt8 := be3 r.length ++ (be4 (crc32 (be3 r.length ++ r)) ++ r)
theorem frame_length (r : List UInt8) : (frame r).length = 7 + r.length := by simp [frame, be3, be4]; omega
theorem specFrame_ev (r : ByteArray) (h : r.size ≤ 1048576) : Ev (fun k => spec_l08Frame.f k r) (sm (frame (bl r))) := by
  have hl : (be3 r.size ++ bl r).length = 3 + r.size := by rw [List.length_append, ← bl_size]; rfl
  obtain ⟨K2, h2⟩ := specCheck_ev (be3 r.size ++ bl r) (by omega)
  refine ⟨K2 + 5, fun k hk => ?_⟩
  obtain ⟨m, rfl⟩ : ∃ m, k = m + 5 := ⟨k - 5, by omega⟩
  have e : bytesOf (strOfNums (nb (be3 r.size)) ++ r) = nb (be3 r.size ++ bl r) := by rw [bytesOf_bl, bl_append, bl_strOf_nb]
  have s3 : (strOfNums (nb (be3 r.size))).size = 3 := by rw [strOfNums_size, nb_length]; rfl
  have s4 : (strOfNums (nb (be4 (crc32 (be3 r.size ++ bl r))))).size = 4 := by rw [strOfNums_size, nb_length]; rfl
  have a3 : (strOfNums (nb (be3 r.size)) ++ r).size = 3 + r.size := by rw [ByteArray.size_append, s3]
  have a7 : (strOfNums (nb (be3 r.size)) ++ strOfNums (nb (be4 (crc32 (be3 r.size ++ bl r))))).size = 7 := by rw [ByteArray.size_append, s3, s4]
  simp only [spec_l08Frame.f, specBytes3 r.size (m + 1), Option.bind_some, e, h2 (m + 5) (by omega), specBytes4 _ m]
  rw [if_pos (by omega), if_pos (by omega), if_pos (by omega), if_pos (by omega)]
  refine congrArg some (bl_inj ?_)
  rw [bl_append, bl_append, bl_strOf_nb, bl_strOf_nb, bl_sm, frame, ← bl_size, List.append_assoc]
theorem implRec_ev (r : ByteArray) (h : r.size ≤ 20000) : Ev (fun k => impl_recordBytes.f k r) (sm (frame (bl r))) := by
  have hl : (be3 r.size ++ bl r).length = 3 + r.size := by rw [List.length_append, ← bl_size]; rfl
  obtain ⟨K2, h2⟩ := implCheck_ev (be3 r.size ++ bl r) (by omega)
  refine ⟨K2 + 5, fun k hk => ?_⟩
  obtain ⟨m, rfl⟩ : ∃ m, k = m + 5 := ⟨k - 5, by omega⟩
  have e : bytesOf (sm (be3 r.size) ++ r) = nb (be3 r.size ++ bl r) := by rw [bytesOf_bl, bl_append, bl_sm]
  have s3 : (sm (be3 r.size)).size = 3 := sm_size _
  have s4 : (sm (be4 (crc32 (be3 r.size ++ bl r)))).size = 4 := sm_size _
  have a3 : (sm (be3 r.size) ++ r).size = 3 + r.size := by rw [ByteArray.size_append, s3]
  have a7 : (sm (be3 r.size) ++ sm (be4 (crc32 (be3 r.size ++ bl r)))).size = 7 := by rw [ByteArray.size_append, s3, s4]
  simp only [impl_recordBytes.f, implBytes3 r.size (m + 1), Option.bind_some, e, h2 (m + 5) (by omega), implBytes4 _ m]
  rw [if_pos (by omega), if_pos (by omega), if_pos (by omega), if_pos (by omega)]
  refine congrArg some (bl_inj ?_)
  rw [bl_append, bl_append, bl_sm, bl_sm, bl_sm, frame, ← bl_size, List.append_assoc]
/-- The number that bytes are. -/
def numOf (l : List UInt8) : Nat := l.foldl (fun n b => n * 256 + b.toNat) 0
theorem i64_in63 (n : Int) (h0 : 0 ≤ n) (h1 : n < 2 ^ 63) : IntKind.i64.wrap n = n := by rw [IntKind.wrap_i64]; omega
theorem implNum_l0 (s : ByteArray) (hs : (bl s).length ≤ 6) : ∀ (d i n : Nat), i + d = (bl s).length → n < 256 ^ i →
    Ev (fun k => impl_numberOf.l0 k s (n : Int) (s.size : Int) (i : Int)) ((((bl s).drop i).foldl (fun n b => n * 256 + b.toNat) n : Nat) : Int) := by
  intro d
  induction d with
  | zero =>
    intro i n hi hn
    rw [List.drop_eq_nil_of_le (by omega)]
    refine Ev.step (f := fun _ => some _) (fun k => ?_) (Ev.now _)
    simp only [impl_numberOf.l0, List.foldl_nil]
    rw [if_neg (by rw [bl_size]; omega)]
  | succ d ih =>
    intro i n hi hn
    have hlt : i < (bl s).length := by omega
    have hb := ((bl s)[i]).toNat_lt
    have hpow : 256 ^ i ≤ 256 ^ 5 := Nat.pow_le_pow_right (by decide) (by omega)
    have hp5 : (256 : Nat) ^ 5 = 1099511627776 := by decide
    have hsucc : (256 : Nat) ^ (i + 1) = 256 ^ i * 256 := rfl
    rw [List.drop_eq_getElem_cons hlt, List.foldl_cons]
    refine Ev.step (f := fun k => impl_numberOf.l0 k s ((n * 256 + ((bl s)[i]).toNat : Nat) : Int) (s.size : Int) ((i + 1 : Nat) : Int)) (fun k => ?_) (ih (i + 1) (n * 256 + ((bl s)[i]).toNat) (by omega) (by omega))
    simp only [impl_numberOf.l0]
    have hz : i < s.size := by rw [bl_size]; exact hlt
    rw [if_pos (by omega), if_pos (by omega), if_pos (by omega), bt_eq s i hlt, w64n _ (by omega), w64 (n := (n : Int) * 256) (by omega) (by omega), w64s i (by omega)]
    rw [bits_join .i64 63 (by decide) i64_in63 8 _ _ (by omega) (by omega) (by omega) (by omega) (by omega) (by omega)]
    rfl
theorem implNum_ev (s : ByteArray) (hs : (bl s).length ≤ 6) : Ev (fun k => impl_numberOf.f k s) (numOf (bl s) : Int) :=
  implNum_l0 s hs (bl s).length 0 0 (by omega) (by decide)
theorem specNum_l0 (s : ByteArray) (hs : (bl s).length ≤ 6) : ∀ (d i n : Nat), i + d = (bl s).length → n < 256 ^ i →
    Ev (fun k => spec_l08Number.l0 k s (n : Int) (i : Int)) ((((bl s).drop i).foldl (fun n b => n * 256 + b.toNat) n : Nat) : Int) := by
  intro d
  induction d with
  | zero =>
    intro i n hi hn
    rw [List.drop_eq_nil_of_le (by omega)]
    refine Ev.step (f := fun _ => some _) (fun k => ?_) (Ev.now _)
    simp only [spec_l08Number.l0, List.foldl_nil]
    rw [if_neg (by rw [bl_size]; omega)]
  | succ d ih =>
    intro i n hi hn
    have hlt : i < (bl s).length := by omega
    have hb := ((bl s)[i]).toNat_lt
    have hpow : 256 ^ i ≤ 256 ^ 5 := Nat.pow_le_pow_right (by decide) (by omega)
    have hp5 : (256 : Nat) ^ 5 = 1099511627776 := by decide
    have hsucc : (256 : Nat) ^ (i + 1) = 256 ^ i * 256 := rfl
    rw [List.drop_eq_getElem_cons hlt, List.foldl_cons]
    refine Ev.step (f := fun k => spec_l08Number.l0 k s ((n * 256 + ((bl s)[i]).toNat : Nat) : Int) ((i + 1 : Nat) : Int)) (fun k => ?_) (ih (i + 1) (n * 256 + ((bl s)[i]).toNat) (by omega) (by omega))
    simp only [spec_l08Number.l0]
    have hz : i < s.size := by rw [bl_size]; exact hlt
    rw [if_pos (by omega), if_pos (by omega), bt_eq s i hlt, w64n _ (by omega), w64 (n := (n : Int) * 256) (by omega) (by omega), w64s i (by omega), w64 (by omega) (by omega)]
    rfl
theorem specNum_ev (s : ByteArray) (hs : (bl s).length ≤ 6) : Ev (fun k => spec_l08Number.f k s) (numOf (bl s) : Int) :=
  specNum_l0 s hs (bl s).length 0 0 (by omega) (by decide)
theorem numOf_lt : ∀ (l : List UInt8) (n : Nat), l.foldl (fun n b => n * 256 + b.toNat) n < (n + 1) * 256 ^ l.length
  | [], n => by simp
  | b :: l, n => by
    have h := numOf_lt l (n * 256 + b.toNat)
    have hb := b.toNat_lt
    have e : (256 : Nat) ^ (b :: l).length = 256 * 256 ^ l.length := by rw [List.length_cons, Nat.pow_succ, Nat.mul_comm]
    rw [List.foldl_cons, e, ← Nat.mul_assoc]
    exact Nat.lt_of_lt_of_le h (Nat.mul_le_mul_right _ (by omega))
theorem hasPrefix_eq (a b : ByteArray) : strings_HasPrefix.f a b = some (decide (b.size ≤ a.size) && ((bl a).take b.size == bl b)) := by
  unfold strings_HasPrefix.f stringslite_HasPrefix.f
  by_cases h : b.size ≤ a.size
  · rw [if_pos (by omega), if_pos (by omega), if_pos (by omega)]
    simp [h, toList_bl, bl_extract]
  · rw [if_neg (by omega)]
    simp [h]
end Go.Proofs.Ytejdnbdppgakeaa.P
/- Lemmas of mine: logs: when one is right; that the laws' copies tell nothing else. Plain. -/
set_option linter.unusedVariables false
set_option linter.unusedSimpArgs false
namespace Go.Proofs.Ytejdnbdppgakeaa.P
open Go.RowKit Go.Proofs.YtejdnbdppgakeaaW.PrintWords
/-- A right log. -/
def LogRight (r : Int) (d : ByteArray) (s : Int) : Prop := (0 ≤ r ∧ r ≤ 60000) ∧ (d.size : Int) ≤ r ∧ (0 ≤ s ∧ s ≤ (d.size : Int))
instance (r : Int) (d : ByteArray) (s : Int) : Decidable (LogRight r d s) := by unfold LogRight; infer_instance
theorem specLogOK_eq (r : Int) (d : ByteArray) (s : Int) : spec_LogOK.f r d s = some (decide (LogRight r d s)) := by
  unfold spec_LogOK.f LogRight
  simp only [l01In_eq, Option.bind_some]
  by_cases h : 0 ≤ r ∧ r ≤ 60000 <;> by_cases h2 : (d.size : Int) ≤ r <;> simp [h, h2]
theorem implLogOK_eq (r : Int) (d : ByteArray) (s : Int) : impl_LogOK.f r d s = some (decide (LogRight r d s)) := specLogOK_eq r d s
theorem szLog_some (r : Int) (d : ByteArray) (s n : Int) : ∃ z, laws_szLog.f r d s n = some z := by
  unfold laws_szLog.f
  split <;> exact ⟨_, rfl⟩
theorem eqLog_self (r : Int) (d : ByteArray) (s : Int) : laws_eqLog.f r d s r d s = some true := by simp [laws_eqLog.f]
end Go.Proofs.Ytejdnbdppgakeaa.P
/- Lemmas of mine: the records of a log's data, in both programs. Plain. -/
set_option linter.unusedVariables false
set_option linter.unusedSimpArgs false
namespace Go.Proofs.Ytejdnbdppgakeaa.P
open Go.RowKit Go.Proofs.YtejdnbdppgakeaaW.PrintWords
/-- What one look at the data from a place on tells: an end with a code, or a record. -/
def lookAt (d : List UInt8) (at_ : Nat) : Int ⊕ List UInt8 :=
  let rest := d.drop at_
  if rest.length < 7 then .inl 18
  else
    let n := numOf (rest.take 3)
    if ¬ (1 ≤ n ∧ n ≤ 20000) then .inl 8
    else if rest.length < 7 + n then .inl 18
    else
      let r := (rest.drop 7).take n
      if rest.take (7 + n) = frame r then .inr r else .inl 8
theorem lookAt_short {d : List UInt8} {at_ : Nat} (h : (d.drop at_).length < 7) : lookAt d at_ = .inl 18 := by
  simp only [lookAt]
  rw [if_pos h]
theorem lookAt_size {d : List UInt8} {at_ : Nat} (h : ¬ (d.drop at_).length < 7) (h2 : ¬ (1 ≤ numOf ((d.drop at_).take 3) ∧ numOf ((d.drop at_).take 3) ≤ 20000)) : lookAt d at_ = .inl 8 := by
  simp only [lookAt]
  rw [if_neg h, if_pos h2]
theorem lookAt_more {d : List UInt8} {at_ : Nat} (h : ¬ (d.drop at_).length < 7) (h2 : 1 ≤ numOf ((d.drop at_).take 3) ∧ numOf ((d.drop at_).take 3) ≤ 20000) (h3 : (d.drop at_).length < 7 + numOf ((d.drop at_).take 3)) : lookAt d at_ = .inl 18 := by
  simp only [lookAt]
  rw [if_neg h, if_neg (by simpa using h2), if_pos h3]
theorem lookAt_sum {d : List UInt8} {at_ : Nat} (h : ¬ (d.drop at_).length < 7) (h2 : 1 ≤ numOf ((d.drop at_).take 3) ∧ numOf ((d.drop at_).take 3) ≤ 20000) (h3 : ¬ (d.drop at_).length < 7 + numOf ((d.drop at_).take 3))
    (h4 : ¬ (d.drop at_).take (7 + numOf ((d.drop at_).take 3)) = frame (((d.drop at_).drop 7).take (numOf ((d.drop at_).take 3)))) : lookAt d at_ = .inl 8 := by
  simp only [lookAt]
  rw [if_neg h, if_neg (by simpa using h2), if_neg h3, if_neg h4]
theorem lookAt_rec {d : List UInt8} {at_ : Nat} (h : ¬ (d.drop at_).length < 7) (h2 : 1 ≤ numOf ((d.drop at_).take 3) ∧ numOf ((d.drop at_).take 3) ≤ 20000) (h3 : ¬ (d.drop at_).length < 7 + numOf ((d.drop at_).take 3))
    (h4 : (d.drop at_).take (7 + numOf ((d.drop at_).take 3)) = frame (((d.drop at_).drop 7).take (numOf ((d.drop at_).take 3)))) : lookAt d at_ = .inr (((d.drop at_).drop 7).take (numOf ((d.drop at_).take 3))) := by
  simp only [lookAt]
  rw [if_neg h, if_neg (by simpa using h2), if_neg h3, if_pos h4]
theorem num3_lt (l : List UInt8) : numOf (l.take 3) < 16777216 := by
  have h := numOf_lt (l.take 3) 0
  have h2 : (l.take 3).length ≤ 3 := by simp; omega
  have h3 : (256 : Nat) ^ (l.take 3).length ≤ 256 ^ 3 := Nat.pow_le_pow_right (by decide) h2
  have h4 : (256 : Nat) ^ 3 = 16777216 := by decide
  unfold numOf
  omega
/-- What a step of a reader of records does. -/
def Steps (l0 : Nat → List ByteArray → Int → Option (List ByteArray × Int × Int)) (d : ByteArray) (out : List ByteArray) (at_ : Nat) : Prop :=
    (∀ c, lookAt (bl d) at_ = .inl c → Ev (fun k => l0 k out (at_ : Int)) (out, (at_ : Int), c)) ∧
    (∀ r, lookAt (bl d) at_ = .inr r → (1 ≤ r.length ∧ r.length ≤ 20000 ∧ at_ + 7 + r.length ≤ d.size) ∧ ∀ q, Ev (fun k => l0 k (out ++ [sm r]) ((at_ + 7 + r.length : Nat) : Int)) q → Ev (fun k => l0 k out (at_ : Int)) q)
theorem implRecs_step (r0 s0 : Int) (d : ByteArray) (hd : d.size ≤ 1048576) (out : List ByteArray) (ho : out.length ≤ 1048576) (at_ : Nat) (ha : at_ < d.size) :
    Steps (fun k o i => impl_Log_records.l0 k o i r0 d s0) d out at_ := by
  have hs : (bl d).length = d.size := (bl_size d).symm
  obtain ⟨R, hRd⟩ : ∃ R, d.extract at_ d.size = R := ⟨_, rfl⟩
  have hR : bl R = (bl d).drop at_ := by rw [← hRd, bl_extract, List.take_of_length_le (by rw [List.length_drop, hs]; exact Nat.le_refl _)]
  have hRs : R.size = d.size - at_ := by rw [bl_size, hR, List.length_drop, hs]
  have hRl : ((bl d).drop at_).length = R.size := by rw [← hR, bl_size]
  by_cases h7 : R.size < 7
  · have hl := lookAt_short (d := bl d) (at_ := at_) (by rw [hRl]; exact h7)
    refine ⟨fun c hc => ?_, fun r hr => by rw [hl] at hr; cases hr⟩
    rw [hl] at hc
    cases hc
    refine Ev.step (f := fun _ => some _) (fun k => ?_) (Ev.now _)
    simp only [impl_Log_records.l0, Int.toNat_natCast, hRd]
    rw [if_pos (by omega), if_pos (by omega), if_pos (by omega), if_pos (by omega)]
  · have hx : bl (R.extract 0 3) = ((bl d).drop at_).take 3 := by rw [bl_extract, hR]; simp
    obtain ⟨K1, h1⟩ := implNum_ev (R.extract 0 3) (by rw [hx]; simp; omega)
    rw [hx] at h1
    have hlt := num3_lt ((bl d).drop at_)
    obtain ⟨n, hn⟩ : ∃ n, numOf (((bl d).drop at_).take 3) = n := ⟨_, rfl⟩
    have e0 : ∀ k, impl_Log_records.l0 (k + 1) out (at_ : Int) r0 d s0 = ((impl_numberOf.f k (R.extract 0 3)).bind fun t105 => ((impl_within.f t105 1 20000).bind fun t106 => (if t106 = true then (if ((R.size : Int)) < (wrap64 (7 + t105)) then (some (out, (at_ : Int), 18)) else (if 7 ≤ (wrap64 (7 + t105)) then (if (wrap64 (7 + t105)) ≤ (R.size : Int) then ((impl_recordBytes.f k (R.extract 7 ((wrap64 (7 + t105)) : Int).toNat)).bind fun t107 => ((strings_HasPrefix.f R t107).bind fun t108 => (if t108 = true then (if out.length < 8796093022208 then (impl_Log_records.l0 k (out ++ [R.extract 7 ((wrap64 (7 + t105)) : Int).toNat]) (wrap64 ((at_ : Int) + (wrap64 (7 + t105)))) r0 d s0) else (none)) else (some (out, (at_ : Int), 8))))) else (none)) else (none))) else (some (out, (at_ : Int), 8))))) := fun k => by
      simp only [impl_Log_records.l0, Int.toNat_natCast, hRd]
      rw [if_pos (by omega), if_pos (by omega), if_pos (by omega), if_neg (by omega), if_pos (by omega), if_pos (by omega)]
    rw [hn] at h1 hlt
    by_cases hr : 1 ≤ n ∧ n ≤ 20000
    · have w7 : wrap64 (7 + (n : Int)) = ((7 + n : Nat) : Int) := by rw [w64 (by omega) (by omega)]; rfl
      have hwi : impl_within.f (n : Int) 1 20000 = some true := by rw [within_eq]; simp; omega
      by_cases hlen : R.size < 7 + n
      · have hl := lookAt_more (d := bl d) (at_ := at_) (by rw [hRl]; exact h7) (by rw [hn]; exact hr) (by rw [hRl, hn]; exact hlen)
        refine ⟨fun c hc => ?_, fun r hr => by rw [hl] at hr; cases hr⟩
        rw [hl] at hc
        cases hc
        refine ⟨K1 + 1, fun k hk => ?_⟩
        obtain ⟨m, rfl⟩ : ∃ m, k = m + 1 := ⟨k - 1, by omega⟩
        simp only [e0, h1 m (by omega), Option.bind_some, hwi, if_true, w7]
        rw [if_pos (by omega)]
      · have hrec : bl (R.extract 7 (7 + n)) = (((bl d).drop at_).drop 7).take n := by rw [bl_extract, hR, Nat.add_sub_cancel_left]
        have hrl : (((bl d).drop at_).drop 7).length = R.size - 7 := by rw [List.length_drop, hRl]
        have hrn : ((((bl d).drop at_).drop 7).take n).length = n := by rw [List.length_take, hrl]; omega
        obtain ⟨K2, h2⟩ := implRec_ev (R.extract 7 (7 + n)) (by rw [bl_size, hrec, hrn]; omega)
        rw [hrec] at h2
        have hpre : strings_HasPrefix.f R (sm (frame ((((bl d).drop at_).drop 7).take n))) = some (decide (((bl d).drop at_).take (7 + n) = frame ((((bl d).drop at_).drop 7).take n))) := by
          rw [hasPrefix_eq, sm_size, frame_length, hrn, bl_sm, hR]
          have : decide (7 + n ≤ R.size) = true := by simp; omega
          rw [this, Bool.true_and]
          exact congrArg some (by rw [Bool.eq_iff_iff]; simp)
        by_cases hf : ((bl d).drop at_).take (7 + n) = frame ((((bl d).drop at_).drop 7).take n)
        · have hl := lookAt_rec (d := bl d) (at_ := at_) (by rw [hRl]; exact h7) (by rw [hn]; exact hr) (by rw [hRl, hn]; exact hlen) (by rw [hn]; exact hf)
          rw [hn] at hl
          refine ⟨fun c hc => (by rw [hl] at hc; cases hc), fun r hr2 => ?_⟩
          rw [hl] at hr2
          cases hr2
          refine ⟨⟨by rw [hrn]; omega, by rw [hrn]; omega, by rw [hrn]; omega⟩, fun q h3 => ?_⟩
          obtain ⟨K3, h3⟩ := h3
          refine ⟨K1 + K2 + K3 + 1, fun k hk => ?_⟩
          obtain ⟨m, rfl⟩ : ∃ m, k = m + 1 := ⟨k - 1, by omega⟩
          have h4 := h3 m (by omega)
          rw [hrn] at h4
          simp only [e0, h1 m (by omega), Option.bind_some, hwi, if_true, w7]
          rw [if_neg (by omega), if_pos (by omega), if_pos (by omega), Int.toNat_natCast]
          simp only [h2 m (by omega), Option.bind_some, hpre, hf, decide_true, if_true]
          rw [if_pos (by omega)]
          have ew : wrap64 ((at_ : Int) + ((7 + n : Nat) : Int)) = ((at_ + 7 + n : Nat) : Int) := by rw [w64 (by omega) (by omega)]; omega
          have es : R.extract 7 (7 + n) = sm ((((bl d).drop at_).drop 7).take n) := bl_inj (by rw [bl_sm, hrec])
          rw [ew, es]
          exact h4
        · have hl := lookAt_sum (d := bl d) (at_ := at_) (by rw [hRl]; exact h7) (by rw [hn]; exact hr) (by rw [hRl, hn]; exact hlen) (by rw [hn]; exact hf)
          refine ⟨fun c hc => ?_, fun r hr => by rw [hl] at hr; cases hr⟩
          rw [hl] at hc
          cases hc
          refine ⟨K1 + K2 + 1, fun k hk => ?_⟩
          obtain ⟨m, rfl⟩ : ∃ m, k = m + 1 := ⟨k - 1, by omega⟩
          simp only [e0, h1 m (by omega), Option.bind_some, hwi, if_true, w7]
          rw [if_neg (by omega), if_pos (by omega), if_pos (by omega), Int.toNat_natCast]
          simp only [h2 m (by omega), Option.bind_some, hpre, hf, decide_false]
          rw [if_neg (by decide)]
    · have hwi : impl_within.f (n : Int) 1 20000 = some false := by rw [within_eq]; simp; omega
      have hl := lookAt_size (d := bl d) (at_ := at_) (by rw [hRl]; exact h7) (by rw [hn]; exact hr)
      refine ⟨fun c hc => ?_, fun r hr => by rw [hl] at hr; cases hr⟩
      rw [hl] at hc
      cases hc
      refine ⟨K1 + 1, fun k hk => ?_⟩
      obtain ⟨m, rfl⟩ : ∃ m, k = m + 1 := ⟨k - 1, by omega⟩
      simp only [e0, h1 m (by omega), Option.bind_some, hwi]
      rfl
theorem specRecs_step (d : ByteArray) (hd : d.size ≤ 1048576) (out : List ByteArray) (ho : out.length ≤ 1048576) (at_ : Nat) (ha : at_ < d.size) :
    Steps (fun k o i => spec_l08Records.l0 k d o i) d out at_ := by
  have hs : (bl d).length = d.size := (bl_size d).symm
  have hRl : ((bl d).drop at_).length = d.size - at_ := by rw [List.length_drop, hs]
  have w3 : Aside0 (wrap64 ((at_ : Int) + 3) = ((at_ + 3 : Nat) : Int)) := ⟨w64add at_ 3 (by omega)⟩
  have w7 : Aside0 (wrap64 ((at_ : Int) + 7) = ((at_ + 7 : Nat) : Int)) := ⟨w64add at_ 7 (by omega)⟩
  by_cases h7 : d.size - at_ < 7
  · have hl := lookAt_short (d := bl d) (at_ := at_) (by rw [hRl]; exact h7)
    refine ⟨fun c hc => ?_, fun r hr => by rw [hl] at hr; cases hr⟩
    rw [hl] at hc
    cases hc
    refine Ev.step (f := fun _ => some _) (fun k => ?_) (Ev.now _)
    simp only [spec_l08Records.l0, w7.out]
    rw [if_pos (by omega), if_pos (by omega)]
  · have hx : bl (d.extract at_ (at_ + 3)) = ((bl d).drop at_).take 3 := by rw [bl_extract, Nat.add_sub_cancel_left]
    obtain ⟨K1, h1⟩ := specNum_ev (d.extract at_ (at_ + 3)) (by rw [hx]; simp; omega)
    rw [hx] at h1
    have hlt := num3_lt ((bl d).drop at_)
    obtain ⟨n, hn⟩ : ∃ n, numOf (((bl d).drop at_).take 3) = n := ⟨_, rfl⟩
    rw [hn] at h1 hlt
    have e0 : ∀ k, spec_l08Records.l0 (k + 1) d out (at_ : Int) = ((spec_l08Number.f k (d.extract at_ (at_ + 3))).bind fun t104 => ((spec_l01In.f t104 1 20000).bind fun t105 => (if t105 = true then (if (wrap64 (((at_ + 7 : Nat) : Int) + t104)) > (d.size : Int) then (some (out, (at_ : Int), 18)) else (if 0 ≤ ((at_ + 7 : Nat) : Int) then (if ((at_ + 7 : Nat) : Int) ≤ (wrap64 (((at_ + 7 : Nat) : Int) + t104)) then (if (wrap64 (((at_ + 7 : Nat) : Int) + t104)) ≤ (d.size : Int) then ((spec_l08Frame.f k (d.extract (at_ + 7) ((wrap64 (((at_ + 7 : Nat) : Int) + t104)) : Int).toNat)).bind fun t106 => (if (at_ : Int) ≤ (wrap64 (((at_ + 7 : Nat) : Int) + t104)) then (if t106.toList = (d.extract at_ ((wrap64 (((at_ + 7 : Nat) : Int) + t104)) : Int).toNat).toList then (if out.length < 8796093022208 then (spec_l08Records.l0 k d (out ++ [d.extract (at_ + 7) ((wrap64 (((at_ + 7 : Nat) : Int) + t104)) : Int).toNat]) (wrap64 ((at_ : Int) + (wrap64 (7 + t104))))) else (none)) else (some (out, (at_ : Int), 8))) else (none))) else (none)) else (none)) else (none))) else (some (out, (at_ : Int), 8))))) := fun k => by
      simp only [spec_l08Records.l0, w7.out, w3.out, Int.toNat_natCast]
      rw [if_pos (by omega), if_neg (by omega), if_pos (by omega), if_pos (by omega), if_pos (by omega)]
    by_cases hr : 1 ≤ n ∧ n ≤ 20000
    · have wn : Aside0 (wrap64 (((at_ + 7 : Nat) : Int) + (n : Int)) = ((at_ + 7 + n : Nat) : Int)) := ⟨w64add (at_ + 7) n (by omega)⟩
      have wk : Aside0 (wrap64 ((at_ : Int) + wrap64 (7 + (n : Int))) = ((at_ + 7 + n : Nat) : Int)) := ⟨by
        have e1 : wrap64 (7 + (n : Int)) = ((7 + n : Nat) : Int) := w64add 7 n (by omega)
        rw [e1, w64add at_ (7 + n) (by clear e1; omega), Nat.add_assoc]⟩
      have hwi : spec_l01In.f (n : Int) 1 20000 = some true := by rw [l01In_eq]; simp; omega
      by_cases hlen : d.size - at_ < 7 + n
      · have hl := lookAt_more (d := bl d) (at_ := at_) (by rw [hRl]; exact h7) (by rw [hn]; exact hr) (by rw [hRl, hn]; exact hlen)
        refine ⟨fun c hc => ?_, fun r hr => by rw [hl] at hr; cases hr⟩
        rw [hl] at hc
        cases hc
        refine ⟨K1 + 1, fun k hk => ?_⟩
        obtain ⟨m, rfl⟩ : ∃ m, k = m + 1 := ⟨k - 1, by omega⟩
        simp only [e0, h1 m (by omega), Option.bind_some, hwi, if_true, wn.out]
        rw [if_pos (by omega)]
      · have hrec : bl (d.extract (at_ + 7) (at_ + 7 + n)) = (((bl d).drop at_).drop 7).take n := by rw [bl_extract, Nat.add_sub_cancel_left, List.drop_drop]
        have hall : bl (d.extract at_ (at_ + 7 + n)) = ((bl d).drop at_).take (7 + n) := by rw [bl_extract, Nat.add_assoc, Nat.add_sub_cancel_left]
        have hrl : (((bl d).drop at_).drop 7).length = d.size - at_ - 7 := by rw [List.length_drop, hRl]
        have hrn : ((((bl d).drop at_).drop 7).take n).length = n := by rw [List.length_take, hrl]; omega
        obtain ⟨K2, h2⟩ := specFrame_ev (d.extract (at_ + 7) (at_ + 7 + n)) (by rw [bl_size, hrec, hrn]; omega)
        rw [hrec] at h2
        by_cases hf : ((bl d).drop at_).take (7 + n) = frame ((((bl d).drop at_).drop 7).take n)
        · have hl := lookAt_rec (d := bl d) (at_ := at_) (by rw [hRl]; exact h7) (by rw [hn]; exact hr) (by rw [hRl, hn]; exact hlen) (by rw [hn]; exact hf)
          rw [hn] at hl
          refine ⟨fun c hc => (by rw [hl] at hc; cases hc), fun r hr2 => ?_⟩
          rw [hl] at hr2
          cases hr2
          refine ⟨⟨by rw [hrn]; omega, by rw [hrn]; omega, by rw [hrn]; omega⟩, fun q h3 => ?_⟩
          obtain ⟨K3, h3⟩ := h3
          refine ⟨K1 + K2 + K3 + 1, fun k hk => ?_⟩
          obtain ⟨m, rfl⟩ : ∃ m, k = m + 1 := ⟨k - 1, by omega⟩
          have h4 := h3 m (by omega)
          rw [hrn] at h4
          simp only [e0, h1 m (by omega), Option.bind_some, hwi, if_true, wn.out, wk.out, Int.toNat_natCast, h2 m (by omega)]
          have es : d.extract (at_ + 7) (at_ + 7 + n) = sm ((((bl d).drop at_).drop 7).take n) := bl_inj (by rw [bl_sm, hrec])
          rw [if_neg (by omega), if_pos (by omega), if_pos (by omega), if_pos (by omega), if_pos (by omega), if_pos (by rw [toList_bl, toList_bl, bl_sm, hall, hf]), if_pos (by omega), es]
          exact h4
        · have hl := lookAt_sum (d := bl d) (at_ := at_) (by rw [hRl]; exact h7) (by rw [hn]; exact hr) (by rw [hRl, hn]; exact hlen) (by rw [hn]; exact hf)
          refine ⟨fun c hc => ?_, fun r hr => by rw [hl] at hr; cases hr⟩
          rw [hl] at hc
          cases hc
          refine ⟨K1 + K2 + 1, fun k hk => ?_⟩
          obtain ⟨m, rfl⟩ : ∃ m, k = m + 1 := ⟨k - 1, by omega⟩
          simp only [e0, h1 m (by omega), Option.bind_some, hwi, if_true, wn.out, Int.toNat_natCast, h2 m (by omega)]
          rw [if_neg (by omega), if_pos (by omega), if_pos (by omega), if_pos (by omega), if_pos (by omega), if_neg (by rw [toList_bl, toList_bl, bl_sm, hall]; exact fun h => hf h.symm)]
    · have hwi : spec_l01In.f (n : Int) 1 20000 = some false := by rw [l01In_eq]; simp; omega
      have hl := lookAt_size (d := bl d) (at_ := at_) (by rw [hRl]; exact h7) (by rw [hn]; exact hr)
      refine ⟨fun c hc => ?_, fun r hr => by rw [hl] at hr; cases hr⟩
      rw [hl] at hc
      cases hc
      refine ⟨K1 + 1, fun k hk => ?_⟩
      obtain ⟨m, rfl⟩ : ∃ m, k = m + 1 := ⟨k - 1, by omega⟩
      simp only [e0, h1 m (by omega), Option.bind_some, hwi]
      rfl
/-- What both readers come to. -/
theorem recs_both (r0 s0 : Int) (d : ByteArray) (hd : d.size ≤ 1048576) : ∀ (m : Nat) (out : List ByteArray) (at_ : Nat), at_ ≤ d.size → d.size - at_ ≤ m → out.length ≤ at_ →
    ∃ q : List ByteArray × Int × Int, Ev (fun k => impl_Log_records.l0 k out (at_ : Int) r0 d s0) q ∧ Ev (fun k => spec_l08Records.l0 k d out (at_ : Int)) q ∧
      (0 ≤ q.2.1 ∧ q.2.1 ≤ d.size) ∧ (q.2.2 = 0 ∨ q.2.2 = 8 ∨ q.2.2 = 18) ∧ (q.1.length : Int) ≤ q.2.1 ∧ (∀ r ∈ q.1, r ∈ out ∨ (1 ≤ r.size ∧ r.size ≤ 20000)) := by
  intro m
  induction m with
  | zero =>
    intro out at_ ha hm ho
    refine ⟨(out, (at_ : Int), 0), ?_, ?_, ⟨by simp, by simpa using ha⟩, .inl rfl, by simpa using ho, fun r hr => .inl hr⟩
    · refine Ev.step (f := fun _ => some _) (fun k => ?_) (Ev.now _)
      simp only [impl_Log_records.l0]
      rw [if_neg (by omega)]
    · refine Ev.step (f := fun _ => some _) (fun k => ?_) (Ev.now _)
      simp only [spec_l08Records.l0]
      rw [if_neg (by omega)]
  | succ m ih =>
    intro out at_ ha hm ho
    by_cases hlt : at_ < d.size
    · obtain ⟨i1, i2⟩ := implRecs_step r0 s0 d hd out (by omega) at_ hlt
      obtain ⟨s1, s2⟩ := specRecs_step d hd out (by omega) at_ hlt
      cases hl : lookAt (bl d) at_ with
      | inl c =>
        refine ⟨_, i1 c hl, s1 c hl, ⟨by simp, by simpa using ha⟩, ?_, by simpa using ho, fun r hr => .inl hr⟩
        have : c = 8 ∨ c = 18 := by
          simp only [lookAt] at hl
          split at hl
          · cases hl; exact .inr rfl
          · split at hl
            · cases hl; exact .inl rfl
            · split at hl
              · cases hl; exact .inr rfl
              · split at hl
                · cases hl
                · cases hl; exact .inl rfl
        exact .inr this
      | inr r =>
        obtain ⟨⟨h1, h2, h3⟩, h4⟩ := i2 r hl
        obtain ⟨_, h5⟩ := s2 r hl
        obtain ⟨q, hq1, hq2, hq3, hq4, hq5, hq6⟩ := ih (out ++ [sm r]) (at_ + 7 + r.length) (by omega) (by omega) (by simp; omega)
        refine ⟨q, h4 q hq1, h5 q hq2, hq3, hq4, hq5, fun x hx => ?_⟩
        rcases hq6 x hx with h | h
        · rcases List.mem_append.1 h with h | h
          · exact .inl h
          · rw [List.mem_singleton] at h
            subst h
            exact .inr (by rw [sm_size]; exact ⟨h1, h2⟩)
        · exact .inr h
    · refine ⟨(out, (at_ : Int), 0), ?_, ?_, ⟨by simp, by simpa using ha⟩, .inl rfl, by simpa using ho, fun r hr => .inl hr⟩
      · refine Ev.step (f := fun _ => some _) (fun k => ?_) (Ev.now _)
        simp only [impl_Log_records.l0]
        rw [if_neg (by omega)]
      · refine Ev.step (f := fun _ => some _) (fun k => ?_) (Ev.now _)
        simp only [spec_l08Records.l0]
        rw [if_neg (by omega)]
theorem records_both (r0 s0 : Int) (d : ByteArray) (hd : d.size ≤ 1048576) :
    ∃ q : List ByteArray × Int × Int, Ev (fun k => impl_Log_records.f k r0 d s0) q ∧ Ev (fun k => spec_l08Records.f k d) q ∧
      (0 ≤ q.2.1 ∧ q.2.1 ≤ d.size) ∧ (q.2.2 = 0 ∨ q.2.2 = 8 ∨ q.2.2 = 18) ∧ (q.1.length : Int) ≤ q.2.1 ∧ (∀ r ∈ q.1, 1 ≤ r.size ∧ r.size ≤ 20000) := by
  obtain ⟨q, h1, h2, h3, h4, h5, h6⟩ := recs_both r0 s0 d hd d.size [] 0 (by omega) (by omega) (by simp)
  exact ⟨q, h1, h2, h3, h4, h5, fun r hr => by rcases h6 r hr with h | h; · cases h
                                               · exact h⟩
end Go.Proofs.Ytejdnbdppgakeaa.P
/- The pure statement of the law FnExactLogRepair: the two LogRepair tell the same. No condition. -/
set_option linter.unusedVariables false
set_option linter.unusedSimpArgs false
namespace Go.Proofs.Ytejdnbdppgakeaa.P
open Go.RowKit Go.Proofs.YtejdnbdppgakeaaW.PrintWords
theorem repair_both (r : Int) (d : ByteArray) (s : Int) : ∃ q : Int × ByteArray × Int × Int, Ev (fun k => impl_LogRepair.f k r d s) q ∧ Ev (fun k => spec_LogRepair.f k r d s) q := by
  by_cases hl : LogRight r d s
  · have hd : d.size ≤ 1048576 := by have := hl.2.1; have := hl.1.2; omega
    obtain ⟨⟨out, n, code⟩, h1, h2, ⟨h3, h4⟩, _⟩ := records_both r s d hd
    obtain ⟨K, hK⟩ := Ev.and h1 h2
    simp only at h3 h4
    by_cases hc : code = 8
    · refine ⟨(r, d, s, 8), ⟨K, fun k hk => ?_⟩, ⟨K, fun k hk => ?_⟩⟩
      · obtain ⟨h1, _⟩ := hK k hk
        simp [impl_LogRepair.f, implLogOK_eq, hl, h1, hc]
      · obtain ⟨_, h2⟩ := hK k hk
        simp [spec_LogRepair.f, spec_l08Repair.f, specLogOK_eq, hl, h2, hc]
    · refine ⟨(r, d.extract 0 n.toNat, ((d.extract 0 n.toNat).size : Int), 0), ⟨K, fun k hk => ?_⟩, ⟨K, fun k hk => ?_⟩⟩
      · obtain ⟨h1, _⟩ := hK k hk
        simp only [impl_LogRepair.f, implLogOK_eq, hl, h1, decide_true, Option.bind_some, if_true, impl_Log_sync.f]
        rw [if_neg hc, if_pos h3, if_pos h4]
      · obtain ⟨_, h2⟩ := hK k hk
        simp only [spec_LogRepair.f, spec_l08Repair.f, specLogOK_eq, hl, h2, decide_true, Option.bind_some, if_true, spec_l08Sync.f]
        rw [if_neg hc, if_pos h3, if_pos h4]
        rfl
  · refine ⟨(0, ⟨#[]⟩, 0, 1), ⟨0, fun k _ => ?_⟩, ⟨0, fun k _ => ?_⟩⟩
    · simp [impl_LogRepair.f, implLogOK_eq, hl]
    · simp [spec_LogRepair.f, specLogOK_eq, hl]
end Go.Proofs.Ytejdnbdppgakeaa.P
namespace Go.Proofs.Ytejdnbdppgakeaa.Pure
open Go.RowKit Go.Proofs.Ytejdnbdppgakeaa.P Go.Proofs.YtejdnbdppgakeaaW.PrintWords
theorem FnExactLogRepair : laws_FnExactLogRepair.Pure := by
  intro l hl
  obtain ⟨z, hz⟩ := szLog_some l.f0 l.f1 l.f2 1048576
  obtain ⟨⟨a, b, c, e⟩, h1, h2⟩ := repair_both l.f0 l.f1 l.f2
  obtain ⟨K, hK⟩ := Ev.and h1 h2
  obtain ⟨h1, h2⟩ := hK K (Nat.le_refl _)
  refine ⟨K, ?_⟩
  simp only [laws_FnExactLogRepair.f, hz, Option.bind_some, laws_toLog.f, h1, h2, eqLog_self]
  split
  · rfl
  · simp
end Go.Proofs.Ytejdnbdppgakeaa.Pure
/- The row of the law FnExactLogRepair: for every input the call returns true and each argument reads behind the call as it read before. No condition of mine. -/
namespace Go.Proofs.Ytejdnbdppgakeaa.fnExactLogRepair
open Go.ChangeShapes Go.WideShapes Go.ChangeAt Go.RowKit Go.Proofs.Ytejdnbdppgakeaa.P Go.Proofs.YtejdnbdppgakeaaW.PrintWords
open Go.ChangeMaps (open_string shut_string)
set_option linter.unusedVariables false
theorem own : ownKnob Try.prog.godebug = none := by kernel_rfl
theorem laidOut : laidOutB Try.prog = true := by kernel_rfl
set_option maxRecDepth 100000 in
theorem lifted (os : Os) (started : os.Started) (H : Type) (enc : TypeId × Value → H) :
    ReturnsInHanded {} Try.checked os 12 .any (Rows.fnExactLogRepairSpec.pre6 enc Try.prog Try.f12 Rows.fnExactLogRepairRow.domain false) (Rows.fnExactLogRepairSpec.post enc Try.prog Try.f12 false true false false) := by
  refine returnsInHanded_of_change_sized (C := Try.checked) own started (by kernel_rfl) Try.func12
    (ChangeSpec.witness6 (enc := enc) (C := Try.checked) false ⟨#[], #[.agg #[.int .i64 0, .string ByteArray.empty, .int .i64 0]], []⟩ 8 (by kernel_rfl) (by kernel_rfl) (by kernel_rfl) (by kernel_rfl)) ?_
  intro W base args ds gs before hval0 hW hcnd hsz0 _
  have hsz : (DataW.weightsEach Try.prog (Try.f12.params.toList ++ Rows.fnExactLogRepairSpec.plain.varTypes Try.prog) (ds ++ gs)).all (· ≤ reachBytes) = true := hsz0
  have hval : ∀ (j : Nat) t v, Try.f12.params[j]? = some t → args[j]? = some v → Value.okWide Try.prog W .any base t v := hval0
  have hW' := hW
  obtain ⟨p, q, hA0, hV, rfl, hfz, hnd⟩ := hW
  have hA : DataW.TrodAll enc Try.prog W 0 (fun _ => true) true Try.f12.params.toList args.toList ds p := hA0
  rw [Try.params12] at hA hval hsz
  obtain ⟨v0, vs0, d0, ds0, p0, q0, hargs, rfl, rfl, h0, r0⟩ := trodAll_cons hA
  obtain ⟨rfl, rfl, rfl⟩ := trodAll_nil r0
  obtain rfl : args = #[v0] := by cases args; simp_all
  obtain ⟨rfl, rfl⟩ := trodVars_none hV
  have kk0 := h0
  have lt0 : ∀ x ∈ p0, x.block < W.heap.size := by obtain ⟨m, hm⟩ := kk0; exact DataW.trod_lt m _ _ _ hm
  obtain ⟨x0, hK0, hS0⟩ := Tells.arg tells23 h0 hsz (j := 0) (t := 23) rfl rfl
  obtain ⟨cs0, rfl, _⟩ := okWide_struct Try.underlying23 (hval 0 23 v0 rfl rfl)
  have hq0 := k23_open hK0
  obtain rfl : cs0 = #[.int .i64 x0.f0, .string x0.f1, .int .i64 x0.f2] := Array.toList_inj.1 (by simpa [Value.cells] using hq0)
  clear hA0 hval0 hsz0 hsz
  obtain ⟨k, h⟩ := Pure.FnExactLogRepair x0 hS0
  refine (laws_FnExactLogRepair.calls k x0.f0 x0.f1 x0.f2 true W  h).mono fun e W' ⟨he, bel0⟩ => ?_
  have bel : Below W.heap.size W W' := bel0
  subst he
  exact ⟨_, rfl, _, _, _, [], _, [], hW', trodAll_mk1 (shut_bool Try.underlying4 _), (trodAll_cons_mk (Below.trod laidOut (by kernel_rfl) (of_decide_eq_true (by kernel_rfl)) kk0 bel lt0) trodAll_mk0), rfl, bel.frame _, fun h => by cases h⟩
theorem over : Rows.fnExactLogRepairRow.holds Try.pinned (OpenSpec.ofChange Rows.fnExactLogRepairSpec) :=
  OpenClaim.holds_of_wide 12 Try.f12 rfl rfl rfl rfl rfl rfl rfl ⟨rfl, rfl, rfl, rfl, rfl⟩ rfl rfl rfl rfl rfl (by kernel_rfl) Try.func12 (by kernel_rfl)
    (of_decide_eq_true (by kernel_rfl)) (by unfold Func.isWrapper; first | (rw [if_pos (by decide +kernel)]; kernel_rfl) | (rw [if_neg (by decide +kernel)]; exact ⟨rfl, rfl⟩))
    (fun os started H enc _ => lifted os started H enc)
theorem proved : Rows.FnExactLogRepairSaid := over
#print axioms proved
end Go.Proofs.Ytejdnbdppgakeaa.fnExactLogRepair
namespace Go.Proofs.Ytejdnbdppgakeaa
/-- The row, under a short name, for the claim. -/
theorem fnExactLogRepair_holds : Rows.FnExactLogRepairSaid := fnExactLogRepair.proved
end Go.Proofs.Ytejdnbdppgakeaa
