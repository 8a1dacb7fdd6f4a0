/- Part 4 of what the law FnExactLogAppend stands on; the last part ends with the law's row. No condition of mine. -/
import Derived.Test.YtejdnbdppgakeaaMFnExactLogAppend3
import Derived.Test.YtejdnbdppgakeaaRows
import Derived.WalkKit
import Derived.ProofKit
import Derived.OpenShut
import Derived.ShutString
import Derived.ChangeOld
import Derived.Below
import Derived.SizedLaws
import Derived.Carry
/- The pure statement of the law FnExactLogAppend: the two LogAppend tell the same. No condition. -/
set_option linter.unusedVariables false
set_option linter.unusedSimpArgs false
namespace Go.Proofs.Ytejdnbdppgakeaa.P
open Go.RowKit Go.Proofs.YtejdnbdppgakeaaW.PrintWords
/-- What LogAppend tells. -/
theorem append_both (r : Int) (d : ByteArray) (s : Int) (x : ByteArray) : ∃ q : Int × ByteArray × Int × Int, Ev (fun k => impl_LogAppend.f k r d s x) q ∧ Ev (fun k => spec_LogAppend.f k r d s x) q := by
  by_cases hx : (x.size : Int) > 65536
  · refine ⟨(0, ⟨#[]⟩, 0, 2), ⟨0, fun k _ => ?_⟩, ⟨0, fun k _ => ?_⟩⟩
    · simp only [impl_LogAppend.f]
      rw [if_pos hx]
    · simp only [spec_LogAppend.f]
      rw [if_pos hx]
  · by_cases hl : LogRight r d s
    · by_cases hr : 1 ≤ x.size ∧ x.size ≤ 20000
      · obtain ⟨⟨hr0, hr1⟩, hd, _⟩ := hl
        have hl : LogRight r d s := ⟨⟨hr0, hr1⟩, hd, by assumption⟩
        obtain ⟨K1, h1⟩ := implRec_ev x hr.2
        obtain ⟨K2, h2⟩ := specFrame_ev x (by omega)
        have hf : (sm (frame (bl x))).size = 7 + x.size := by rw [sm_size, frame_length, ← bl_size]
        obtain ⟨F, hF⟩ : ∃ F, sm (frame (bl x)) = F := ⟨_, rfl⟩
        rw [hF] at h1 h2 hf
        clear hF
        have hw : Aside0 (wrap64 ((d.size : Int) + (F.size : Int)) = ((d.size + F.size : Nat) : Int)) := ⟨w64add _ _ (by omega)⟩
        by_cases hroom : (d.size : Int) + 7 + x.size ≤ r
        · refine ⟨(r, d ++ F, s, 0), ⟨K1, fun k hk => ?_⟩, ⟨K2, fun k hk => ?_⟩⟩
          · simp only [impl_LogAppend.f, implLogOK_eq, within_eq, impl_Log_hasRoom.f, impl_Log_with.f, h1 k hk, bS, hl, decide_true, if_true]
            rw [if_neg hx, if_pos (by simp; omega), w64 (n := (d.size : Int) + 7) (by omega) (by omega), w64 (by omega) (by omega), if_pos (by simp; omega), if_pos (by omega)]
            rfl
          · simp only [spec_LogAppend.f, specLogOK_eq, l01In_eq, spec_l08Append.f, h2 k hk, bS, hl, decide_true, if_true, hw.out]
            rw [if_neg hx, if_pos (by simp; omega), if_neg (by omega), if_pos (by omega)]
            rfl
        · refine ⟨(r, d, s, 7), ⟨K1, fun k hk => ?_⟩, ⟨K2, fun k hk => ?_⟩⟩
          · simp only [impl_LogAppend.f, implLogOK_eq, within_eq, impl_Log_hasRoom.f, bS, hl, decide_true, if_true]
            rw [if_neg hx, if_pos (by simp; omega), w64 (n := (d.size : Int) + 7) (by omega) (by omega), w64 (by omega) (by omega), if_neg (by simp; omega)]
          · simp only [spec_LogAppend.f, specLogOK_eq, l01In_eq, spec_l08Append.f, h2 k hk, bS, hl, decide_true, if_true, hw.out]
            rw [if_neg hx, if_pos (by simp; omega), if_pos (by omega)]
            rfl
      · refine ⟨(r, d, s, 4), ⟨0, fun k _ => ?_⟩, ⟨0, fun k _ => ?_⟩⟩
        · simp only [impl_LogAppend.f, implLogOK_eq, within_eq, bS, hl, decide_true, if_true]
          rw [if_neg hx, if_neg (by simp; omega)]
        · simp only [spec_LogAppend.f, specLogOK_eq, l01In_eq, bS, hl, decide_true, if_true]
          rw [if_neg hx, if_neg (by simp; omega)]
    · refine ⟨(0, ⟨#[]⟩, 0, 1), ⟨0, fun k _ => ?_⟩, ⟨0, fun k _ => ?_⟩⟩
      · simp only [impl_LogAppend.f, implLogOK_eq, bS, hl, decide_false]
        rw [if_neg hx]
        rfl
      · simp only [spec_LogAppend.f, specLogOK_eq, bS, hl, decide_false]
        rw [if_neg hx]
        rfl
end Go.Proofs.Ytejdnbdppgakeaa.P
namespace Go.Proofs.Ytejdnbdppgakeaa.Pure
open Go.RowKit Go.Proofs.Ytejdnbdppgakeaa.P Go.Proofs.YtejdnbdppgakeaaW.PrintWords
theorem FnExactLogAppend : laws_FnExactLogAppend.Pure := by
  intro l x hl hx
  obtain ⟨z, hz⟩ := szLog_some l.f0 l.f1 l.f2 1048576
  obtain ⟨⟨a, b, c, e⟩, h1, h2⟩ := append_both l.f0 l.f1 l.f2 x
  obtain ⟨K, hK⟩ := Ev.and h1 h2
  obtain ⟨h1, h2⟩ := hK K (Nat.le_refl _)
  refine ⟨K, ?_⟩
  simp only [laws_FnExactLogAppend.f, hz, bS, laws_toLog.f, h1, h2, eqLog_self]
  split
  · rfl
  · split
    · rfl
    · simp
end Go.Proofs.Ytejdnbdppgakeaa.Pure
/- The row of the law FnExactLogAppend: for every input the call returns true and each argument reads behind the call as it read before. No condition of mine. -/
namespace Go.Proofs.Ytejdnbdppgakeaa.fnExactLogAppend
open Go.ChangeShapes Go.WideShapes Go.ChangeAt Go.RowKit Go.Proofs.Ytejdnbdppgakeaa.P Go.Proofs.YtejdnbdppgakeaaW.PrintWords
open Go.ChangeMaps (open_string shut_string)
set_option linter.unusedVariables false
theorem own : ownKnob Try.prog.godebug = none := by kernel_rfl
theorem laidOut : laidOutB Try.prog = true := by kernel_rfl
set_option maxRecDepth 100000 in
theorem lifted (os : Os) (started : os.Started) (H : Type) (enc : TypeId × Value → H) :
    ReturnsInHanded {} Try.checked os 9 .any (Rows.fnExactLogAppendSpec.pre6 enc Try.prog Try.f9 Rows.fnExactLogAppendRow.domain false) (Rows.fnExactLogAppendSpec.post enc Try.prog Try.f9 false true false false) := by
  refine returnsInHanded_of_change_sized (C := Try.checked) own started (by kernel_rfl) Try.func9
    (ChangeSpec.witness6 (enc := enc) (C := Try.checked) false ⟨#[], #[.agg #[.int .i64 0, .string ByteArray.empty, .int .i64 0], .string ByteArray.empty], []⟩ 8 (by kernel_rfl) (by kernel_rfl) (by kernel_rfl) (by kernel_rfl)) ?_
  intro W base args ds gs before hval0 hW hcnd hsz0 _
  have hsz : (DataW.weightsEach Try.prog (Try.f9.params.toList ++ Rows.fnExactLogAppendSpec.plain.varTypes Try.prog) (ds ++ gs)).all (· ≤ reachBytes) = true := hsz0
  have hval : ∀ (j : Nat) t v, Try.f9.params[j]? = some t → args[j]? = some v → Value.okWide Try.prog W .any base t v := hval0
  have hW' := hW
  obtain ⟨p, q, hA0, hV, rfl, hfz, hnd⟩ := hW
  have hA : DataW.TrodAll enc Try.prog W 0 (fun _ => true) true Try.f9.params.toList args.toList ds p := hA0
  rw [Try.params9] at hA hval hsz
  obtain ⟨v0, vs0, d0, ds0, p0, q0, hargs, rfl, rfl, h0, r0⟩ := trodAll_cons hA
  obtain ⟨v1, vs1, d1, ds1, p1, q1, rfl, rfl, rfl, h1, r1⟩ := trodAll_cons r0
  obtain ⟨rfl, rfl, rfl⟩ := trodAll_nil r1
  obtain rfl : args = #[v0, v1] := by cases args; simp_all
  obtain ⟨rfl, rfl⟩ := trodVars_none hV
  have kk0 := h0
  have lt0 : ∀ x ∈ p0, x.block < W.heap.size := by obtain ⟨m, hm⟩ := kk0; exact DataW.trod_lt m _ _ _ hm
  obtain ⟨x0, hK0, hS0⟩ := Tells.arg tells23 h0 hsz (j := 0) (t := 23) rfl rfl
  obtain ⟨cs0, rfl, _⟩ := okWide_struct Try.underlying23 (hval 0 23 v0 rfl rfl)
  have hq0 := k23_open hK0
  obtain rfl : cs0 = #[.int .i64 x0.f0, .string x0.f1, .int .i64 x0.f2] := Array.toList_inj.1 (by simpa [Value.cells] using hq0)
  have kk1 := h1
  have lt1 : ∀ x ∈ p1, x.block < W.heap.size := by obtain ⟨m, hm⟩ := kk1; exact DataW.trod_lt m _ _ _ hm
  obtain ⟨x1, hK1, hS1⟩ := Tells.arg (Tells.string Try.underlying9) h1 hsz (j := 1) (t := 9) rfl rfl
  obtain ⟨a1, rfl⟩ := okWide_string Try.underlying9 (hval 1 9 v1 rfl rfl)
  have hq1 : [Value.string a1] = [Value.string x1] := hK1
  obtain rfl : a1 = x1 := by simpa using hq1
  clear hA0 hval0 hsz0 hsz
  obtain ⟨k, h⟩ := Pure.FnExactLogAppend x0 a1 hS0 hS1
  refine (laws_FnExactLogAppend.calls k x0.f0 x0.f1 x0.f2 a1 true W  h).mono fun e W' ⟨he, bel0⟩ => ?_
  have bel : Below W.heap.size W W' := bel0
  subst he
  exact ⟨_, rfl, _, _, _, [], _, [], hW', trodAll_mk1 (shut_bool Try.underlying4 _), (trodAll_cons_mk (Below.trod laidOut (by kernel_rfl) (of_decide_eq_true (by kernel_rfl)) kk0 bel lt0) (trodAll_cons_mk (Below.trod laidOut (by kernel_rfl) (of_decide_eq_true (by kernel_rfl)) kk1 bel lt1) trodAll_mk0)), rfl, bel.frame _, fun h => by cases h⟩
theorem over : Rows.fnExactLogAppendRow.holds Try.pinned (OpenSpec.ofChange Rows.fnExactLogAppendSpec) :=
  OpenClaim.holds_of_wide 9 Try.f9 rfl rfl rfl rfl rfl rfl rfl ⟨rfl, rfl, rfl, rfl, rfl⟩ rfl rfl rfl rfl rfl (by kernel_rfl) Try.func9 (by kernel_rfl)
    (of_decide_eq_true (by kernel_rfl)) (by unfold Func.isWrapper; first | (rw [if_pos (by decide +kernel)]; kernel_rfl) | (rw [if_neg (by decide +kernel)]; exact ⟨rfl, rfl⟩))
    (fun os started H enc _ => lifted os started H enc)
theorem proved : Rows.FnExactLogAppendSaid := over
#print axioms proved
end Go.Proofs.Ytejdnbdppgakeaa.fnExactLogAppend
namespace Go.Proofs.Ytejdnbdppgakeaa
/-- The row, under a short name, for the claim. -/
theorem fnExactLogAppend_holds : Rows.FnExactLogAppendSaid := fnExactLogAppend.proved
end Go.Proofs.Ytejdnbdppgakeaa
