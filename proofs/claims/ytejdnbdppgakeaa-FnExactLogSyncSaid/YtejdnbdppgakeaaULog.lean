/- Lemmas of mine: logs: when one is right; that the laws' copies tell nothing else. Plain. -/
import Derived.Test.YtejdnbdppgakeaaUBase
import Derived.Test.YtejdnbdppgakeaaF16
import Derived.Test.YtejdnbdppgakeaaF18
import Derived.Test.YtejdnbdppgakeaaF15
import Derived.Test.YtejdnbdppgakeaaF21
namespace Go.Proofs.Ytejdnbdppgakeaa.P
open Go.RowKit Go.Proofs.YtejdnbdppgakeaaW.PrintWords
/-- A right log. -/
def LogRight (r : Int) (d : ByteArray) (s : Int) : Prop := (0 ≤ r ∧ r ≤ 60000) ∧ (d.size : Int) ≤ r ∧ (0 ≤ s ∧ s ≤ (d.size : Int))
instance (r : Int) (d : ByteArray) (s : Int) : Decidable (LogRight r d s) := by unfold LogRight; infer_instance
theorem specLogOK_eq (r : Int) (d : ByteArray) (s : Int) : spec_LogOK.f r d s = some (decide (LogRight r d s)) := by
  unfold spec_LogOK.f LogRight
  simp only [l01In_eq, Option.bind_some]
  by_cases h : 0 ≤ r ∧ r ≤ 60000 <;> by_cases h2 : (d.size : Int) ≤ r <;> simp [h, h2]
theorem implLogOK_eq (r : Int) (d : ByteArray) (s : Int) : impl_LogOK.f r d s = some (decide (LogRight r d s)) := specLogOK_eq r d s
theorem szLog_some (r : Int) (d : ByteArray) (s n : Int) : ∃ z, laws_szLog.f r d s n = some z := by
  unfold laws_szLog.f
  split <;> exact ⟨_, rfl⟩
theorem eqLog_self (r : Int) (d : ByteArray) (s : Int) : laws_eqLog.f r d s r d s = some true := by simp [laws_eqLog.f]
end Go.Proofs.Ytejdnbdppgakeaa.P
