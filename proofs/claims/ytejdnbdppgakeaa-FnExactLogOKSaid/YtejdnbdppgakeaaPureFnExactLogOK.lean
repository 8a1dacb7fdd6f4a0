/- The pure statement of the law FnExactLogOK: the two LogOK tell the same. No condition. -/
import Derived.Test.YtejdnbdppgakeaaSFnExactLogOK
import Derived.Test.YtejdnbdppgakeaaULog
namespace Go.Proofs.Ytejdnbdppgakeaa.Pure
open Go.RowKit Go.Proofs.Ytejdnbdppgakeaa.P
theorem FnExactLogOK : laws_FnExactLogOK.Pure := by
  intro x hx
  obtain ⟨z, hz⟩ := szLog_some x.f0 x.f1 x.f2 1048576
  simp only [laws_FnExactLogOK.f, hz, Option.bind_some, laws_toLog.f, implLogOK_eq, specLogOK_eq]
  split
  · rfl
  · simp
end Go.Proofs.Ytejdnbdppgakeaa.Pure
