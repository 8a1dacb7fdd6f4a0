/- The pure statement of the law FnExactNewLog: the two NewLog tell the same. No condition. -/
import Derived.Test.YtejdnbdppgakeaaSFnExactNewLog
import Derived.Test.YtejdnbdppgakeaaULog
namespace Go.Proofs.Ytejdnbdppgakeaa.Pure
open Go.RowKit Go.Proofs.Ytejdnbdppgakeaa.P
theorem FnExactNewLog : laws_FnExactNewLog.Pure := by
  intro x hx
  have h : impl_NewLog.f = spec_NewLog.f := rfl
  obtain ⟨⟨a, b, c, d⟩, hs⟩ : ∃ s, spec_NewLog.f x = some s := by
    unfold spec_NewLog.f
    simp only [l01In_eq, Option.bind_some]
    split <;> exact ⟨_, rfl⟩
  simp only [laws_FnExactNewLog.f, Option.bind_some, h, hs, eqLog_self]
  simp
end Go.Proofs.Ytejdnbdppgakeaa.Pure
