/- The pure statement of the law FnExactLogSync: the two LogSync tell the same. No condition. -/
import Derived.Test.YtejdnbdppgakeaaSFnExactLogSync
import Derived.Test.YtejdnbdppgakeaaULog
namespace Go.Proofs.Ytejdnbdppgakeaa.Pure
open Go.RowKit Go.Proofs.Ytejdnbdppgakeaa.P
theorem FnExactLogSync : laws_FnExactLogSync.Pure := by
  intro x hx
  obtain ⟨z, hz⟩ := szLog_some x.f0 x.f1 x.f2 1048576
  have h : impl_LogSync.f = spec_LogSync.f := rfl
  obtain ⟨⟨a, b, c, d⟩, hs⟩ : ∃ s, spec_LogSync.f x.f0 x.f1 x.f2 = some s := by
    unfold spec_LogSync.f
    simp only [specLogOK_eq, Option.bind_some, spec_l08Sync.f]
    split <;> exact ⟨_, rfl⟩
  simp only [laws_FnExactLogSync.f, hz, Option.bind_some, laws_toLog.f, h, hs, eqLog_self]
  simp
end Go.Proofs.Ytejdnbdppgakeaa.Pure
