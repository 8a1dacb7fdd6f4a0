import Derived.Test.YtejdnbdppgakeaaT1
import Derived.Test.YtejdnbdppgakeaaF10
namespace Go.Proofs.Ytejdnbdppgakeaa.P
open Go.RowKit Go.ChangeShapes Go.WideShapes Go.Proofs.YtejdnbdppgakeaaW.PrintWords

/-- What is to be proved of the law FnExactImapOK, over numbers and lists alone. -/
def laws_FnExactImapOK.Pure : Prop := ∀ (x0 : S53), ok53 x0 → ∃ k, laws_FnExactImapOK.f k x0.f0 x0.f1 x0.f2 x0.f3 = some true
end Go.Proofs.Ytejdnbdppgakeaa.P
