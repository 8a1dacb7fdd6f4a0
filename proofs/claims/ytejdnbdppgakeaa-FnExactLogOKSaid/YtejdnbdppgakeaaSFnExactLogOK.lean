import Derived.Test.YtejdnbdppgakeaaT1
import Derived.Test.YtejdnbdppgakeaaF3
namespace Go.Proofs.Ytejdnbdppgakeaa.P
open Go.RowKit Go.ChangeShapes Go.WideShapes Go.Proofs.YtejdnbdppgakeaaW.PrintWords

/-- What is to be proved of the law FnExactLogOK, over numbers and lists alone. -/
def laws_FnExactLogOK.Pure : Prop := ∀ (x0 : S23), ok23 x0 → laws_FnExactLogOK.f x0.f0 x0.f1 x0.f2 = some true
end Go.Proofs.Ytejdnbdppgakeaa.P
