import Derived.Test.YtejdnbdppgakeaaT1
import Derived.Test.YtejdnbdppgakeaaF4
namespace Go.Proofs.Ytejdnbdppgakeaa.P
open Go.RowKit Go.ChangeShapes Go.WideShapes Go.Proofs.YtejdnbdppgakeaaW.PrintWords

/-- What is to be proved of the law FnExactNewLog, over numbers and lists alone. -/
def laws_FnExactNewLog.Pure : Prop := ∀ (x0 : Int), (Lit.int .i64 x0).wf = true → laws_FnExactNewLog.f x0 = some true
end Go.Proofs.Ytejdnbdppgakeaa.P
