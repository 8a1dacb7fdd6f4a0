import Derived.Test.YtejdnbdppgakeaaT1
import Derived.Test.YtejdnbdppgakeaaF6
namespace Go.Proofs.Ytejdnbdppgakeaa.P
open Go.RowKit Go.ChangeShapes Go.WideShapes Go.Proofs.YtejdnbdppgakeaaW.PrintWords

/-- What is to be proved of the law FnExactNewImap, over numbers and lists alone. -/
def laws_FnExactNewImap.Pure : Prop := ∃ k, laws_FnExactNewImap.f k  = some true
end Go.Proofs.Ytejdnbdppgakeaa.P
