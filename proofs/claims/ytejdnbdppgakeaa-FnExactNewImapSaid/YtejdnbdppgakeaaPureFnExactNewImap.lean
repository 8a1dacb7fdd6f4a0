/- The pure statement of the law FnExactNewImap: the two NewImap tell the same. No condition. -/
import Derived.Test.YtejdnbdppgakeaaSFnExactNewImap
set_option linter.unusedVariables false
set_option linter.unusedSimpArgs false
namespace Go.Proofs.Ytejdnbdppgakeaa.Pure
open Go.RowKit Go.Proofs.Ytejdnbdppgakeaa.P Go.Proofs.YtejdnbdppgakeaaW.PrintWords
theorem FnExactNewImap : laws_FnExactNewImap.Pure :=
  ⟨1, by simp [laws_FnExactNewImap.f, spec_NewImap.f, impl_NewImap.f, laws_eqImap.f, laws_eqIntS.f, laws_eqIntS.l0, laws_markImap.f, laws_markIntS.f, laws_markIntS.l0, laws_heldImap.f, laws_heldIntS.f, laws_heldIntS.l0]⟩
end Go.Proofs.Ytejdnbdppgakeaa.Pure
