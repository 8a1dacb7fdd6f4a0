/- The pure statement of the law FnExactImapOK: the two ImapOK tell the same. No condition. -/
import Derived.Test.YtejdnbdppgakeaaSFnExactImapOK
import Derived.Test.YtejdnbdppgakeaaUImap
set_option linter.unusedVariables false
set_option linter.unusedSimpArgs false
namespace Go.Proofs.Ytejdnbdppgakeaa.Pure
open Go.RowKit Go.Proofs.Ytejdnbdppgakeaa.P Go.Proofs.YtejdnbdppgakeaaW.PrintWords
theorem FnExactImapOK : laws_FnExactImapOK.Pure := by
  intro x hx
  obtain ⟨_, _, _, _, hl, _⟩ := hx
  have hlen : x.f3.length ≤ 35184372088832 := by omega
  obtain ⟨K1, h1⟩ := toIntS_ev x.f3 hlen
  obtain ⟨K2, h2⟩ := implImap_ev x.f0 x.f1 x.f2 x.f3 (by omega)
  obtain ⟨K3, h3⟩ := specImap_ev x.f0 x.f1 x.f2 x.f3 (by omega)
  obtain ⟨K4, h4⟩ := eqIntS_self x.f3 (by omega)
  obtain ⟨z, hz⟩ : ∃ z, laws_szImap.f x.f0 x.f1 x.f2 x.f3 1048576 = some z := by
    simp only [laws_szImap.f, laws_szIntS.f]
    split
    · exact ⟨_, rfl⟩
    · split
      · simp only [Option.bind_some]
        exact ⟨_, rfl⟩
      · simp only [Option.bind_some]
        split <;> exact ⟨_, rfl⟩
  refine ⟨K1 + K2 + K3 + K4, ?_⟩
  simp only [laws_FnExactImapOK.f, hz, Option.bind_some, laws_toImap.f, h1 (K1 + K2 + K3 + K4) (by omega), h2 (K1 + K2 + K3 + K4) (by omega), h3 (K1 + K2 + K3 + K4) (by omega), laws_eqImap.f, h4 (K1 + K2 + K3 + K4) (by omega)]
  split
  · rfl
  · simp
end Go.Proofs.Ytejdnbdppgakeaa.Pure
