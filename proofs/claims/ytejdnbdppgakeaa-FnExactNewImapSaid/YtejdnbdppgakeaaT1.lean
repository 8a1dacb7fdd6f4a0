import Derived.Test.YtejdnbdppgakeaaP0
namespace Go.Proofs.Ytejdnbdppgakeaa.P
open Go.RowKit Go.ChangeShapes Go.WideShapes Go.Proofs.YtejdnbdppgakeaaW.PrintWords

def ok23 (x : S23) : Prop := (Lit.int .i64 x.f0).wf = true ∧ x.f1.size ≤ 140737488351232 ∧ (Lit.int .i64 x.f2).wf = true
theorem tells23 {H : Type} {enc : TypeId × Value → H} {W : World} : Tells enc Try.prog W 23 k23 ok23 := Tells.struct (fun y => ⟨y.1, y.2.1, y.2.2⟩) (fun _ => rfl) Try.underlying23 (by kernel_rfl) (TellsF.cons (by kernel_rfl) (Tells.int Try.underlying3) rfl (TellsF.cons (by kernel_rfl) (Tells.string Try.underlying9) rfl (TellsF.one (by kernel_rfl) (Tells.int Try.underlying3))))
def ok53 (x : S53) : Prop := (Lit.int .i64 x.f0).wf = true ∧ x.f1.size ≤ 140737488351232 ∧ True ∧ (x.f3.length ≤ maxLen ∧ x.f3.length * 8 ≤ 140737488351232 ∧ ∀ y ∈ x.f3, (Lit.int .i64 y).wf = true)
theorem tells53 {H : Type} {enc : TypeId × Value → H} {W : World} : Tells enc Try.prog W 53 k53 ok53 := Tells.struct (fun y => ⟨y.1, y.2.1, y.2.2.1, y.2.2.2⟩) (fun _ => rfl) Try.underlying53 (by kernel_rfl) (TellsF.cons (by kernel_rfl) (Tells.int Try.underlying3) rfl (TellsF.cons (by kernel_rfl) (Tells.string Try.underlying9) rfl (TellsF.cons (by kernel_rfl) (Tells.bool Try.underlying4) rfl (TellsF.one (by kernel_rfl) (Tells.slice (b := 8) Try.underlying34 (by kernel_rfl) (by kernel_rfl) (Tells.int Try.underlying3))))))
end Go.Proofs.Ytejdnbdppgakeaa.P
