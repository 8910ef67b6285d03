/- Readers of the types that this seat's laws take. -/
import Derived.Test.YtkfejfbalfghgaaOpen
import Derived.Test.YtkfejfbalfghgaaPx0
namespace Go.Proofs.Ytkfejfbalfghgaa.P
open Go.RowKit Go.Proofs.YtkfejfbalfghgaaW.PrintWords Go.Proofs.YtkfejfbalfghgaaW.PrintLast Go.Proofs.Ytkfejfbalfghgaa.Open
set_option linter.unusedVariables false
def good25 (x : S25) : Prop := (Lit.int .u32 x.f0).wf = true ∧ x.f1.size ≤ 140737488351232 ∧ (Lit.int .i64 x.f2).wf = true
theorem rd25 : Rd Try.prog 25 k25 good25 := rd_struct (back := fun y => ⟨y.1, y.2.1, y.2.2⟩) Try.underlying25 (fs_cons (rd_int Try.underlying23 (by kernel_rfl)) (fs_cons (rd_string Try.underlying9 (by kernel_rfl)) (fs_last (rd_int Try.underlying3 (by kernel_rfl))) rfl) rfl) (by kernel_rfl) (fun _ => rfl)
end Go.Proofs.Ytkfejfbalfghgaa.P
