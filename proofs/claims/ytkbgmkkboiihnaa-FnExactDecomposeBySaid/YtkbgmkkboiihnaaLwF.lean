import Derived.Test.YtkbgmkkboiihnaaChecked
import Derived.Test.YtkbgmkkboiihnaaRows
import Derived.JoinedOf
/- What the statements ask of the program as a whole, counted once. -/
namespace Go.Proofs.Ytkbgmkkboiihnaa
open Go Go.Proofs
theorem headP : (Try.checked.prog.mayEnter && (false == Try.checked.prog.liftsFinal) && (Try.checked.prog.make == some Rows.fnExactFindDivisionRow.make)) = true := by kernel_rfl
end Go.Proofs.Ytkbgmkkboiihnaa
