import Derived.Test.YtkfjacclpjgafaaChecked
import Derived.Test.YtkfjacclpjgafaaRows
import Derived.JoinedOf
/- What the statements ask of the program as a whole, counted once. -/
namespace Go.Proofs.Ytkfjacclpjgafaa
open Go Go.Proofs
theorem headP : (Try.checked.prog.mayEnter && (false == Try.checked.prog.liftsFinal) && (Try.checked.prog.make == some Rows.fnExactFirstSheddingRow.make)) = true := by kernel_rfl
end Go.Proofs.Ytkfjacclpjgafaa
