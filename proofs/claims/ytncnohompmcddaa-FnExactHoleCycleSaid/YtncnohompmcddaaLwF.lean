import Derived.Test.YtncnohompmcddaaChecked
import Derived.Test.YtncnohompmcddaaRows
import Derived.JoinedOf
/- What the statements ask of the program as a whole, counted once. -/
namespace Go.Proofs.Ytncnohompmcddaa
open Go Go.Proofs
theorem headP : (Try.checked.prog.mayEnter && (false == Try.checked.prog.liftsFinal) && (Try.checked.prog.make == some Rows.fnExactIsOrientableRow.make)) = true := by kernel_rfl
end Go.Proofs.Ytncnohompmcddaa
