import Derived.Test.YtmemomfffehnkaaChecked
import Derived.Test.YtmemomfffehnkaaRows
import Derived.JoinedOf
/- What the statements ask of the program as a whole, counted once. -/
namespace Go.Proofs.Ytmemomfffehnkaa
open Go Go.Proofs
theorem headP : (Try.checked.prog.mayEnter && (false == Try.checked.prog.liftsFinal) && (Try.checked.prog.make == some Rows.fnDivisionsRow.make)) = true := by kernel_rfl
end Go.Proofs.Ytmemomfffehnkaa
