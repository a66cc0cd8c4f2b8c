/- The program at hand. -/
import Derived.Test.YtedampaecopkhaaAbsU
import Derived.Test.YtedampaecopkhaaProg
namespace Go.Proofs.Ytedampaecopkhaa
open Go Go.RowKit

theorem mixed : Try.prog.follows .mixedOrders = true := by kernel_rfl
theorem envNil_ok {P : Program} : EnvOk P ⟨[], []⟩ := ⟨by simp, by simp⟩
theorem EnvOk.add {P : Program} {p : List (FuncId × (List V → Option V))} {l : List (FuncId × Nat × (List V → List V → Option (V × List V)))} (h : EnvOk P ⟨p, l⟩) {f : FuncId} {F : List V → Option V} (hf : FnOk P f F) : EnvOk P ⟨(f, F) :: p, l⟩ :=
  ⟨by
    intro x hx
    rcases List.mem_cons.1 hx with rfl | hx
    · exact hf
    · exact h.p x hx, h.l⟩
theorem EnvOk.addl {P : Program} {p : List (FuncId × (List V → Option V))} {l : List (FuncId × Nat × (List V → List V → Option (V × List V)))} (h : EnvOk P ⟨p, l⟩) {f : FuncId} {i : Nat} {G : List V → List V → Option (V × List V)} (hf : LendOk P f i G) : EnvOk P ⟨p, (f, i, G) :: l⟩ :=
  ⟨h.p, by
    intro x hx
    rcases List.mem_cons.1 hx with rfl | hx
    · exact hf
    · exact h.l x hx⟩
theorem bnd_ints {l : List Int} (h : bnd 6 (.list 1 (ints l))) : l.length ≤ 9223372036854775807 := by simpa using h.1
theorem bnd_eC {n : Int} {l : List Int} (h : bnd 6 (.agg [.int .i64 n, .list 1 (ints l)])) : l.length ≤ 9223372036854775807 := by
  have := h (.list 1 (ints l)) (by simp)
  simpa using this.1
end Go.Proofs.Ytedampaecopkhaa
