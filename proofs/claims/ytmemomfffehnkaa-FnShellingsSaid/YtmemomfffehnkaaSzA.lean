import Derived.Test.YtmemomfffehnkaaGcB
import Derived.Test.YtmemomfffehnkaaGcA
import Derived.Test.YtmemomfffehnkaaGbE
namespace Go.Proofs.Ytmemomfffehnkaa
open Go Go.RowKit
set_option maxRecDepth 1000000
set_option linter.unusedSimpArgs false
set_option linter.unusedVariables false
set_option maxHeartbeats 1000000
/-- The sets of a family of one size. -/
noncomputable def szS (q : Int → Prop) (z : Int) : List Int := setsOf fun s => q s ∧ sz s = z
theorem szS_congr {p q : Int → Prop} (h : ∀ s, isS s → (p s ↔ q s)) (z : Int) : szS p z = szS q z := setsOf_congr fun s hs => by rw [h s hs]
theorem mem_szS {q : Int → Prop} {z s : Int} : s ∈ szS q z ↔ isS s ∧ q s ∧ sz s = z := mem_setsOf
theorem szS_len (q : Int → Prop) (z : Int) : (szS q z).length ≤ 64 := setsOf_len _
theorem szS_ok (q : Int → Prop) (z : Int) : ∀ r ∈ szS q (z - 1), ∀ s ∈ szS q z, isS r ∧ isS s ∧ sz s = sz r + 1 := fun r hr s hs => by
  obtain ⟨a, _, b⟩ := mem_szS.1 hr
  obtain ⟨c, _, d⟩ := mem_szS.1 hs
  exact ⟨a, c, by omega⟩
theorem szS_fos {n : Int} {l : List Int} (hc : cplx n l) (z : Int) : fosL n l z = szS (faceS l) z := fosL_of hc
theorem szS_by {q : Int → Prop} {m z : Nat} (h : z < m) : atR (bySz q m 64) z = szS q z := bySz_sets h
theorem szS_none {q : Int → Prop} {z : Int} (h : ¬ (0 ≤ z ∧ z ≤ topZ q)) : szS q z = [] := setsOf_nil.2 fun s hs hp => h (by
  have h1 := topZ_ge hs hp.1
  have h2 := sz_nn s
  have h3 := hp.2
  omega)
end Go.Proofs.Ytmemomfffehnkaa
