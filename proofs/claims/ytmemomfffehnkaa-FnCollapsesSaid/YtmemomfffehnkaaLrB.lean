import Derived.Test.YtmemomfffehnkaaKW
import Derived.Test.YtmemomfffehnkaaLwF
import Derived.Test.YtmemomfffehnkaaDR
namespace Go.Proofs.Ytmemomfffehnkaa
open Go.ChangeShapes Go.WideShapes Go.ChangeAt Go.RowKit
set_option maxRecDepth 1000000
set_option linter.unusedSimpArgs false
set_option linter.unusedVariables false
section
variable {H : Type} {enc : TypeId × Value → H} {P : Program} {w : World} {base : Nat} {held : Bool} {N : Nm} {U : Nat → Prop}
theorem wf_u8 {n : Int} (h : (Lit.int .u8 n).wf = true) : 0 ≤ n ∧ n < 256 := by
  have h1 : IntKind.u8.min = 0 := rfl
  have h2 : IntKind.u8.max = 255 := rfl
  simp only [Lit.wf, Bool.and_eq_true, decide_eq_true_eq] at h
  omega
theorem rvs_u8s : ∀ (l : List Int), RVs N U w (u8s l) (l.map (Value.int .u8)) [] := by
  intro l
  induction l with
  | nil => exact .nil
  | cons a l ih => exact .cons _ _ _ _ [] [] _ (.int _ _) ih rfl
theorem rd_bytes1 (hU : ∀ b, b < w.heap.size → U b) {t e : TypeId} {fuel : Nat} {cs : List Value} {x : DataW H × List MemPlace} (ht : P.underlying t = some (.slice e)) (he : P.underlying e = some (.int .u8)) (hc : P.cellsOf e = 1)
    (h : DataW.trod enc P w base (fun _ => true) held fuel t cs = some x) : ∃ v l, cs = [v] ∧ v.cells = #[v] ∧ (∀ n ∈ l, 0 ≤ n ∧ n < 256) ∧ RV N U w (.list 1 (u8s l)) v [] := by
  rcases open_ints ht he hc h with ⟨rfl, _⟩ | ⟨a, len, cap, zs, rfl, _, hl, hm, hz, _, hcell, hw⟩
  · exact ⟨_, [], rfl, rfl, by simp, .listE 1 none 0⟩
  · simp only [if_true] at hz
    rcases Nat.eq_zero_or_pos len with rfl | h0
    · exact ⟨_, [], rfl, rfl, by simp, .listE 1 (some a) cap⟩
    · obtain ⟨b, o, sp⟩ := a
      have h1 := hcell 0 (by omega)
      have hs : sp = none := by simpa [Addr.add] using World.cell?_spot h1
      subst hs
      rw [add_plain] at h1
      refine ⟨_, zs.take len, rfl, rfl, fun n hn => wf_u8 (hw n (List.mem_of_mem_take hn)), ?_⟩
      refine .list 1 _ b o len cap ((zs.take len).map (Value.int .u8)) (hU b (cell_lt h1)) (by simp; omega) hl (by omega) (by omega) ?_ (rvs_u8s _)
      intro j c hj
      simp only [List.getElem?_map, Option.map_eq_some_iff] at hj
      obtain ⟨y, hy, rfl⟩ := hj
      have hjl : j < len := by
        have := (List.getElem?_eq_some_iff.1 hy).1
        simp at this
        omega
      have := hcell j (by omega)
      rw [add_plain] at this
      rw [this]
      rw [List.getElem?_take_of_lt hjl] at hy
      simp [List.getD, hy]
theorem rd_bytes (hU : ∀ b, b < w.heap.size → U b) {t e : TypeId} {v : Value} {d : DataW H} {p : List MemPlace} {r : Reach} {b0 : Nat} (ht : P.underlying t = some (.slice e)) (he : P.underlying e = some (.int .u8)) (hc : P.cellsOf e = 1)
    (hval : Value.okWide P w r b0 t v) (h : DataW.Trod enc P w base (fun _ => true) held t v d p) : ∃ l, (∀ n ∈ l, 0 ≤ n ∧ n < 256) ∧ RV N U w (.list 1 (u8s l)) v [] := by
  obtain ⟨a0, len, cap, rfl⟩ := okWide_slice ht hval
  obtain ⟨fuel, hf⟩ := h
  obtain ⟨v', l, h1, h2, h3, h4⟩ := rd_bytes1 (N := N) hU ht he hc hf
  have e : v' = .slice a0 len cap := by
    have : (Value.slice a0 len cap).cells.toList = [Value.slice a0 len cap] := rfl
    rw [this] at h1
    injection h1 with h1 _
    exact h1.symm
  subst e
  exact ⟨l, h3, h4⟩
end
end Go.Proofs.Ytmemomfffehnkaa
