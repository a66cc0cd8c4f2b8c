import Derived.Test.YtedampaecopkhaaFnB
namespace Go.Proofs.Ytedampaecopkhaa
open Go Go.RowKit
set_option maxRecDepth 1000000
set_option linter.unusedSimpArgs false
set_option linter.unusedVariables false
set_option maxHeartbeats 1000000
def sc_slices_Index_int_int_L0 : SC := (.seq (.reg [⟨(some 9), none, (.bin false .lss (.t 8) (.t 7))⟩]) (.seq (.cond (.t 9) .skip (.exit 0)) (.seq (.block 1 (.seq (.reg [⟨(some 10), none, (.mov (.t 8))⟩, ⟨(some 5), none, (.mov (.t 10))⟩]) (.seq (.reg [⟨(some 11), none, (.mov (.t 1))⟩, ⟨(some 12), none, (.mov (.t 0))⟩, ⟨(some 13), none, (.mov (.t 5))⟩, ⟨(some 14), none, (.idx 1 (.t 12) (.t 13))⟩, ⟨(some 15), none, (.ld none (.int .i64 0) (.t 14))⟩, ⟨(some 16), none, (.bin false .eql (.t 11) (.t 15))⟩]) (.cond (.t 16) (.seq (.reg [⟨(some 17), none, (.mov (.t 5))⟩, ⟨(some 4), none, (.mov (.t 17))⟩]) .ret) .skip)))) (.reg [⟨(some 18), none, (.bin false .add (.t 8) (.c (.int .i64 1)))⟩, ⟨(some 8), none, (.mov (.t 18))⟩]))))
def sc_slices_Index_int_int : SC := (.seq (.reg [⟨(some 4), none, (.mov (.c (.int .i64 0)))⟩]) (.seq (.seq (.reg [⟨(some 6), none, (.mov (.t 0))⟩, ⟨(some 7), none, (.len (.t 6))⟩, ⟨(some 8), none, (.mov (.c (.int .i64 0)))⟩]) (.block 0 (.loop sc_slices_Index_int_int_L0))) (.seq (.reg [⟨(some 4), none, (.mov (.c (.int .i64 (-1))))⟩]) .ret)))
theorem code_slices_Index_int_int : fnCode Try.prog [] 130 = some (19, sc_slices_Index_int_int, [(4, none)]) := by kernel_rfl
def idxN : List Int → Int → Nat
  | [], _ => 0
  | a :: l, x => if a = x then 0 else idxN l x + 1
/-- The first place of a number, -1 if it is not there. -/
def idxOf (l : List Int) (x : Int) : Int := if x ∈ l then (idxN l x : Nat) else -1
theorem idxN_at : ∀ {l : List Int} {x : Int} {k : Nat}, k < l.length → (∀ j, j < k → at0 l j ≠ x) → at0 l k = x → idxN l x = k := by
  intro l
  induction l with
  | nil => intro x k h; simp at h
  | cons a l ih =>
    intro x k hk h e
    cases k with
    | zero => simp [at0] at e; simp [idxN, e]
    | succ k =>
      have h0 : a ≠ x := by have := h 0 (by omega); simpa [at0] using this
      have := ih (x := x) (k := k) (by simpa using hk) (fun j hj => by have := h (j + 1) (by omega); simpa [at0] using this) (by simpa [at0] using e)
      simp [idxN, h0, this]
theorem idxOf_at {l : List Int} {x : Int} {k : Nat} (hk : k < l.length) (h : ∀ j, j < k → at0 l j ≠ x) (e : at0 l k = x) : idxOf l x = k := by
  have hm : x ∈ l := getD_mem_iff.2 ⟨k, hk, e⟩
  simp [idxOf, hm, idxN_at hk h e]
theorem idxOf_not {l : List Int} {x : Int} (h : ∀ j, j < l.length → at0 l j ≠ x) : idxOf l x = -1 := by
  have hm : x ∉ l := fun hm => by
    obtain ⟨j, h1, h2⟩ := getD_mem_iff.1 hm
    exact h j h1 h2
  simp [idxOf, hm]
theorem idxOf_nn {l : List Int} {x : Int} : 0 ≤ idxOf l x ↔ x ∈ l := by
  unfold idxOf
  split <;> simp_all
def F_Index : List V → Option V := F2 dL dI fun l x => some (.int .i64 (idxOf l x))
theorem fn_Index : FnOk Try.prog 130 F_Index := by
  refine fn_ok code_slices_Index_int_int mixed envNil_ok ?_
  intro args r h hb
  obtain ⟨_, _, l, n, rfl, h1, h2, h4⟩ := F2_inv h
  cases dL_inv h1
  cases dI_inv h2
  cases h4
  have hl := bnd_ints (hb _ (List.mem_cons_self ..))
  refine ⟨by simp, fun w0 U0 L0 N0 => ?_⟩
  simp -implicitDefEqProofs [sc_slices_Index_int_int]
  refine loopI envNil_ok mixed (fun k : Nat => [(8, .int .i64 (k : Int)), (7, .int .i64 l.length), (0, .list 1 (ints l)), (1, .int .i64 n)]) (fun _ => ([], 0)) (fun k => k ≤ l.length ∧ ∀ j, j < k → at0 l j ≠ n) (fun k => l.length - k) 0 (by simp) (SubI.slots rfl (by simp)) ?_
  rintro k ⟨hk, hn⟩
  simp -implicitDefEqProofs [sc_slices_Index_int_int_L0]
  refine ⟨fun h => ⟨h, by omega, fun e => (idxOf_at h hn e.symm).symm, fun e => Again.of (k + 1) ⟨by omega, fun j hj => ?_⟩ (by omega) (SubI.slots rfl (by simp (disch := omega) [wrapI]))⟩, fun h => ?_⟩
  · rcases Nat.lt_succ_iff_lt_or_eq.1 hj with h1 | rfl
    · exact hn j h1
    · exact fun h => e h.symm
  · exact (idxOf_not fun j hj => hn j (by omega)).symm
def sc_slices_Contains_int_int : SC := (.seq (.reg [⟨(some 4), none, (.mov (.c (.bool false)))⟩]) (.seq (.reg [⟨(some 5), none, (.mov (.t 0))⟩, ⟨(some 6), none, (.mov (.t 1))⟩, ⟨(some 7), none, (.call 130 [(.t 5), (.t 6)])⟩, ⟨(some 8), none, (.bin false .geq (.t 7) (.c (.int .i64 0)))⟩, ⟨(some 4), none, (.mov (.t 8))⟩]) .ret))
theorem code_slices_Contains_int_int : fnCode Try.prog [] 120 = some (9, sc_slices_Contains_int_int, [(4, none)]) := by kernel_rfl
def F_Contains : List V → Option V := F2 dL dI fun l x => some (.bool (l.contains x))
theorem fn_Contains : FnOk Try.prog 120 F_Contains := by
  have env := (envNil_ok (P := Try.prog)).add fn_Index
  refine fn_ok code_slices_Contains_int_int mixed env ?_
  intro args r h hb
  obtain ⟨_, _, l, n, rfl, h1, h2, h4⟩ := F2_inv h
  cases dL_inv h1
  cases dI_inv h2
  cases h4
  refine ⟨by simp, fun w0 U0 L0 N0 => ?_⟩
  simp -implicitDefEqProofs [sc_slices_Contains_int_int, F_Index, idxOf_nn]
def sc_i_isRearranged_L0 : SC := (.seq (.reg [⟨(some 15), none, (.bin false .lss (.t 14) (.t 13))⟩]) (.seq (.cond (.t 15) .skip (.exit 0)) (.seq (.block 1 (.seq (.reg [⟨(some 16), none, (.idx 1 (.t 12) (.t 14))⟩, ⟨(some 17), none, (.ld none (.int .i64 0) (.t 16))⟩, ⟨(some 6), none, (.mov (.t 17))⟩]) (.seq (.reg [⟨(some 18), none, (.mov (.t 1))⟩, ⟨(some 19), none, (.mov (.t 6))⟩, ⟨(some 20), none, (.call 120 [(.t 18), (.t 19)])⟩, ⟨(some 21), none, (.un .not (.t 20))⟩]) (.cond (.t 21) (.seq (.reg [⟨(some 4), none, (.mov (.c (.bool false)))⟩]) .ret) .skip)))) (.reg [⟨(some 22), none, (.bin false .add (.t 14) (.c (.int .i64 1)))⟩, ⟨(some 14), none, (.mov (.t 22))⟩]))))
def sc_i_isRearranged : SC := (.seq (.reg [⟨(some 4), none, (.mov (.c (.bool false)))⟩]) (.seq (.seq (.reg [⟨(some 7), none, (.mov (.t 0))⟩, ⟨(some 8), none, (.len (.t 7))⟩, ⟨(some 9), none, (.mov (.t 1))⟩, ⟨(some 10), none, (.len (.t 9))⟩, ⟨(some 11), none, (.bin false .neq (.t 8) (.t 10))⟩]) (.cond (.t 11) (.seq (.reg [⟨(some 4), none, (.mov (.c (.bool false)))⟩]) .ret) .skip)) (.seq (.seq (.reg [⟨(some 12), none, (.mov (.t 0))⟩, ⟨(some 13), none, (.len (.t 12))⟩, ⟨(some 14), none, (.mov (.c (.int .i64 0)))⟩]) (.block 0 (.loop sc_i_isRearranged_L0))) (.seq (.reg [⟨(some 4), none, (.mov (.c (.bool true)))⟩]) .ret))))
theorem code_i_isRearranged : fnCode Try.prog [] 122 = some (23, sc_i_isRearranged, [(4, none)]) := by kernel_rfl
def rearr (items list : List Int) : Bool := decide (items.length = list.length ∧ ∀ x ∈ items, x ∈ list)
def F_i_isRearranged : List V → Option V := F2 dL dL fun a b => some (.bool (rearr a b))
theorem fn_i_isRearranged : FnOk Try.prog 122 F_i_isRearranged := by
  have env := (envNil_ok (P := Try.prog)).add fn_Contains
  refine fn_ok code_i_isRearranged mixed env ?_
  intro args r h hb
  obtain ⟨_, _, a, b, rfl, h1, h2, h4⟩ := F2_inv h
  cases dL_inv h1
  cases dL_inv h2
  cases h4
  have hl := bnd_ints (hb _ (List.mem_cons_self ..))
  refine ⟨by simp, fun w0 U0 L0 N0 => ?_⟩
  by_cases hlen : a.length = b.length
  · generalize hv : rearr a b = v
    simp -implicitDefEqProofs [sc_i_isRearranged, hlen]
    refine loopI env mixed (fun k : Nat => [(14, .int .i64 (k : Int)), (13, .int .i64 a.length), (12, .list 1 (ints a)), (1, .list 1 (ints b))]) (fun _ => ([], 0)) (fun k => k ≤ a.length ∧ ∀ j, j < k → at0 a j ∈ b) (fun k => a.length - k) 0 (by simp) (SubI.slots rfl (by simp [hlen])) ?_
    rintro k ⟨hk, hn⟩
    simp -implicitDefEqProofs [sc_i_isRearranged_L0, F_Contains]
    refine ⟨fun h => ⟨h, by omega, fun e => ?_, fun e => ?_⟩, fun h => ?_⟩
    · refine Again.of (k + 1) ⟨by omega, fun j hj => ?_⟩ (by omega) (SubI.slots rfl (by simp (disch := omega) [wrapI]))
      rcases Nat.lt_succ_iff_lt_or_eq.1 hj with h1 | rfl
      · exact hn j h1
      · exact e
    · rw [← hv]
      simp only [rearr, decide_eq_false_iff_not]
      exact fun hf => e (hf.2 _ (getD_mem' h))
    · rw [← hv]
      simp only [rearr, decide_eq_true_eq]
      refine ⟨hlen, fun x hx => ?_⟩
      obtain ⟨j, h1, h2⟩ := getD_mem_iff.1 hx
      exact h2 ▸ hn j (by omega)
  · simp -implicitDefEqProofs [sc_i_isRearranged, hlen, rearr]
    omega
end Go.Proofs.Ytedampaecopkhaa
