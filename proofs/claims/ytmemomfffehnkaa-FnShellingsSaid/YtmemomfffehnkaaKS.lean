import Derived.Test.YtmemomfffehnkaaIbC
import Derived.Test.YtmemomfffehnkaaKP
namespace Go.Proofs.Ytmemomfffehnkaa
open Go Go.RowKit
set_option maxRecDepth 1000000
set_option linter.unusedSimpArgs false
set_option linter.unusedVariables false
set_option maxHeartbeats 1000000
theorem asc_ext {l : List Int} : ∀ {m : List Int}, l.Pairwise (· < ·) → m.Pairwise (· < ·) → (∀ x, x ∈ l ↔ x ∈ m) → l = m := by
  induction l with
  | nil => intro m _ _ h; cases m with
    | nil => rfl
    | cons b m => exact absurd ((h b).2 (by simp)) (by simp)
  | cons a l ih => intro m hl hm h; cases m with
    | nil => exact absurd ((h a).1 (by simp)) (by simp)
    | cons b m =>
      rw [List.pairwise_cons] at hl hm
      have hab : a = b := by
        rcases List.mem_cons.1 ((h a).1 (by simp)) with e | e
        · exact e
        · rcases List.mem_cons.1 ((h b).2 (by simp)) with e2 | e2
          · exact e2.symm
          · have := hl.1 b e2
            have := hm.1 a e
            omega
      subst hab
      rw [ih hl.2 hm.2]
      intro x
      constructor
      · intro hx
        rcases List.mem_cons.1 ((h x).1 (by simp [hx])) with e | e
        · have := hl.1 x hx; omega
        · exact e
      · intro hx
        rcases List.mem_cons.1 ((h x).2 (by simp [hx])) with e | e
        · have := hm.1 x hx; omega
        · exact e
theorem nd_inj {l : List Int} (h : l.Nodup) {i j : Nat} (hi : i < l.length) (hj : j < l.length) (e : at0 l i = at0 l j) : i = j := by
  rcases Nat.lt_trichotomy i j with h1 | h1 | h1
  · exact absurd e (by rw [at0_eq hi, at0_eq hj]; exact List.pairwise_iff_getElem.1 h i j hi hj h1)
  · exact h1
  · exact absurd e.symm (by rw [at0_eq hi, at0_eq hj]; exact List.pairwise_iff_getElem.1 h j i hj hi h1)
/-- Two neighbours exchanged. -/
def swL (y : List Int) (j : Nat) : List Int := (y.set j (at0 y (j - 1))).set (j - 1) (at0 y j)
@[simp] theorem swL_len (y : List Int) (j : Nat) : (swL y j).length = y.length := by simp [swL]
theorem swL_at {y : List Int} {j : Nat} (hj : j < y.length) (h0 : 0 < j) (k : Nat) : at0 (swL y j) k = if k = j - 1 then at0 y j else if k = j then at0 y (j - 1) else at0 y k := by
  unfold swL
  rw [at0_set, at0_set]
  by_cases e : k = j - 1
  · rw [if_pos ⟨e.symm, by rw [List.length_set]; omega⟩, if_pos e]
  · rw [if_neg fun h => e h.1.symm, if_neg e]
    by_cases e2 : k = j
    · rw [if_pos ⟨e2.symm, by omega⟩, if_pos e2]
    · rw [if_neg fun h => e2 h.1.symm, if_neg e2]
/-- While it is sorted: a list of the same members, its first i numbers in order but for the j-th. -/
structure isI (x y : List Int) (i j : Nat) : Prop where
  l : y.length = x.length
  m : ∀ e, e ∈ y ↔ e ∈ x
  n : ∀ p q, p < y.length → q < y.length → at0 y p = at0 y q → p = q
  o : ∀ p q, p < q → q < i → q ≠ j → at0 y p < at0 y q
theorem isI_swap {x y : List Int} {i j : Nat} (h : isI x y i j) (hi : i ≤ y.length) (hj : j < i) (h0 : 0 < j) (hlt : at0 y j < at0 y (j - 1)) : isI x (swL y j) i (j - 1) := by
  have hjl : j < y.length := by omega
  have hat := swL_at hjl h0
  refine ⟨by rw [swL_len]; exact h.l, fun e => ?_, fun p q hp hq he => ?_, fun p q hpq hqi hqj => ?_⟩
  · rw [← h.m e]
    constructor
    · intro he
      obtain ⟨k, hk, e1⟩ := getD_mem_iff.1 he
      rw [swL_len] at hk
      rw [hat] at e1
      rw [← e1]
      split
      · exact getD_mem' hjl
      · split
        · exact getD_mem' (by omega)
        · exact getD_mem' hk
    · intro he
      obtain ⟨k, hk, e1⟩ := getD_mem_iff.1 he
      rw [← e1]
      by_cases a : k = j
      · have : at0 y k = at0 (swL y j) (j - 1) := by rw [hat, if_pos rfl, a]
        rw [this]
        exact getD_mem' (by rw [swL_len]; omega)
      · by_cases b : k = j - 1
        · have : at0 y k = at0 (swL y j) j := by rw [hat, if_neg (by omega), if_pos rfl, b]
          rw [this]
          exact getD_mem' (by rw [swL_len]; omega)
        · have : at0 y k = at0 (swL y j) k := by rw [hat, if_neg b, if_neg a]
          rw [this]
          exact getD_mem' (by rw [swL_len]; exact hk)
  · rw [swL_len] at hp hq
    rw [hat, hat] at he
    split at he
    · split at he
      · omega
      · split at he
        · have := h.n _ _ hjl (by omega) he; omega
        · have := h.n _ _ hjl hq he; omega
    · split at he
      · split at he
        · have := h.n _ _ (by omega) hjl he; omega
        · split at he
          · omega
          · have := h.n _ _ (by omega) hq he; omega
      · split at he
        · have := h.n _ _ hp hjl he; omega
        · split at he
          · have := h.n _ _ hp (by omega) he; omega
          · exact h.n _ _ hp hq he
  · rw [hat, hat]
    rw [if_neg hqj]
    by_cases b : q = j
    · rw [if_pos b]
      by_cases a : p = j - 1
      · rw [if_pos a]; exact hlt
      · rw [if_neg a, if_neg (by omega)]
        exact h.o p (j - 1) (by omega) (by omega) (by omega)
    · rw [if_neg b]
      by_cases a : p = j - 1
      · rw [if_pos a]
        exact h.o j q (by omega) hqi b
      · rw [if_neg a]
        by_cases c : p = j
        · rw [if_pos c]
          exact h.o (j - 1) q (by omega) hqi b
        · rw [if_neg c]
          exact h.o p q hpq hqi b
theorem isI_done {x y : List Int} {i j : Nat} (h : isI x y i j) (hi : i ≤ y.length) (hj : j < i) (hst : j = 0 ∨ ¬ at0 y j < at0 y (j - 1)) (i2 : Nat) : isI x y i i2 := by
  refine ⟨h.l, h.m, h.n, fun p q hpq hqi _ => ?_⟩
  by_cases e : q = j
  · subst e
    rcases hst with h0 | h0
    · omega
    · have h1 : at0 y (q - 1) < at0 y q := by
        rcases Int.lt_trichotomy (at0 y q) (at0 y (q - 1)) with h2 | h2 | h2
        · exact absurd h2 h0
        · have := h.n _ _ (by omega) (by omega) h2; omega
        · exact h2
      by_cases e2 : p = q - 1
      · rw [e2]; exact h1
      · have := h.o p (q - 1) (by omega) (by omega) (by omega)
        omega
  · exact h.o p q hpq hqi e
theorem isI_next {x y : List Int} {i : Nat} (h : isI x y i i) : isI x y (i + 1) i := ⟨h.l, h.m, h.n, fun p q hpq hqi hqj => h.o p q hpq (by omega) hqj⟩
theorem isI_end {x y : List Int} {i j : Nat} (h : isI x y i j) (hi : i = y.length) (hj : i ≤ j) (hx : allS x) : y = srt x := by
  refine asc_ext (List.pairwise_iff_getElem.2 fun p q hp hq hpq => ?_) (srt_lt x) fun e => by rw [h.m e, srt_mem hx]
  have := h.o p q hpq (by omega) (by omega)
  rwa [at0_eq hp, at0_eq hq] at this
theorem isI_start {x : List Int} (hn : x.Nodup) : isI x x 1 1 := ⟨rfl, fun _ => Iff.rfl, fun p q hp hq e => nd_inj hn hp hq e, fun p q hpq hq => by omega⟩
def sc_cmp_isNaN_int : SC := (.seq (.reg [⟨(some 2), none, (.mov (.c (.bool false)))⟩]) (.seq (.reg [⟨(some 3), none, (.mov (.t 0))⟩, ⟨(some 4), none, (.mov (.t 0))⟩, ⟨(some 5), none, (.bin false .neq (.t 3) (.t 4))⟩, ⟨(some 2), none, (.mov (.t 5))⟩]) .ret))
theorem code_cmp_isNaN_int : fnCode Try.prog [] 260 = some (6, sc_cmp_isNaN_int, [(2, none)]) := by kernel_rfl
noncomputable def F_isNaN : List V → Option V := F1 dI fun _ => some (.bool false)
theorem fn_isNaN : FnOk Try.prog 260 F_isNaN := by
  refine fn_ok code_cmp_isNaN_int mixed envNil_ok ?_
  intro args r h hb
  obtain ⟨_, a, rfl, h1, h4⟩ := F1_inv h
  cases dI_inv h1
  cases h4
  refine ⟨by simp, fun w0 U0 L0 N0 => ?_⟩
  simp -implicitDefEqProofs [sc_cmp_isNaN_int]
def sc_cmp_Less_int : SC := (.seq (.reg [⟨(some 4), none, (.mov (.c (.bool false)))⟩]) (.seq (.reg [⟨(some 5), none, (.mov (.t 0))⟩, ⟨(some 6), none, (.call 260 [(.t 5)])⟩, ⟨(some 7), none, (.mov (.t 6))⟩, ⟨(some 8), (some (7, true)), (.mov (.t 1))⟩, ⟨(some 9), (some (7, true)), (.call 260 [(.t 8)])⟩, ⟨(some 10), (some (7, true)), (.un .not (.t 9))⟩, ⟨(some 11), none, (.pick (.t 7) (.t 10) (.c (.bool false)))⟩, ⟨(some 12), none, (.mov (.t 11))⟩, ⟨(some 13), (some (12, false)), (.mov (.t 0))⟩, ⟨(some 14), (some (12, false)), (.mov (.t 1))⟩, ⟨(some 15), (some (12, false)), (.bin false .lss (.t 13) (.t 14))⟩, ⟨(some 16), none, (.pick (.t 12) (.c (.bool true)) (.t 15))⟩, ⟨(some 4), none, (.mov (.t 16))⟩]) .ret))
theorem code_cmp_Less_int : fnCode Try.prog [] 249 = some (17, sc_cmp_Less_int, [(4, none)]) := by kernel_rfl
noncomputable def F_Less : List V → Option V := F2 dI dI fun a b => some (.bool (decide (a < b)))
theorem fn_Less : FnOk Try.prog 249 F_Less := by
  have env := (envNil_ok (P := Try.prog)).add fn_isNaN
  refine fn_ok code_cmp_Less_int mixed env ?_
  intro args r h hb
  obtain ⟨_, _, a, b, rfl, h1, h2, h4⟩ := F2_inv h
  cases dI_inv h1
  cases dI_inv h2
  cases h4
  refine ⟨by simp, fun w0 U0 L0 N0 => ?_⟩
  simp -implicitDefEqProofs [sc_cmp_Less_int, F_isNaN]
end Go.Proofs.Ytmemomfffehnkaa
namespace Go.Proofs.Ytmemomfffehnkaa
open Go Go.RowKit
set_option maxRecDepth 1000000
set_option linter.unusedSimpArgs false
set_option linter.unusedVariables false
set_option maxHeartbeats 1000000
def sc_slices_insertionSortOrdered_int_L2 : SC := (.seq (.seq (.dreg [⟨⟨(some 16), none, (.mov (.t 7))⟩, false, false⟩, ⟨⟨(some 17), none, (.mov (.t 1))⟩, false, false⟩, ⟨⟨(some 18), none, (.bin false .gtr (.t 16) (.t 17))⟩, false, false⟩, ⟨⟨(some 19), none, (.mov (.t 18))⟩, false, false⟩, ⟨⟨(some 20), (some (19, true)), (.mov (.t 0))⟩, false, false⟩, ⟨⟨(some 21), (some (19, true)), (.mov (.t 7))⟩, false, false⟩, ⟨⟨(some 22), (some (19, true)), (.idx 1 (.t 20) (.t 21))⟩, false, false⟩, ⟨⟨(some 23), (some (19, true)), (.ld none (.int .i64 0) (.t 22))⟩, false, false⟩, ⟨⟨(some 24), (some (19, true)), (.mov (.t 0))⟩, false, false⟩, ⟨⟨(some 25), (some (19, true)), (.mov (.t 7))⟩, false, false⟩, ⟨⟨(some 26), (some (19, true)), (.bin false .sub (.t 25) (.c (.int .i64 1)))⟩, false, false⟩, ⟨⟨(some 27), (some (19, true)), (.idx 1 (.t 24) (.t 26))⟩, false, false⟩, ⟨⟨(some 28), (some (19, true)), (.ld none (.int .i64 0) (.t 27))⟩, false, false⟩, ⟨⟨(some 29), (some (19, true)), (.call 249 [(.t 23), (.t 28)])⟩, false, false⟩, ⟨⟨(some 30), none, (.pick (.t 19) (.t 29) (.c (.bool false)))⟩, false, false⟩]) (.cond (.t 30) .skip (.exit 2))) (.seq (.block 3 (.dreg [⟨⟨(some 33), none, (.mov (.t 0))⟩, false, false⟩, ⟨⟨(some 34), none, (.mov (.t 7))⟩, false, false⟩, ⟨⟨(some 35), none, (.mov (.t 0))⟩, false, true⟩, ⟨⟨(some 36), none, (.mov (.t 7))⟩, false, true⟩, ⟨⟨(some 37), none, (.bin false .sub (.t 36) (.c (.int .i64 1)))⟩, false, true⟩, ⟨⟨(some 38), none, (.mov (.t 0))⟩, false, false⟩, ⟨⟨(some 39), none, (.mov (.t 7))⟩, false, false⟩, ⟨⟨(some 40), none, (.bin false .sub (.t 39) (.c (.int .i64 1)))⟩, false, false⟩, ⟨⟨(some 41), none, (.idx 1 (.t 38) (.t 40))⟩, false, false⟩, ⟨⟨(some 42), none, (.ld none (.int .i64 0) (.t 41))⟩, false, false⟩, ⟨⟨(some 43), none, (.mov (.t 0))⟩, false, false⟩, ⟨⟨(some 44), none, (.mov (.t 7))⟩, false, false⟩, ⟨⟨(some 45), none, (.idx 1 (.t 43) (.t 44))⟩, false, false⟩, ⟨⟨(some 46), none, (.ld none (.int .i64 0) (.t 45))⟩, false, false⟩, ⟨⟨(some 47), none, (.idx 1 (.t 33) (.t 34))⟩, false, false⟩, ⟨⟨none, none, (.st 1 (.t 47) (.t 42))⟩, true, false⟩, ⟨⟨(some 48), none, (.idx 1 (.t 35) (.t 37))⟩, false, false⟩, ⟨⟨none, none, (.st 1 (.t 48) (.t 46))⟩, true, false⟩])) (.reg [⟨(some 31), none, (.mov (.t 7))⟩, ⟨(some 32), none, (.bin false .sub (.t 31) (.c (.int .i64 1)))⟩, ⟨(some 7), none, (.mov (.t 32))⟩])))
def sc_slices_insertionSortOrdered_int_L0 : SC := (.seq (.seq (.reg [⟨(some 10), none, (.mov (.t 6))⟩, ⟨(some 11), none, (.mov (.t 2))⟩, ⟨(some 12), none, (.bin false .lss (.t 10) (.t 11))⟩]) (.cond (.t 12) .skip (.exit 0))) (.seq (.block 1 (.seq (.reg [⟨(some 15), none, (.mov (.t 6))⟩, ⟨(some 7), none, (.mov (.t 15))⟩]) (.block 2 (.loop sc_slices_insertionSortOrdered_int_L2)))) (.reg [⟨(some 13), none, (.mov (.t 6))⟩, ⟨(some 14), none, (.bin false .add (.t 13) (.c (.int .i64 1)))⟩, ⟨(some 6), none, (.mov (.t 14))⟩])))
def sc_slices_insertionSortOrdered_int : SC := (.seq (.reg [⟨(some 8), none, (.mov (.t 1))⟩, ⟨(some 9), none, (.bin false .add (.t 8) (.c (.int .i64 1)))⟩, ⟨(some 6), none, (.mov (.t 9))⟩]) (.block 0 (.loop sc_slices_insertionSortOrdered_int_L0)))
theorem code_slices_insertionSortOrdered_int : fnCode Try.prog [] 243 = some (49, sc_slices_insertionSortOrdered_int, []) := by kernel_rfl
/-- A short list of different sets is put in order. -/
noncomputable def G_ins : List V → List V → Option (V × List V)
  | [.sl 0 1 0 m, .int .i64 a, .int .i64 b], cells => (dInts cells).bind fun x =>
      @ite _ (m = x.length ∧ a = 0 ∧ b = x.length ∧ x.Nodup ∧ allS x ∧ x.length ≤ 12) (Classical.propDecidable _) (some (.tup [], ints (srt x))) none
  | _, _ => none
theorem ln_ins : LendOk Try.prog 243 0 G_ins := by
  have env := (envNil_ok (P := Try.prog)).add fn_Less
  refine fn_lend code_slices_insertionSortOrdered_int mixed env ?_
  intro args cells r cells' hG hb
  unfold G_ins at hG
  split at hG
  case h_2 => simp at hG
  rename_i m a b
  obtain ⟨x, h1, hG1⟩ := Option.bind_eq_some_iff.1 hG
  have hc := dInts_inv h1
  subst hc
  simp only [Option.ite_none_right_eq_some, Option.some.injEq, Prod.mk.injEq] at hG1
  obtain ⟨⟨rfl, rfl, rfl, hn, hS, h12⟩, rfl, rfl⟩ := hG1
  clear hG h1 hb
  refine ⟨by simp, fun w0 U0 L0 N0 => ?_⟩
  have h0 := isI_start hn
  have hend := fun (y : List Int) (i j : Nat) (h : isI x y i j) => isI_end h
  generalize hsr : srt x = sx at *
  have hw11 : IntKind.i64.wrap 1 = 1 := wrapI _ (by omega) (by omega)
  simp -implicitDefEqProofs [sc_slices_insertionSortOrdered_int]
  refine loopI env mixed (fun s : Nat × List Int => [(0, .sl 0 1 0 x.length), (1, .int .i64 0), (2, .int .i64 (x.length : Int)), (6, .int .i64 (s.1 : Int))]) (fun s => ([(0, ints s.2)], 1)) (fun s => 1 ≤ s.1 ∧ isI x s.2 s.1 s.1 ∧ (s.1 ≤ x.length ∨ s.1 = 1)) (fun s => x.length - s.1) (1, x) ⟨by simp, h0, .inr rfl⟩ (SubI.slots (by simp) (by simp [hw11])) ?_
  rintro ⟨i, y⟩ ⟨hi1, hI, hil⟩
  simp only at hi1 hI hil ⊢
  have hyl := hI.l
  by_cases hlt : i < x.length
  rotate_left
  · have e : y = sx := by
      by_cases h1 : i = x.length
      · exact hend y i i hI (by omega) (Nat.le_refl _) hS
      · have hx0 : x.length = 0 := by omega
        have hx : x = [] := List.length_eq_zero_iff.1 hx0
        have hy : y = [] := List.length_eq_zero_iff.1 (by omega)
        rw [← hsr, hy, hx]
        exact (List.length_eq_zero_iff.1 (by have := srt_len (l := ([] : List Int)) (fun x hx => by simp at hx); simpa using this)).symm
    subst e
    simp -implicitDefEqProofs [sc_slices_insertionSortOrdered_int_L0, hlt]
  have hin := isI_next hI
  simp -implicitDefEqProofs [sc_slices_insertionSortOrdered_int_L0, hlt]
  refine loopI env mixed (fun s : Nat × List Int => [(0, .sl 0 1 0 x.length), (1, .int .i64 0), (2, .int .i64 (x.length : Int)), (6, .int .i64 (i : Int)), (7, .int .i64 (s.1 : Int))]) (fun s => ([(0, ints s.2)], 1)) (fun s => s.1 ≤ i ∧ isI x s.2 (i + 1) s.1) (fun s => s.1) (i, y) ⟨Nat.le_refl _, hin⟩ (SubI.slots (by simp) (by simp)) ?_
  rintro ⟨j, z⟩ ⟨hji, hJ⟩
  simp only at hji hJ ⊢
  have hzl := hJ.l
  have done : (j = 0 ∨ ¬ at0 z j < at0 z (j - 1)) → isI x z (i + 1) (i + 1) := fun h => isI_done hJ (by omega) (by omega) h (i + 1)
  by_cases hj0 : 0 < j
  rotate_left
  · have hd := done (.inl (by omega))
    have hj : j = 0 := by omega
    subst hj
    simp -implicitDefEqProofs [sc_slices_insertionSortOrdered_int_L2]
    repeat' (first | omega | apply And.intro)
    exact Again.of (i + 1, z) ⟨by simp only; omega, hd, .inl (by simp only; omega)⟩ (by simp only; omega) (SubI.slots (by simp) (by simp (disch := omega) [wrapI]))
  obtain ⟨q, rfl⟩ : ∃ q, j = q + 1 := ⟨j - 1, by omega⟩
  have hq1 : q + 1 < z.length := by omega
  have hq2 : q < z.length := by omega
  have hqx : q + 1 < x.length := by omega
  have hqx2 : q < x.length := by omega
  have hw : IntKind.i64.wrap (((q + 1 : Nat) : Int) - 1) = (q : Int) := by rw [wrapI _ (by omega) (by omega)]; omega
  have hw' : IntKind.i64.wrap ((q : Int) + 1 - 1) = (q : Int) := by rw [wrapI _ (by omega) (by omega)]; omega
  have hw2 : IntKind.i64.wrap (q : Int) = (q : Int) := wrapI _ (by omega) (by omega)
  have hpos : (0 : Int) < (q : Int) + 1 := by omega
  by_cases hls : at0 z (q + 1) < at0 z q
  rotate_left
  · have hd := done (.inr (by simpa using hls))
    simp -implicitDefEqProofs [sc_slices_insertionSortOrdered_int_L2, freeOk, F_Less, hpos, hw', hw2, hq1, hq2, hqx, hqx2, hls]
    repeat' (first | omega | apply And.intro)
    exact Again.of (i + 1, z) ⟨by simp only; omega, hd, .inl (by simp only; omega)⟩ (by simp only; omega) (SubI.slots (by simp) (by simp (disch := omega) [wrapI]))
  have hsw := isI_swap hJ (by omega) (by omega) (by omega) (by simpa using hls)
  have hse : swL z (q + 1) = (z.set (q + 1) (at0 z q)).set q (at0 z (q + 1)) := rfl
  rw [hse] at hsw
  simp only [Nat.add_sub_cancel] at hsw
  simp -implicitDefEqProofs [sc_slices_insertionSortOrdered_int_L2, freeOk, F_Less, hpos, hw', hw2, hq1, hq2, hqx, hqx2, hls]
  repeat' (first | omega | apply And.intro)
  exact Again.of (q, (z.set (q + 1) (at0 z q)).set q (at0 z (q + 1))) ⟨by simp only; omega, hsw⟩ (by simp only; omega) (SubI.slots (by simp) (by simp (disch := omega) [wrapI]))
end Go.Proofs.Ytmemomfffehnkaa
namespace Go.Proofs.Ytmemomfffehnkaa
open Go Go.RowKit
set_option maxRecDepth 1000000
set_option linter.unusedSimpArgs false
set_option linter.unusedVariables false
set_option maxHeartbeats 1000000
def len8S : ByteArray := ⟨⟨[0, 1, 2, 2, 3, 3, 3, 3, 4, 4, 4, 4, 4, 4, 4, 4, 5, 5, 5, 5, 5, 5, 5, 5, 5, 5, 5, 5, 5, 5, 5, 5, 6, 6, 6, 6, 6, 6, 6, 6, 6, 6, 6, 6, 6, 6, 6, 6, 6, 6, 6, 6, 6, 6, 6, 6, 6, 6, 6, 6, 6, 6, 6, 6, 7, 7, 7, 7, 7, 7, 7, 7, 7, 7, 7, 7, 7, 7, 7, 7, 7, 7, 7, 7, 7, 7, 7, 7, 7, 7, 7, 7, 7, 7, 7, 7, 7, 7, 7, 7, 7, 7, 7, 7, 7, 7, 7, 7, 7, 7, 7, 7, 7, 7, 7, 7, 7, 7, 7, 7, 7, 7, 7, 7, 7, 7, 7, 7, 8, 8, 8, 8, 8, 8, 8, 8, 8, 8, 8, 8, 8, 8, 8, 8, 8, 8, 8, 8, 8, 8, 8, 8, 8, 8, 8, 8, 8, 8, 8, 8, 8, 8, 8, 8, 8, 8, 8, 8, 8, 8, 8, 8, 8, 8, 8, 8, 8, 8, 8, 8, 8, 8, 8, 8, 8, 8, 8, 8, 8, 8, 8, 8, 8, 8, 8, 8, 8, 8, 8, 8, 8, 8, 8, 8, 8, 8, 8, 8, 8, 8, 8, 8, 8, 8, 8, 8, 8, 8, 8, 8, 8, 8, 8, 8, 8, 8, 8, 8, 8, 8, 8, 8, 8, 8, 8, 8, 8, 8, 8, 8, 8, 8, 8, 8, 8, 8, 8, 8, 8, 8, 8, 8, 8, 8, 8, 8]⟩⟩
def sc_math_bits_Len64 : SC := (.seq (.reg [⟨(some 2), none, (.mov (.c (.int .i64 0)))⟩]) (.seq (.seq (.reg [⟨(some 3), none, (.mov (.t 0))⟩, ⟨(some 4), none, (.bin false .geq (.t 3) (.c (.int .u64 4294967296)))⟩]) (.cond (.t 4) (.seq (.reg [⟨(some 5), none, (.mov (.t 0))⟩, ⟨(some 6), none, (.bin false .shr (.t 5) (.c (.int .u64 32)))⟩, ⟨(some 0), none, (.mov (.t 6))⟩]) (.reg [⟨(some 2), none, (.mov (.c (.int .i64 32)))⟩])) .skip)) (.seq (.seq (.reg [⟨(some 7), none, (.mov (.t 0))⟩, ⟨(some 8), none, (.bin false .geq (.t 7) (.c (.int .u64 65536)))⟩]) (.cond (.t 8) (.seq (.reg [⟨(some 9), none, (.mov (.t 0))⟩, ⟨(some 10), none, (.bin false .shr (.t 9) (.c (.int .u64 16)))⟩, ⟨(some 0), none, (.mov (.t 10))⟩]) (.reg [⟨(some 11), none, (.mov (.t 2))⟩, ⟨(some 12), none, (.bin false .add (.t 11) (.c (.int .i64 16)))⟩, ⟨(some 2), none, (.mov (.t 12))⟩])) .skip)) (.seq (.seq (.reg [⟨(some 13), none, (.mov (.t 0))⟩, ⟨(some 14), none, (.bin false .geq (.t 13) (.c (.int .u64 256)))⟩]) (.cond (.t 14) (.seq (.reg [⟨(some 15), none, (.mov (.t 0))⟩, ⟨(some 16), none, (.bin false .shr (.t 15) (.c (.int .u64 8)))⟩, ⟨(some 0), none, (.mov (.t 16))⟩]) (.reg [⟨(some 17), none, (.mov (.t 2))⟩, ⟨(some 18), none, (.bin false .add (.t 17) (.c (.int .i64 8)))⟩, ⟨(some 2), none, (.mov (.t 18))⟩])) .skip)) (.seq (.reg [⟨(some 19), none, (.mov (.t 2))⟩, ⟨(some 20), none, (.mov (.t 0))⟩, ⟨(some 21), none, (.conv .u8 (.t 20))⟩, ⟨(some 22), none, (.ixs (.c (.str len8S)) (.t 21))⟩, ⟨(some 23), none, (.conv .i64 (.t 22))⟩, ⟨(some 24), none, (.bin false .add (.t 19) (.t 23))⟩, ⟨(some 2), none, (.mov (.t 24))⟩]) .ret)))))
theorem code_math_bits_Len64 : fnCode Try.prog [] 253 = some (25, sc_math_bits_Len64, [(2, none)]) := by kernel_rfl
/-- The length in bits of a small number. -/
def lenB (n : Int) : Int := if n < 1 then 0 else if n < 2 then 1 else if n < 4 then 2 else if n < 8 then 3 else 4
noncomputable def F_Len64 : List V → Option V := F1 dU fun n => @ite _ (0 ≤ n ∧ n ≤ 8) (Classical.propDecidable _) (some (.int .i64 (lenB n))) none
theorem q_ixs8 {Γ : Env} {H : List (Nat × List V)} {e : Opd → V} (x i : Opd) : evQ Γ H e (.ixs x i) = match e x, asI (e i) with
    | .str s, some i => some (decide (0 ≤ i) && decide (i < s.size), .int .u8 ((s.data.toList.getD i.toNat 0).toNat : Int))
    | _, _ => none := rfl
theorem fn_Len64 : FnOk Try.prog 253 F_Len64 := by
  refine fn_ok code_math_bits_Len64 mixed envNil_ok ?_
  intro args r h hb
  obtain ⟨_, n, rfl, h1, h4⟩ := F1_inv h
  cases dU_inv h1
  simp only [Option.ite_none_right_eq_some, Option.some.injEq] at h4
  obtain ⟨⟨h0, h8⟩, rfl⟩ := h4
  clear h
  refine ⟨by simp, fun w0 U0 L0 N0 => ?_⟩
  have hn : n = 0 ∨ n = 1 ∨ n = 2 ∨ n = 3 ∨ n = 4 ∨ n = 5 ∨ n = 6 ∨ n = 7 ∨ n = 8 := by omega
  have w0' : IntKind.u8.wrap 0 = 0 := by decide
  have w1 : IntKind.u8.wrap 1 = 1 := by decide
  have w2 : IntKind.u8.wrap 2 = 2 := by decide
  have w3 : IntKind.u8.wrap 3 = 3 := by decide
  have w4 : IntKind.u8.wrap 4 = 4 := by decide
  have w5 : IntKind.u8.wrap 5 = 5 := by decide
  have w6 : IntKind.u8.wrap 6 = 6 := by decide
  have w7 : IntKind.u8.wrap 7 = 7 := by decide
  have w8 : IntKind.u8.wrap 8 = 8 := by decide
  have x0 : IntKind.i64.wrap 0 = 0 := by decide
  have x1 : IntKind.i64.wrap 1 = 1 := by decide
  have x2 : IntKind.i64.wrap 2 = 2 := by decide
  have x3 : IntKind.i64.wrap 3 = 3 := by decide
  have x4 : IntKind.i64.wrap 4 = 4 := by decide
  have hsz : len8S.size = 256 := by decide
  have a0 : len8S.data.toList.getD 0 0 = 0 := rfl
  have b0 : len8S.data.toList[0]?.getD 0 = 0 := rfl
  have c0 : len8S.data[0]?.getD 0 = 0 := rfl
  have a1 : len8S.data.toList.getD 1 0 = 1 := rfl
  have b1 : len8S.data.toList[1]?.getD 0 = 1 := rfl
  have c1 : len8S.data[1]?.getD 0 = 1 := rfl
  have a2 : len8S.data.toList.getD 2 0 = 2 := rfl
  have b2 : len8S.data.toList[2]?.getD 0 = 2 := rfl
  have c2 : len8S.data[2]?.getD 0 = 2 := rfl
  have a3 : len8S.data.toList.getD 3 0 = 2 := rfl
  have b3 : len8S.data.toList[3]?.getD 0 = 2 := rfl
  have c3 : len8S.data[3]?.getD 0 = 2 := rfl
  have a4 : len8S.data.toList.getD 4 0 = 3 := rfl
  have b4 : len8S.data.toList[4]?.getD 0 = 3 := rfl
  have c4 : len8S.data[4]?.getD 0 = 3 := rfl
  have a5 : len8S.data.toList.getD 5 0 = 3 := rfl
  have b5 : len8S.data.toList[5]?.getD 0 = 3 := rfl
  have c5 : len8S.data[5]?.getD 0 = 3 := rfl
  have a6 : len8S.data.toList.getD 6 0 = 3 := rfl
  have b6 : len8S.data.toList[6]?.getD 0 = 3 := rfl
  have c6 : len8S.data[6]?.getD 0 = 3 := rfl
  have a7 : len8S.data.toList.getD 7 0 = 3 := rfl
  have b7 : len8S.data.toList[7]?.getD 0 = 3 := rfl
  have c7 : len8S.data[7]?.getD 0 = 3 := rfl
  have a8 : len8S.data.toList.getD 8 0 = 4 := rfl
  have b8 : len8S.data.toList[8]?.getD 0 = 4 := rfl
  have c8 : len8S.data[8]?.getD 0 = 4 := rfl
  have d0 : ∀ h : 0 < len8S.data.size, len8S.data[0]'h = 0 := fun _ => rfl
  have d1 : ∀ h : 1 < len8S.data.size, len8S.data[1]'h = 1 := fun _ => rfl
  have d2 : ∀ h : 2 < len8S.data.size, len8S.data[2]'h = 2 := fun _ => rfl
  have d3 : ∀ h : 3 < len8S.data.size, len8S.data[3]'h = 2 := fun _ => rfl
  have d4 : ∀ h : 4 < len8S.data.size, len8S.data[4]'h = 3 := fun _ => rfl
  have d5 : ∀ h : 5 < len8S.data.size, len8S.data[5]'h = 3 := fun _ => rfl
  have d6 : ∀ h : 6 < len8S.data.size, len8S.data[6]'h = 3 := fun _ => rfl
  have d7 : ∀ h : 7 < len8S.data.size, len8S.data[7]'h = 3 := fun _ => rfl
  have d8 : ∀ h : 8 < len8S.data.size, len8S.data[8]'h = 4 := fun _ => rfl
  rcases hn with rfl | rfl | rfl | rfl | rfl | rfl | rfl | rfl | rfl <;>
    simp -implicitDefEqProofs [sc_math_bits_Len64, q_ixs8, lenB, w0', w1, w2, w3, w4, w5, w6, w7, w8, x0, x1, x2, x3, x4, hsz, d0, d1, d2, d3, d4, d5, d6, d7, d8, a0, b0, c0, a1, b1, c1, a2, b2, c2, a3, b3, c3, a4, b4, c4, a5, b5, c5, a6, b6, c6, a7, b7, c7, a8, b8, c8]
def sc_math_bits_Len : SC := (.seq (.reg [⟨(some 2), none, (.mov (.c (.int .i64 0)))⟩]) (.seq (.cond (.c (.bool false)) (.seq (.reg [⟨(some 3), none, (.mov (.t 0))⟩, ⟨(some 4), none, (.conv .u32 (.t 3))⟩, ⟨(some 5), none, (.call 252 [(.t 4)])⟩, ⟨(some 2), none, (.mov (.t 5))⟩]) .ret) .skip) (.seq (.reg [⟨(some 6), none, (.mov (.t 0))⟩, ⟨(some 7), none, (.call 253 [(.t 6)])⟩, ⟨(some 2), none, (.mov (.t 7))⟩]) .ret)))
theorem code_math_bits_Len : fnCode Try.prog [] 234 = some (8, sc_math_bits_Len, [(2, none)]) := by kernel_rfl
theorem fn_Len : FnOk Try.prog 234 F_Len64 := by
  have env := (envNil_ok (P := Try.prog)).add fn_Len64
  refine fn_ok code_math_bits_Len mixed env ?_
  intro args r h hb
  obtain ⟨_, n, rfl, h1, h4⟩ := F1_inv h
  cases dU_inv h1
  have hF : F_Len64 [.int .u64 n] = some r := by simpa [F_Len64] using h
  simp only [Option.ite_none_right_eq_some, Option.some.injEq] at h4
  obtain ⟨⟨h0, h8⟩, rfl⟩ := h4
  clear h
  refine ⟨by simp, fun w0 U0 L0 N0 => ?_⟩
  simp -implicitDefEqProofs [sc_math_bits_Len, hF]
end Go.Proofs.Ytmemomfffehnkaa
namespace Go.Proofs.Ytmemomfffehnkaa
open Go Go.RowKit
set_option maxRecDepth 1000000
set_option linter.unusedSimpArgs false
set_option linter.unusedVariables false
set_option maxHeartbeats 1000000
def sc_slices_Clone_int_int : SC := (.seq (.reg [⟨(some 2), none, (.mov (.c .nil))⟩]) (.seq (.seq (.reg [⟨(some 3), none, (.mov (.t 0))⟩, ⟨(some 4), none, (.isn true (.t 3))⟩]) (.cond (.t 4) (.seq (.reg [⟨(some 2), none, (.mov (.c .nil))⟩]) .ret) .skip)) (.seq (.reg [⟨(some 5), none, (.mks 0 1 [] [])⟩, ⟨(some 6), none, (.mov (.t 0))⟩, ⟨(some 7), none, (.app 1 8 (.t 5) (.t 6))⟩, ⟨(some 2), none, (.mov (.t 7))⟩]) .ret)))
theorem code_slices_Clone_int_int : fnCode Try.prog [] 215 = some (8, sc_slices_Clone_int_int, [(2, none)]) := by kernel_rfl
noncomputable def F_Clone : List V → Option V := F1 dL fun l => @ite _ (l.length ≤ 64) (Classical.propDecidable _) (some (.own 1 (ints l))) none
theorem fn_Clone : FnOk Try.prog 215 F_Clone := by
  refine fn_ok code_slices_Clone_int_int mixed envNil_ok ?_
  intro args r h hb
  obtain ⟨_, l, rfl, h1, h4⟩ := F1_inv h
  cases dL_inv h1
  simp only [Option.ite_none_right_eq_some, Option.some.injEq] at h4
  obtain ⟨hl, rfl⟩ := h4
  clear h
  refine ⟨by simp, fun w0 U0 L0 N0 => ?_⟩
  cases l with
  | nil =>
    have ho : ∀ s, opn 6 V.ub s = (V.ub, s) := fun _ => rfl
    simp -implicitDefEqProofs [sc_slices_Clone_int_int, ho]
  | cons a l =>
    simp only [List.length_cons] at hl
    simp -implicitDefEqProofs [sc_slices_Clone_int_int]
    try omega
end Go.Proofs.Ytmemomfffehnkaa
namespace Go.Proofs.Ytmemomfffehnkaa
open Go Go.RowKit
set_option maxRecDepth 1000000
set_option linter.unusedSimpArgs false
set_option linter.unusedVariables false
set_option maxHeartbeats 1000000
def sc_slices_pdqsortOrdered_int_L0 : SC := (.block 1 (.seq (.reg [⟨(some 19), none, (.mov (.t 2))⟩, ⟨(some 20), none, (.mov (.t 1))⟩, ⟨(some 21), none, (.bin false .sub (.t 19) (.t 20))⟩, ⟨(some 10), none, (.mov (.t 21))⟩]) (.seq (.seq (.reg [⟨(some 22), none, (.mov (.t 10))⟩, ⟨(some 23), none, (.bin false .leq (.t 22) (.c (.int .i64 12)))⟩]) (.cond (.t 23) (.seq (.reg [⟨(some 24), none, (.mov (.t 0))⟩, ⟨(some 25), none, (.mov (.t 1))⟩, ⟨(some 26), none, (.mov (.t 2))⟩, ⟨(some 27), none, (.call 243 [(.t 24), (.t 25), (.t 26)])⟩]) .ret) .skip)) (.seq (.seq (.reg [⟨(some 28), none, (.mov (.t 3))⟩, ⟨(some 29), none, (.bin false .eql (.t 28) (.c (.int .i64 0)))⟩]) (.cond (.t 29) (.seq (.reg [⟨(some 30), none, (.mov (.t 0))⟩, ⟨(some 31), none, (.mov (.t 1))⟩, ⟨(some 32), none, (.mov (.t 2))⟩, ⟨(some 33), none, (.call 244 [(.t 30), (.t 31), (.t 32)])⟩]) .ret) .skip)) (.seq (.seq (.reg [⟨(some 34), none, (.mov (.t 8))⟩, ⟨(some 35), none, (.un .not (.t 34))⟩]) (.cond (.t 35) (.seq (.reg [⟨(some 36), none, (.mov (.t 0))⟩, ⟨(some 37), none, (.mov (.t 1))⟩, ⟨(some 38), none, (.mov (.t 2))⟩, ⟨(some 39), none, (.call 245 [(.t 36), (.t 37), (.t 38)])⟩]) (.reg [⟨(some 40), none, (.mov (.t 3))⟩, ⟨(some 41), none, (.bin false .sub (.t 40) (.c (.int .i64 1)))⟩, ⟨(some 3), none, (.mov (.t 41))⟩])) .skip)) (.seq (.reg [⟨(some 43), none, (.mov (.t 0))⟩, ⟨(some 44), none, (.mov (.t 1))⟩, ⟨(some 45), none, (.mov (.t 2))⟩, ⟨(some 46), none, (.call 246 [(.t 43), (.t 44), (.t 45)])⟩, ⟨(some 42), none, (.mov (.t 46))⟩, ⟨(some 47), none, (.ext 0 (.t 42))⟩, ⟨(some 48), none, (.ext 1 (.t 42))⟩, ⟨(some 11), none, (.mov (.t 47))⟩, ⟨(some 12), none, (.mov (.t 48))⟩]) (.seq (.seq (.reg [⟨(some 49), none, (.mov (.t 12))⟩, ⟨(some 50), none, (.bin false .eql (.t 49) (.c (.int .i64 2)))⟩]) (.cond (.t 50) (.seq (.reg [⟨(some 51), none, (.mov (.t 0))⟩, ⟨(some 52), none, (.mov (.t 1))⟩, ⟨(some 53), none, (.mov (.t 2))⟩, ⟨(some 54), none, (.call 247 [(.t 51), (.t 52), (.t 53)])⟩]) (.seq (.reg [⟨(some 55), none, (.mov (.t 2))⟩, ⟨(some 56), none, (.bin false .sub (.t 55) (.c (.int .i64 1)))⟩, ⟨(some 57), none, (.mov (.t 11))⟩, ⟨(some 58), none, (.mov (.t 1))⟩, ⟨(some 59), none, (.bin false .sub (.t 57) (.t 58))⟩, ⟨(some 60), none, (.bin false .sub (.t 56) (.t 59))⟩, ⟨(some 11), none, (.mov (.t 60))⟩]) (.reg [⟨(some 12), none, (.mov (.c (.int .i64 1)))⟩]))) .skip)) (.seq (.seq (.reg [⟨(some 61), none, (.mov (.t 8))⟩, ⟨(some 62), none, (.mov (.t 61))⟩, ⟨(some 63), (some (62, true)), (.mov (.t 9))⟩, ⟨(some 64), none, (.pick (.t 62) (.t 63) (.c (.bool false)))⟩, ⟨(some 65), none, (.mov (.t 64))⟩, ⟨(some 66), (some (65, true)), (.mov (.t 12))⟩, ⟨(some 67), (some (65, true)), (.bin false .eql (.t 66) (.c (.int .i64 1)))⟩, ⟨(some 68), none, (.pick (.t 65) (.t 67) (.c (.bool false)))⟩]) (.cond (.t 68) (.seq (.reg [⟨(some 69), none, (.mov (.t 0))⟩, ⟨(some 70), none, (.mov (.t 1))⟩, ⟨(some 71), none, (.mov (.t 2))⟩, ⟨(some 72), none, (.call 248 [(.t 69), (.t 70), (.t 71)])⟩]) (.cond (.t 72) .ret .skip)) .skip)) (.seq (.seq (.dreg [⟨⟨(some 73), none, (.mov (.t 1))⟩, false, false⟩, ⟨⟨(some 74), none, (.bin false .gtr (.t 73) (.c (.int .i64 0)))⟩, false, false⟩, ⟨⟨(some 75), none, (.mov (.t 74))⟩, false, false⟩, ⟨⟨(some 76), (some (75, true)), (.mov (.t 0))⟩, false, false⟩, ⟨⟨(some 77), (some (75, true)), (.mov (.t 1))⟩, false, false⟩, ⟨⟨(some 78), (some (75, true)), (.bin false .sub (.t 77) (.c (.int .i64 1)))⟩, false, false⟩, ⟨⟨(some 79), (some (75, true)), (.idx 1 (.t 76) (.t 78))⟩, false, false⟩, ⟨⟨(some 80), (some (75, true)), (.ld none (.int .i64 0) (.t 79))⟩, false, false⟩, ⟨⟨(some 81), (some (75, true)), (.mov (.t 0))⟩, false, false⟩, ⟨⟨(some 82), (some (75, true)), (.mov (.t 11))⟩, false, false⟩, ⟨⟨(some 83), (some (75, true)), (.idx 1 (.t 81) (.t 82))⟩, false, false⟩, ⟨⟨(some 84), (some (75, true)), (.ld none (.int .i64 0) (.t 83))⟩, false, false⟩, ⟨⟨(some 85), (some (75, true)), (.call 249 [(.t 80), (.t 84)])⟩, false, false⟩, ⟨⟨(some 86), (some (75, true)), (.un .not (.t 85))⟩, false, false⟩, ⟨⟨(some 87), none, (.pick (.t 75) (.t 86) (.c (.bool false)))⟩, false, false⟩]) (.cond (.t 87) (.seq (.reg [⟨(some 88), none, (.mov (.t 0))⟩, ⟨(some 89), none, (.mov (.t 1))⟩, ⟨(some 90), none, (.mov (.t 2))⟩, ⟨(some 91), none, (.mov (.t 11))⟩, ⟨(some 92), none, (.call 250 [(.t 88), (.t 89), (.t 90), (.t 91)])⟩, ⟨(some 13), none, (.mov (.t 92))⟩]) (.seq (.reg [⟨(some 93), none, (.mov (.t 13))⟩, ⟨(some 1), none, (.mov (.t 93))⟩]) (.exit 1))) .skip)) (.seq (.reg [⟨(some 95), none, (.mov (.t 0))⟩, ⟨(some 96), none, (.mov (.t 1))⟩, ⟨(some 97), none, (.mov (.t 2))⟩, ⟨(some 98), none, (.mov (.t 11))⟩, ⟨(some 99), none, (.call 251 [(.t 95), (.t 96), (.t 97), (.t 98)])⟩, ⟨(some 94), none, (.mov (.t 99))⟩, ⟨(some 100), none, (.ext 0 (.t 94))⟩, ⟨(some 101), none, (.ext 1 (.t 94))⟩, ⟨(some 14), none, (.mov (.t 100))⟩, ⟨(some 15), none, (.mov (.t 101))⟩]) (.seq (.reg [⟨(some 102), none, (.mov (.t 15))⟩, ⟨(some 9), none, (.mov (.t 102))⟩]) (.seq (.reg [⟨(some 103), none, (.mov (.t 14))⟩, ⟨(some 104), none, (.mov (.t 1))⟩, ⟨(some 105), none, (.bin false .sub (.t 103) (.t 104))⟩, ⟨(some 106), none, (.mov (.t 2))⟩, ⟨(some 107), none, (.mov (.t 14))⟩, ⟨(some 108), none, (.bin false .sub (.t 106) (.t 107))⟩, ⟨(some 16), none, (.mov (.t 105))⟩, ⟨(some 17), none, (.mov (.t 108))⟩]) (.seq (.reg [⟨(some 109), none, (.mov (.t 10))⟩, ⟨(some 110), none, (.bin false .quo (.t 109) (.c (.int .i64 8)))⟩, ⟨(some 18), none, (.mov (.t 110))⟩]) (.seq (.reg [⟨(some 111), none, (.mov (.t 16))⟩, ⟨(some 112), none, (.mov (.t 17))⟩, ⟨(some 113), none, (.bin false .lss (.t 111) (.t 112))⟩]) (.cond (.t 113) (.seq (.reg [⟨(some 114), none, (.mov (.t 16))⟩, ⟨(some 115), none, (.mov (.t 18))⟩, ⟨(some 116), none, (.bin false .geq (.t 114) (.t 115))⟩, ⟨(some 8), none, (.mov (.t 116))⟩]) (.seq (.reg [⟨(some 117), none, (.mov (.t 0))⟩, ⟨(some 118), none, (.mov (.t 1))⟩, ⟨(some 119), none, (.mov (.t 14))⟩, ⟨(some 120), none, (.mov (.t 3))⟩, ⟨(some 121), none, (.call 233 [(.t 117), (.t 118), (.t 119), (.t 120)])⟩]) (.reg [⟨(some 122), none, (.mov (.t 14))⟩, ⟨(some 123), none, (.bin false .add (.t 122) (.c (.int .i64 1)))⟩, ⟨(some 1), none, (.mov (.t 123))⟩]))) (.seq (.reg [⟨(some 124), none, (.mov (.t 17))⟩, ⟨(some 125), none, (.mov (.t 18))⟩, ⟨(some 126), none, (.bin false .geq (.t 124) (.t 125))⟩, ⟨(some 8), none, (.mov (.t 126))⟩]) (.seq (.reg [⟨(some 127), none, (.mov (.t 0))⟩, ⟨(some 128), none, (.mov (.t 14))⟩, ⟨(some 129), none, (.bin false .add (.t 128) (.c (.int .i64 1)))⟩, ⟨(some 130), none, (.mov (.t 2))⟩, ⟨(some 131), none, (.mov (.t 3))⟩, ⟨(some 132), none, (.call 233 [(.t 127), (.t 129), (.t 130), (.t 131)])⟩]) (.reg [⟨(some 133), none, (.mov (.t 14))⟩, ⟨(some 2), none, (.mov (.t 133))⟩]))))))))))))))))))
def sc_slices_pdqsortOrdered_int : SC := (.seq (.reg [⟨(some 8), none, (.mov (.c (.bool true)))⟩]) (.seq (.reg [⟨(some 9), none, (.mov (.c (.bool true)))⟩]) (.block 0 (.loop sc_slices_pdqsortOrdered_int_L0))))
theorem code_slices_pdqsortOrdered_int : fnCode Try.prog [243] 233 = some (134, sc_slices_pdqsortOrdered_int, []) := by kernel_rfl
noncomputable def G_pdq : List V → List V → Option (V × List V)
  | [.sl 0 1 0 m, .int .i64 a, .int .i64 b, .int .i64 _], cells => (dInts cells).bind fun x =>
      @ite _ (m = x.length ∧ a = 0 ∧ b = x.length ∧ x.Nodup ∧ allS x ∧ x.length ≤ 12) (Classical.propDecidable _) (some (.tup [], ints (srt x))) none
  | _, _ => none
theorem ln_pdq : LendOk Try.prog 233 0 G_pdq := by
  have env := (envNil_ok (P := Try.prog)).addl ln_ins
  refine fn_lend code_slices_pdqsortOrdered_int mixed env ?_
  intro args cells r cells' hG hb
  unfold G_pdq at hG
  split at hG
  case h_2 => simp at hG
  rename_i m a b lim
  obtain ⟨x, h1, hG1⟩ := Option.bind_eq_some_iff.1 hG
  have hc := dInts_inv h1
  subst hc
  simp only [Option.ite_none_right_eq_some, Option.some.injEq, Prod.mk.injEq] at hG1
  obtain ⟨⟨rfl, rfl, rfl, hn, hS, h12⟩, rfl, rfl⟩ := hG1
  clear hG h1 hb
  refine ⟨by simp, fun w0 U0 L0 N0 => ?_⟩
  have hGi : G_ins [.sl 0 1 0 x.length, .int .i64 0, .int .i64 (x.length : Int)] (ints x) = some (.tup [], ints (srt x)) := by
    simp only [G_ins, dInts_ints, Option.bind_some]
    rw [if_pos ⟨rfl, rfl, rfl, hn, hS, h12⟩]
  generalize srt x = sx at *
  have hw : IntKind.i64.wrap (x.length : Int) = (x.length : Int) := wrapI _ (by omega) (by omega)
  have h12' : (x.length : Int) ≤ 12 := by omega
  simp -implicitDefEqProofs [sc_slices_pdqsortOrdered_int]
  refine loopI env mixed (fun _ : Unit => [(0, .sl 0 1 0 x.length), (1, .int .i64 0), (2, .int .i64 (x.length : Int)), (3, .int .i64 lim)]) (fun _ => ([(0, ints x)], 1)) (fun _ => True) (fun _ => 0) () trivial (SubI.slots (by simp) (by simp)) ?_
  intro _ _
  simp -implicitDefEqProofs [sc_slices_pdqsortOrdered_int_L0, ren0, hw, h12', hGi]
end Go.Proofs.Ytmemomfffehnkaa
namespace Go.Proofs.Ytmemomfffehnkaa
open Go Go.RowKit
set_option maxRecDepth 1000000
set_option linter.unusedSimpArgs false
set_option linter.unusedVariables false
set_option maxHeartbeats 1000000
def sc_slices_Sort_int_int : SC := (.seq (.reg [⟨(some 3), none, (.mov (.t 0))⟩, ⟨(some 4), none, (.len (.t 3))⟩, ⟨(some 2), none, (.mov (.t 4))⟩]) (.reg [⟨(some 5), none, (.mov (.t 0))⟩, ⟨(some 6), none, (.mov (.t 2))⟩, ⟨(some 7), none, (.mov (.t 2))⟩, ⟨(some 8), none, (.conv .u64 (.t 7))⟩, ⟨(some 9), none, (.call 234 [(.t 8)])⟩, ⟨(some 10), none, (.call 233 [(.t 5), (.c (.int .i64 0)), (.t 6), (.t 9)])⟩]))
theorem code_slices_Sort_int_int : fnCode Try.prog [233] 216 = some (11, sc_slices_Sort_int_int, []) := by kernel_rfl
noncomputable def G_Sort : List V → List V → Option (V × List V)
  | [.sl 0 1 0 m], cells => (dInts cells).bind fun x =>
      @ite _ (m = x.length ∧ x.Nodup ∧ allS x ∧ x.length ≤ 8) (Classical.propDecidable _) (some (.tup [], ints (srt x))) none
  | _, _ => none
theorem ln_Sort : LendOk Try.prog 216 0 G_Sort := by
  have env := ((envNil_ok (P := Try.prog)).add fn_Len).addl ln_pdq
  refine fn_lend code_slices_Sort_int_int mixed env ?_
  intro args cells r cells' hG hb
  unfold G_Sort at hG
  split at hG
  case h_2 => simp at hG
  rename_i m
  obtain ⟨x, h1, hG1⟩ := Option.bind_eq_some_iff.1 hG
  have hc := dInts_inv h1
  subst hc
  simp only [Option.ite_none_right_eq_some, Option.some.injEq, Prod.mk.injEq] at hG1
  obtain ⟨⟨rfl, hn, hS, h8⟩, rfl, rfl⟩ := hG1
  clear hG h1 hb
  refine ⟨by simp, fun w0 U0 L0 N0 => ?_⟩
  have hw : IntKind.u64.wrap (x.length : Int) = (x.length : Int) := wrapU _ (by omega) (by omega)
  have hL : F_Len64 [.int .u64 (x.length : Int)] = some (.int .i64 (lenB x.length)) := by
    simp only [F_Len64, F1_mk, dU_int, Option.bind_some]
    rw [if_pos ⟨by omega, by omega⟩]
  have hGi : ∀ k, G_pdq [.sl 0 1 0 x.length, .int .i64 0, .int .i64 (x.length : Int), .int .i64 k] (ints x) = some (.tup [], ints (srt x)) := fun k => by
    simp only [G_pdq, dInts_ints, Option.bind_some]
    rw [if_pos ⟨rfl, rfl, rfl, hn, hS, by omega⟩]
  generalize srt x = sx at *
  generalize lenB x.length = k at *
  simp -implicitDefEqProofs [sc_slices_Sort_int_int, ren0, hw, hL, hGi]
end Go.Proofs.Ytmemomfffehnkaa
