import Derived.Test.YtmemomfffehnkaaRF
import Derived.Test.YtmemomfffehnkaaRC
import Derived.Test.YtmemomfffehnkaaRD
import Derived.Test.YtmemomfffehnkaaRE
namespace Go.Proofs.Ytmemomfffehnkaa
open Go Go.RowKit
set_option maxRecDepth 1000000
set_option linter.unusedSimpArgs false
set_option linter.unusedVariables false
set_option maxHeartbeats 1000000
/-- All lists that go on from a head with k + 1 exponents of a sum. -/
def monF : Nat → Nat → List Int → List (List Int)
  | 0, left, head => [head ++ [(left : Int)]]
  | k + 1, left, head => (List.range (left + 1)).flatMap fun i => monF k i (head ++ [(left : Int) - (i : Int)])
def monI (k left : Nat) (head : List Int) (i : Nat) : List (List Int) := (List.range i).flatMap fun i => monF k i (head ++ [(left : Int) - (i : Int)])
theorem monI_zero (k left : Nat) (head : List Int) : monI k left head 0 = [] := rfl
theorem monI_succ (k left : Nat) (head : List Int) (i : Nat) : monI k left head (i + 1) = monI k left head i ++ monF k i (head ++ [(left : Int) - (i : Int)]) := by
  simp [monI, List.range_succ]
theorem monI_mono (k left : Nat) (head : List Int) {i j : Nat} (h : i ≤ j) : (monI k left head i).length ≤ (monI k left head j).length := by
  induction j with
  | zero => have : i = 0 := by omega
            subst this; exact Nat.le_refl _
  | succ j ih =>
    by_cases e : i = j + 1
    · rw [e]; exact Nat.le_refl _
    · have := ih (by omega)
      rw [monI_succ, List.length_append]
      omega
def dRw : List V → Option (List (List Int))
  | [] => some []
  | .own 1 c :: r => (dInts c).bind fun l => (dRw r).map (l :: ·)
  | _ => none
@[simp] theorem dRw_rows (m : List (List Int)) : dRw (rowsV m) = some m := by
  induction m with
  | nil => rfl
  | cons a m ih =>
    have e : rowsV (a :: m) = .own 1 (ints a) :: rowsV m := rfl
    simp [e, dRw, ih]
theorem dRw_inv : ∀ {c : List V} {m : List (List Int)}, dRw c = some m → c = rowsV m := by
  intro c
  induction c with
  | nil => intro m h; simp [dRw] at h; subst h; rfl
  | cons v c ih =>
    intro m h
    unfold dRw at h
    split at h
    · simp_all
    · rename_i n r e
      injection e with e1 e2
      subst e1 e2
      obtain ⟨l, h1, h2⟩ := Option.bind_eq_some_iff.1 h
      obtain ⟨q, h3, rfl⟩ := Option.map_eq_some_iff.1 h2
      rw [dInts_inv h1, ih h3]
      rfl
    · simp at h
theorem ints_snoc3 (l : List Int) (x : Int) : ints l ++ [V.int .i64 x] = ints (l ++ [x]) := by simp [ints]
def sc_s_l12Fill_L0 : SC := (.seq (.seq (.reg [⟨(some 25), none, (.mov (.t 9))⟩, ⟨(some 26), none, (.bin false .geq (.t 25) (.c (.int .i64 0)))⟩]) (.cond (.t 26) .skip (.exit 0))) (.seq (.block 1 (.reg [⟨(some 29), none, (.mov (.t 0))⟩, ⟨(some 30), none, (.mov (.t 1))⟩, ⟨(some 31), none, (.mov (.t 9))⟩, ⟨(some 32), none, (.bin false .sub (.t 30) (.t 31))⟩, ⟨(some 33), none, (.mks 0 1 [] [])⟩, ⟨(some 34), none, (.mov (.t 2))⟩, ⟨(some 35), none, (.app 1 8 (.t 33) (.t 34))⟩, ⟨(some 36), none, (.mov (.t 9))⟩, ⟨(some 37), none, (.mks 1 1 [(.int .i64 0)] [(0, (1, (.t 36)))])⟩, ⟨(some 38), none, (.app 1 8 (.t 35) (.t 37))⟩, ⟨(some 39), none, (.mov (.t 3))⟩, ⟨(some 40), none, (.call 171 [(.t 29), (.t 32), (.t 38), (.t 39)])⟩, ⟨(some 3), none, (.mov (.t 40))⟩])) (.reg [⟨(some 27), none, (.mov (.t 9))⟩, ⟨(some 28), none, (.bin false .sub (.t 27) (.c (.int .i64 1)))⟩, ⟨(some 9), none, (.mov (.t 28))⟩])))
def sc_s_l12Fill : SC := (.seq (.reg [⟨(some 8), none, (.mov (.c .nil))⟩]) (.seq (.seq (.reg [⟨(some 10), none, (.mov (.t 2))⟩, ⟨(some 11), none, (.len (.t 10))⟩, ⟨(some 12), none, (.mov (.t 0))⟩, ⟨(some 13), none, (.bin false .sub (.t 12) (.c (.int .i64 1)))⟩, ⟨(some 14), none, (.bin false .eql (.t 11) (.t 13))⟩]) (.cond (.t 14) (.seq (.reg [⟨(some 15), none, (.mov (.t 3))⟩, ⟨(some 16), none, (.mks 0 1 [] [])⟩, ⟨(some 17), none, (.mov (.t 2))⟩, ⟨(some 18), none, (.app 1 8 (.t 16) (.t 17))⟩, ⟨(some 19), none, (.mov (.t 1))⟩, ⟨(some 20), none, (.mks 1 1 [(.int .i64 0)] [(0, (1, (.t 19)))])⟩, ⟨(some 21), none, (.app 1 8 (.t 18) (.t 20))⟩, ⟨(some 22), none, (.mks 1 1 [.nil] [(0, (1, (.t 21)))])⟩, ⟨(some 23), none, (.app 1 24 (.t 15) (.t 22))⟩, ⟨(some 8), none, (.mov (.t 23))⟩]) .ret) .skip)) (.seq (.seq (.reg [⟨(some 24), none, (.mov (.t 1))⟩, ⟨(some 9), none, (.mov (.t 24))⟩]) (.block 0 (.loop sc_s_l12Fill_L0))) (.seq (.reg [⟨(some 41), none, (.mov (.t 3))⟩, ⟨(some 8), none, (.mov (.t 41))⟩]) .ret))))
theorem code_s_l12Fill : fnCode Try.prog [] 171 = some (42, sc_s_l12Fill, [(8, none)]) := by kernel_rfl
noncomputable def T_s_l12Fill (k : Nat) : List V → List V → Option V
  | [.int .i64 n, .int .i64 left, a, .sl 0 1 0 m], cells => (dL a).bind fun head => (dRw cells).bind fun M =>
      @ite _ (1 ≤ n ∧ n ≤ 6 ∧ 0 ≤ left ∧ left ≤ 5 ∧ (head.length : Int) + 1 ≤ n ∧ n < (head.length : Int) + 1 + (k : Int) ∧ M.length = m ∧ M.length + (monF (n - 1 - (head.length : Int)).toNat left.toNat head).length ≤ 1000000) (Classical.propDecidable _)
        (some (.own 1 (rowsV (M ++ monF (n - 1 - (head.length : Int)).toNat left.toNat head)))) none
  | _, _ => none
theorem T_s_l12Fill_at {k n left : Nat} {head : List Int} {M : List (List Int)} (hn : 1 ≤ n ∧ n ≤ 6) (hl : left ≤ 5) {j : Nat} (hj : n = head.length + 1 + j) (hk : j < k) (hM : M.length + (monF j left head).length ≤ 1000000) :
    T_s_l12Fill k [.int .i64 (n : Int), .int .i64 (left : Int), .list 1 (ints head), .sl 0 1 0 M.length] (rowsV M) = some (.own 1 (rowsV (M ++ monF j left head))) := by
  have e : ((n : Int) - 1 - (head.length : Int)).toNat = j := by omega
  simp only [T_s_l12Fill, dL_list, dRw_rows, Option.bind_some, e, Int.toNat_natCast]
  exact if_pos ⟨by omega, by omega, by omega, by omega, by omega, by omega, trivial, hM⟩
set_option maxHeartbeats 4000000
theorem tk_s_l12Fill (k : Nat) : TakeOk Try.prog 171 3 (T_s_l12Fill k) := by
  induction k with
  | zero =>
    refine ⟨callable_of code_s_l12Fill, fun args cells r hG => ?_⟩
    unfold T_s_l12Fill at hG
    split at hG
    · obtain ⟨F, _, hG⟩ := Option.bind_eq_some_iff.1 hG
      obtain ⟨M, _, hG⟩ := Option.bind_eq_some_iff.1 hG
      simp only [Option.ite_none_right_eq_some] at hG
      exact absurd hG.1 (by omega)
    · simp at hG
  | succ k ih =>
  have env := (envNil_ok (P := Try.prog)).addt ih
  refine fn_take code_s_l12Fill mixed env ?_
  intro args cells r hG hb
  unfold T_s_l12Fill at hG
  split at hG
  case h_2 => simp at hG
  rename_i n left a m
  obtain ⟨head, h1, hG1⟩ := Option.bind_eq_some_iff.1 hG
  obtain ⟨M, h3, hG2⟩ := Option.bind_eq_some_iff.1 hG1
  clear hG hG1
  have hc := dRw_inv h3
  cases dL_inv h1
  subst hc
  simp only [Option.ite_none_right_eq_some, Option.some.injEq] at hG2
  obtain ⟨⟨n1, n6, l0, l5, hh, hk, rfl, hM⟩, rfl⟩ := hG2
  clear h1 h3 hb
  obtain ⟨n, rfl⟩ : ∃ q : Nat, n = q := ⟨n.toNat, by omega⟩
  obtain ⟨left, rfl⟩ : ∃ q : Nat, left = q := ⟨left.toNat, by omega⟩
  rw [Int.toNat_natCast] at hM ⊢
  obtain ⟨j, hj⟩ : ∃ j : Nat, n = head.length + 1 + j := ⟨n - 1 - head.length, by omega⟩
  have ej : ((n : Int) - 1 - (head.length : Int)).toNat = j := by omega
  rw [ej] at hM ⊢
  have hhl : head.length ≤ 5 := by omega
  refine ⟨by simp, by simp [nonm], fun w0 U0 L0 N0 => ?_⟩
  have wn : IntKind.i64.wrap ((n : Int) - 1) = (n : Int) - 1 := wrapI _ (by omega) (by omega)
  cases j with
  | zero =>
    have e1 : (head.length : Int) = (n : Int) - 1 := by omega
    have eM : monF 0 left head = [head ++ [(left : Int)]] := rfl
    rw [eM] at hM ⊢
    simp only [List.length_singleton] at hM
    have b1 : head.length * 8 ≤ 140737488355328 := by omega
    have b2 : (head.length + 1) * 8 ≤ 140737488355328 := by omega
    have b3 : (M.length + 1) * 24 ≤ 140737488355328 := by omega
    have hw : IntKind.i64.wrap (head.length : Int) = (head.length : Int) := wrapI _ (by omega) (by omega)
    simp -implicitDefEqProofs [sc_s_l12Fill, wn, ← e1, b1, b2, b3, V.cell, hw]
    refine CutI.of (l' := [(8, .sl 6 1 0 (M.length + 1))]) (s' := ([(6, rowsV (M ++ [head ++ [(left : Int)]])), (5, [.sl 4 1 0 (head.length + 1)]), (3, [.int .i64 (left : Int)])], 7)) ?_ ?_
    · refine SubI.fold 6 4 M.length 1 (head.length + 1) (cn := ints head ++ [V.int .i64 (left : Int)]) (co := rowsV M ++ [.sl 4 1 0 (head.length + 1)]) (by simp [hget]) (by simp [hget, hdel]) (by simp) (by simp) ?_
      refine SubI.slots ?_ (by simp)
      rw [ints_snoc3]
      simp [hdel, hset, rowsV]
    · have htk : (M ++ [head ++ [(left : Int)]]).take (M.length + 1) = M ++ [head ++ [(left : Int)]] := List.take_of_length_le (by simp)
      simp -implicitDefEqProofs [htk]
  | succ j =>
    have hne : ¬ ((head.length : Int) = (n : Int) - 1) := by omega
    have eM : monF (j + 1) left head = monI j left head (left + 1) := rfl
    rw [eM] at hM ⊢
    have hI0 := monI_zero j left head
    have hIs := monI_succ j left head
    have hIm := fun i h => monI_mono (i := i) j left head (j := left + 1) h
    have hTk := fun (i : Nat) (hi : i ≤ left) (M' : List (List Int)) (h : M'.length + (monF j i (head ++ [(left : Int) - (i : Int)])).length ≤ 1000000) =>
      T_s_l12Fill_at (k := k) (n := n) (left := i) (head := head ++ [(left : Int) - (i : Int)]) (M := M') ⟨by omega, by omega⟩ (by omega) (j := j) (by simp; omega) (by omega) h
    generalize monI j left head = g at *
    simp -implicitDefEqProofs [sc_s_l12Fill, wn, hne]
    refine loopI env mixed (fun p : Nat × Int => [(0, .int .i64 (n : Int)), (1, .int .i64 (left : Int)), (2, .list 1 (ints head)), (3, .sl (if p.1 = 0 then 0 else 1) 1 0 (M ++ g p.1).length), (9, .int .i64 p.2)])
      (fun p => ([(if p.1 = 0 then 0 else 1, rowsV (M ++ g p.1))], if p.1 = 0 then 1 else 2)) (fun p => p.1 ≤ left + 1 ∧ p.2 = (left : Int) - (p.1 : Int)) (fun p => left + 1 - p.1) (0, (left : Int)) (by simp) (SubI.slots (by simp [hI0]) (by simp [hI0])) ?_
    rintro ⟨i, x⟩ ⟨hi, hx⟩
    simp only at hi hx
    by_cases hlt : i ≤ left
    · have hge : (0 : Int) ≤ x := by omega
      have hT := hTk i hlt (M ++ g i) (by have := hIm (i + 1) (by omega); rw [hIs] at this; simp only [List.length_append] at this hM ⊢; omega)
      have hIs' := hIs i
      rw [← hx] at hT hIs'
      have wx : IntKind.i64.wrap ((left : Int) - x) = (i : Int) := by rw [wrapI _ (by omega) (by omega)]; omega
      have wx1 : IntKind.i64.wrap (x - 1) = x - 1 := wrapI _ (by omega) (by omega)
      have b1 : head.length * 8 ≤ 140737488355328 := by omega
      have b2 : (head.length + 1) * 8 ≤ 140737488355328 := by omega
      have hsn : ints head ++ [V.int .i64 x] = ints (head ++ [x]) := ints_snoc3 _ _
      have hgl : (head ++ [x]).take (head.length + 1) = head ++ [x] := List.take_of_length_le (by simp)
      have hl2 : M.length + (g (i + 1)).length = (M ++ g i).length + (monF j i (head ++ [x])).length := by rw [hIs']; simp only [List.length_append]; omega
      have hr2 : rowsV (M ++ g (i + 1)) = rowsV (M ++ g i ++ monF j i (head ++ [x])) := by rw [hIs', List.append_assoc]
      generalize monF j i (head ++ [x]) = Z at *
      generalize hMg : M ++ g i = Mi at *
      cases i with
      | zero =>
        simp only [Int.ofNat_zero, Int.cast_ofNat_Int] at wx hT
        simp -implicitDefEqProofs [sc_s_l12Fill_L0, freeOk, hge, wx, wx1, b1, b2, hsn, hgl, hT, hMg, nolist]
        refine Again.of (1, x - 1) ⟨by simp only; omega, by simp only; omega⟩ (by simp only; omega) (SubI.ren (fun m => if m = 0 then some 0 else if m = 1 then some 5 else none) ?_ ?_ ?_ (by simp) (by simp))
        · simp only [Nat.zero_add] at hl2
          simp [subT, renV, ren1, hl2]
        · simp only [Nat.zero_add] at hr2
          simp [subH, renL, ren1, hr2]
        · intro q hq
          simp only [Nat.one_ne_zero, if_false] at hq
          rw [if_neg (by omega), if_neg (by omega)]
      | succ i =>
        have hne2 : ¬ (i + 1 = 0) := by omega
        have wx2 : IntKind.i64.wrap ((left : Int) - x) = (i : Int) + 1 := by rw [wx]; omega
        have e2 : (((i + 1 : Nat)) : Int) = (i : Int) + 1 := by omega
        rw [e2] at hT
        simp -implicitDefEqProofs [sc_s_l12Fill_L0, freeOk, hge, wx2, wx1, b1, b2, hsn, hgl, hT, hMg, nolist]
        refine Again.of (i + 2, x - 1) ⟨by show i + 2 ≤ left + 1; omega, by show x - 1 = (left : Int) - ((i + 2 : Nat) : Int); omega⟩ (by show left + 1 - (i + 2) < left + 1 - (i + 1); omega) (SubI.ren (fun m => if m = 0 then some 0 else if m = 1 then some 6 else none) ?_ ?_ ?_ (by simp) (by simp))
        · simp only [show i + 1 + 1 = i + 2 from rfl] at hl2
          simp [subT, renV, ren1, hl2]
        · simp only [show i + 1 + 1 = i + 2 from rfl] at hr2
          simp [subH, renL, ren1, hr2]
        · intro q hq
          simp only [show ¬ i + 2 = 0 from by omega, if_false] at hq
          rw [if_neg (by omega), if_neg (by omega)]
    · have e : i = left + 1 := by omega
      subst e
      have hlx : ¬ (0 : Int) ≤ x := by omega
      simp -implicitDefEqProofs [sc_s_l12Fill_L0, freeOk, hlx]
      refine CutI.of (l' := [(8, .sl 1 1 0 (M ++ g (left + 1)).length)]) (s' := ([(1, rowsV (M ++ g (left + 1)))], 2)) (SubI.slots rfl (by simp)) ?_
      have htk : (M ++ g (left + 1)).take (M.length + (g (left + 1)).length) = M ++ g (left + 1) := List.take_of_length_le (by simp)
      simp -implicitDefEqProofs [htk]
end Go.Proofs.Ytmemomfffehnkaa
namespace Go.Proofs.Ytmemomfffehnkaa
open Go Go.RowKit
set_option maxRecDepth 1000000
set_option linter.unusedSimpArgs false
set_option linter.unusedVariables false
set_option maxHeartbeats 1000000
def sc_CloneP : SC := (.seq (.reg [⟨(some 2), none, (.mov (.c .nil))⟩]) (.seq (.seq (.reg [⟨(some 3), none, (.mov (.t 0))⟩, ⟨(some 4), none, (.isn true (.t 3))⟩]) (.cond (.t 4) (.seq (.reg [⟨(some 2), none, (.mov (.c .nil))⟩]) .ret) .skip)) (.seq (.reg [⟨(some 5), none, (.mks 0 1 [] [])⟩, ⟨(some 6), none, (.mov (.t 0))⟩, ⟨(some 7), none, (.app 1 8 (.t 5) (.t 6))⟩, ⟨(some 2), none, (.mov (.t 7))⟩]) .ret)))
theorem code_CloneP : fnCode Try.prog [] 215 = some (8, sc_CloneP, [(2, none)]) := by kernel_rfl
noncomputable def F_CloneP : List V → Option V := F1 dL fun l => @ite _ (l.length ≤ 64) (Classical.propDecidable _) (some (.own 1 (ints l))) none
theorem fn_CloneP : FnOk Try.prog 215 F_CloneP := by
  refine fn_ok code_CloneP mixed envNil_ok ?_
  intro args r h hb
  obtain ⟨_, l, rfl, h1, h4⟩ := F1_inv h
  cases dL_inv h1
  simp only [Option.ite_none_right_eq_some, Option.some.injEq] at h4
  obtain ⟨hl, rfl⟩ := h4
  clear h
  refine ⟨by simp, fun w0 U0 L0 N0 => ?_⟩
  cases l with
  | nil =>
    have ho : ∀ s, opn 6 V.ub s = (V.ub, s) := fun _ => rfl
    simp -implicitDefEqProofs [sc_CloneP, ho]
  | cons a l =>
    simp only [List.length_cons] at hl
    simp -implicitDefEqProofs [sc_CloneP]
    try omega
def sc_i_addMonomials_L0 : SC := (.seq (.seq (.reg [⟨(some 24), none, (.mov (.t 8))⟩, ⟨(some 25), none, (.bin false .geq (.t 24) (.c (.int .i64 0)))⟩]) (.cond (.t 25) .skip (.exit 0))) (.seq (.block 1 (.reg [⟨(some 28), none, (.mov (.t 0))⟩, ⟨(some 29), none, (.mov (.t 1))⟩, ⟨(some 30), none, (.call 215 [(.t 29)])⟩, ⟨(some 31), none, (.mov (.t 8))⟩, ⟨(some 32), none, (.mks 1 1 [(.int .i64 0)] [(0, (1, (.t 31)))])⟩, ⟨(some 33), none, (.app 1 8 (.t 30) (.t 32))⟩, ⟨(some 34), none, (.mov (.t 2))⟩, ⟨(some 35), none, (.bin false .sub (.t 34) (.c (.int .i64 1)))⟩, ⟨(some 36), none, (.mov (.t 3))⟩, ⟨(some 37), none, (.mov (.t 8))⟩, ⟨(some 38), none, (.bin false .sub (.t 36) (.t 37))⟩, ⟨(some 39), none, (.call 163 [(.t 28), (.t 33), (.t 35), (.t 38)])⟩])) (.reg [⟨(some 26), none, (.mov (.t 8))⟩, ⟨(some 27), none, (.bin false .sub (.t 26) (.c (.int .i64 1)))⟩, ⟨(some 8), none, (.mov (.t 27))⟩])))
def sc_i_addMonomials : SC := (.seq (.seq (.reg [⟨(some 9), none, (.mov (.t 2))⟩, ⟨(some 10), none, (.bin false .eql (.t 9) (.c (.int .i64 1)))⟩]) (.cond (.t 10) (.seq (.treg (.fst ⟨(some 11), none, (.mov (.t 0))⟩ true (.fst ⟨(some 12), none, (.mov (.t 0))⟩ true (.fst ⟨(some 13), none, (.nck (.t 12))⟩ true (.fst ⟨(some 15), none, (.mov (.t 1))⟩ true (.fst ⟨(some 17), none, (.mov (.t 3))⟩ true (.alt ⟨(some 14), none, (.ld none .nil (.t 13))⟩ false (.alt ⟨(some 16), none, (.call 215 [(.t 15)])⟩ true (.alt ⟨(some 18), none, (.mks 1 1 [(.int .i64 0)] [(0, (1, (.t 17)))])⟩ true (.alt ⟨(some 19), none, (.app 1 8 (.t 16) (.t 18))⟩ true (.alt ⟨(some 20), none, (.mks 1 1 [.nil] [(0, (1, (.t 19)))])⟩ true (.alt ⟨(some 21), none, (.app 1 24 (.t 14) (.t 20))⟩ true (.fst ⟨(some 22), none, (.nck (.t 11))⟩ false (.alt ⟨none, none, (.st 1 (.t 22) (.t 21))⟩ true .done .stop)) .stop) .stop) .stop) .stop) (.alt ⟨(some 18), none, (.mks 1 1 [(.int .i64 0)] [(0, (1, (.t 17)))])⟩ true (.alt ⟨(some 16), none, (.call 215 [(.t 15)])⟩ true (.alt ⟨(some 19), none, (.app 1 8 (.t 16) (.t 18))⟩ true (.alt ⟨(some 20), none, (.mks 1 1 [.nil] [(0, (1, (.t 19)))])⟩ true (.alt ⟨(some 21), none, (.app 1 24 (.t 14) (.t 20))⟩ true (.fst ⟨(some 22), none, (.nck (.t 11))⟩ false (.alt ⟨none, none, (.st 1 (.t 22) (.t 21))⟩ true .done .stop)) .stop) .stop) .stop) .stop) .stop)) (.alt ⟨(some 16), none, (.call 215 [(.t 15)])⟩ true (.alt ⟨(some 14), none, (.ld none .nil (.t 13))⟩ false (.alt ⟨(some 18), none, (.mks 1 1 [(.int .i64 0)] [(0, (1, (.t 17)))])⟩ true (.alt ⟨(some 19), none, (.app 1 8 (.t 16) (.t 18))⟩ true (.alt ⟨(some 20), none, (.mks 1 1 [.nil] [(0, (1, (.t 19)))])⟩ true (.alt ⟨(some 21), none, (.app 1 24 (.t 14) (.t 20))⟩ true (.fst ⟨(some 22), none, (.nck (.t 11))⟩ false (.alt ⟨none, none, (.st 1 (.t 22) (.t 21))⟩ true .done .stop)) .stop) .stop) .stop) .stop) (.alt ⟨(some 18), none, (.mks 1 1 [(.int .i64 0)] [(0, (1, (.t 17)))])⟩ true (.alt ⟨(some 14), none, (.ld none .nil (.t 13))⟩ false (.alt ⟨(some 19), none, (.app 1 8 (.t 16) (.t 18))⟩ true (.alt ⟨(some 20), none, (.mks 1 1 [.nil] [(0, (1, (.t 19)))])⟩ true (.alt ⟨(some 21), none, (.app 1 24 (.t 14) (.t 20))⟩ true (.fst ⟨(some 22), none, (.nck (.t 11))⟩ false (.alt ⟨none, none, (.st 1 (.t 22) (.t 21))⟩ true .done .stop)) .stop) .stop) .stop) (.alt ⟨(some 19), none, (.app 1 8 (.t 16) (.t 18))⟩ true (.alt ⟨(some 14), none, (.ld none .nil (.t 13))⟩ false (.alt ⟨(some 20), none, (.mks 1 1 [.nil] [(0, (1, (.t 19)))])⟩ true (.alt ⟨(some 21), none, (.app 1 24 (.t 14) (.t 20))⟩ true (.fst ⟨(some 22), none, (.nck (.t 11))⟩ false (.alt ⟨none, none, (.st 1 (.t 22) (.t 21))⟩ true .done .stop)) .stop) .stop) (.alt ⟨(some 20), none, (.mks 1 1 [.nil] [(0, (1, (.t 19)))])⟩ true (.fst ⟨(some 14), none, (.ld none .nil (.t 13))⟩ false (.alt ⟨(some 21), none, (.app 1 24 (.t 14) (.t 20))⟩ true (.fst ⟨(some 22), none, (.nck (.t 11))⟩ false (.alt ⟨none, none, (.st 1 (.t 22) (.t 21))⟩ true .done .stop)) .stop)) .stop)) .stop)) .stop)) (.alt ⟨(some 18), none, (.mks 1 1 [(.int .i64 0)] [(0, (1, (.t 17)))])⟩ true (.alt ⟨(some 14), none, (.ld none .nil (.t 13))⟩ false (.alt ⟨(some 16), none, (.call 215 [(.t 15)])⟩ true (.alt ⟨(some 19), none, (.app 1 8 (.t 16) (.t 18))⟩ true (.alt ⟨(some 20), none, (.mks 1 1 [.nil] [(0, (1, (.t 19)))])⟩ true (.alt ⟨(some 21), none, (.app 1 24 (.t 14) (.t 20))⟩ true (.fst ⟨(some 22), none, (.nck (.t 11))⟩ false (.alt ⟨none, none, (.st 1 (.t 22) (.t 21))⟩ true .done .stop)) .stop) .stop) .stop) .stop) (.alt ⟨(some 16), none, (.call 215 [(.t 15)])⟩ true (.alt ⟨(some 14), none, (.ld none .nil (.t 13))⟩ false (.alt ⟨(some 19), none, (.app 1 8 (.t 16) (.t 18))⟩ true (.alt ⟨(some 20), none, (.mks 1 1 [.nil] [(0, (1, (.t 19)))])⟩ true (.alt ⟨(some 21), none, (.app 1 24 (.t 14) (.t 20))⟩ true (.fst ⟨(some 22), none, (.nck (.t 11))⟩ false (.alt ⟨none, none, (.st 1 (.t 22) (.t 21))⟩ true .done .stop)) .stop) .stop) .stop) (.alt ⟨(some 19), none, (.app 1 8 (.t 16) (.t 18))⟩ true (.alt ⟨(some 14), none, (.ld none .nil (.t 13))⟩ false (.alt ⟨(some 20), none, (.mks 1 1 [.nil] [(0, (1, (.t 19)))])⟩ true (.alt ⟨(some 21), none, (.app 1 24 (.t 14) (.t 20))⟩ true (.fst ⟨(some 22), none, (.nck (.t 11))⟩ false (.alt ⟨none, none, (.st 1 (.t 22) (.t 21))⟩ true .done .stop)) .stop) .stop) (.alt ⟨(some 20), none, (.mks 1 1 [.nil] [(0, (1, (.t 19)))])⟩ true (.fst ⟨(some 14), none, (.ld none .nil (.t 13))⟩ false (.alt ⟨(some 21), none, (.app 1 24 (.t 14) (.t 20))⟩ true (.fst ⟨(some 22), none, (.nck (.t 11))⟩ false (.alt ⟨none, none, (.st 1 (.t 22) (.t 21))⟩ true .done .stop)) .stop)) .stop)) .stop)) .stop)) .stop))))))))) .ret) .skip)) (.seq (.reg [⟨(some 23), none, (.mov (.t 3))⟩, ⟨(some 8), none, (.mov (.t 23))⟩]) (.block 0 (.loop sc_i_addMonomials_L0))))
theorem code_i_addMonomials : fnCode Try.prog [215, 777777] 163 = some (40, sc_i_addMonomials, []) := by kernel_rfl
def cellM : V → Option (List (List Int))
  | .nil => some []
  | .own 1 c => dRw c
  | _ => none
theorem cellM_inv {v : V} {M : List (List Int)} (h : cellM v = some M) : v = .nil ∧ M = [] ∨ v = .own 1 (rowsV M) := by
  unfold cellM at h
  split at h
  · simp only [Option.some.injEq] at h
    exact .inl ⟨rfl, h.symm⟩
  · rw [dRw_inv h]
    exact .inr rfl
  · simp at h
noncomputable def G_i_addMonomials (k : Nat) : List V → List V → Option (V × List V)
  | [.pt 0 0, a, .int .i64 n, .int .i64 d], [c] => (dL a).bind fun start => (cellM c).bind fun M =>
      @ite _ (1 ≤ n ∧ n ≤ 6 ∧ n ≤ (k : Int) ∧ 0 ≤ d ∧ d ≤ 5 ∧ (start.length : Int) + n ≤ 6 ∧ M.length + (monF (n - 1).toNat d.toNat start).length ≤ 1000000) (Classical.propDecidable _)
        (some (.tup [], [.own 1 (rowsV (M ++ monF (n - 1).toNat d.toNat start))])) none
  | _, _ => none
theorem G_i_addMonomials_at {k d : Nat} {start : List Int} {M : List (List Int)} {c : V} (hc : cellM c = some M) (hd : d ≤ 5) {j : Nat} (hj : start.length + (j + 1) ≤ 6) (hk : j + 1 ≤ k) (hM : M.length + (monF j d start).length ≤ 1000000) :
    G_i_addMonomials k [.pt 0 0, .list 1 (ints start), .int .i64 ((j : Int) + 1), .int .i64 (d : Int)] [c] = some (.tup [], [.own 1 (rowsV (M ++ monF j d start))]) := by
  have e : ((j : Int) + 1 - 1).toNat = j := by omega
  simp only [G_i_addMonomials, dL_list, hc, Option.bind_some, e, Int.toNat_natCast]
  exact if_pos ⟨by omega, by omega, by omega, by omega, by omega, by omega, hM⟩
set_option maxHeartbeats 4000000
theorem ln_i_addMonomials (k : Nat) : LendOk Try.prog 163 0 (G_i_addMonomials k) := by
  induction k with
  | zero =>
    refine ⟨callable_of code_i_addMonomials, fun args cells r cells' hG => ?_⟩
    unfold G_i_addMonomials at hG
    split at hG
    · obtain ⟨F, _, hG⟩ := Option.bind_eq_some_iff.1 hG
      obtain ⟨M, _, hG⟩ := Option.bind_eq_some_iff.1 hG
      simp only [Option.ite_none_right_eq_some] at hG
      exact absurd hG.1 (by omega)
    · simp at hG
  | succ k ih =>
  have env := ((envNil_ok (P := Try.prog)).add fn_CloneP).addl ih
  refine fn_lend3 code_i_addMonomials mixed env ?_
  intro args cells r cells' hG hb
  unfold G_i_addMonomials at hG
  split at hG
  case h_2 => simp at hG
  rename_i a n d c
  obtain ⟨start, h1, hG1⟩ := Option.bind_eq_some_iff.1 hG
  obtain ⟨M, h3, hG2⟩ := Option.bind_eq_some_iff.1 hG1
  clear hG hG1
  have hc := cellM_inv h3
  cases dL_inv h1
  simp only [Option.ite_none_right_eq_some, Option.some.injEq, Prod.mk.injEq] at hG2
  obtain ⟨⟨n1, n6, nk, d0, d5, hst, hM⟩, rfl, rfl⟩ := hG2
  clear h1 hb
  obtain ⟨d, rfl⟩ : ∃ q : Nat, d = q := ⟨d.toNat, by omega⟩
  obtain ⟨j, hj⟩ : ∃ j : Nat, n = (j : Int) + 1 := ⟨(n - 1).toNat, by omega⟩
  subst hj
  have ej : ((j : Int) + 1 - 1).toNat = j := by omega
  rw [Int.toNat_natCast, ej] at hM ⊢
  have hsl : start.length ≤ 5 := by omega
  refine ⟨by simp, fun w0 U0 L0 N0 => ?_⟩
  have hC : F_CloneP [.list 1 (ints start)] = some (.own 1 (ints start)) := by
    simp only [F_CloneP, F1_mk, dL_list, Option.bind_some]
    exact if_pos (by omega)
  cases j with
  | zero =>
    have eM : monF 0 d start = [start ++ [(d : Int)]] := rfl
    rw [eM] at hM ⊢
    simp only [List.length_singleton] at hM
    have b2 : (start.length + 1) * 8 ≤ 140737488355328 := by omega
    have b3 : (M.length + 1) * 24 ≤ 140737488355328 := by omega
    refine CutI.of (l' := [(0, .pt 0 0), (1, .list 1 (ints start)), (2, .int .i64 1), (3, .int .i64 (d : Int))]) (s' := ([(1, rowsV M), (0, [.sl 1 1 0 M.length])], 2)) ?_ ?_
    · rcases hc with ⟨rfl, rfl⟩ | rfl
      · refine SubI.nilCell 0 0 1 rfl rfl ?_
        exact SubI.slots rfl (by simp)
      · refine SubI.unfold 0 0 1 rfl rfl (by omega) ?_
        exact SubI.slots (by simp) (by simp)
    simp -implicitDefEqProofs [sc_i_addMonomials, freeOk, hC, b2, b3, V.cell]
    repeat' apply And.intro
    all_goals
      refine CutI.of (l' := []) (s' := ([(0, [.own 1 (rowsV (M ++ [start ++ [(d : Int)]]))])], 7)) ?_ ?_
      · refine SubI.fold 6 4 M.length 1 (start.length + 1) (cn := ints start ++ [V.int .i64 (d : Int)]) (co := rowsV M ++ [.sl 4 1 0 (start.length + 1)]) (by simp [hget]) (by simp [hget, hdel]) (by simp) (by simp) ?_
        have e1 : (rowsV M ++ [V.sl 4 1 0 (start.length + 1)]).set M.length (.own 1 (ints start ++ [V.int .i64 (d : Int)])) = rowsV (M ++ [start ++ [(d : Int)]]) := by
          rw [ints_snoc3]
          simp [rowsV]
        rw [e1]
        refine SubI.fold 0 6 0 1 (M.length + 1) (cn := rowsV (M ++ [start ++ [(d : Int)]])) (co := [.sl 6 1 0 (M.length + 1)]) (by simp [hget, hdel, hset]) (by simp [hget, hdel, hset]) (by simp) (by simp) ?_
        refine SubI.ren (fun m => if m = 0 then some 0 else none) (by simp [subT]) (by simp [subH, hset, hdel, renL, ren1]) (by intro q hq; simp only at hq; rw [if_neg (by omega)]) (by simp) (by simp)
      · simp -implicitDefEqProofs [hget, nonm]
  | succ j =>
    have hne : ¬ ((j : Int) + 1 + 1 = 1) := by omega
    have eM : monF (j + 1) d start = monI j d start (d + 1) := rfl
    rw [eM] at hM ⊢
    have hI0 := monI_zero j d start
    have hIs := monI_succ j d start
    have hIm := fun i h => monI_mono (i := i) j d start (j := d + 1) h
    have hTk := fun (i : Nat) (hi : i ≤ d) (M' : List (List Int)) (c' : V) (hc' : cellM c' = some M') (h : M'.length + (monF j i (start ++ [(d : Int) - (i : Int)])).length ≤ 1000000) =>
      G_i_addMonomials_at (k := k) (d := i) (start := start ++ [(d : Int) - (i : Int)]) (M := M') (c := c') hc' (by omega) (j := j) (by simp; omega) (by omega) h
    generalize monI j d start = g at *
    have wj : IntKind.i64.wrap ((j : Int) + 1) = (j : Int) + 1 := wrapI _ (by omega) (by omega)
    have cI : ∀ i, cellM (if i = 0 then c else .own 1 (rowsV (M ++ g i))) = some (M ++ g i) := by
      intro i
      by_cases h : i = 0
      · subst h; rw [if_pos rfl, hI0, List.append_nil]; exact h3
      · rw [if_neg h]; simp [cellM]
    have nmC : nonm 6 c = true := by rcases hc with ⟨rfl, _⟩ | rfl <;> simp [nonm]
    refine cutI_id ?_
    simp -implicitDefEqProofs [sc_i_addMonomials, freeOk, hne]
    refine loopI env mixed (fun p : Nat × Int => [(0, .pt 0 0), (1, .list 1 (ints start)), (2, .int .i64 ((j : Int) + 1 + 1)), (3, .int .i64 (d : Int)), (8, .int .i64 p.2)])
      (fun p => ([(0, [if p.1 = 0 then c else .own 1 (rowsV (M ++ g p.1))])], 1)) (fun p => p.1 ≤ d + 1 ∧ p.2 = (d : Int) - (p.1 : Int)) (fun p => d + 1 - p.1) (0, (d : Int)) (by simp) (SubI.slots (by simp) (by simp)) ?_
    rintro ⟨i, x⟩ ⟨hi, hx⟩
    simp only at hi hx
    by_cases hlt : i ≤ d
    · have hge : (0 : Int) ≤ x := by omega
      have hT := hTk i hlt (M ++ g i) _ (cI i) (by have := hIm (i + 1) (by omega); rw [hIs] at this; simp only [List.length_append] at this hM ⊢; omega)
      have hIs' := hIs i
      rw [← hx] at hT hIs'
      have wx : IntKind.i64.wrap ((d : Int) - x) = (i : Int) := by rw [wrapI _ (by omega) (by omega)]; omega
      have wx1 : IntKind.i64.wrap (x - 1) = x - 1 := wrapI _ (by omega) (by omega)
      have b2 : (start.length + 1) * 8 ≤ 140737488355328 := by omega
      have hsn : ints start ++ [V.int .i64 x] = ints (start ++ [x]) := ints_snoc3 _ _
      have hgl : (start ++ [x]).take (start.length + 1) = start ++ [x] := List.take_of_length_le (by simp)
      have hr2 : rowsV (M ++ g (i + 1)) = rowsV (M ++ g i ++ monF j i (start ++ [x])) := by rw [hIs', List.append_assoc]
      generalize monF j i (start ++ [x]) = Z at *
      have nmI : nonm 6 (if i = 0 then c else .own 1 (rowsV (M ++ g i))) = true := by
        by_cases h : i = 0
        · rw [if_pos h]; exact nmC
        · rw [if_neg h]; simp [nonm]
      generalize hci : (if i = 0 then c else V.own 1 (rowsV (M ++ g i))) = ci at *
      generalize hMg : M ++ g i = Mi at *
      simp -implicitDefEqProofs [sc_i_addMonomials_L0, freeOk, hge, wx, wx1, b2, hsn, hgl, hT, hC, hci, nmI, ren0, nolist, wj, nonm]
      refine Again.of (i + 1, x - 1) ⟨by show i + 1 ≤ d + 1; omega, by show x - 1 = (d : Int) - ((i + 1 : Nat) : Int); omega⟩ (by show d + 1 - (i + 1) < d + 1 - i; omega) (SubI.ren (fun m => if m = 0 then some 0 else none) (by simp [subT, renV, ren1]) (by simp [subH, renL, ren1, hr2]) (by intro q hq; simp only at hq; rw [if_neg (by omega)]) (by simp) (by simp))
    · have e : i = d + 1 := by omega
      subst e
      have hlx : ¬ (0 : Int) ≤ x := by omega
      simp -implicitDefEqProofs [sc_i_addMonomials_L0, freeOk, hlx]
      refine CutI.of (l' := []) (s' := ([(0, [.own 1 (rowsV (M ++ g (d + 1)))])], 1)) (SubI.slots (by simp) (by simp)) ?_
      simp -implicitDefEqProofs [nonm]
end Go.Proofs.Ytmemomfffehnkaa
namespace Go.Proofs.Ytmemomfffehnkaa
open Go Go.RowKit
set_option maxRecDepth 1000000
set_option linter.unusedSimpArgs false
set_option linter.unusedVariables false
set_option maxHeartbeats 1000000
noncomputable def monV (n d : Int) : List (List Int) := @ite _ (1 ≤ n ∧ n ≤ 6 ∧ 0 ≤ d ∧ d ≤ 5) (Classical.propDecidable _) (monF (n - 1).toNat d.toNat []) []
theorem monF_len : ∀ j : Nat, j < 6 → ∀ d : Nat, d < 6 → decide ((monF j d []).length ≤ 252) = true := by decide +kernel
theorem monV_len (n d : Int) : (monV n d).length ≤ 252 := by
  by_cases h : 1 ≤ n ∧ n ≤ 6 ∧ 0 ≤ d ∧ d ≤ 5
  · have e : monV n d = monF (n - 1).toNat d.toNat [] := if_pos h
    rw [e]
    exact of_decide_eq_true (monF_len _ (by omega) _ (by omega))
  · have e : monV n d = [] := if_neg h
    rw [e]; simp
def sc_s_MonomialsOf : SC := (.seq (.reg [⟨(some 4), none, (.mov (.c .nil))⟩]) (.seq (.seq (.reg [⟨(some 5), none, (.mov (.t 0))⟩, ⟨(some 6), none, (.call 132 [(.t 5), (.c (.int .i64 1)), (.c (.int .i64 6))])⟩, ⟨(some 7), none, (.un .not (.t 6))⟩, ⟨(some 8), none, (.mov (.t 7))⟩, ⟨(some 9), (some (8, false)), (.mov (.t 1))⟩, ⟨(some 10), (some (8, false)), (.call 132 [(.t 9), (.c (.int .i64 0)), (.c (.int .i64 5))])⟩, ⟨(some 11), (some (8, false)), (.un .not (.t 10))⟩, ⟨(some 12), none, (.pick (.t 8) (.c (.bool true)) (.t 11))⟩]) (.cond (.t 12) (.seq (.reg [⟨(some 13), none, (.mks 0 1 [] [])⟩, ⟨(some 4), none, (.mov (.t 13))⟩]) .ret) .skip)) (.seq (.reg [⟨(some 14), none, (.mov (.t 0))⟩, ⟨(some 15), none, (.mov (.t 1))⟩, ⟨(some 16), none, (.mks 0 1 [] [])⟩, ⟨(some 17), none, (.mks 0 1 [] [])⟩, ⟨(some 18), none, (.call 171 [(.t 14), (.t 15), (.t 16), (.t 17)])⟩, ⟨(some 4), none, (.mov (.t 18))⟩]) .ret)))
theorem code_s_MonomialsOf : fnCode Try.prog [] 56 = some (19, sc_s_MonomialsOf, [(4, none)]) := by kernel_rfl
noncomputable def F_s_MonomialsOf : List V → Option V := F2 dI dI fun n d => some (.own 1 (rowsV (monV n d)))
theorem fn_s_MonomialsOf : FnOk Try.prog 56 F_s_MonomialsOf := by
  have env := ((envNil_ok (P := Try.prog)).add fn_s_l1In).addt (tk_s_l12Fill 6)
  refine fn_ok code_s_MonomialsOf mixed env ?_
  intro args r h hb
  obtain ⟨_, _, n, d, rfl, h1, h2, h4⟩ := F2_inv h
  cases dI_inv h1
  cases dI_inv h2
  cases h4
  clear h h1 h2 hb
  refine ⟨by simp, fun w0 U0 L0 N0 => ?_⟩
  by_cases hc : 1 ≤ n ∧ n ≤ 6 ∧ 0 ≤ d ∧ d ≤ 5
  rotate_left
  · have e : monV n d = [] := if_neg hc
    rw [e]
    by_cases a1 : 1 ≤ n ∧ n ≤ 6
    · have a2 : ¬ (0 ≤ d ∧ d ≤ 5) := fun h => hc ⟨a1.1, a1.2, h.1, h.2⟩
      simp -implicitDefEqProofs [sc_s_MonomialsOf, F_s_l1In, a1.1, a1.2]
      intro h1 h2
      exact absurd ⟨h1, h2⟩ a2
    · simp -implicitDefEqProofs [sc_s_MonomialsOf, F_s_l1In]
      intro h1 h2
      exact absurd ⟨h1, h2⟩ a1
  have e : monV n d = monF (n - 1).toNat d.toNat [] := if_pos hc
  have hl := monV_len n d
  rw [e] at hl ⊢
  obtain ⟨n1, n6, d0, d5⟩ := hc
  obtain ⟨m, rfl⟩ : ∃ m : Nat, n = m := ⟨n.toNat, by omega⟩
  obtain ⟨q, rfl⟩ : ∃ q : Nat, d = q := ⟨d.toNat, by omega⟩
  have e1 : ((m : Int) - 1).toNat = m - 1 := by omega
  rw [Int.toNat_natCast, e1] at hl ⊢
  have hT := T_s_l12Fill_at (k := 6) (n := m) (left := q) (head := []) (M := []) ⟨by omega, by omega⟩ (by omega) (j := m - 1) (by simp; omega) (by omega) (by simp; omega)
  simp only [List.nil_append, List.length_nil, ints, List.map_nil, rowsV_nil] at hT
  generalize monF (m - 1) q [] = Z at *
  simp -implicitDefEqProofs [sc_s_MonomialsOf, F_s_l1In, n1, n6, d0, d5, hT, nolist]
end Go.Proofs.Ytmemomfffehnkaa
namespace Go.Proofs.Ytmemomfffehnkaa
open Go Go.RowKit
set_option maxRecDepth 1000000
set_option linter.unusedSimpArgs false
set_option linter.unusedVariables false
set_option maxHeartbeats 1000000
def cwC (n k : Int) : Int := if 0 ≤ k ∧ k ≤ n then cwM n k.toNat else 0
theorem cwV_C (n k : Int) : cwV n k = cwC n k := by
  unfold cwV cwC
  by_cases h : 0 ≤ k ∧ k ≤ n
  · rw [if_pos h, if_pos h]
  · rw [if_neg h, if_neg h]
def pbC (k : Int) (l : List Int) : Nat → Int
  | 0 => 0
  | j + 1 => IntKind.i64.wrap (pbC k l j + cwC (at0 l j + 1) (k - (j : Int) + 1))
theorem pbI_C (k : Int) (l : List Int) : ∀ j, pbI k l j = pbC k l j
  | 0 => rfl
  | j + 1 => by
    show IntKind.i64.wrap (pbI k l j + cwV (at0 l j + 1) (k - (j : Int) + 1)) = _
    rw [pbI_C k l j, cwV_C]
    rfl
theorem pbV_C {m : Int} {k : Nat} (h : 0 ≤ m ∧ m ≤ 1000 ∧ 1 ≤ k ∧ k ≤ 6) : pbV m (k : Int) = pbC (k : Int) (casL k m) (casL k m).length := by
  have e : pbV m (k : Int) = pbI (k : Int) (casL (k : Int).toNat m) (casL (k : Int).toNat m).length := if_pos ⟨h.1, h.2.1, by omega, by omega⟩
  rw [e, pbI_C, Int.toNat_natCast]
def cmC (n d : Nat) : Int := cwM ((n : Int) + (d : Int) - 1) d
theorem cmV_C {n d : Nat} (hn1 : 1 ≤ n) (hn : n ≤ 6) (hd : d ≤ 20) : cmV (n : Int) (d : Int) = cmC n d := by
  have e : cmV (n : Int) (d : Int) = cwV ((n : Int) + (d : Int) - 1) (d : Int) := if_pos (by omega)
  rw [e, cwV_M (by omega)]
  rfl
theorem mon_fact : ∀ j : Nat, j < 6 → ∀ d : Nat, d < 6 → ((monF j d []).all (fun r => r.length == j + 1 && r.sum == (d : Int) && r.all (fun x => decide (0 ≤ x) && decide (x ≤ 64))) && ((monF j d []).length : Int) == cmC (j + 1) d) = true := by decide +kernel
theorem monV_fact {n d : Int} (h : monV n d ≠ []) : (∀ k, k < (monV n d).length → ((atR (monV n d) k).length : Int) = n ∧ (atR (monV n d) k).sum = d ∧ ∀ x ∈ atR (monV n d) k, 0 ≤ x ∧ x ≤ 64) ∧ ((monV n d).length : Int) = cmV n d := by
  by_cases hc : 1 ≤ n ∧ n ≤ 6 ∧ 0 ≤ d ∧ d ≤ 5
  rotate_left
  · exact absurd (if_neg hc) h
  have e : monV n d = monF (n - 1).toNat d.toNat [] := if_pos hc
  obtain ⟨j, hj⟩ : ∃ j : Nat, n = (j : Int) + 1 := ⟨(n - 1).toNat, by omega⟩
  obtain ⟨q, hq⟩ : ∃ q : Nat, d = q := ⟨d.toNat, by omega⟩
  subst hj hq
  have e1 : ((j : Int) + 1 - 1).toNat = j := by omega
  rw [e, e1, Int.toNat_natCast]
  have hf := mon_fact j (by omega) q (by omega)
  simp only [Bool.and_eq_true, List.all_eq_true, beq_iff_eq, decide_eq_true_eq] at hf
  obtain ⟨h1, h2⟩ := hf
  have e3 : cmV ((j : Int) + 1) (q : Int) = cmC (j + 1) q := by
    have := cmV_C (n := j + 1) (d := q) (by omega) (by omega) (by omega)
    rw [← this]; congr 1
  refine ⟨fun k hk => ?_, by rw [h2, e3]⟩
  have hm : atR (monF j q []) k ∈ monF j q [] := by rw [atR_eq hk]; exact List.getElem_mem hk
  obtain ⟨⟨a, b⟩, c⟩ := h1 _ hm
  exact ⟨by rw [a]; omega, b, c⟩
theorem pow_fact : ∀ n : Nat, n < 7 → ∀ d : Nat, d < 5 → (n == 0 || d == 0 || (decide (0 ≤ cmC n d) && decide (cmC n d ≤ 1000) && pbC (d : Int) (casL d (cmC n d)) (casL d (cmC n d)).length == cmC n (d + 1))) = true := by decide +kernel
theorem powV_fact {n d : Int} (h : 1 ≤ d ∧ d ≤ 4 ∧ 1 ≤ n ∧ n ≤ 6) : pbV (cmV n d) d = cmV n (d + 1) := by
  obtain ⟨j, rfl⟩ : ∃ j : Nat, n = j := ⟨n.toNat, by omega⟩
  obtain ⟨q, rfl⟩ : ∃ q : Nat, d = q := ⟨d.toNat, by omega⟩
  have hf := pow_fact j (by omega) q (by omega)
  simp only [Bool.or_eq_true, Bool.and_eq_true, beq_iff_eq, decide_eq_true_eq] at hf
  have hf2 : (0 ≤ cmC j q ∧ cmC j q ≤ 1000) ∧ pbC (q : Int) (casL q (cmC j q)) (casL q (cmC j q)).length = cmC j (q + 1) := by
    rcases hf with (h0 | h0) | h0
    · omega
    · omega
    · exact h0
  have e1 : ((q : Int) + 1) = ((q + 1 : Nat) : Int) := by omega
  rw [cmV_C (by omega) (by omega) (by omega), pbV_C ⟨hf2.1.1, hf2.1.2, by omega, by omega⟩, hf2.2, e1, cmV_C (by omega) (by omega) (by omega)]
end Go.Proofs.Ytmemomfffehnkaa
namespace Go.Proofs.Ytmemomfffehnkaa
open Go Go.RowKit
set_option maxRecDepth 1000000
set_option linter.unusedSimpArgs false
set_option linter.unusedVariables false
set_option maxHeartbeats 1000000
/-- A place of a list is as it must be for counts of monomials. -/
def amcK (l : List Int) (k : Nat) : Prop := (0 ≤ at0 l k ∧ at0 l k ≤ 1000) ∧ (k = 0 → at0 l k = 1) ∧ (2 ≤ k → at0 l k ≤ pbV (at0 l (k - 1)) ((k : Int) - 1))
def amcP (l : List Int) : Prop := 1 ≤ l.length ∧ l.length ≤ 7 ∧ ∀ k, k < l.length → amcK l k
theorem all_succ {P : Nat → Prop} {k : Nat} (h : ∀ i, i < k → P i) (hk : P k) (i : Nat) (hi : i < k + 1) : P i := by
  by_cases e : i = k
  · rw [e]; exact hk
  · exact h i (by omega)
def sc_s_AreMonomialCounts_L0 : SC := (.seq (.seq (.reg [⟨(some 8), none, (.mov (.t 3))⟩, ⟨(some 9), none, (.mov (.t 0))⟩, ⟨(some 10), none, (.len (.t 9))⟩, ⟨(some 11), none, (.bin false .lss (.t 8) (.t 10))⟩]) (.cond (.t 11) .skip (.exit 0))) (.seq (.block 1 (.seq (.dreg [⟨⟨(some 14), none, (.mov (.t 0))⟩, false, false⟩, ⟨⟨(some 15), none, (.mov (.t 3))⟩, false, false⟩, ⟨⟨(some 16), none, (.idx 1 (.t 14) (.t 15))⟩, false, false⟩, ⟨⟨(some 17), none, (.ld none (.int .i64 0) (.t 16))⟩, false, false⟩, ⟨⟨(some 18), none, (.call 132 [(.t 17), (.c (.int .i64 0)), (.c (.int .i64 1000))])⟩, false, false⟩, ⟨⟨(some 19), none, (.un .not (.t 18))⟩, false, false⟩, ⟨⟨(some 20), none, (.mov (.t 19))⟩, false, false⟩, ⟨⟨(some 21), (some (20, false)), (.mov (.t 3))⟩, false, false⟩, ⟨⟨(some 22), (some (20, false)), (.bin false .eql (.t 21) (.c (.int .i64 0)))⟩, false, false⟩, ⟨⟨(some 23), (some (20, false)), (.mov (.t 22))⟩, false, false⟩, ⟨⟨(some 24), (some (23, true)), (.mov (.t 0))⟩, false, false⟩, ⟨⟨(some 25), (some (23, true)), (.mov (.t 3))⟩, false, false⟩, ⟨⟨(some 26), (some (23, true)), (.idx 1 (.t 24) (.t 25))⟩, false, false⟩, ⟨⟨(some 27), (some (23, true)), (.ld none (.int .i64 0) (.t 26))⟩, false, false⟩, ⟨⟨(some 28), (some (23, true)), (.bin false .neq (.t 27) (.c (.int .i64 1)))⟩, false, false⟩, ⟨⟨(some 29), (some (20, false)), (.pick (.t 23) (.t 28) (.c (.bool false)))⟩, false, false⟩, ⟨⟨(some 30), none, (.pick (.t 20) (.c (.bool true)) (.t 29))⟩, false, false⟩, ⟨⟨(some 31), none, (.mov (.t 30))⟩, false, false⟩, ⟨⟨(some 32), (some (31, false)), (.mov (.t 3))⟩, false, false⟩, ⟨⟨(some 33), (some (31, false)), (.bin false .geq (.t 32) (.c (.int .i64 2)))⟩, false, false⟩, ⟨⟨(some 34), (some (31, false)), (.mov (.t 33))⟩, false, false⟩, ⟨⟨(some 35), (some (34, true)), (.mov (.t 0))⟩, false, false⟩, ⟨⟨(some 36), (some (34, true)), (.mov (.t 3))⟩, false, false⟩, ⟨⟨(some 37), (some (34, true)), (.idx 1 (.t 35) (.t 36))⟩, false, false⟩, ⟨⟨(some 38), (some (34, true)), (.ld none (.int .i64 0) (.t 37))⟩, false, false⟩, ⟨⟨(some 39), (some (34, true)), (.mov (.t 0))⟩, false, false⟩, ⟨⟨(some 40), (some (34, true)), (.mov (.t 3))⟩, false, false⟩, ⟨⟨(some 41), (some (34, true)), (.bin false .sub (.t 40) (.c (.int .i64 1)))⟩, false, false⟩, ⟨⟨(some 42), (some (34, true)), (.idx 1 (.t 39) (.t 41))⟩, false, false⟩, ⟨⟨(some 43), (some (34, true)), (.ld none (.int .i64 0) (.t 42))⟩, false, false⟩, ⟨⟨(some 44), (some (34, true)), (.mov (.t 3))⟩, false, false⟩, ⟨⟨(some 45), (some (34, true)), (.bin false .sub (.t 44) (.c (.int .i64 1)))⟩, false, false⟩, ⟨⟨(some 46), (some (34, true)), (.call 52 [(.t 43), (.t 45)])⟩, false, false⟩, ⟨⟨(some 47), (some (34, true)), (.bin false .gtr (.t 38) (.t 46))⟩, false, false⟩, ⟨⟨(some 48), (some (31, false)), (.pick (.t 34) (.t 47) (.c (.bool false)))⟩, false, false⟩, ⟨⟨(some 49), none, (.pick (.t 31) (.c (.bool true)) (.t 48))⟩, false, false⟩]) (.cond (.t 49) (.seq (.reg [⟨(some 2), none, (.mov (.c (.bool false)))⟩]) .ret) .skip))) (.reg [⟨(some 12), none, (.mov (.t 3))⟩, ⟨(some 13), none, (.bin false .add (.t 12) (.c (.int .i64 1)))⟩, ⟨(some 3), none, (.mov (.t 13))⟩])))
def sc_s_AreMonomialCounts : SC := (.seq (.reg [⟨(some 2), none, (.mov (.c (.bool false)))⟩]) (.seq (.seq (.reg [⟨(some 4), none, (.mov (.t 0))⟩, ⟨(some 5), none, (.len (.t 4))⟩, ⟨(some 6), none, (.call 132 [(.t 5), (.c (.int .i64 1)), (.c (.int .i64 7))])⟩, ⟨(some 7), none, (.un .not (.t 6))⟩]) (.cond (.t 7) (.seq (.reg [⟨(some 2), none, (.mov (.c (.bool false)))⟩]) .ret) .skip)) (.seq (.seq (.reg [⟨(some 3), none, (.mov (.c (.int .i64 0)))⟩]) (.block 0 (.loop sc_s_AreMonomialCounts_L0))) (.seq (.reg [⟨(some 2), none, (.mov (.c (.bool true)))⟩]) .ret))))
theorem code_s_AreMonomialCounts : fnCode Try.prog [] 54 = some (50, sc_s_AreMonomialCounts, [(2, none)]) := by kernel_rfl
noncomputable def F_s_AreMonomialCounts : List V → Option V := F1 dL fun l => some (.bool (dec (amcP l)))
theorem fn_s_AreMonomialCounts : FnOk Try.prog 54 F_s_AreMonomialCounts := by
  have env := ((envNil_ok (P := Try.prog)).add fn_s_l1In).add fn_s_PowerBound
  refine fn_ok code_s_AreMonomialCounts mixed env ?_
  intro args r h hb
  obtain ⟨_, l, rfl, h1, h4⟩ := F1_inv h
  cases dL_inv h1
  cases h4
  clear h h1
  have hlen := bnd_ints (hb (.list 1 (ints l)) (by simp))
  refine ⟨by simp, fun w0 U0 L0 N0 => ?_⟩
  clear hb
  by_cases hc : 1 ≤ l.length ∧ l.length ≤ 7
  rotate_left
  · have e : dec (amcP l) = false := dec_false fun h => hc ⟨h.1, h.2.1⟩
    have hIn : F_s_l1In [.int .i64 (l.length : Int), .int .i64 1, .int .i64 7] = some (.bool false) := by
      simp only [F_s_l1In, F3_mk, dI_int, Option.bind_some]
      rw [decide_eq_false (by omega)]
    rw [e]
    simp -implicitDefEqProofs [sc_s_AreMonomialCounts, hIn]
  have hIn : F_s_l1In [.int .i64 (l.length : Int), .int .i64 1, .int .i64 7] = some (.bool true) := by
    simp only [F_s_l1In, F3_mk, dI_int, Option.bind_some]
    rw [decide_eq_true (by omega)]
  simp -implicitDefEqProofs [sc_s_AreMonomialCounts, hIn]
  refine loopI env mixed (fun k : Nat => [(0, .list 1 (ints l)), (3, .int .i64 (k : Int))]) (fun _ => ([], 0)) (fun k => k ≤ l.length ∧ ∀ i, i < k → amcK l i) (fun k => l.length - k) 0 (by simp) (SubI.slots rfl (by simp)) ?_
  rintro k ⟨hk, hall⟩
  by_cases hlt : k < l.length
  · have w4 : IntKind.i64.wrap ((k : Int) + 1) = (k : Int) + 1 := wrapI _ (by omega) (by omega)
    have hfin : ¬ amcK l k → dec (amcP l) = false := fun h => dec_false fun h2 => h (h2.2.2 k hlt)
    by_cases hr : 0 ≤ at0 l k ∧ at0 l k ≤ 1000
    rotate_left
    · have hIn2 : F_s_l1In [.int .i64 (at0 l k), .int .i64 0, .int .i64 1000] = some (.bool false) := by
        simp only [F_s_l1In, F3_mk, dI_int, Option.bind_some]
        rw [decide_eq_false (by omega)]
      have e := hfin fun h => hr h.1
      rw [e]
      simp -implicitDefEqProofs [sc_s_AreMonomialCounts_L0, freeOk, hlt, hIn2]
      try omega
    have hIn2 : F_s_l1In [.int .i64 (at0 l k), .int .i64 0, .int .i64 1000] = some (.bool true) := by
      simp only [F_s_l1In, F3_mk, dI_int, Option.bind_some]
      rw [decide_eq_true (by omega)]
    by_cases hk0 : k = 0
    · subst hk0
      by_cases h1 : at0 l 0 = 1
      · have hK : amcK l 0 := ⟨hr, fun _ => h1, fun h => absurd h (by omega)⟩
        have h2 : ¬ (2 : Int) ≤ 0 := by omega
        rw [h1] at hIn2
        simp -implicitDefEqProofs [sc_s_AreMonomialCounts_L0, freeOk, hlt, hIn2, h1, h2]
        exact Again.of 1 ⟨by omega, all_succ hall hK⟩ (by omega) (SubI.slots rfl (by simp (disch := omega) [wrapI]))
      · have e := hfin fun h => h1 (h.2.1 rfl)
        rw [e]
        simp -implicitDefEqProofs [sc_s_AreMonomialCounts_L0, freeOk, hlt, hIn2, h1]
    · have hk0' : ¬ (k : Int) = 0 := by omega
      by_cases h2 : 2 ≤ k
      · have h2' : (2 : Int) ≤ (k : Int) := by omega
        have hk1 : k - 1 < l.length := by omega
        have e1 : (k : Int) - 1 = ((k - 1 : Nat) : Int) := by omega
        have wk : IntKind.i64.wrap ((k : Int) - 1) = ((k - 1 : Nat) : Int) := by rw [← e1]; exact wrapI _ (by omega) (by omega)
        have hPB : F_s_PowerBound [.int .i64 (at0 l (k - 1)), .int .i64 ((k - 1 : Nat) : Int)] = some (.int .i64 (pbV (at0 l (k - 1)) ((k - 1 : Nat) : Int))) := by
          simp only [F_s_PowerBound, F2_mk, dI_int, Option.bind_some]
        have hKiff : amcK l k ↔ at0 l k ≤ pbV (at0 l (k - 1)) ((k - 1 : Nat) : Int) := by
          unfold amcK
          rw [e1]
          exact ⟨fun h => h.2.2 h2, fun h => ⟨hr, fun h0 => absurd h0 hk0, fun _ => h⟩⟩
        by_cases h3 : at0 l k ≤ pbV (at0 l (k - 1)) ((k - 1 : Nat) : Int)
        · have h3' : ¬ pbV (at0 l (k - 1)) ((k - 1 : Nat) : Int) < at0 l k := by omega
          have hK := hKiff.2 h3
          generalize pbV (at0 l (k - 1)) ((k - 1 : Nat) : Int) = p at *
          simp -implicitDefEqProofs [sc_s_AreMonomialCounts_L0, freeOk, hlt, hIn2, hk0', hk0, h2', h2, wk, hk1, hPB, h3', w4]
          repeat' (first | omega | apply And.intro)
          exact Again.of (k + 1) ⟨by omega, all_succ hall hK⟩ (by omega) (SubI.slots rfl (by simp))
        · have h3' : pbV (at0 l (k - 1)) ((k - 1 : Nat) : Int) < at0 l k := by omega
          have e := hfin fun h => h3 (hKiff.1 h)
          rw [e]
          generalize pbV (at0 l (k - 1)) ((k - 1 : Nat) : Int) = p at *
          simp -implicitDefEqProofs [sc_s_AreMonomialCounts_L0, freeOk, hlt, hIn2, hk0', hk0, h2', h2, wk, hk1, hPB, h3', w4]
          repeat' (first | omega | apply And.intro)
      · have h2' : ¬ (2 : Int) ≤ (k : Int) := by omega
        have hK : amcK l k := ⟨hr, fun h => absurd h hk0, fun h => absurd h h2⟩
        simp -implicitDefEqProofs [sc_s_AreMonomialCounts_L0, freeOk, hlt, hIn2, hk0', hk0, h2', h2, w4]
        repeat' (first | omega | apply And.intro)
        exact Again.of (k + 1) ⟨by omega, all_succ hall hK⟩ (by omega) (SubI.slots rfl (by simp))
  · have hk2 : k = l.length := by omega
    subst hk2
    have e : dec (amcP l) = true := dec_true ⟨hc.1, hc.2, hall⟩
    rw [e]
    simp -implicitDefEqProofs [sc_s_AreMonomialCounts_L0, freeOk]
end Go.Proofs.Ytmemomfffehnkaa
namespace Go.Proofs.Ytmemomfffehnkaa
open Go Go.RowKit
set_option maxRecDepth 1000000
set_option linter.unusedSimpArgs false
set_option linter.unusedVariables false
set_option maxHeartbeats 1000000
end Go.Proofs.Ytmemomfffehnkaa
namespace Go.Proofs.Ytmemomfffehnkaa
open Go Go.RowKit
set_option maxRecDepth 1000000
set_option linter.unusedSimpArgs false
set_option linter.unusedVariables false
set_option maxHeartbeats 1000000
end Go.Proofs.Ytmemomfffehnkaa
namespace Go.Proofs.Ytmemomfffehnkaa
open Go Go.RowKit
set_option maxRecDepth 1000000
set_option linter.unusedSimpArgs false
set_option linter.unusedVariables false
set_option maxHeartbeats 1000000
def sc_s_l2Extreme_L2 : SC := (.seq (.seq (.reg [⟨(some 21), none, (.mov (.t 9))⟩, ⟨(some 22), none, (.mov (.t 5))⟩, ⟨(some 23), none, (.len (.t 22))⟩, ⟨(some 24), none, (.bin false .lss (.t 21) (.t 23))⟩]) (.cond (.t 24) .skip (.exit 2))) (.seq (.block 3 (.seq (.reg [⟨(some 27), none, (.mov (.t 5))⟩, ⟨(some 28), none, (.mov (.t 7))⟩, ⟨(some 29), none, (.idx 1 (.t 27) (.t 28))⟩, ⟨(some 30), none, (.ld none (.int .i64 0) (.t 29))⟩, ⟨(some 10), none, (.mov (.t 30))⟩]) (.seq (.reg [⟨(some 31), none, (.mov (.t 5))⟩, ⟨(some 32), none, (.mov (.t 9))⟩, ⟨(some 33), none, (.idx 1 (.t 31) (.t 32))⟩, ⟨(some 34), none, (.ld none (.int .i64 0) (.t 33))⟩, ⟨(some 11), none, (.mov (.t 34))⟩]) (.seq (.reg [⟨(some 35), none, (.mov (.t 10))⟩, ⟨(some 36), none, (.mov (.t 11))⟩, ⟨(some 37), none, (.bin false .neq (.t 35) (.t 36))⟩, ⟨(some 38), none, (.mov (.t 37))⟩, ⟨(some 39), (some (38, true)), (.mov (.t 1))⟩, ⟨(some 40), (some (38, true)), (.mov (.t 39))⟩, ⟨(some 41), (some (40, true)), (.mov (.t 10))⟩, ⟨(some 42), (some (40, true)), (.mov (.t 11))⟩, ⟨(some 43), (some (40, true)), (.bin false .and (.t 41) (.t 42))⟩, ⟨(some 44), (some (40, true)), (.mov (.t 10))⟩, ⟨(some 45), (some (40, true)), (.bin false .eql (.t 43) (.t 44))⟩, ⟨(some 46), (some (38, true)), (.pick (.t 40) (.t 45) (.c (.bool false)))⟩, ⟨(some 47), (some (38, true)), (.mov (.t 46))⟩, ⟨(some 48), (some (47, false)), (.mov (.t 1))⟩, ⟨(some 49), (some (47, false)), (.un .not (.t 48))⟩, ⟨(some 50), (some (47, false)), (.mov (.t 49))⟩, ⟨(some 51), (some (50, true)), (.mov (.t 10))⟩, ⟨(some 52), (some (50, true)), (.mov (.t 11))⟩, ⟨(some 53), (some (50, true)), (.bin false .and (.t 51) (.t 52))⟩, ⟨(some 54), (some (50, true)), (.mov (.t 11))⟩, ⟨(some 55), (some (50, true)), (.bin false .eql (.t 53) (.t 54))⟩, ⟨(some 56), (some (47, false)), (.pick (.t 50) (.t 55) (.c (.bool false)))⟩, ⟨(some 57), (some (38, true)), (.pick (.t 47) (.c (.bool true)) (.t 56))⟩, ⟨(some 58), none, (.pick (.t 38) (.t 57) (.c (.bool false)))⟩]) (.cond (.t 58) (.reg [⟨(some 8), none, (.mov (.c (.bool false)))⟩]) .skip))))) (.reg [⟨(some 25), none, (.mov (.t 9))⟩, ⟨(some 26), none, (.bin false .add (.t 25) (.c (.int .i64 1)))⟩, ⟨(some 9), none, (.mov (.t 26))⟩])))
def sc_s_l2Extreme_L0 : SC := (.seq (.seq (.reg [⟨(some 15), none, (.mov (.t 7))⟩, ⟨(some 16), none, (.mov (.t 5))⟩, ⟨(some 17), none, (.len (.t 16))⟩, ⟨(some 18), none, (.bin false .lss (.t 15) (.t 17))⟩]) (.cond (.t 18) .skip (.exit 0))) (.seq (.block 1 (.seq (.reg [⟨(some 8), none, (.mov (.c (.bool true)))⟩]) (.seq (.seq (.reg [⟨(some 9), none, (.mov (.c (.int .i64 0)))⟩]) (.block 2 (.loop sc_s_l2Extreme_L2))) (.seq (.reg [⟨(some 59), none, (.mov (.t 8))⟩]) (.cond (.t 59) (.reg [⟨(some 60), none, (.mov (.t 6))⟩, ⟨(some 61), none, (.mov (.t 5))⟩, ⟨(some 62), none, (.mov (.t 7))⟩, ⟨(some 63), none, (.idx 1 (.t 61) (.t 62))⟩, ⟨(some 64), none, (.ld none (.int .i64 0) (.t 63))⟩, ⟨(some 65), none, (.mks 1 1 [(.int .i64 0)] [(0, (1, (.t 64)))])⟩, ⟨(some 66), none, (.app 1 8 (.t 60) (.t 65))⟩, ⟨(some 6), none, (.mov (.t 66))⟩]) .skip))))) (.reg [⟨(some 19), none, (.mov (.t 7))⟩, ⟨(some 20), none, (.bin false .add (.t 19) (.c (.int .i64 1)))⟩, ⟨(some 7), none, (.mov (.t 20))⟩])))
def sc_s_l2Extreme : SC := (.seq (.reg [⟨(some 4), none, (.mov (.c .nil))⟩]) (.seq (.reg [⟨(some 12), none, (.mov (.t 0))⟩, ⟨(some 13), none, (.call 159 [(.t 12)])⟩, ⟨(some 5), none, (.mov (.t 13))⟩]) (.seq (.reg [⟨(some 14), none, (.mks 0 1 [] [])⟩, ⟨(some 6), none, (.mov (.t 14))⟩]) (.seq (.seq (.reg [⟨(some 7), none, (.mov (.c (.int .i64 0)))⟩]) (.block 0 (.loop sc_s_l2Extreme_L0))) (.seq (.reg [⟨(some 67), none, (.mov (.t 6))⟩, ⟨(some 4), none, (.mov (.t 67))⟩]) .ret)))))
theorem code_s_l2Extreme : fnCode Try.prog [] 239 = some (68, sc_s_l2Extreme, [(4, none)]) := by kernel_rfl
noncomputable def F_s_l2Extreme : List V → Option V := F2 dL dB fun l g => @ite _ (allS l ∧ g = true) (Classical.propDecidable _) (some (.own 1 (ints (setsOf (maxP fun s => s ∈ l))))) none
theorem fn_s_l2Extreme : FnOk Try.prog 239 F_s_l2Extreme := by
  have env := (envNil_ok (P := Try.prog)).add fn_s_l2Order
  refine fn_ok code_s_l2Extreme mixed env ?_
  intro args r h hb
  obtain ⟨_, _, l, gr, rfl, h1, h2, h4⟩ := F2_inv h
  cases dL_inv h1
  cases dB_inv h2
  clear h
  simp only [Option.ite_none_right_eq_some, Option.some.injEq] at h4
  obtain ⟨⟨hS, rfl⟩, rfl⟩ := h4
  have hF : F_s_l2Order [.list 1 (ints l)] = some (.own 1 (ints (setsOf fun s => s ∈ l))) := by
    simp only [F_s_l2Order, F1_mk, dL_list, Option.bind_some]
    rw [if_pos hS]
  refine ⟨by simp, fun w0 U0 L0 N0 => ?_⟩
  clear hb
  generalize hpp : (fun s => s ∈ l) = p at *
  rw [← filt_max]
  have hmx := fun k => max_iff_all p (k := k)
  have hL := allS_setsOf p
  have hLl := setsOf_len p
  generalize setsOf p = L at *
  generalize hq : (fun s => dec (maxP p s)) = q
  have inner : ∀ (k : Nat) (g : List Int) (Q : Post) (T0 : Tm), k < L.length → subE T0 [(1, .bool true), (5, .sl 0 1 0 L.length), (6, .sl 1 1 0 g.length), (7, .int .i64 (k : Int)), (8, .bool true), (9, .int .i64 0)] →
      (∀ b : Bool, b = q (at0 L k) → Q (.exit 2) [(1, .bool true), (5, .sl 0 1 0 L.length), (6, .sl 1 1 0 g.length), (7, .int .i64 (k : Int)), (8, .bool b)] ([(1, ints g), (0, ints L)], 2)) →
      LoopI ⟨Try.prog, w0, U0, L0, N0, 0, 68⟩ [] sc_s_l2Extreme_L2 Q T0 ([(1, ints g), (0, ints L)], 2) := by
    intro k g Q T0 hk hs q1
    obtain ⟨D, hD⟩ : ∃ D : Nat → Bool, ∀ j, D j = dec (∀ i, i < j → at0 L k ≠ at0 L i → ¬ subS (at0 L k) (at0 L i)) := ⟨_, fun _ => rfl⟩
    have hD0 : D 0 = true := by rw [hD]; exact dec_true (by omega)
    refine loopQ env mixed (fun j : Nat => [(1, .bool true), (5, .sl 0 1 0 L.length), (6, .sl 1 1 0 g.length), (7, .int .i64 (k : Int)), (8, .bool (D j)), (9, .int .i64 (j : Int))]) (fun _ => ([(1, ints g), (0, ints L)], 2))
      (fun j => j ≤ L.length) (fun j => L.length - j) 0 (by simp) (SubI.slots rfl (by simpa [hD0] using hs)) ?_
    intro j hj
    by_cases hlt : j < L.length
    · have hs1 := allS_at hL hk
      have hs2 := allS_at hL hlt
      have same : (at0 L k ≠ at0 L j → ¬ subS (at0 L k) (at0 L j)) → D (j + 1) = D j := fun hh => by
        rw [hD, hD, Bool.eq_iff_iff, dec_iff, dec_iff]
        refine ⟨fun h i hi => h i (by omega), fun h i hi => ?_⟩
        rcases Nat.lt_succ_iff_lt_or_eq.1 hi with h1 | rfl
        · exact h i h1
        · exact hh
      by_cases h1 : at0 L k = at0 L j
      · have e := same fun h => absurd h1 h
        simp -implicitDefEqProofs [sc_s_l2Extreme_L2, hlt, hk, h1]
        repeat' (first | omega | apply And.intro)
        exact Again.of (j + 1) (by omega) (by omega) (SubI.slots rfl (by simp only [subE_cons, subE_nil, e]; simp (disch := omega) [wrapI]))
      · by_cases h2 : band (at0 L k) (at0 L j) = at0 L k
        · have e : D (j + 1) = false := by
            rw [hD]
            exact dec_false fun h => h j (by omega) h1 ((subS_iff hs1 hs2).2 h2)
          simp -implicitDefEqProofs [sc_s_l2Extreme_L2, hlt, hk, h1, h2]
          repeat' (first | omega | apply And.intro)
          exact Again.of (j + 1) (by omega) (by omega) (SubI.slots rfl (by simp only [subE_cons, subE_nil, e]; simp (disch := omega) [wrapI]))
        · have e := same fun _ h => h2 ((subS_iff hs1 hs2).1 h)
          simp -implicitDefEqProofs [sc_s_l2Extreme_L2, hlt, hk, h1, h2]
          repeat' (first | omega | apply And.intro)
          exact Again.of (j + 1) (by omega) (by omega) (SubI.slots rfl (by simp only [subE_cons, subE_nil, e]; simp (disch := omega) [wrapI]))
    · have hj2 : j = L.length := by omega
      subst hj2
      have q2 := q1 (D L.length) (by rw [hD, ← hq, Bool.eq_iff_iff, dec_iff, dec_iff]; exact (hmx k hk).symm)
      simp -implicitDefEqProofs [sc_s_l2Extreme_L2]
      exact SubQ.of (SubI.slots rfl (by simp)) q2
  simp -implicitDefEqProofs [sc_s_l2Extreme, hF]
  refine loopI env mixed (fun k : Nat => [(1, .bool true), (5, .sl 0 1 0 L.length), (6, .sl 1 1 0 ((L.take k).filter q).length), (7, .int .i64 (k : Int))]) (fun k => ([(1, ints ((L.take k).filter q)), (0, ints L)], 2)) (fun k => k ≤ L.length) (fun k => L.length - k) 0 (by simp) (SubI.slots (by simp) (by simp)) ?_
  intro k hk
  have gl := filt_len L k q
  by_cases hlt : k < L.length
  · have hnx : ∀ b : Bool, q (at0 L k) = b → (L.take (k + 1)).filter q = if b = true then (L.take k).filter q ++ [at0 L k] else (L.take k).filter q := fun b hb => by
      cases b with
      | true => exact filt_pos hlt hb
      | false => exact filt_neg hlt hb
    generalize hgg : (L.take k).filter q = g at *
    simp -implicitDefEqProofs [sc_s_l2Extreme_L0, hlt]
    repeat' (first | omega | apply And.intro)
    refine inner k g _ _ hlt (by simp) ?_
    intro b hb
    cases hqk : q (at0 L k) with
    | true =>
      rw [hqk] at hb
      subst hb
      have e := hnx true hqk
      simp only [if_true] at e
      simp -implicitDefEqProofs [hlt]
      repeat' (first | omega | apply And.intro)
      refine Again.of (k + 1) (by omega) (by omega) (SubI.ren (fun m => if m = 0 then some 0 else if m = 1 then some 3 else none) ?_ ?_ ?_ (by simp) (by simp))
      · simp only [e]
        simp (disch := omega) [subT, renV, ren1, wrapI]
      · simp only [e]
        simp [subH, renL, ren1]
        rw [← ints_app]
        rfl
      · intro m hm
        simp only at hm
        rw [if_neg (by omega), if_neg (by omega)]
    | false =>
      rw [hqk] at hb
      subst hb
      have e := hnx false hqk
      simp only [Bool.false_eq_true, if_false] at e
      simp -implicitDefEqProofs
      exact Again.of (k + 1) (by omega) (by omega) (SubI.slots (by simp only [e]) (by simp only [e]; simp (disch := omega) [wrapI]))
  · have : k = L.length := by omega
    subst this
    simp -implicitDefEqProofs [sc_s_l2Extreme_L0]
def sc_s_l3Make : SC := (.seq (.reg [⟨(some 4), none, (.new [(.int .i64 0), .nil])⟩]) (.seq (.reg [⟨(some 5), none, (.mov (.t 0))⟩, ⟨(some 6), none, (.mov (.t 1))⟩, ⟨(some 7), none, (.call 239 [(.t 6), (.c (.bool true))])⟩, ⟨(some 8), none, (.agg [(.int .i64 0), .nil] [(0, (1, (.t 5))), (1, (1, (.t 7)))])⟩, ⟨none, none, (.st 2 (.t 4) (.t 8))⟩]) .ret))
theorem code_s_l3Make : fnCode Try.prog [] 224 = some (9, sc_s_l3Make, [(4, (some 2))]) := by kernel_rfl
noncomputable def F_s_l3Make : List V → Option V := F2 dI dL fun n l => @ite _ (allS l) (Classical.propDecidable _) (some (.agg [.int .i64 n, .own 1 (ints (setsOf (maxP fun s => s ∈ l)))])) none
theorem fn_s_l3Make : FnOk Try.prog 224 F_s_l3Make := by
  have env := (envNil_ok (P := Try.prog)).add fn_s_l2Extreme
  refine fn_ok code_s_l3Make mixed env ?_
  intro args r h hb
  obtain ⟨_, _, n, l, rfl, h1, h2, h4⟩ := F2_inv h
  cases dI_inv h1
  cases dL_inv h2
  clear h
  simp only [Option.ite_none_right_eq_some, Option.some.injEq] at h4
  obtain ⟨hS, rfl⟩ := h4
  refine ⟨by simp, fun w0 U0 L0 N0 => ?_⟩
  simp -implicitDefEqProofs [sc_s_l3Make, F_s_l2Extreme, hS]
end Go.Proofs.Ytmemomfffehnkaa
namespace Go.Proofs.Ytmemomfffehnkaa
open Go Go.RowKit
set_option maxRecDepth 1000000
set_option linter.unusedSimpArgs false
set_option linter.unusedVariables false
set_option maxHeartbeats 1000000
end Go.Proofs.Ytmemomfffehnkaa
namespace Go.Proofs.Ytmemomfffehnkaa
open Go Go.RowKit
set_option maxRecDepth 1000000
set_option linter.unusedSimpArgs false
set_option linter.unusedVariables false
set_option maxHeartbeats 1000000
open Classical in
/-- The greatest size of a set below k with a property; -1 if there is none. -/
noncomputable def topF (p : Int → Prop) : Nat → Int
  | 0 => -1
  | k + 1 => if p (k : Int) ∧ topF p k < sz (k : Int) then sz (k : Int) else topF p k
theorem topF_pos {p : Int → Prop} {k : Nat} (h : p (k : Int)) (h2 : topF p k < sz (k : Int)) : topF p (k + 1) = sz (k : Int) := by simp only [topF, if_pos (show p (k : Int) ∧ topF p k < sz (k : Int) from ⟨h, h2⟩)]
theorem topF_neg {p : Int → Prop} {k : Nat} (h : ¬ (p (k : Int) ∧ topF p k < sz (k : Int))) : topF p (k + 1) = topF p k := by simp only [topF, if_neg h]
theorem topF_bnd (p : Int → Prop) : ∀ k, k ≤ 64 → -1 ≤ topF p k ∧ topF p k ≤ 6
  | 0, _ => by simp [topF]
  | k + 1, h => by
    have ih := topF_bnd p k (by omega)
    have := sz_six (inS k (by omega))
    have := sz_nn (k : Int)
    by_cases hc : p (k : Int) ∧ topF p k < sz (k : Int)
    · rw [topF_pos hc.1 hc.2]; omega
    · rw [topF_neg hc]; exact ih
theorem topF_ge {p : Int → Prop} : ∀ {k : Nat} {s : Int}, 0 ≤ s → s < k → p s → sz s ≤ topF p k
  | 0, s, h0, h, _ => by omega
  | k + 1, s, h0, h, hp => by
    by_cases e : s = (k : Int)
    · subst e
      by_cases hc : p (k : Int) ∧ topF p k < sz (k : Int)
      · rw [topF_pos hc.1 hc.2]; omega
      · rw [topF_neg hc]
        have : ¬ (topF p k < sz (k : Int)) := fun h => hc ⟨hp, h⟩
        omega
    · have ih := topF_ge (k := k) h0 (by omega) hp
      by_cases hc : p (k : Int) ∧ topF p k < sz (k : Int)
      · rw [topF_pos hc.1 hc.2]; omega
      · rw [topF_neg hc]; exact ih
theorem topF_hit {p : Int → Prop} : ∀ {k : Nat}, topF p k = -1 ∨ ∃ s : Int, 0 ≤ s ∧ s < k ∧ p s ∧ sz s = topF p k
  | 0 => .inl rfl
  | k + 1 => by
    by_cases hc : p (k : Int) ∧ topF p k < sz (k : Int)
    · rw [topF_pos hc.1 hc.2]
      exact .inr ⟨k, by omega, by omega, hc.1, rfl⟩
    · rw [topF_neg hc]
      rcases topF_hit (p := p) (k := k) with h | ⟨s, a, b, c, d⟩
      · exact .inl h
      · exact .inr ⟨s, a, by omega, c, d⟩
theorem topZ_ex (p : Int → Prop) : ∃ m : Int, m = topF p 64 := ⟨_, rfl⟩
noncomputable def topZ (p : Int → Prop) : Int := Classical.choose (topZ_ex p)
theorem topZ_eq (p : Int → Prop) : topZ p = topF p 64 := Classical.choose_spec (topZ_ex p)
theorem topZ_bnd (p : Int → Prop) : -1 ≤ topZ p ∧ topZ p ≤ 6 := by rw [topZ_eq]; exact topF_bnd p 64 (Nat.le_refl _)
theorem topZ_ge {p : Int → Prop} {s : Int} (hs : isS s) (hp : p s) : sz s ≤ topZ p := by rw [topZ_eq]; exact topF_ge hs.1 hs.2 hp
theorem topZ_hit (p : Int → Prop) : topZ p = -1 ∨ ∃ s, isS s ∧ p s ∧ sz s = topZ p := by
  rw [topZ_eq]
  rcases topF_hit (p := p) (k := 64) with h | ⟨s, a, b, c, d⟩
  · exact .inl h
  · exact .inr ⟨s, ⟨a, b⟩, c, d⟩
theorem topZ_facets {n : Int} {l : List Int} (h : cplx n l) (hne : l ≠ []) : topZ (faceS l) = sz (at0 l (l.length - 1)) := by
  have hpos := List.length_pos_iff.2 hne
  have hS := cplx_isS h
  have hl : l.length - 1 < l.length := by omega
  have h1 := topZ_ge (p := faceS l) (allS_at hS hl) ⟨_, getD_mem' hl, subS_refl (allS_at hS hl)⟩
  have h0 := sz_nn (at0 l (l.length - 1))
  rcases topZ_hit (faceS l) with h2 | ⟨s, hs, ⟨f, hf, hsf⟩, e⟩
  · omega
  · have h3 := (sz_sub hs (hS f hf) hsf).1
    obtain ⟨j, hj, rfl⟩ := getD_mem_iff.1 hf
    by_cases ej : j = l.length - 1
    · subst ej; omega
    · have hb := cplx_before h (show j < l.length - 1 by omega) hl
      simp only [before, decide_eq_true_eq] at hb
      omega
end Go.Proofs.Ytmemomfffehnkaa
namespace Go.Proofs.Ytmemomfffehnkaa
open Go Go.RowKit
set_option maxRecDepth 1000000
set_option linter.unusedSimpArgs false
set_option linter.unusedVariables false
set_option maxHeartbeats 1000000
end Go.Proofs.Ytmemomfffehnkaa
namespace Go.Proofs.Ytmemomfffehnkaa
open Go Go.RowKit
set_option maxRecDepth 1000000
set_option linter.unusedSimpArgs false
set_option linter.unusedVariables false
set_option maxHeartbeats 1000000
/-- The sets of one size, in order. -/
theorem upS_sets (p : Int → Prop) (z : Int) : upS (fun s => p s ∧ sz s = z) 64 = setsOf fun s => p s ∧ sz s = z := by
  refine sorted_ext ?_ (setsOf_sorted _) fun x => by rw [mem_upS64, mem_setsOf]
  refine upS_sorted.imp_of_mem ?_
  intro a b ha hb hab
  have h1 := (mem_upS64.1 ha).2.2
  have h2 := (mem_upS64.1 hb).2.2
  simp only [before, decide_eq_true_eq]
  omega
end Go.Proofs.Ytmemomfffehnkaa
namespace Go.Proofs.Ytmemomfffehnkaa
open Go Go.RowKit
set_option maxRecDepth 1000000
set_option linter.unusedSimpArgs false
set_option linter.unusedVariables false
set_option maxHeartbeats 1000000
/-- How many of the sets have z points. -/
noncomputable def cntZ (l : List Int) (z : Nat) : Int := ((l.filter fun s => dec (sz s = (z : Int))).length : Nat)
/-- For each number below m how many sets have so many points. -/
noncomputable def szRow (m : Nat) (l : List Int) : List Int := (List.range m).map fun z => cntZ l z
@[simp] theorem szRow_take (m : Nat) (l : List Int) : (szRow m l).take m = szRow m l := List.take_of_length_le (by simp [szRow])
@[simp] theorem szRow_len (m : Nat) (l : List Int) : (szRow m l).length = m := by simp [szRow]
theorem at0_szRow {m z : Nat} (l : List Int) (h : z < m) : at0 (szRow m l) z = cntZ l z := by simp [szRow, at0, h]
theorem cntZ_bnd (l : List Int) (k z : Nat) : 0 ≤ cntZ (l.take k) z ∧ cntZ (l.take k) z ≤ k := by
  unfold cntZ
  have h2 : (l.take k).length ≤ k := by simp; omega
  have h3 := List.length_filter_le (fun s => dec (sz s = (z : Int))) (l.take k)
  omega
theorem szRow_step {m : Nat} {l : List Int} {k z : Nat} (h : k < l.length) (hz : sz (at0 l k) = (z : Int)) (hm : z < m) : (szRow m (l.take k)).set z (cntZ (l.take k) z + 1) = szRow m (l.take (k + 1)) := by
  apply at0_ext (by simp)
  intro j hj
  simp only [List.length_set, szRow_len] at hj
  rw [at0_set, at0_szRow _ hj, at0_szRow _ hj]
  by_cases e : z = j
  · subst e
    rw [if_pos ⟨rfl, by simpa using hj⟩]
    unfold cntZ
    rw [filt_pos h (dec_true hz), List.length_append]
    simp
  · rw [if_neg fun h => e h.1]
    unfold cntZ
    rw [filt_neg h (dec_false fun h2 => e (by omega))]
end Go.Proofs.Ytmemomfffehnkaa
namespace Go.Proofs.Ytmemomfffehnkaa
open Go Go.RowKit
set_option maxRecDepth 1000000
set_option linter.unusedSimpArgs false
set_option linter.unusedVariables false
set_option maxHeartbeats 1000000
/-- The sets of a family of one size. -/
noncomputable def szS (q : Int → Prop) (z : Int) : List Int := setsOf fun s => q s ∧ sz s = z
theorem szS_congr {p q : Int → Prop} (h : ∀ s, isS s → (p s ↔ q s)) (z : Int) : szS p z = szS q z := setsOf_congr fun s hs => by rw [h s hs]
theorem szS_len (q : Int → Prop) (z : Int) : (szS q z).length ≤ 64 := setsOf_len _
end Go.Proofs.Ytmemomfffehnkaa
namespace Go.Proofs.Ytmemomfffehnkaa
open Go Go.RowKit
set_option maxRecDepth 1000000
set_option linter.unusedSimpArgs false
set_option linter.unusedVariables false
set_option maxHeartbeats 1000000
end Go.Proofs.Ytmemomfffehnkaa
namespace Go.Proofs.Ytmemomfffehnkaa
open Go Go.RowKit
set_option maxRecDepth 1000000
set_option linter.unusedSimpArgs false
set_option linter.unusedVariables false
set_option maxHeartbeats 1000000
end Go.Proofs.Ytmemomfffehnkaa
namespace Go.Proofs.Ytmemomfffehnkaa
open Go Go.RowKit
set_option maxRecDepth 1000000
set_option linter.unusedSimpArgs false
set_option linter.unusedVariables false
set_option maxHeartbeats 1000000
def sc_s_l1Bit : SC := (.seq (.reg [⟨(some 2), none, (.mov (.c (.int .i64 0)))⟩]) (.seq (.seq (.reg [⟨(some 3), none, (.mov (.t 0))⟩]) (.cond (.t 3) (.seq (.reg [⟨(some 2), none, (.mov (.c (.int .i64 1)))⟩]) .ret) .skip)) (.seq (.reg [⟨(some 2), none, (.mov (.c (.int .i64 0)))⟩]) .ret)))
theorem code_s_l1Bit : fnCode Try.prog [] 164 = some (4, sc_s_l1Bit, [(2, none)]) := by kernel_rfl
def F_s_l1Bit : List V → Option V := F1 dB fun b => some (.int .i64 (if b = true then 1 else 0))
theorem fn_s_l1Bit : FnOk Try.prog 164 F_s_l1Bit := by
  refine fn_ok code_s_l1Bit mixed envNil_ok ?_
  intro args r h hb
  obtain ⟨_, b, rfl, h1, h4⟩ := F1_inv h
  cases dB_inv h1
  cases h4
  refine ⟨by simp, fun w0 U0 L0 N0 => ?_⟩
  cases b <;> simp -implicitDefEqProofs [sc_s_l1Bit]
/-- The set u lies between the i-th low and the i-th facet. -/
def inIv (facets lows : List Int) (u : Int) (i : Nat) : Prop := subS (at0 lows i) u ∧ subS u (at0 facets i)
open Classical in
/-- How many of the first k intervals have u. -/
noncomputable def cntIv (facets lows : List Int) (u : Int) : Nat → Int
  | 0 => 0
  | k + 1 => if inIv facets lows u k then cntIv facets lows u k + 1 else cntIv facets lows u k
theorem cntIv_pos {facets lows : List Int} {u : Int} {k : Nat} (h : inIv facets lows u k) : cntIv facets lows u (k + 1) = cntIv facets lows u k + 1 := by simp only [cntIv, if_pos h]
theorem cntIv_neg {facets lows : List Int} {u : Int} {k : Nat} (h : ¬ inIv facets lows u k) : cntIv facets lows u (k + 1) = cntIv facets lows u k := by simp only [cntIv, if_neg h]
theorem cntIv_bnd (facets lows : List Int) (u : Int) : ∀ k : Nat, 0 ≤ cntIv facets lows u k ∧ cntIv facets lows u k ≤ k
  | 0 => by simp [cntIv]
  | k + 1 => by
    have := cntIv_bnd facets lows u k
    simp only [cntIv]
    split <;> omega
end Go.Proofs.Ytmemomfffehnkaa
namespace Go.Proofs.Ytmemomfffehnkaa
open Go Go.RowKit
set_option maxRecDepth 1000000
set_option linter.unusedSimpArgs false
set_option linter.unusedVariables false
set_option maxHeartbeats 1000000
def fpP (p : Int) : Prop := p = 2 ∨ p = 3 ∨ p = 5
end Go.Proofs.Ytmemomfffehnkaa
namespace Go.Proofs.Ytmemomfffehnkaa
open Go Go.RowKit
set_option maxRecDepth 1000000
set_option linter.unusedSimpArgs false
set_option linter.unusedVariables false
set_option maxHeartbeats 1000000
end Go.Proofs.Ytmemomfffehnkaa
namespace Go.Proofs.Ytmemomfffehnkaa
open Go Go.RowKit
set_option maxRecDepth 1000000
set_option linter.unusedSimpArgs false
set_option linter.unusedVariables false
set_option maxHeartbeats 1000000
end Go.Proofs.Ytmemomfffehnkaa
namespace Go.Proofs.Ytmemomfffehnkaa
open Go Go.RowKit
set_option maxRecDepth 1000000
set_option linter.unusedSimpArgs false
set_option linter.unusedVariables false
set_option maxHeartbeats 1000000
/-- A row by its places. -/
def rowF (m : Nat) (g : Nat → Int) : List Int := (List.range m).map g
@[simp] theorem rowF_len (m : Nat) (g : Nat → Int) : (rowF m g).length = m := by simp [rowF]
theorem rowF_at {m j : Nat} {g : Nat → Int} (h : j < m) : at0 (rowF m g) j = g j := by simp [rowF, at0, h]
end Go.Proofs.Ytmemomfffehnkaa
namespace Go.Proofs.Ytmemomfffehnkaa
open Go Go.RowKit
set_option maxRecDepth 1000000
set_option linter.unusedSimpArgs false
set_option linter.unusedVariables false
set_option maxHeartbeats 1000000
theorem rowsV_self {M : List (List Int)} {i : Nat} (h : i < M.length) : (rowsV M).set i (.own 1 (ints (atR M i))) = rowsV M := by
  rw [rowsV_set]
  congr 1
  apply List.ext_getElem (by simp)
  intro j h1 h2
  rw [List.getElem_set]
  by_cases e : i = j
  · subst e; simp [atR_eq h]
  · simp [e]
end Go.Proofs.Ytmemomfffehnkaa
namespace Go.Proofs.Ytmemomfffehnkaa
open Go Go.RowKit
set_option maxRecDepth 1000000
set_option linter.unusedSimpArgs false
set_option linter.unusedVariables false
set_option maxHeartbeats 1000000
/-- A row whose first t places are taken from g. -/
noncomputable def pK (r : List Int) (g : Nat → Int) (t : Nat) : List Int := rowF r.length fun q => @ite _ (q < t) (Classical.propDecidable _) (g q) (at0 r q)
@[simp] theorem pK_len (r : List Int) (g : Nat → Int) (t : Nat) : (pK r g t).length = r.length := by simp [pK]
/-- A matrix whose first i rows are taken from G. -/
noncomputable def pM (M : List (List Int)) (G : Nat → List Int) (i : Nat) : List (List Int) := (List.range M.length).map fun k => @ite _ (k < i) (Classical.propDecidable _) (G k) (atR M k)
@[simp] theorem pM_len (M : List (List Int)) (G : Nat → List Int) (i : Nat) : (pM M G i).length = M.length := by simp [pM]
/-- Rows of one length with numbers from 0 to p - 1. -/
def okM (p : Int) (w : Nat) (M : List (List Int)) : Prop := ∀ i, i < M.length → (atR M i).length = w ∧ ∀ j, j < w → 0 ≤ at0 (atR M i) j ∧ at0 (atR M i) j < p
structure redI (p : Int) (w : Nat) (M0 : List (List Int)) (j : Nat) (x : List (List Int) × List Int) : Prop where
  ok : okM p w x.1
  hl : x.1.length = M0.length
  hp : x.2.length ≤ x.1.length
  hj : ∀ q, q < x.2.length → 0 ≤ at0 x.2 q ∧ at0 x.2 q < j
  hs : x.2.length ≤ j
end Go.Proofs.Ytmemomfffehnkaa
namespace Go.Proofs.Ytmemomfffehnkaa
open Go Go.RowKit
set_option maxRecDepth 1000000
set_option linter.unusedSimpArgs false
set_option linter.unusedVariables false
set_option maxHeartbeats 1000000
/-- A row of zeros whose first t places are taken from g. -/
noncomputable def zK (m : Nat) (g : Nat → Int) (t : Nat) : List Int := rowF m fun q => @ite _ (q < t) (Classical.propDecidable _) (g q) 0
@[simp] theorem zK_len (m : Nat) (g : Nat → Int) (t : Nat) : (zK m g t).length = m := by simp [zK]
structure matI (p : Int) (w m : Nat) (M : List (List Int)) : Prop where
  hp : fpP p
  hm : M.length = m
  ok : okM p w M
  hw : w ≤ 128
  hl : m ≤ 64
end Go.Proofs.Ytmemomfffehnkaa
namespace Go.Proofs.Ytmemomfffehnkaa
open Go Go.RowKit
set_option maxRecDepth 1000000
set_option linter.unusedSimpArgs false
set_option linter.unusedVariables false
set_option maxHeartbeats 1000000
end Go.Proofs.Ytmemomfffehnkaa
namespace Go.Proofs.Ytmemomfffehnkaa
open Go Go.RowKit
set_option maxRecDepth 1000000
set_option linter.unusedSimpArgs false
set_option linter.unusedVariables false
set_option maxHeartbeats 1000000
end Go.Proofs.Ytmemomfffehnkaa
namespace Go.Proofs.Ytmemomfffehnkaa
open Go Go.RowKit
set_option maxRecDepth 1000000
set_option linter.unusedSimpArgs false
set_option linter.unusedVariables false
set_option maxHeartbeats 1000000
end Go.Proofs.Ytmemomfffehnkaa
namespace Go.Proofs.Ytmemomfffehnkaa
open Go Go.RowKit
set_option maxRecDepth 1000000
set_option linter.unusedSimpArgs false
set_option linter.unusedVariables false
set_option maxHeartbeats 1000000
end Go.Proofs.Ytmemomfffehnkaa
namespace Go.Proofs.Ytmemomfffehnkaa
open Go Go.RowKit
set_option maxRecDepth 1000000
set_option linter.unusedSimpArgs false
set_option linter.unusedVariables false
set_option maxHeartbeats 1000000
end Go.Proofs.Ytmemomfffehnkaa
namespace Go.Proofs.Ytmemomfffehnkaa
open Go Go.RowKit
set_option maxRecDepth 1000000
set_option linter.unusedSimpArgs false
set_option linter.unusedVariables false
set_option maxHeartbeats 1000000
end Go.Proofs.Ytmemomfffehnkaa
