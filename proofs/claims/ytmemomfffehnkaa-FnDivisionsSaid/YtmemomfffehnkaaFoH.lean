import Derived.Test.YtmemomfffehnkaaKP
namespace Go.Proofs.Ytmemomfffehnkaa
open Go Go.RowKit
set_option maxRecDepth 1000000
set_option linter.unusedSimpArgs false
set_option linter.unusedVariables false
set_option maxHeartbeats 1000000
def sc_s_NewFaces_L0 : SC := (.seq (.seq (.reg [⟨(some 8), none, (.mov (.t 6))⟩, ⟨(some 9), none, (.mov (.t 1))⟩, ⟨(some 10), none, (.len (.t 9))⟩, ⟨(some 11), none, (.bin false .lss (.t 8) (.t 10))⟩, ⟨(some 12), none, (.mov (.t 11))⟩, ⟨(some 13), (some (12, true)), (.ld (some 2) .undef (.t 2))⟩, ⟨(some 14), (some (12, true)), (.mov (.t 1))⟩, ⟨(some 15), (some (12, true)), (.call 37 [(.t 13), (.t 14)])⟩, ⟨(some 16), none, (.pick (.t 12) (.t 15) (.c (.bool false)))⟩]) (.cond (.t 16) .skip (.exit 0))) (.seq (.block 1 (.dreg [⟨⟨(some 19), none, (.mov (.t 5))⟩, false, true⟩, ⟨⟨(some 20), none, (.mov (.t 1))⟩, false, false⟩, ⟨⟨(some 21), none, (.mov (.t 6))⟩, false, false⟩, ⟨⟨(some 22), none, (.sli 1 (.t 20) none (some (.t 21)) none)⟩, false, false⟩, ⟨⟨(some 23), none, (.mov (.t 1))⟩, false, false⟩, ⟨⟨(some 24), none, (.mov (.t 6))⟩, false, false⟩, ⟨⟨(some 25), none, (.idx 1 (.t 23) (.t 24))⟩, false, false⟩, ⟨⟨(some 26), none, (.ld none (.int .i64 0) (.t 25))⟩, false, false⟩, ⟨⟨(some 27), none, (.call 154 [(.t 22), (.t 26)])⟩, false, false⟩, ⟨⟨(some 28), none, (.mks 1 1 [(.int .i64 0)] [(0, (1, (.t 27)))])⟩, true, false⟩, ⟨⟨(some 29), none, (.app 1 8 (.t 19) (.t 28))⟩, true, false⟩, ⟨⟨(some 5), none, (.mov (.t 29))⟩, false, false⟩])) (.reg [⟨(some 17), none, (.mov (.t 6))⟩, ⟨(some 18), none, (.bin false .add (.t 17) (.c (.int .i64 1)))⟩, ⟨(some 6), none, (.mov (.t 18))⟩])))
def sc_s_NewFaces : SC := (.seq (.reg [⟨(some 2), none, (.box (.t 0))⟩, ⟨(some 4), none, (.mov (.c .nil))⟩]) (.seq (.reg [⟨(some 7), none, (.mks 0 1 [] [])⟩, ⟨(some 5), none, (.mov (.t 7))⟩]) (.seq (.seq (.reg [⟨(some 6), none, (.mov (.c (.int .i64 0)))⟩]) (.block 0 (.loop sc_s_NewFaces_L0))) (.seq (.reg [⟨(some 30), none, (.mov (.t 5))⟩, ⟨(some 4), none, (.mov (.t 30))⟩]) .ret))))
theorem code_s_NewFaces : fnCode Try.prog [] 38 = some (31, sc_s_NewFaces, [(4, none)]) := by kernel_rfl
/-- The new parts of the first k sets of a list. -/
def newfP (list : List Int) (k : Nat) : List Int := (List.range k).map fun i => partI (list.take i) (at0 list i)
theorem newfP_succ (list : List Int) (k : Nat) : newfP list (k + 1) = newfP list k ++ [partI (list.take k) (at0 list k)] := by simp [newfP, List.range_succ]
@[simp] theorem newfP_len (list : List Int) (k : Nat) : (newfP list k).length = k := by simp [newfP]
noncomputable def newfL (n : Int) (l list : List Int) : List Int := if shellB n l list = true then newfP list list.length else []
theorem shell_order {n : Int} {l list : List Int} (h : shellB n l list = true) : orderB n l list = true := (dec_iff.1 h).1
theorem order_len {n : Int} {l list : List Int} (h : orderB n l list = true) : list.length ≤ 64 := by
  obtain ⟨_, h1, _, h2⟩ := order_parts h
  exact nodup_len h1 h2
noncomputable def F_s_NewFaces : List V → Option V := F2 dC dL fun c list => some (.own 1 (ints (newfL c.1 c.2 list)))
theorem fn_s_NewFaces : FnOk Try.prog 38 F_s_NewFaces := by
  have env := ((envNil_ok (P := Try.prog)).add fn_s_l19New).add fn_s_IsShelling
  refine fn_ok code_s_NewFaces mixed env ?_
  intro args r h hb
  obtain ⟨_, _, ⟨n, l⟩, list, rfl, h1, h2, h4⟩ := F2_inv h
  cases dC_inv h1
  cases dL_inv h2
  cases h4
  refine ⟨by simp, fun w0 U0 L0 N0 => ?_⟩
  clear h
  simp -implicitDefEqProofs [sc_s_NewFaces]
  cases hs : shellB n l list with
  | false =>
    have e : newfL n l list = [] := by simp [newfL, hs]
    rw [e]
    refine loopI env mixed (fun _ : Unit => [(1, .list 1 (ints list)), (2, .pt 0 0), (5, .sl 1 1 0 0), (6, .int .i64 0)]) (fun _ => ([(1, []), (0, [.int .i64 n, .list 1 (ints l)])], 2)) (fun _ => True) (fun _ => 0) () trivial (SubI.slots (by simp) (by simp)) ?_
    intro _ _
    by_cases h0 : 0 < list.length
    · have h0' : (0 : Int) < list.length := by omega
      simp -implicitDefEqProofs [sc_s_NewFaces_L0, F_s_IsShelling, hs, h0, h0']
    · have h0' : ¬ ((0 : Int) < list.length) := by omega
      simp -implicitDefEqProofs [sc_s_NewFaces_L0, F_s_IsShelling, hs, h0, h0']
  | true =>
    have e : newfL n l list = newfP list list.length := by simp [newfL, hs]
    rw [e]
    have ho := shell_order hs
    have h64 := order_len ho
    obtain ⟨_, _, _, hS⟩ := order_parts ho
    refine loopI env mixed (fun k : Nat => [(1, .list 1 (ints list)), (2, .pt 0 0), (5, .sl 1 1 0 k), (6, .int .i64 (k : Int))]) (fun k => ([(1, ints (newfP list k)), (0, [.int .i64 n, .list 1 (ints l)])], 2)) (fun k => k ≤ list.length) (fun k => list.length - k) 0 (by simp) (SubI.slots (by simp [newfP]) (by simp)) ?_
    intro k hk
    by_cases hlt : k < list.length
    · have hf := allS_at hS hlt
      have hSt := allS_take hS k
      have hnew := new_part hSt hf (order_apart ho hlt)
      have es := newfP_succ list k
      have gl := newfP_len list k
      generalize newfP list k = g at *
      simp -implicitDefEqProofs [sc_s_NewFaces_L0, freeOk, F_s_IsShelling, F_s_l19New, hs, hlt, hf, hSt, hnew, gl]
      repeat' (first | omega | apply And.intro)
      refine Again.of (k + 1) (by omega) (by omega) (SubI.ren (fun m => if m = 0 then some 0 else if m = 1 then some 3 else none) ?_ ?_ ?_ (by simp) (by simp))
      · simp (disch := omega) [subT, renV, ren1, wrapI]
      · have ht : g.take k = g := List.take_of_length_le (by omega)
        simp [subH, es, renL, ren1, ht]
        rw [← ints_app]
        rfl
      · intro m hm
        simp only at hm
        rw [if_neg (by omega), if_neg (by omega)]
    · have : k = list.length := by omega
      subst this
      have ht : (newfP list list.length).take list.length = newfP list list.length := List.take_of_length_le (by simp)
      simp -implicitDefEqProofs [sc_s_NewFaces_L0, F_s_IsShelling, ht]
def sc_i_NewFaces_L0 : SC := (.seq (.reg [⟨(some 15), none, (.bin false .lss (.t 14) (.t 13))⟩]) (.seq (.cond (.t 15) .skip (.exit 0)) (.seq (.block 1 (.seq (.reg [⟨(some 16), none, (.mov (.t 14))⟩, ⟨(some 17), none, (.idx 1 (.t 12) (.t 14))⟩, ⟨(some 18), none, (.ld none (.int .i64 0) (.t 17))⟩, ⟨(some 6), none, (.mov (.t 16))⟩, ⟨(some 7), none, (.mov (.t 18))⟩]) (.reg [⟨(some 19), none, (.mov (.t 5))⟩, ⟨(some 20), none, (.mov (.t 1))⟩, ⟨(some 21), none, (.mov (.t 6))⟩, ⟨(some 22), none, (.sli 1 (.t 20) none (some (.t 21)) none)⟩, ⟨(some 23), none, (.mov (.t 7))⟩, ⟨(some 24), none, (.call 148 [(.t 22), (.t 23)])⟩, ⟨(some 25), none, (.mks 1 1 [(.int .i64 0)] [(0, (1, (.t 24)))])⟩, ⟨(some 26), none, (.app 1 8 (.t 19) (.t 25))⟩, ⟨(some 5), none, (.mov (.t 26))⟩]))) (.reg [⟨(some 27), none, (.bin false .add (.t 14) (.c (.int .i64 1)))⟩, ⟨(some 14), none, (.mov (.t 27))⟩]))))
def sc_i_NewFaces : SC := (.seq (.reg [⟨(some 2), none, (.box (.t 0))⟩, ⟨(some 4), none, (.mov (.c .nil))⟩]) (.seq (.seq (.reg [⟨(some 8), none, (.ld (some 2) .undef (.t 2))⟩, ⟨(some 9), none, (.mov (.t 1))⟩, ⟨(some 10), none, (.call 36 [(.t 8), (.t 9)])⟩, ⟨(some 11), none, (.un .not (.t 10))⟩]) (.cond (.t 11) (.seq (.reg [⟨(some 4), none, (.mov (.c .nil))⟩]) .ret) .skip)) (.seq (.reg [⟨(some 5), none, (.mov (.c .nil))⟩]) (.seq (.seq (.reg [⟨(some 12), none, (.mov (.t 1))⟩, ⟨(some 13), none, (.len (.t 12))⟩, ⟨(some 14), none, (.mov (.c (.int .i64 0)))⟩]) (.block 0 (.loop sc_i_NewFaces_L0))) (.seq (.reg [⟨(some 28), none, (.mov (.t 5))⟩, ⟨(some 4), none, (.mov (.t 28))⟩]) .ret)))))
theorem code_i_NewFaces : fnCode Try.prog [] 32 = some (29, sc_i_NewFaces, [(4, none)]) := by kernel_rfl
theorem fn_i_NewFaces : FnOk Try.prog 32 F_s_NewFaces := by
  have env := ((envNil_ok (P := Try.prog)).add fn_i_newPart).add fn_i_IsShelling
  refine fn_ok code_i_NewFaces mixed env ?_
  intro args r h hb
  obtain ⟨_, _, ⟨n, l⟩, list, rfl, h1, h2, h4⟩ := F2_inv h
  cases dC_inv h1
  cases dL_inv h2
  cases h4
  refine ⟨by simp, fun w0 U0 L0 N0 => ?_⟩
  clear h
  cases hs : shellB n l list with
  | false =>
    have e : newfL n l list = [] := by simp [newfL, hs]
    rw [e]
    simp -implicitDefEqProofs [sc_i_NewFaces, F_s_IsShelling, hs]
  | true =>
    have e : newfL n l list = newfP list list.length := by simp [newfL, hs]
    rw [e]
    have ho := shell_order hs
    have h64 := order_len ho
    obtain ⟨_, _, _, hS⟩ := order_parts ho
    simp -implicitDefEqProofs [sc_i_NewFaces, F_s_IsShelling, hs]
    refine loopI env mixed (fun k : Nat => [(1, .list 1 (ints list)), (5, .sl 1 1 0 k), (12, .list 1 (ints list)), (13, .int .i64 (list.length : Int)), (14, .int .i64 (k : Int))]) (fun k => ([(1, ints (newfP list k)), (0, [.int .i64 n, .list 1 (ints l)])], 2)) (fun k => k ≤ list.length) (fun k => list.length - k) 0 (by simp) (SubI.nilN 5 1 (by simp) (SubI.slots (by simp [newfP]) (by simp))) ?_
    intro k hk
    by_cases hlt : k < list.length
    · have hf := allS_at hS hlt
      have hSt := allS_take hS k
      have es := newfP_succ list k
      have gl := newfP_len list k
      generalize newfP list k = g at *
      simp -implicitDefEqProofs [sc_i_NewFaces_L0, F_i_newPart, hlt, hf, hSt, gl]
      repeat' (first | omega | apply And.intro)
      refine Again.of (k + 1) (by omega) (by omega) (SubI.ren (fun m => if m = 0 then some 0 else if m = 1 then some 3 else none) ?_ ?_ ?_ (by simp) (by simp))
      · simp (disch := omega) [subT, renV, ren1, wrapI]
      · have ht : g.take k = g := List.take_of_length_le (by omega)
        simp [subH, es, renL, ren1, ht]
        rw [← ints_app]
        rfl
      · intro m hm
        simp only at hm
        rw [if_neg (by omega), if_neg (by omega)]
    · have : k = list.length := by omega
      subst this
      have ht : (newfP list list.length).take list.length = newfP list list.length := List.take_of_length_le (by simp)
      simp -implicitDefEqProofs [sc_i_NewFaces_L0, ht]
end Go.Proofs.Ytmemomfffehnkaa
