import Derived.Test.YtmemomfffehnkaaPF
import Derived.Test.YtmemomfffehnkaaPH
import Derived.Test.YtmemomfffehnkaaPG
namespace Go.Proofs.Ytmemomfffehnkaa
open Go Go.RowKit
set_option maxRecDepth 1000000
set_option linter.unusedSimpArgs false
set_option linter.unusedVariables false
set_option maxHeartbeats 1000000
def sc_s_l1Bit : SC := (.seq (.reg [⟨(some 2), none, (.mov (.c (.int .i64 0)))⟩]) (.seq (.seq (.reg [⟨(some 3), none, (.mov (.t 0))⟩]) (.cond (.t 3) (.seq (.reg [⟨(some 2), none, (.mov (.c (.int .i64 1)))⟩]) .ret) .skip)) (.seq (.reg [⟨(some 2), none, (.mov (.c (.int .i64 0)))⟩]) .ret)))
theorem code_s_l1Bit : fnCode Try.prog [] 164 = some (4, sc_s_l1Bit, [(2, none)]) := by kernel_rfl
def F_s_l1Bit : List V → Option V := F1 dB fun b => some (.int .i64 (if b = true then 1 else 0))
theorem fn_s_l1Bit : FnOk Try.prog 164 F_s_l1Bit := by
  refine fn_ok code_s_l1Bit mixed envNil_ok ?_
  intro args r h hb
  obtain ⟨_, b, rfl, h1, h4⟩ := F1_inv h
  cases dB_inv h1
  cases h4
  refine ⟨by simp, fun w0 U0 L0 N0 => ?_⟩
  cases b <;> simp -implicitDefEqProofs [sc_s_l1Bit]
end Go.Proofs.Ytmemomfffehnkaa
namespace Go.Proofs.Ytmemomfffehnkaa
open Go Go.RowKit
set_option maxRecDepth 1000000
set_option linter.unusedSimpArgs false
set_option linter.unusedVariables false
set_option maxHeartbeats 1000000
def sc_s_DrawIsDecomposable : SC := (.seq (.reg [⟨(some 2), none, (.new [(.int .i64 0), .nil])⟩]) (.seq (.reg [⟨(some 3), none, (.mov (.t 0))⟩, ⟨(some 4), none, (.call 128 [(.t 3)])⟩, ⟨(some 5), none, (.call 144 [(.t 4)])⟩, ⟨none, none, (.st 2 (.t 2) (.t 5))⟩]) .ret))
theorem code_s_DrawIsDecomposable : fnCode Try.prog [144, 129, 162] 94 = some (6, sc_s_DrawIsDecomposable, [(2, (some 2))]) := by kernel_rfl
noncomputable def F_s_DrawIsDecomposable : List V → Option V := F1 dBy fun b => some (.agg [.int .i64 (bentN (newCur b)).1.1, .own 1 (ints (bentN (newCur b)).1.2)])
theorem fn_s_DrawIsDecomposable : FnOk Try.prog 94 F_s_DrawIsDecomposable := by
  have env := ((envNil_ok (P := Try.prog)).add fn_s_l1New).addl ln_s_l3Bent
  refine fn_ok code_s_DrawIsDecomposable mixed env ?_
  intro args r h hb
  obtain ⟨_, b, rfl, h1, h4⟩ := F1_inv h
  obtain ⟨hw, rfl⟩ := dBy_inv h1
  cases h4
  clear h hb h1
  refine ⟨by simp, fun w0 U0 L0 N0 => ?_⟩
  have hN : F_s_l1New [.list 1 (u8s b)] = some (.opt (curC (newCur b))) := by
    simp only [F_s_l1New, F1_mk, dBy_list hw, Option.bind_some]
  have g0 := G_bent (newCur_wf hw)
  generalize bentN (newCur b) = x at *
  generalize newCur b = c0 at *
  simp -implicitDefEqProofs [sc_s_DrawIsDecomposable, ren0, hN, g0]
def sc_s_DrawIsShedding : SC := (.seq (.reg [⟨(some 2), none, (.new [(.int .i64 0), .nil])⟩, ⟨(some 3), none, (.mov (.c (.int .i64 0)))⟩]) (.seq (.reg [⟨(some 6), none, (.mov (.t 0))⟩, ⟨(some 7), none, (.call 128 [(.t 6)])⟩, ⟨(some 4), none, (.mov (.t 7))⟩]) (.seq (.reg [⟨(some 8), none, (.mov (.t 4))⟩, ⟨(some 9), none, (.call 144 [(.t 8)])⟩, ⟨(some 5), none, (.new [(.int .i64 0), .nil])⟩, ⟨none, none, (.st 2 (.t 5) (.t 9))⟩]) (.seq (.treg (.fst ⟨(some 11), none, (.mov (.t 4))⟩ false (.fst ⟨(some 13), none, (.mov (.t 4))⟩ true (.alt ⟨(some 10), none, (.ld (some 2) .undef (.t 5))⟩ false (.alt ⟨(some 12), none, (.call 129 [(.t 11), (.c (.int .i64 7))])⟩ true (.alt ⟨(some 14), none, (.call 162 [(.t 13), (.c (.int .i64 8))])⟩ true (.fst ⟨(some 15), none, (.call 164 [(.t 14)])⟩ false (.fst ⟨(some 16), none, (.bin false .sub (.t 12) (.t 15))⟩ true (.alt ⟨none, none, (.st 2 (.t 2) (.t 10))⟩ true (.fst ⟨(some 3), none, (.mov (.t 16))⟩ false .done) .stop))) .stop) .stop) (.alt ⟨(some 12), none, (.call 129 [(.t 11), (.c (.int .i64 7))])⟩ true (.alt ⟨(some 10), none, (.ld (some 2) .undef (.t 5))⟩ false (.alt ⟨(some 14), none, (.call 162 [(.t 13), (.c (.int .i64 8))])⟩ true (.fst ⟨(some 15), none, (.call 164 [(.t 14)])⟩ false (.fst ⟨(some 16), none, (.bin false .sub (.t 12) (.t 15))⟩ true (.alt ⟨none, none, (.st 2 (.t 2) (.t 10))⟩ true (.fst ⟨(some 3), none, (.mov (.t 16))⟩ false .done) .stop))) .stop) (.alt ⟨(some 14), none, (.call 162 [(.t 13), (.c (.int .i64 8))])⟩ true (.fst ⟨(some 10), none, (.ld (some 2) .undef (.t 5))⟩ false (.fst ⟨(some 15), none, (.call 164 [(.t 14)])⟩ false (.fst ⟨(some 16), none, (.bin false .sub (.t 12) (.t 15))⟩ true (.alt ⟨none, none, (.st 2 (.t 2) (.t 10))⟩ true (.fst ⟨(some 3), none, (.mov (.t 16))⟩ false .done) .stop)))) .stop)) .stop))))) .ret))))
theorem code_s_DrawIsShedding : fnCode Try.prog [144, 129, 162] 95 = some (17, sc_s_DrawIsShedding, [(2, (some 2)), (3, none)]) := by kernel_rfl
/-- The drawn point. -/
noncomputable def dsX (c : Cur) : Int := (belowN c 7).1 - (if onceN (belowN c 7).2 8 = true then 1 else 0)
theorem dsX_rng (c : Cur) : -1 ≤ dsX c ∧ dsX c ≤ 6 := by
  have := belowN_rng c (n := 7) (by omega)
  unfold dsX
  split <;> omega
noncomputable def F_s_DrawIsShedding : List V → Option V := F1 dBy fun b => some (.tup [.agg [.int .i64 (bentN (newCur b)).1.1, .own 1 (ints (bentN (newCur b)).1.2)], .int .i64 (dsX (bentN (newCur b)).2)])
theorem fn_s_DrawIsShedding : FnOk Try.prog 95 F_s_DrawIsShedding := by
  have env := (((((envNil_ok (P := Try.prog)).add fn_s_l1New).add fn_s_l1Bit).addl ln_s_l1Below).addl ln_s_l1Once).addl ln_s_l3Bent
  refine fn_ok code_s_DrawIsShedding mixed env ?_
  intro args r h hb
  obtain ⟨_, b, rfl, h1, h4⟩ := F1_inv h
  obtain ⟨hw, rfl⟩ := dBy_inv h1
  cases h4
  clear h hb h1
  refine ⟨by simp, fun w0 U0 L0 N0 => ?_⟩
  have hN : F_s_l1New [.list 1 (u8s b)] = some (.opt (curC (newCur b))) := by
    simp only [F_s_l1New, F1_mk, dBy_list hw, Option.bind_some]
  have v0 := newCur_wf hw
  have g0 := G_bent v0
  have v1 := bentN_wf v0
  generalize bentN (newCur b) = x at *
  generalize newCur b = c0 at *
  obtain ⟨⟨n, l⟩, c⟩ := x
  simp only at g0 v1 ⊢
  have g1 := G_below v1 7
  have v2 := belowN_wf v1 7
  have r1 := belowN_rng c (n := 7) (by omega)
  have g2 := G_once v2 8
  have e : dsX c = (belowN c 7).1 - (if onceN (belowN c 7).2 8 = true then 1 else 0) := rfl
  have hB : ∀ o : Bool, F_s_l1Bit [.bool o] = some (.int .i64 (if o = true then 1 else 0)) := fun o => by
    simp only [F_s_l1Bit, F1_mk, dB_bool, Option.bind_some]
  have hB2 := hB (onceN (belowN c 7).2 8)
  have hwb : IntKind.i64.wrap ((belowN c 7).1 - (if onceN (belowN c 7).2 8 = true then 1 else 0)) = dsX c := by
    rw [e]
    have := dsX_rng c
    rw [e] at this
    exact wrapI _ (by omega) (by omega)
  generalize dsX c = S at *
  generalize (if onceN (belowN c 7).2 8 = true then (1 : Int) else 0) = t at *
  generalize onceN (belowN c 7).2 8 = o at *
  simp -implicitDefEqProofs [sc_s_DrawIsShedding, freeOk, ren0, hN, g0, g1, g2, hB2, hwb]
end Go.Proofs.Ytmemomfffehnkaa
namespace Go.Proofs.Ytmemomfffehnkaa
open Go Go.RowKit
set_option maxRecDepth 1000000
set_option linter.unusedSimpArgs false
set_option linter.unusedVariables false
set_option maxHeartbeats 1000000
def sc_s_l5Set : SC := (.seq (.reg [⟨(some 2), none, (.box (.t 0))⟩, ⟨(some 4), none, (.mov (.c (.bool false)))⟩]) (.seq (.reg [⟨(some 5), none, (.ld (some 2) .undef (.t 2))⟩, ⟨(some 6), none, (.call 24 [(.t 5)])⟩, ⟨(some 7), none, (.mov (.t 6))⟩, ⟨(some 8), (some (7, true)), (.fad 0 (.t 2))⟩, ⟨(some 9), (some (7, true)), (.ld none (.int .i64 0) (.t 8))⟩, ⟨(some 10), (some (7, true)), (.mov (.t 1))⟩, ⟨(some 11), (some (7, true)), (.call 139 [(.t 9), (.t 10)])⟩, ⟨(some 12), none, (.pick (.t 7) (.t 11) (.c (.bool false)))⟩, ⟨(some 4), none, (.mov (.t 12))⟩]) .ret))
theorem code_s_l5Set : fnCode Try.prog [] 184 = some (13, sc_s_l5Set, [(4, none)]) := by kernel_rfl
noncomputable def l5B (n : Int) (l : List Int) (s : Int) : Bool := dec (cplx n l ∧ isSet n s = true)
noncomputable def F_s_l5Set : List V → Option V := F2 dC dI fun c s => some (.bool (l5B c.1 c.2 s))
theorem fn_s_l5Set : FnOk Try.prog 184 F_s_l5Set := by
  have env := ((envNil_ok (P := Try.prog)).add fn_s_IsComplex).add fn_s_IsSet
  refine fn_ok code_s_l5Set mixed env ?_
  intro args r h hb
  obtain ⟨_, _, ⟨n, l⟩, s, rfl, h1, h2, h4⟩ := F2_inv h
  cases dC_inv h1
  cases dI_inv h2
  cases h4
  refine ⟨by simp, fun w0 U0 L0 N0 => ?_⟩
  generalize hv : l5B n l s = v
  cases hc : cplxB n l with
  | false =>
    have hv1 : v = false := hv ▸ dec_false fun h => by simp [cplxB_iff.2 h.1] at hc
    simp -implicitDefEqProofs [sc_s_l5Set, F_s_IsComplex, F_s_IsSet, hc, hv1]
  | true =>
    have hv1 : v = isSet n s := by
      rw [← hv, Bool.eq_iff_iff]
      exact dec_iff.trans ⟨fun h => h.2, fun h => ⟨cplxB_iff.1 hc, h⟩⟩
    simp -implicitDefEqProofs [sc_s_l5Set, F_s_IsComplex, F_s_IsSet, hc, hv1]
end Go.Proofs.Ytmemomfffehnkaa
namespace Go.Proofs.Ytmemomfffehnkaa
open Go Go.RowKit
set_option maxRecDepth 1000000
set_option linter.unusedSimpArgs false
set_option linter.unusedVariables false
set_option maxHeartbeats 1000000
def sc_s_l5Link_L0 : SC := (.seq (.seq (.reg [⟨(some 8), none, (.mov (.t 6))⟩, ⟨(some 9), none, (.fad 1 (.t 2))⟩, ⟨(some 10), none, (.ld none .nil (.t 9))⟩, ⟨(some 11), none, (.len (.t 10))⟩, ⟨(some 12), none, (.bin false .lss (.t 8) (.t 11))⟩]) (.cond (.t 12) .skip (.exit 0))) (.seq (.block 1 (.seq (.reg [⟨(some 15), none, (.fad 1 (.t 2))⟩, ⟨(some 16), none, (.ld none .nil (.t 15))⟩, ⟨(some 17), none, (.mov (.t 6))⟩, ⟨(some 18), none, (.idx 1 (.t 16) (.t 17))⟩, ⟨(some 19), none, (.ld none (.int .i64 0) (.t 18))⟩, ⟨(some 20), none, (.mov (.t 1))⟩, ⟨(some 21), none, (.bin false .and (.t 19) (.t 20))⟩, ⟨(some 22), none, (.mov (.t 1))⟩, ⟨(some 23), none, (.bin false .eql (.t 21) (.t 22))⟩]) (.cond (.t 23) (.reg [⟨(some 24), none, (.mov (.t 5))⟩, ⟨(some 25), none, (.fad 1 (.t 2))⟩, ⟨(some 26), none, (.ld none .nil (.t 25))⟩, ⟨(some 27), none, (.mov (.t 6))⟩, ⟨(some 28), none, (.idx 1 (.t 26) (.t 27))⟩, ⟨(some 29), none, (.ld none (.int .i64 0) (.t 28))⟩, ⟨(some 30), none, (.mov (.t 1))⟩, ⟨(some 31), none, (.bin false .sub (.t 29) (.t 30))⟩, ⟨(some 32), none, (.mks 1 1 [(.int .i64 0)] [(0, (1, (.t 31)))])⟩, ⟨(some 33), none, (.app 1 8 (.t 24) (.t 32))⟩, ⟨(some 5), none, (.mov (.t 33))⟩]) .skip))) (.reg [⟨(some 13), none, (.mov (.t 6))⟩, ⟨(some 14), none, (.bin false .add (.t 13) (.c (.int .i64 1)))⟩, ⟨(some 6), none, (.mov (.t 14))⟩])))
def sc_s_l5Link : SC := (.seq (.reg [⟨(some 2), none, (.box (.t 0))⟩, ⟨(some 4), none, (.new [(.int .i64 0), .nil])⟩]) (.seq (.reg [⟨(some 7), none, (.mks 0 1 [] [])⟩, ⟨(some 5), none, (.mov (.t 7))⟩]) (.seq (.seq (.reg [⟨(some 6), none, (.mov (.c (.int .i64 0)))⟩]) (.block 0 (.loop sc_s_l5Link_L0))) (.seq (.reg [⟨(some 34), none, (.fad 0 (.t 2))⟩, ⟨(some 35), none, (.ld none (.int .i64 0) (.t 34))⟩, ⟨(some 36), none, (.mov (.t 5))⟩, ⟨(some 37), none, (.call 224 [(.t 35), (.t 36)])⟩, ⟨none, none, (.st 2 (.t 4) (.t 37))⟩]) .ret))))
theorem code_s_l5Link : fnCode Try.prog [] 199 = some (38, sc_s_l5Link, [(4, (some 2))]) := by kernel_rfl
theorem lnkL_pos {l : List Int} {k : Nat} (h : k < l.length) {s : Int} (hq : subS s (at0 l k)) : lnkL (l.take (k + 1)) s = lnkL (l.take k) s ++ [at0 l k - s] := by
  unfold lnkL
  rw [filt_pos h (dec_true hq), List.map_append]
  rfl
theorem lnkL_neg {l : List Int} {k : Nat} (h : k < l.length) {s : Int} (hq : ¬ subS s (at0 l k)) : lnkL (l.take (k + 1)) s = lnkL (l.take k) s := by
  unfold lnkL
  rw [filt_neg h (dec_false hq)]
theorem lnkL_len (l : List Int) (k : Nat) (s : Int) : (lnkL (l.take k) s).length ≤ l.length := by
  unfold lnkL
  rw [List.length_map]
  exact filt_len l k _
noncomputable def F_s_l5Link : List V → Option V := F2 dC dI fun c s => @ite _ (allS c.2 ∧ c.2.length ≤ 64 ∧ isS s) (Classical.propDecidable _) (some (.agg [.int .i64 c.1, .own 1 (ints (setsOf (maxP (lnkP (faceS c.2) s))))])) none
theorem fn_s_l5Link : FnOk Try.prog 199 F_s_l5Link := by
  have env := (envNil_ok (P := Try.prog)).add fn_s_l3Make
  refine fn_ok code_s_l5Link mixed env ?_
  intro args r h hb
  obtain ⟨_, _, ⟨n, l⟩, s, rfl, h1, h2, h4⟩ := F2_inv h
  cases dC_inv h1
  cases dI_inv h2
  clear h
  simp only [Option.ite_none_right_eq_some, Option.some.injEq] at h4
  obtain ⟨⟨hS, hl, hs⟩, rfl⟩ := h4
  have hF : F_s_l3Make [.int .i64 n, .list 1 (ints (lnkL l s))] = some (.agg [.int .i64 n, .own 1 (ints (setsOf (maxP (lnkP (faceS l) s))))]) := by
    simp only [F_s_l3Make, F2_mk, dL_list, dI_int, Option.bind_some]
    rw [if_pos (allS_lnkL hS hs), setsOf_congr fun t ht => lnkL_max hS hs ht]
  refine ⟨by simp, fun w0 U0 L0 N0 => ?_⟩
  clear hb
  simp -implicitDefEqProofs [sc_s_l5Link]
  refine loopI env mixed (fun k : Nat => [(1, .int .i64 s), (2, .pt 0 0), (4, .pt 1 0), (5, .sl 2 1 0 (lnkL (l.take k) s).length), (6, .int .i64 (k : Int))]) (fun k => ([(2, ints (lnkL (l.take k) s)), (1, [.int .i64 0, .nil]), (0, [.int .i64 n, .list 1 (ints l)])], 3)) (fun k => k ≤ l.length) (fun k => l.length - k) 0 (by simp) (SubI.slots (by simp [lnkL]) (by simp [lnkL])) ?_
  intro k hk
  have gl := lnkL_len l k s
  by_cases hlt : k < l.length
  · have hf := allS_at hS hlt
    by_cases h1 : band (at0 l k) s = s
    · have hsub := (subS_iff' hs hf).2 h1
      have e := lnkL_pos hlt hsub
      have hw : IntKind.i64.wrap (at0 l k - s) = at0 l k - s := wrapI _ (by have := hf.1; have := hs.2; omega) (by have := hf.2; have := hs.1; omega)
      generalize lnkL (l.take k) s = g at *
      simp -implicitDefEqProofs [sc_s_l5Link_L0, hlt, h1, hw]
      repeat' (first | omega | apply And.intro)
      refine Again.of (k + 1) (by omega) (by omega) (SubI.ren (fun m => if m = 0 then some 0 else if m = 1 then some 1 else if m = 2 then some 4 else none) ?_ ?_ ?_ (by simp) (by simp))
      · simp only [e]
        simp (disch := omega) [subT, renV, ren1, wrapI]
      · simp only [e]
        simp [subH, renL, ren1]
        rw [← ints_app]
        rfl
      · intro m hm
        simp only at hm
        rw [if_neg (by omega), if_neg (by omega), if_neg (by omega)]
    · have e := lnkL_neg hlt fun h => h1 ((subS_iff' hs hf).1 h)
      generalize lnkL (l.take k) s = g at *
      simp -implicitDefEqProofs [sc_s_l5Link_L0, hlt, h1]
      repeat' (first | omega | apply And.intro)
      exact Again.of (k + 1) (by omega) (by omega) (SubI.slots (by simp only [e]) (by simp only [e]; simp (disch := omega) [wrapI]))
  · have : k = l.length := by omega
    subst this
    rw [List.take_length] at *
    generalize lnkL l s = g at *
    generalize setsOf (maxP (lnkP (faceS l) s)) = R at *
    simp -implicitDefEqProofs [sc_s_l5Link_L0, hF]
def sc_s_l5Without_L0 : SC := (.seq (.seq (.reg [⟨(some 11), none, (.mov (.t 7))⟩, ⟨(some 12), none, (.mov (.t 6))⟩, ⟨(some 13), none, (.len (.t 12))⟩, ⟨(some 14), none, (.bin false .lss (.t 11) (.t 13))⟩]) (.cond (.t 14) .skip (.exit 0))) (.seq (.block 1 (.seq (.reg [⟨(some 17), none, (.mov (.t 6))⟩, ⟨(some 18), none, (.mov (.t 7))⟩, ⟨(some 19), none, (.idx 1 (.t 17) (.t 18))⟩, ⟨(some 20), none, (.ld none (.int .i64 0) (.t 19))⟩, ⟨(some 21), none, (.mov (.t 1))⟩, ⟨(some 22), none, (.bin false .and (.t 20) (.t 21))⟩, ⟨(some 23), none, (.mov (.t 1))⟩, ⟨(some 24), none, (.bin false .neq (.t 22) (.t 23))⟩]) (.cond (.t 24) (.reg [⟨(some 25), none, (.mov (.t 5))⟩, ⟨(some 26), none, (.mov (.t 6))⟩, ⟨(some 27), none, (.mov (.t 7))⟩, ⟨(some 28), none, (.idx 1 (.t 26) (.t 27))⟩, ⟨(some 29), none, (.ld none (.int .i64 0) (.t 28))⟩, ⟨(some 30), none, (.mks 1 1 [(.int .i64 0)] [(0, (1, (.t 29)))])⟩, ⟨(some 31), none, (.app 1 8 (.t 25) (.t 30))⟩, ⟨(some 5), none, (.mov (.t 31))⟩]) .skip))) (.reg [⟨(some 15), none, (.mov (.t 7))⟩, ⟨(some 16), none, (.bin false .add (.t 15) (.c (.int .i64 1)))⟩, ⟨(some 7), none, (.mov (.t 16))⟩])))
def sc_s_l5Without : SC := (.seq (.reg [⟨(some 2), none, (.box (.t 0))⟩, ⟨(some 4), none, (.new [(.int .i64 0), .nil])⟩]) (.seq (.reg [⟨(some 8), none, (.mks 0 1 [] [])⟩, ⟨(some 5), none, (.mov (.t 8))⟩]) (.seq (.reg [⟨(some 9), none, (.ld (some 2) .undef (.t 2))⟩, ⟨(some 10), none, (.call 43 [(.t 9)])⟩, ⟨(some 6), none, (.mov (.t 10))⟩]) (.seq (.seq (.reg [⟨(some 7), none, (.mov (.c (.int .i64 0)))⟩]) (.block 0 (.loop sc_s_l5Without_L0))) (.seq (.reg [⟨(some 32), none, (.fad 0 (.t 2))⟩, ⟨(some 33), none, (.ld none (.int .i64 0) (.t 32))⟩, ⟨(some 34), none, (.mov (.t 5))⟩, ⟨(some 35), none, (.call 224 [(.t 33), (.t 34)])⟩, ⟨none, none, (.st 2 (.t 4) (.t 35))⟩]) .ret)))))
theorem code_s_l5Without : fnCode Try.prog [] 176 = some (36, sc_s_l5Without, [(4, (some 2))]) := by kernel_rfl
noncomputable def F_s_l5Without : List V → Option V := F2 dC dI fun c s => @ite _ (cplx c.1 c.2 ∧ isS s) (Classical.propDecidable _) (some (.agg [.int .i64 c.1, .own 1 (ints (setsOf (maxP (wtoP (faceS c.2) s))))])) none
theorem fn_s_l5Without : FnOk Try.prog 176 F_s_l5Without := by
  have env := ((envNil_ok (P := Try.prog)).add fn_s_l3Make).add fn_s_FacesOf
  refine fn_ok code_s_l5Without mixed env ?_
  intro args r h hb
  obtain ⟨_, _, ⟨n, l⟩, s, rfl, h1, h2, h4⟩ := F2_inv h
  cases dC_inv h1
  cases dI_inv h2
  clear h
  simp only [Option.ite_none_right_eq_some, Option.some.injEq] at h4
  obtain ⟨⟨hc, hs⟩, rfl⟩ := h4
  refine ⟨by simp, fun w0 U0 L0 N0 => ?_⟩
  clear hb
  have hL : allS (facesL n l) := allS_setsOf _
  have hLl : (facesL n l).length ≤ 64 := setsOf_len _
  have hF : F_s_l3Make [.int .i64 n, .list 1 (ints ((facesL n l).filter fun t => dec (¬ subS s t)))] = some (.agg [.int .i64 n, .own 1 (ints (setsOf (maxP (wtoP (faceS l) s))))]) := by
    simp only [F_s_l3Make, F2_mk, dL_list, dI_int, Option.bind_some]
    rw [if_pos (show allS _ from fun x hx => hL x (List.mem_filter.1 hx).1), setsOf_congr fun t ht => maxP_congr (fun u hu => ?_) ht]
    rw [List.mem_filter, dec_iff, facesL_of hc, mem_setsOf]
    exact ⟨fun h => ⟨h.1.2, h.2⟩, fun h => ⟨⟨hu, h.1⟩, h.2⟩⟩
  simp -implicitDefEqProofs [sc_s_l5Without, F_s_FacesOf]
  generalize setsOf (maxP (wtoP (faceS l) s)) = R at *
  generalize facesL n l = L at *
  generalize hq : (fun t => dec (¬ subS s t)) = q at *
  refine loopI env mixed (fun k : Nat => [(1, .int .i64 s), (2, .pt 0 0), (4, .pt 1 0), (5, .sl 2 1 0 ((L.take k).filter q).length), (6, .sl 3 1 0 L.length), (7, .int .i64 (k : Int))]) (fun k => ([(3, ints L), (2, ints ((L.take k).filter q)), (1, [.int .i64 0, .nil]), (0, [.int .i64 n, .list 1 (ints l)])], 4)) (fun k => k ≤ L.length) (fun k => L.length - k) 0 (by simp) (SubI.slots (by simp) (by simp)) ?_
  intro k hk
  have gl := filt_len L k q
  by_cases hlt : k < L.length
  · have hf := allS_at hL hlt
    by_cases h1 : band (at0 L k) s = s
    · have e := filt_neg hlt (q := q) (by rw [← hq]; exact dec_false fun h => h ((subS_iff' hs hf).2 h1))
      generalize (L.take k).filter q = g at *
      simp -implicitDefEqProofs [sc_s_l5Without_L0, hlt, h1]
      repeat' (first | omega | apply And.intro)
      exact Again.of (k + 1) (by omega) (by omega) (SubI.slots (by simp only [e]) (by simp only [e]; simp (disch := omega) [wrapI]))
    · have e := filt_pos hlt (q := q) (by rw [← hq]; exact dec_true fun h => h1 ((subS_iff' hs hf).1 h))
      generalize (L.take k).filter q = g at *
      simp -implicitDefEqProofs [sc_s_l5Without_L0, hlt, h1]
      repeat' (first | omega | apply And.intro)
      refine Again.of (k + 1) (by omega) (by omega) (SubI.ren (fun m => if m = 0 then some 0 else if m = 1 then some 1 else if m = 2 then some 5 else if m = 3 then some 3 else none) ?_ ?_ ?_ (by simp) (by simp))
      · simp only [e]
        simp (disch := omega) [subT, renV, ren1, wrapI]
      · simp only [e]
        simp [subH, renL, ren1]
        rw [← ints_app]
        rfl
      · intro m hm
        simp only at hm
        rw [if_neg (by omega), if_neg (by omega), if_neg (by omega), if_neg (by omega)]
  · have : k = L.length := by omega
    subst this
    rw [List.take_length] at *
    generalize L.filter q = g at *
    simp -implicitDefEqProofs [sc_s_l5Without_L0, hF]
end Go.Proofs.Ytmemomfffehnkaa
namespace Go.Proofs.Ytmemomfffehnkaa
open Go Go.RowKit
set_option maxRecDepth 1000000
set_option linter.unusedSimpArgs false
set_option linter.unusedVariables false
set_option maxHeartbeats 1000000
def sc_s_IsShedding_L0 : SC := (.seq (.seq (.reg [⟨(some 37), none, (.mov (.t 7))⟩, ⟨(some 38), none, (.fad 1 (.t 5))⟩, ⟨(some 39), none, (.ld none .nil (.t 38))⟩, ⟨(some 40), none, (.len (.t 39))⟩, ⟨(some 41), none, (.bin false .lss (.t 37) (.t 40))⟩]) (.cond (.t 41) .skip (.exit 0))) (.seq (.block 1 (.seq (.dreg [⟨⟨(some 44), none, (.fad 1 (.t 6))⟩, false, false⟩, ⟨⟨(some 45), none, (.ld none .nil (.t 44))⟩, false, false⟩, ⟨⟨(some 46), none, (.fad 1 (.t 5))⟩, false, false⟩, ⟨⟨(some 47), none, (.ld none .nil (.t 46))⟩, false, false⟩, ⟨⟨(some 48), none, (.mov (.t 7))⟩, false, false⟩, ⟨⟨(some 49), none, (.idx 1 (.t 47) (.t 48))⟩, false, false⟩, ⟨⟨(some 50), none, (.ld none (.int .i64 0) (.t 49))⟩, false, false⟩, ⟨⟨(some 51), none, (.call 134 [(.t 45), (.t 50)])⟩, false, false⟩]) (.cond (.t 51) (.seq (.reg [⟨(some 4), none, (.mov (.c (.bool false)))⟩]) .ret) .skip))) (.reg [⟨(some 42), none, (.mov (.t 7))⟩, ⟨(some 43), none, (.bin false .add (.t 42) (.c (.int .i64 1)))⟩, ⟨(some 7), none, (.mov (.t 43))⟩])))
def sc_s_IsShedding : SC := (.seq (.reg [⟨(some 2), none, (.box (.t 0))⟩, ⟨(some 4), none, (.mov (.c (.bool false)))⟩]) (.seq (.seq (.reg [⟨(some 8), none, (.ld (some 2) .undef (.t 2))⟩, ⟨(some 9), none, (.call 24 [(.t 8)])⟩, ⟨(some 10), none, (.un .not (.t 9))⟩, ⟨(some 11), none, (.mov (.t 10))⟩, ⟨(some 12), (some (11, false)), (.mov (.t 1))⟩, ⟨(some 13), (some (11, false)), (.fad 0 (.t 2))⟩, ⟨(some 14), (some (11, false)), (.ld none (.int .i64 0) (.t 13))⟩, ⟨(some 15), (some (11, false)), (.bin false .sub (.t 14) (.c (.int .i64 1)))⟩, ⟨(some 16), (some (11, false)), (.call 132 [(.t 12), (.c (.int .i64 0)), (.t 15)])⟩, ⟨(some 17), (some (11, false)), (.un .not (.t 16))⟩, ⟨(some 18), none, (.pick (.t 11) (.c (.bool true)) (.t 17))⟩, ⟨(some 19), none, (.mov (.t 18))⟩, ⟨(some 20), (some (19, false)), (.ld (some 2) .undef (.t 2))⟩, ⟨(some 21), (some (19, false)), (.mov (.t 1))⟩, ⟨(some 22), (some (19, false)), (.conv .u64 (.t 21))⟩, ⟨(some 23), (some (19, false)), (.bin false .shl (.c (.int .i64 1)) (.t 22))⟩, ⟨(some 24), (some (19, false)), (.call 158 [(.t 20), (.t 23)])⟩, ⟨(some 25), (some (19, false)), (.un .not (.t 24))⟩, ⟨(some 26), none, (.pick (.t 19) (.c (.bool true)) (.t 25))⟩]) (.cond (.t 26) (.seq (.reg [⟨(some 4), none, (.mov (.c (.bool false)))⟩]) .ret) .skip)) (.seq (.reg [⟨(some 27), none, (.ld (some 2) .undef (.t 2))⟩, ⟨(some 28), none, (.mov (.t 1))⟩, ⟨(some 29), none, (.conv .u64 (.t 28))⟩, ⟨(some 30), none, (.bin false .shl (.c (.int .i64 1)) (.t 29))⟩, ⟨(some 31), none, (.call 199 [(.t 27), (.t 30)])⟩, ⟨(some 5), none, (.new [(.int .i64 0), .nil])⟩, ⟨none, none, (.st 2 (.t 5) (.t 31))⟩]) (.seq (.reg [⟨(some 32), none, (.ld (some 2) .undef (.t 2))⟩, ⟨(some 33), none, (.mov (.t 1))⟩, ⟨(some 34), none, (.conv .u64 (.t 33))⟩, ⟨(some 35), none, (.bin false .shl (.c (.int .i64 1)) (.t 34))⟩, ⟨(some 36), none, (.call 176 [(.t 32), (.t 35)])⟩, ⟨(some 6), none, (.new [(.int .i64 0), .nil])⟩, ⟨none, none, (.st 2 (.t 6) (.t 36))⟩]) (.seq (.seq (.reg [⟨(some 7), none, (.mov (.c (.int .i64 0)))⟩]) (.block 0 (.loop sc_s_IsShedding_L0))) (.seq (.reg [⟨(some 4), none, (.mov (.c (.bool true)))⟩]) .ret))))))
theorem code_s_IsShedding : fnCode Try.prog [] 101 = some (52, sc_s_IsShedding, [(4, none)]) := by kernel_rfl
/-- A point that can be taken away from a family. -/
def shedQ (p : Int → Prop) (i : Nat) : Prop := p (2 ^ i) ∧ ∀ t, isS t → maxP (lnkP p (2 ^ i)) t → ¬ maxP (wtoP p (2 ^ i)) t
theorem lnkP_congr {p q : Int → Prop} (h : ∀ s, isS s → (p s ↔ q s)) {s t : Int} (hs : isS s) (ht : isS t) : lnkP p s t ↔ lnkP q s t := by
  unfold lnkP
  rw [h _ (isS_bor ht hs)]
theorem wtoP_congr {p q : Int → Prop} (h : ∀ s, isS s → (p s ↔ q s)) {s t : Int} (ht : isS t) : wtoP p s t ↔ wtoP q s t := by
  unfold wtoP
  rw [h _ ht]
theorem shedQ_congr {p q : Int → Prop} (h : ∀ s, isS s → (p s ↔ q s)) {i : Nat} (hi : i < 6) : shedQ p i ↔ shedQ q i := by
  have hs := isS_pow hi
  unfold shedQ
  rw [h _ hs]
  have e1 : ∀ t, isS t → (maxP (lnkP p (2 ^ i)) t ↔ maxP (lnkP q (2 ^ i)) t) := fun t ht => maxP_congr (fun u hu => lnkP_congr h hs hu) ht
  have e2 : ∀ t, isS t → (maxP (wtoP p (2 ^ i)) t ↔ maxP (wtoP q (2 ^ i)) t) := fun t ht => maxP_congr (fun u hu => wtoP_congr h hu) ht
  constructor
  · rintro ⟨a, b⟩; exact ⟨a, fun t ht h1 h2 => b t ht ((e1 t ht).2 h1) ((e2 t ht).2 h2)⟩
  · rintro ⟨a, b⟩; exact ⟨a, fun t ht h1 h2 => b t ht ((e1 t ht).1 h1) ((e2 t ht).1 h2)⟩
theorem shl6 {i : Nat} (hi : i < 6) : IntKind.i64.wrap (2 ^ min i IntKind.i64.bits) = 2 ^ i := by
  have : ∀ i : Nat, i < 6 → IntKind.i64.wrap (2 ^ min i IntKind.i64.bits) = 2 ^ i := by decide +kernel
  exact this i hi
def shdP (n : Int) (l : List Int) (x : Int) : Prop := cplx n l ∧ 0 ≤ x ∧ x < n ∧ shedQ (faceS l) x.toNat
noncomputable def F_s_IsShedding : List V → Option V := F2 dC dI fun c x => @ite _ (inR x) (Classical.propDecidable _) (some (.bool (dec (shdP c.1 c.2 x)))) none
theorem cplx_len {n : Int} {l : List Int} (h : cplx n l) : l.length ≤ 64 := by
  have hp : l.Nodup := by
    refine List.pairwise_iff_getElem.2 ?_
    intro i j hi hj hij e
    have hb := cplx_before h hij hj
    have e1 : at0 l i = at0 l j := by rw [at0_eq hi, at0_eq hj, e]
    rw [e1] at hb
    simp only [before, decide_eq_true_eq] at hb
    omega
  exact nodup_len hp (cplx_isS h)
theorem fn_s_IsShedding : FnOk Try.prog 101 F_s_IsShedding := by
  have env := ((((((envNil_ok (P := Try.prog)).add fn_s_IsComplex).add fn_s_l1In).add fn_s_l3Has).add fn_s_l5Link).add fn_s_l5Without).add fn_s_l2Has
  refine fn_ok code_s_IsShedding mixed env ?_
  intro args r h hb
  obtain ⟨_, _, ⟨n, l⟩, x, rfl, h1, h2, h4⟩ := F2_inv h
  cases dC_inv h1
  cases dI_inv h2
  clear h
  simp only [Option.ite_none_right_eq_some, Option.some.injEq] at h4
  obtain ⟨hx, rfl⟩ := h4
  refine ⟨by simp, fun w0 U0 L0 N0 => ?_⟩
  clear hb
  generalize hv : dec (shdP n l x) = v
  cases e0 : cplxB n l with
  | false =>
    have hv1 : v = false := hv ▸ dec_false fun h => by simp [cplxB_iff.2 h.1] at e0
    simp -implicitDefEqProofs [sc_s_IsShedding, F_s_IsComplex, e0, hv1]
  | true =>
  have hc := cplxB_iff.1 e0
  have hS := cplx_isS hc
  have hl64 := cplx_len hc
  obtain ⟨hn1, hn6, _⟩ := id hc
  have hw : IntKind.i64.wrap (n - 1) = n - 1 := wrapI _ (by omega) (by omega)
  by_cases g1 : 0 ≤ x ∧ x ≤ n - 1
  rotate_left
  · have hv1 : v = false := hv ▸ dec_false fun h => g1 ⟨h.2.1, by have := h.2.2.1; omega⟩
    have g1' : decide (0 ≤ x ∧ x ≤ n - 1) = false := by simpa using g1
    simp -implicitDefEqProofs [sc_s_IsShedding, F_s_IsComplex, F_s_l1In, e0, hw, g1', hv1]
    try (exact fun a b => absurd ⟨a, b⟩ g1)
  obtain ⟨m, rfl⟩ : ∃ m : Nat, x = m := ⟨x.toNat, by omega⟩
  have hm : m < 6 := by omega
  have hu : IntKind.u64.wrap (m : Int) = m := wrapU _ (by omega) (by omega)
  have hsh := shl6 hm
  have hpS := isS_pow hm
  have hvv : v = dec (shedQ (faceS l) m) := by
    rw [← hv, Bool.eq_iff_iff, dec_iff, dec_iff]
    exact ⟨fun h => h.2.2.2, fun h => ⟨hc, g1.1, by omega, h⟩⟩
  unfold shedQ at hvv
  generalize (2 : Int) ^ m = s at *
  by_cases f1 : faceS l s
  rotate_left
  · have d1 := dec_false f1
    have hv1 : v = false := hvv.trans (dec_false fun h => f1 h.1)
    simp -implicitDefEqProofs [sc_s_IsShedding, F_s_IsComplex, F_s_l1In, F_s_l3Has, e0, hw, g1, hu, hsh, hS, hpS, d1, hv1]
  have d1 := dec_true f1
  have hA : ∀ t, t ∈ setsOf (maxP (lnkP (faceS l) s)) ↔ isS t ∧ maxP (lnkP (faceS l) s) t := fun t => mem_setsOf
  have hB : ∀ t, t ∈ setsOf (maxP (wtoP (faceS l) s)) ↔ isS t ∧ maxP (wtoP (faceS l) s) t := fun t => mem_setsOf
  have hAl := setsOf_len (maxP (lnkP (faceS l) s))
  have hv2 : v = dec (∀ t, t ∈ setsOf (maxP (lnkP (faceS l) s)) → t ∉ setsOf (maxP (wtoP (faceS l) s))) := by
    rw [hvv, Bool.eq_iff_iff, dec_iff, dec_iff]
    constructor
    · rintro ⟨_, h⟩ t h1 h2; exact h t ((hA t).1 h1).1 ((hA t).1 h1).2 ((hB t).1 h2).2
    · intro h; exact ⟨f1, fun t ht h1 h2 => h t ((hA t).2 ⟨ht, h1⟩) ((hB t).2 ⟨ht, h2⟩)⟩
  clear hA hB hvv hv
  simp -implicitDefEqProofs [sc_s_IsShedding, F_s_IsComplex, F_s_l1In, F_s_l3Has, F_s_l5Link, F_s_l5Without, e0, hw, g1, hu, hsh, hS, hpS, d1, hl64, hc]
  generalize setsOf (maxP (lnkP (faceS l) s)) = A at *
  generalize setsOf (maxP (wtoP (faceS l) s)) = B at *
  refine loopI env mixed (fun k : Nat => [(5, .pt 2 0), (6, .pt 4 0), (7, .int .i64 (k : Int))]) (fun _ => ([(4, [.int .i64 n, .sl 3 1 0 B.length]), (3, ints B), (2, [.int .i64 n, .sl 1 1 0 A.length]), (1, ints A), (0, [.int .i64 n, .list 1 (ints l)])], 5))
    (fun k => k ≤ A.length ∧ ∀ j, j < k → at0 A j ∉ B) (fun k => A.length - k) 0 (by simp) (SubI.slots rfl (by simp)) ?_
  rintro k ⟨hk, hno⟩
  by_cases hlt : k < A.length
  · by_cases hm2 : at0 A k ∈ B
    · have hv1 : v = false := hv2.trans (dec_false fun h => h _ (getD_mem' hlt) hm2)
      simp -implicitDefEqProofs [sc_s_IsShedding_L0, F_s_l2Has, hlt, hm2, hv1]
      try omega
    · simp -implicitDefEqProofs [sc_s_IsShedding_L0, F_s_l2Has, hlt, hm2]
      repeat' (first | omega | apply And.intro)
      refine Again.of (k + 1) ⟨by omega, fun j hj => ?_⟩ (by omega) (SubI.slots rfl (by simp (disch := omega) [wrapI]))
      rcases Nat.lt_succ_iff_lt_or_eq.1 hj with h1 | rfl
      · exact hno j h1
      · exact hm2
  · have hv1 : v = true := hv2.trans (dec_true fun t ht => by
      obtain ⟨j, hj, e⟩ := getD_mem_iff.1 ht
      rw [← e]
      exact hno j (by omega))
    have hka : k = A.length := by omega
    subst hka
    simp -implicitDefEqProofs [sc_s_IsShedding_L0, hv1]
end Go.Proofs.Ytmemomfffehnkaa
namespace Go.Proofs.Ytmemomfffehnkaa
open Go Go.RowKit
set_option maxRecDepth 1000000
set_option linter.unusedSimpArgs false
set_option linter.unusedVariables false
set_option maxHeartbeats 1000000
theorem isSet_face' {n : Int} {l : List Int} (hc : cplx n l) {s : Int} (hs : isS s) (h : faceS l s) : isSet n s = true := by
  obtain ⟨f, hf, hsf⟩ := h
  obtain ⟨j, hj, rfl⟩ := getD_mem_iff.1 hf
  have h1 := (hc.2.2 j hj).1
  have h2 := subS_le hs (cplx_isS hc _ hf) hsf
  simp only [isSet, decide_eq_true_eq] at h1 ⊢
  exact ⟨h1.1, h1.2.1, hs.1, by omega⟩
end Go.Proofs.Ytmemomfffehnkaa
namespace Go.Proofs.Ytmemomfffehnkaa
open Go Go.RowKit
set_option maxRecDepth 1000000
set_option linter.unusedSimpArgs false
set_option linter.unusedVariables false
set_option maxHeartbeats 1000000
theorem cplx_sorted {n : Int} {l : List Int} (h : cplx n l) : l.Pairwise fun a b => before a b = true := by
  rw [List.pairwise_iff_getElem]
  intro i j hi hj hij
  have := cplx_before h hij hj
  rwa [at0_eq (by omega), at0_eq (by omega)] at this
/-- A complex lists its maximal faces in order. -/
theorem cplx_max {n : Int} {l : List Int} (h : cplx n l) : setsOf (maxP (faceS l)) = l := by
  have hS := cplx_isS h
  refine sorted_ext (setsOf_sorted _) (cplx_sorted h) fun x => ?_
  rw [mem_setsOf]
  constructor
  · rintro ⟨hx, ⟨f, hf, hs⟩, hm⟩
    have := hm f (hS f hf) ⟨f, hf, subS_refl (hS f hf)⟩ hs
    exact this ▸ hf
  · intro hx
    refine ⟨hS x hx, ⟨x, hx, subS_refl (hS x hx)⟩, ?_⟩
    rintro t ht ⟨f, hf, hs⟩ hxt
    have hxf := subS_trans (hS x hx) ht (hS f hf) hxt hs
    have e : x = f := Classical.byContradiction fun hne => cplx_apart h hx hf hne hxf
    subst e
    exact subS_anti ht (hS x hx) hs hxt
theorem max_above {p : Int → Prop} (k : Nat) : ∀ {s : Int}, isS s → p s → 7 ≤ sz s + k → ∃ t, isS t ∧ maxP p t ∧ subS s t := by
  induction k with
  | zero => intro s hs _ hk; have := sz_six hs; omega
  | succ k ih =>
    intro s hs hp hk
    by_cases h : maxP p s
    · exact ⟨s, hs, h, subS_refl hs⟩
    · obtain ⟨t, ht, hpt, hst, hne⟩ : ∃ t, isS t ∧ p t ∧ subS s t ∧ t ≠ s := Classical.byContradiction fun hn => h ⟨hp, fun t ht hpt hst => Classical.byContradiction fun hne => hn ⟨t, ht, hpt, hst, hne⟩⟩
      have := (sz_sub hs ht hst).2 (Ne.symm hne)
      obtain ⟨u, hu, hm, htu⟩ := ih ht hpt (by omega)
      exact ⟨u, hu, hm, subS_trans hs ht hu hst htu⟩
/-- The faces below the maximal sets of a family that is closed downwards. -/
theorem face_max {p : Int → Prop} (hd : ∀ s t, isS s → isS t → subS s t → p t → p s) {s : Int} (hs : isS s) : faceS (setsOf (maxP p)) s ↔ p s := by
  constructor
  · rintro ⟨f, hf, h⟩
    obtain ⟨h1, h2⟩ := mem_setsOf.1 hf
    exact hd s f hs h1 h h2.1
  · intro h
    obtain ⟨t, ht, hm, hst⟩ := max_above 7 hs h (by have := sz_nn s; omega)
    exact ⟨t, mem_setsOf.2 ⟨ht, hm⟩, hst⟩
theorem wto_down {l : List Int} (hl : allS l) {s : Int} (hs : isS s) : ∀ a b, isS a → isS b → subS a b → wtoP (faceS l) s b → wtoP (faceS l) s a :=
  fun a b ha hb hab h => ⟨faceS_sub hl ha hb hab h.1, fun h2 => h.2 (subS_trans hs ha hb h2 hab)⟩
theorem cplx_wto {n : Int} {l : List Int} (hc : cplx n l) {s : Int} (hs : isS s) : cplx n (setsOf (maxP (wtoP (faceS l) s))) := by
  obtain ⟨h1, h6, _⟩ := id hc
  have hso := setsOf_sorted (maxP (wtoP (faceS l) s))
  refine ⟨h1, h6, fun k hk => ?_⟩
  obtain ⟨hks, hkm⟩ := mem_setsOf.1 (getD_mem' hk)
  refine ⟨isSet_face' hc hks hkm.1.1, fun h0 => before_at hso (by omega) hk, fun i hi hb => ?_⟩
  obtain ⟨his, him⟩ := mem_setsOf.1 (getD_mem' (show i < _ from by omega : i < (setsOf (maxP (wtoP (faceS l) s))).length))
  have hsub : subS (at0 (setsOf (maxP (wtoP (faceS l) s))) i) (at0 (setsOf (maxP (wtoP (faceS l) s))) k) := (bnot_zero2 his hks).2 hb
  have e := him.2 _ hks hkm.1 hsub
  have hbf := before_at hso hi hk
  rw [e] at hbf
  simp only [before, decide_eq_true_eq] at hbf
  omega
/-- A complex without the faces that hold s. -/
noncomputable def delL (l : List Int) (s : Int) : List Int := setsOf (maxP (wtoP (faceS l) s))
theorem delL_face {n : Int} {l : List Int} (hc : cplx n l) {s : Int} (hs : isS s) {u : Int} (hu : isS u) : faceS (delL l s) u ↔ wtoP (faceS l) s u := face_max (wto_down (cplx_isS hc) hs) hu
theorem delL_less {n : Int} {l : List Int} (hc : cplx n l) {s : Int} (hs : isS s) (hf : faceS l s) : (setsOf (faceS (delL l s))).length < (setsOf (faceS l)).length := by
  have h1 : (s :: setsOf (faceS (delL l s))).Nodup := List.nodup_cons.2 ⟨fun h => ((delL_face hc hs hs).1 (mem_setsOf.1 h).2).2 (subS_refl hs), setsOf_nodup _⟩
  have h2 : (s :: setsOf (faceS (delL l s))).length ≤ (setsOf (faceS l)).length := sub_len h1 fun x hx => by
    rcases List.mem_cons.1 hx with rfl | hx
    · exact mem_setsOf.2 ⟨hs, hf⟩
    · obtain ⟨a, b⟩ := mem_setsOf.1 hx
      exact mem_setsOf.2 ⟨a, ((delL_face hc hs a).1 b).1⟩
  simp only [List.length_cons] at h2
  omega
end Go.Proofs.Ytmemomfffehnkaa
namespace Go.Proofs.Ytmemomfffehnkaa
open Go Go.RowKit
set_option maxRecDepth 1000000
set_option linter.unusedSimpArgs false
set_option linter.unusedVariables false
set_option maxHeartbeats 1000000
def sc_s_DeletionOf : SC := (.seq (.reg [⟨(some 2), none, (.box (.t 0))⟩, ⟨(some 4), none, (.new [(.int .i64 0), .nil])⟩, ⟨(some 5), none, (.mov (.c (.bool false)))⟩]) (.seq (.seq (.reg [⟨(some 6), none, (.ld (some 2) .undef (.t 2))⟩, ⟨(some 7), none, (.mov (.t 1))⟩, ⟨(some 8), none, (.call 184 [(.t 6), (.t 7)])⟩, ⟨(some 9), none, (.un .not (.t 8))⟩]) (.cond (.t 9) (.seq (.reg [⟨(some 10), none, (.agg [(.int .i64 0), .nil] [])⟩, ⟨none, none, (.st 2 (.t 4) (.t 10))⟩, ⟨(some 5), none, (.mov (.c (.bool false)))⟩]) .ret) .skip)) (.seq (.reg [⟨(some 11), none, (.ld (some 2) .undef (.t 2))⟩, ⟨(some 12), none, (.mov (.t 1))⟩, ⟨(some 13), none, (.call 176 [(.t 11), (.t 12)])⟩, ⟨none, none, (.st 2 (.t 4) (.t 13))⟩, ⟨(some 5), none, (.mov (.c (.bool true)))⟩]) .ret)))
theorem code_s_DeletionOf : fnCode Try.prog [] 105 = some (14, sc_s_DeletionOf, [(4, (some 2)), (5, none)]) := by kernel_rfl
def dloP (n : Int) (l : List Int) (s : Int) : Prop := cplx n l ∧ isSet n s = true
open Classical in
noncomputable def dloL (n : Int) (l : List Int) (s : Int) : List Int := if dloP n l s then delL l s else []
theorem dloN_ex (n : Int) (l : List Int) (s : Int) : ∃ m : Int, (dloP n l s → m = n) ∧ (¬ dloP n l s → m = 0) := by
  by_cases h : dloP n l s
  · exact ⟨n, fun _ => rfl, fun h2 => absurd h h2⟩
  · exact ⟨0, fun h2 => absurd h2 h, fun _ => rfl⟩
noncomputable def dloN (n : Int) (l : List Int) (s : Int) : Int := Classical.choose (dloN_ex n l s)
theorem dloN_yes {n : Int} {l : List Int} {s : Int} (h : dloP n l s) : dloN n l s = n := (Classical.choose_spec (dloN_ex n l s)).1 h
theorem dloN_no {n : Int} {l : List Int} {s : Int} (h : ¬ dloP n l s) : dloN n l s = 0 := (Classical.choose_spec (dloN_ex n l s)).2 h
theorem dloL_yes {n : Int} {l : List Int} {s : Int} (h : dloP n l s) : dloL n l s = delL l s := if_pos h
theorem dloL_no {n : Int} {l : List Int} {s : Int} (h : ¬ dloP n l s) : dloL n l s = [] := if_neg h
noncomputable def F_s_DeletionOf : List V → Option V := F2 dC dI fun c s => some (.tup [.agg [.int .i64 (dloN c.1 c.2 s), .own 1 (ints (dloL c.1 c.2 s))], .bool (dec (dloP c.1 c.2 s))])
theorem isSet_isS {n s : Int} (hn : n ≤ 6) (h : isSet n s = true) : isS s := by
  simp only [isSet, decide_eq_true_eq] at h
  have key : ∀ n : Nat, n < 7 → (2 : Int) ^ n ≤ 64 := by decide
  have := key n.toNat (by omega)
  unfold isS
  omega
theorem fn_s_DeletionOf : FnOk Try.prog 105 F_s_DeletionOf := by
  have env := ((envNil_ok (P := Try.prog)).add fn_s_l5Set).add fn_s_l5Without
  refine fn_ok code_s_DeletionOf mixed env ?_
  intro args r h hb
  obtain ⟨_, _, ⟨n, l⟩, s, rfl, h1, h2, h4⟩ := F2_inv h
  cases dC_inv h1
  cases dI_inv h2
  cases h4
  clear h
  refine ⟨by simp, fun w0 U0 L0 N0 => ?_⟩
  clear hb
  have hF : F_s_l5Set [.agg [.int .i64 n, .list 1 (ints l)], .int .i64 s] = some (.bool (dec (dloP n l s))) := by
    simp only [F_s_l5Set, F2_mk, dC_agg, dI_int, Option.bind_some]
    rfl
  by_cases hP : dloP n l s
  · have hs := isSet_isS hP.1.2.1 hP.2
    have hW : F_s_l5Without [.agg [.int .i64 n, .list 1 (ints l)], .int .i64 s] = some (.agg [.int .i64 n, .own 1 (ints (delL l s))]) := by
      simp only [F_s_l5Without, F2_mk, dC_agg, dI_int, Option.bind_some]
      rw [if_pos ⟨hP.1, hs⟩]
      rfl
    simp only
    rw [dloN_yes hP, dloL_yes hP, dec_true hP]
    rw [dec_true hP] at hF
    generalize delL l s = D at *
    simp -implicitDefEqProofs [sc_s_DeletionOf, hF, hW]
  · simp only
    rw [dloN_no hP, dloL_no hP, dec_false hP]
    rw [dec_false hP] at hF
    simp -implicitDefEqProofs [sc_s_DeletionOf, hF]
end Go.Proofs.Ytmemomfffehnkaa
namespace Go.Proofs.Ytmemomfffehnkaa
open Go Go.RowKit
set_option maxRecDepth 1000000
set_option linter.unusedSimpArgs false
set_option linter.unusedVariables false
set_option maxHeartbeats 1000000
def sc_i_sheds_L0 : SC := (.seq (.reg [⟨(some 26), none, (.bin false .lss (.t 25) (.t 24))⟩]) (.seq (.cond (.t 26) .skip (.exit 0)) (.seq (.block 1 (.seq (.reg [⟨(some 27), none, (.idx 1 (.t 23) (.t 25))⟩, ⟨(some 28), none, (.ld none (.int .i64 0) (.t 27))⟩, ⟨(some 8), none, (.mov (.t 28))⟩]) (.seq (.reg [⟨(some 29), none, (.mov (.t 6))⟩, ⟨(some 30), none, (.mov (.t 8))⟩, ⟨(some 31), none, (.call 218 [(.t 29), (.t 30)])⟩]) (.cond (.t 31) (.seq (.reg [⟨(some 4), none, (.mov (.c (.bool false)))⟩]) .ret) .skip)))) (.reg [⟨(some 32), none, (.bin false .add (.t 25) (.c (.int .i64 1)))⟩, ⟨(some 25), none, (.mov (.t 32))⟩]))))
def sc_i_sheds : SC := (.seq (.reg [⟨(some 4), none, (.mov (.c (.bool false)))⟩]) (.seq (.reg [⟨(some 9), none, (.mov (.t 1))⟩, ⟨(some 10), none, (.conv .u64 (.t 9))⟩, ⟨(some 11), none, (.bin false .shl (.c (.int .i64 1)) (.t 10))⟩, ⟨(some 5), none, (.mov (.t 11))⟩]) (.seq (.seq (.reg [⟨(some 12), none, (.mov (.t 0))⟩, ⟨(some 13), none, (.mov (.t 5))⟩, ⟨(some 14), none, (.call 182 [(.t 12), (.t 13)])⟩, ⟨(some 15), none, (.un .not (.t 14))⟩]) (.cond (.t 15) (.seq (.reg [⟨(some 4), none, (.mov (.c (.bool false)))⟩]) .ret) .skip)) (.seq (.reg [⟨(some 16), none, (.mov (.t 0))⟩, ⟨(some 17), none, (.mov (.t 5))⟩, ⟨(some 18), none, (.call 194 [(.t 16), (.t 17)])⟩, ⟨(some 19), none, (.call 192 [(.t 18)])⟩, ⟨(some 6), none, (.mov (.t 19))⟩]) (.seq (.seq (.reg [⟨(some 20), none, (.mov (.t 0))⟩, ⟨(some 21), none, (.mov (.t 5))⟩, ⟨(some 22), none, (.call 226 [(.t 20), (.t 21)])⟩, ⟨(some 23), none, (.call 192 [(.t 22)])⟩, ⟨(some 24), none, (.len (.t 23))⟩, ⟨(some 25), none, (.mov (.c (.int .i64 0)))⟩]) (.block 0 (.loop sc_i_sheds_L0))) (.seq (.reg [⟨(some 4), none, (.mov (.c (.bool true)))⟩]) .ret))))))
theorem code_i_sheds : fnCode Try.prog [] 198 = some (33, sc_i_sheds, [(4, none)]) := by kernel_rfl
noncomputable def shedG (f x : Int) : Option V := @ite _ (0 ≤ f ∧ f < 18446744073709551616 ∧ 0 ≤ x ∧ x < 6) (Classical.propDecidable _) (some (.bool (dec (shedQ (bitP f) x.toNat)))) none
theorem shedG_fam (p : Int → Prop) {m : Nat} (hm : m < 6) : shedG (fam p) m = some (.bool (dec (shedQ p m))) := by
  unfold shedG
  rw [if_pos ⟨fam_nn p, fam_lt p, by omega, by omega⟩, Int.toNat_natCast]
  congr 2
  rw [Bool.eq_iff_iff, dec_iff, dec_iff]
  exact shedQ_congr (fun s hs => bitP_fam hs) hm
noncomputable def F_i_sheds : List V → Option V := F2 dU dI shedG
theorem fn_i_sheds : FnOk Try.prog 198 F_i_sheds := by
  have env := (((((envNil_ok (P := Try.prog)).add fn_i_hasSet).add fn_i_maximalIn).add fn_i_linkIn).add fn_i_deletionIn).add fn_Contains
  refine fn_ok code_i_sheds mixed env ?_
  intro args r h hb
  obtain ⟨_, _, f, x, rfl, h1, h2, h4⟩ := F2_inv h
  cases dU_inv h1
  cases dI_inv h2
  clear h
  simp only [shedG, Option.ite_none_right_eq_some, Option.some.injEq] at h4
  obtain ⟨⟨hf1, hf2, hx0, hx6⟩, rfl⟩ := h4
  have hf := fam_bitP hf1 hf2
  generalize bitP f = p at *
  subst hf
  obtain ⟨m, rfl⟩ : ∃ m : Nat, x = m := ⟨x.toNat, by omega⟩
  have hm : m < 6 := by omega
  rw [Int.toNat_natCast]
  refine ⟨by simp, fun w0 U0 L0 N0 => ?_⟩
  clear hb
  generalize hv : dec (shedQ p m) = v
  have hu : IntKind.u64.wrap (m : Int) = m := wrapU _ (by omega) (by omega)
  have hsh := shl6 hm
  have hpS := isS_pow hm
  unfold shedQ at hv
  generalize (2 : Int) ^ m = s at *
  have hg := hasG_fam (p := p) hpS
  by_cases f1 : p s
  rotate_left
  · rw [dec_false f1] at hg
    have hv1 : v = false := hv ▸ dec_false fun h => f1 h.1
    simp -implicitDefEqProofs [sc_i_sheds, F_i_hasSet, hu, hsh, hg, hv1]
  rw [dec_true f1] at hg
  have g1 := wtoG_fam p hpS
  have g2 := maxG_fam (wtoP p s)
  have g3 := lnkG_fam p hpS
  have g4 := maxG_fam (lnkP p s)
  have hA : ∀ t, t ∈ setsOf (maxP (lnkP p s)) ↔ isS t ∧ maxP (lnkP p s) t := fun t => mem_setsOf
  have hB : ∀ t, t ∈ setsOf (maxP (wtoP p s)) ↔ isS t ∧ maxP (wtoP p s) t := fun t => mem_setsOf
  have hAl := setsOf_len (maxP (lnkP p s))
  have hv2 : v = dec (∀ t, t ∈ setsOf (maxP (lnkP p s)) → t ∉ setsOf (maxP (wtoP p s))) := by
    rw [← hv, Bool.eq_iff_iff, dec_iff, dec_iff]
    constructor
    · rintro ⟨_, h⟩ t h1 h2; exact h t ((hA t).1 h1).1 ((hA t).1 h1).2 ((hB t).1 h2).2
    · intro h; exact ⟨f1, fun t ht h1 h2 => h t ((hA t).2 ⟨ht, h1⟩) ((hB t).2 ⟨ht, h2⟩)⟩
  clear hA hB hv
  generalize setsOf (maxP (lnkP p s)) = A at *
  generalize setsOf (maxP (wtoP p s)) = B at *
  simp -implicitDefEqProofs [sc_i_sheds, F_i_hasSet, F_i_maximalIn, F_i_linkIn, F_i_deletionIn, hu, hsh, hg, g1, g2, g3, g4]
  refine loopI env mixed (fun k : Nat => [(6, .sl 0 1 0 B.length), (23, .sl 1 1 0 A.length), (24, .int .i64 (A.length : Int)), (25, .int .i64 (k : Int))]) (fun _ => ([(1, ints A), (0, ints B)], 2))
    (fun k => k ≤ A.length ∧ ∀ j, j < k → at0 A j ∉ B) (fun k => A.length - k) 0 (by simp) (SubI.slots rfl (by simp)) ?_
  rintro k ⟨hk, hno⟩
  by_cases hlt : k < A.length
  · by_cases hm2 : at0 A k ∈ B
    · have hv1 : v = false := hv2.trans (dec_false fun h => h _ (getD_mem' hlt) hm2)
      simp -implicitDefEqProofs [sc_i_sheds_L0, F_Contains, hlt, hm2, hv1]
      try omega
    · simp -implicitDefEqProofs [sc_i_sheds_L0, F_Contains, hlt, hm2]
      repeat' (first | omega | apply And.intro)
      refine Again.of (k + 1) ⟨by omega, fun j hj => ?_⟩ (by omega) (SubI.slots rfl (by simp (disch := omega) [wrapI]))
      rcases Nat.lt_succ_iff_lt_or_eq.1 hj with h1 | rfl
      · exact hno j h1
      · exact hm2
  · have hv1 : v = true := hv2.trans (dec_true fun t ht => by
      obtain ⟨j, hj, e⟩ := getD_mem_iff.1 ht
      rw [← e]
      exact hno j (by omega))
    have hka : k = A.length := by omega
    subst hka
    simp -implicitDefEqProofs [sc_i_sheds_L0, hv1]
end Go.Proofs.Ytmemomfffehnkaa
namespace Go.Proofs.Ytmemomfffehnkaa
open Go Go.RowKit
set_option maxRecDepth 1000000
set_option linter.unusedSimpArgs false
set_option linter.unusedVariables false
set_option maxHeartbeats 1000000
/-- Closed downwards. -/
def dcl (p : Int → Prop) : Prop := ∀ s t, isS s → isS t → subS s t → p t → p s
theorem dcl_face {l : List Int} (hl : allS l) : dcl (faceS l) := fun s t hs ht h h2 => faceS_sub hl hs ht h h2
theorem dcl_wto {p : Int → Prop} (h : dcl p) {s : Int} (hs : isS s) : dcl (wtoP p s) := fun a b ha hb hab h2 => ⟨h a b ha hb hab h2.1, fun h3 => h2.2 (subS_trans hs ha hb h3 hab)⟩
theorem dcl_lnk {p : Int → Prop} (hd : dcl p) {s : Int} (hs : isS s) : dcl (lnkP p s) := by
  intro a b ha hb hab h
  obtain ⟨h1, h2⟩ := h
  have hab2 := (subS_tb ha hb).1 hab
  refine ⟨(band_none ha hs).2 fun i hi ht => (band_none hb hs).1 h1 i hi ⟨hab2 i hi ht.1, ht.2⟩, hd _ _ (isS_bor ha hs) (isS_bor hb hs) ?_ h2⟩
  rw [subS_tb (isS_bor ha hs) (isS_bor hb hs)]
  intro i hi h
  rcases (tb_bor ha hs hi).1 h with h | h
  · exact (tb_bor hb hs hi).2 (.inl (hab2 i hi h))
  · exact (tb_bor hb hs hi).2 (.inr h)
noncomputable def cn (p : Prop) : Nat := if dec p = true then 1 else 0
theorem cn_le {p q : Prop} (h : p → q) : cn p ≤ cn q := by
  unfold cn
  by_cases hp : p
  · rw [dec_true hp, dec_true (h hp)]; exact Nat.le_refl _
  · rw [dec_false hp]; simp
theorem cn_lt {p q : Prop} (hq : q) (hp : ¬ p) : cn p < cn q := by
  unfold cn
  rw [dec_true hq, dec_false hp]
  decide
theorem cn_one (p : Prop) : cn p ≤ 1 := by
  unfold cn
  split <;> omega
/-- The number of points. -/
noncomputable def pts (p : Int → Prop) : Nat := cn (p (2 ^ 0)) + cn (p (2 ^ 1)) + cn (p (2 ^ 2)) + cn (p (2 ^ 3)) + cn (p (2 ^ 4)) + cn (p (2 ^ 5))
theorem pts_six (p : Int → Prop) : pts p < 7 := by
  unfold pts
  have := cn_one (p (2 ^ 0))
  have := cn_one (p (2 ^ 1))
  have := cn_one (p (2 ^ 2))
  have := cn_one (p (2 ^ 3))
  have := cn_one (p (2 ^ 4))
  have := cn_one (p (2 ^ 5))
  omega
theorem pts_lt {p q : Int → Prop} (h : ∀ i : Nat, i < 6 → q (2 ^ i) → p (2 ^ i)) {i : Nat} (hi : i < 6) (hp : p (2 ^ i)) (hq : ¬ q (2 ^ i)) : pts q < pts p := by
  have a0 := cn_le (h 0 (by omega))
  have a1 := cn_le (h 1 (by omega))
  have a2 := cn_le (h 2 (by omega))
  have a3 := cn_le (h 3 (by omega))
  have a4 := cn_le (h 4 (by omega))
  have a5 := cn_le (h 5 (by omega))
  have hl := cn_lt hp hq
  unfold pts
  have : i = 0 ∨ i = 1 ∨ i = 2 ∨ i = 3 ∨ i = 4 ∨ i = 5 := by omega
  rcases this with rfl | rfl | rfl | rfl | rfl | rfl <;> omega
theorem pts_congr {p q : Int → Prop} (h : ∀ s, isS s → (p s ↔ q s)) : pts p = pts q := by
  have e : ∀ i : Nat, i < 6 → cn (p (2 ^ i)) = cn (q (2 ^ i)) := fun i hi => Nat.le_antisymm (cn_le (h _ (isS_pow hi)).1) (cn_le (h _ (isS_pow hi)).2)
  unfold pts
  rw [e 0 (by omega), e 1 (by omega), e 2 (by omega), e 3 (by omega), e 4 (by omega), e 5 (by omega)]
theorem pts_wto {p : Int → Prop} {i : Nat} (hi : i < 6) (hp : p (2 ^ i)) : pts (wtoP p (2 ^ i)) < pts p := pts_lt (fun _ _ h => h.1) hi hp fun h => h.2 (subS_refl (isS_pow hi))
theorem pts_lnk {p : Int → Prop} (hd : dcl p) {i : Nat} (hi : i < 6) (hp : p (2 ^ i)) : pts (lnkP p (2 ^ i)) < pts p := by
  have hs := isS_pow hi
  refine pts_lt (fun j hj h => hd _ _ (isS_pow hj) (isS_bor (isS_pow hj) hs) ((subS_tb (isS_pow hj) (isS_bor (isS_pow hj) hs)).2 fun k hk hb => (tb_bor (isS_pow hj) hs hk).2 (.inl hb)) h.2) hi hp fun h => ?_
  exact (band_none hs hs).1 h.1 i hi ⟨(tb_pow hi hi).2 rfl, (tb_pow hi hi).2 rfl⟩
/-- Points can be taken away until one facet is left. -/
inductive finI : (Int → Prop) → Prop
  | one (p : Int → Prop) (h : (setsOf (maxP p)).length ≤ 1) : finI p
  | split (p : Int → Prop) (i : Nat) (hi : i < 6) (hs : shedQ p i) (h1 : finI (lnkP p (2 ^ i))) (h2 : finI (wtoP p (2 ^ i))) : finI p
def splQ (p : Int → Prop) (i : Nat) : Prop := shedQ p i ∧ finI (lnkP p (2 ^ i)) ∧ finI (wtoP p (2 ^ i))
theorem finI_iff {p : Int → Prop} : finI p ↔ (setsOf (maxP p)).length ≤ 1 ∨ ∃ i : Nat, i < 6 ∧ splQ p i := by
  constructor
  · intro h
    cases h with
    | one _ h => exact .inl h
    | split _ i hi hs h1 h2 => exact .inr ⟨i, hi, hs, h1, h2⟩
  · rintro (h | ⟨i, hi, hs, h1, h2⟩)
    · exact .one p h
    · exact .split p i hi hs h1 h2
theorem finI_to {p : Int → Prop} (h : finI p) : ∀ {q : Int → Prop}, (∀ s, isS s → (p s ↔ q s)) → finI q := by
  induction h with
  | one p h => intro q e; exact .one q (by rw [← setsOf_congr fun s hs => maxP_congr e hs]; exact h)
  | split p i hi hs h1 h2 ih1 ih2 => intro q e; exact .split q i hi ((shedQ_congr e hi).1 hs) (ih1 fun t ht => lnkP_congr e (isS_pow hi) ht) (ih2 fun t ht => wtoP_congr e ht)
theorem finI_congr {p q : Int → Prop} (e : ∀ s, isS s → (p s ↔ q s)) : finI p ↔ finI q := ⟨fun h => finI_to h e, fun h => finI_to h fun s hs => (e s hs).symm⟩
theorem splQ_congr {p q : Int → Prop} (e : ∀ s, isS s → (p s ↔ q s)) {i : Nat} (hi : i < 6) : splQ p i ↔ splQ q i := by
  unfold splQ
  rw [shedQ_congr e hi, finI_congr fun t ht => lnkP_congr e (isS_pow hi) ht, finI_congr fun t ht => wtoP_congr e ht]
theorem cplx_part' {n : Int} {l : List Int} (hc : cplx n l) {q : Int → Prop} (h : ∀ s, isS s → q s → faceS l s) : cplx n (setsOf (maxP q)) := by
  obtain ⟨h1, h6, _⟩ := id hc
  have hso := setsOf_sorted (maxP q)
  refine ⟨h1, h6, fun k hk => ?_⟩
  obtain ⟨hks, hkm⟩ := mem_setsOf.1 (getD_mem' hk)
  refine ⟨isSet_face' hc hks (h _ hks hkm.1), fun h0 => before_at hso (by omega) hk, fun i hi hb => ?_⟩
  obtain ⟨his, him⟩ := mem_setsOf.1 (getD_mem' (show i < (setsOf (maxP q)).length by omega))
  have hsub : subS (at0 (setsOf (maxP q)) i) (at0 (setsOf (maxP q)) k) := (bnot_zero2 his hks).2 hb
  have e := him.2 _ hks hkm.1 hsub
  have hbf := before_at hso hi hk
  rw [e] at hbf
  simp only [before, decide_eq_true_eq] at hbf
  omega
/-- The facets of a link and of what is left. -/
noncomputable def lnF (l : List Int) (s : Int) : List Int := setsOf (maxP (lnkP (faceS l) s))
noncomputable def wtF (l : List Int) (s : Int) : List Int := setsOf (maxP (wtoP (faceS l) s))
theorem lnF_face {n : Int} {l : List Int} (hc : cplx n l) {s : Int} (hs : isS s) : ∀ u, isS u → (faceS (lnF l s) u ↔ lnkP (faceS l) s u) := fun u hu => face_max (dcl_lnk (dcl_face (cplx_isS hc)) hs) hu
theorem wtF_face {n : Int} {l : List Int} (hc : cplx n l) {s : Int} (hs : isS s) : ∀ u, isS u → (faceS (wtF l s) u ↔ wtoP (faceS l) s u) := fun u hu => face_max (dcl_wto (dcl_face (cplx_isS hc)) hs) hu
theorem cplx_lnF {n : Int} {l : List Int} (hc : cplx n l) {s : Int} (hs : isS s) : cplx n (lnF l s) := cplx_part' hc fun t ht h =>
  faceS_sub (cplx_isS hc) ht (isS_bor ht hs) ((subS_tb ht (isS_bor ht hs)).2 fun i hi h => (tb_bor ht hs hi).2 (.inl h)) h.2
theorem cplx_wtF {n : Int} {l : List Int} (hc : cplx n l) {s : Int} (hs : isS s) : cplx n (wtF l s) := cplx_part' hc fun t ht h => h.1
theorem fin_len {n : Int} {l : List Int} (hc : cplx n l) : (setsOf (maxP (faceS l))).length = l.length := by rw [cplx_max hc]
theorem face_pow {n : Int} {l : List Int} (hc : cplx n l) {i : Nat} (hi : i < 6) (h : faceS l (2 ^ i)) : (i : Int) < n := by
  have h1 := isSet_face' hc (isS_pow hi) h
  obtain ⟨hn1, hn6, _⟩ := hc
  simp only [isSet, decide_eq_true_eq] at h1
  have key : ∀ n : Nat, n < 7 → ∀ i : Nat, i < 6 → (2 : Int) ^ i < 2 ^ n → i < n := by decide
  have := key n.toNat (by omega) i hi h1.2.2.2
  omega
end Go.Proofs.Ytmemomfffehnkaa
namespace Go.Proofs.Ytmemomfffehnkaa
open Go Go.RowKit
set_option maxRecDepth 1000000
set_option linter.unusedSimpArgs false
set_option linter.unusedVariables false
set_option maxHeartbeats 1000000
/-- A map with what stands in it. -/
theorem midx_app : ∀ (D : List (Int × Int)) (a v b : Int) (i : Nat), midx D a i = none → midx (D ++ [(a, v)]) b i = match midx D b i with | some p => some p | none => if b = a then some (i + D.length, v) else none := by
  intro D
  induction D with
  | nil => intro a v b i _; by_cases h : b = a <;> simp [midx, h]
  | cons p D ih =>
    obtain ⟨k, u⟩ := p
    intro a v b i h
    simp only [midx] at h
    split at h
    · cases h
    · simp only [List.cons_append, midx]
      by_cases hb : b = k
      · simp [hb]
      · rw [if_neg hb, if_neg hb, ih a v b (i + 1) h]
        simp [Nat.add_assoc, Nat.add_comm 1]
theorem midx_mod : ∀ (D : List (Int × Int)) (a v u b : Int) (i j : Nat), midx D a i = some (j, u) → midx (D.modify (j - i) fun _ => (a, v)) b i = match midx D b i with | some (m, w) => some (m, if b = a then v else w) | none => none := by
  intro D
  induction D with
  | nil => intro a v u b i j h; simp [midx] at h
  | cons p D ih =>
    obtain ⟨k, w⟩ := p
    intro a v u b i j h
    unfold midx at h
    split at h
    · rename_i e
      simp only [Option.some.injEq, Prod.mk.injEq] at h
      obtain ⟨rfl, rfl⟩ := h
      subst e
      rw [Nat.sub_self]
      simp only [List.modify_zero_cons, midx]
      by_cases hb : b = a
      · simp [hb]
      · rw [if_neg hb, if_neg hb]
        cases midx D b (i + 1) with
        | none => rfl
        | some q => simp [hb]
    · rename_i e
      have hj : i < j := by
        obtain ⟨m, h1, _⟩ := midx_at D a (i + 1) j u h
        omega
      have e2 : j - i = (j - (i + 1)) + 1 := by omega
      rw [e2, List.modify_succ_cons]
      simp only [midx]
      by_cases hb : b = k
      · have hba : ¬ b = a := fun h => e (by rw [← h, hb])
        simp [hb]
        intro h; exact absurd h.symm e
      · rw [if_neg hb, if_neg hb, ih a v u b (i + 1) j h]
theorem mget_mset (D : List (Int × Int)) (a v b : Int) : mget (mset D a v) b = if b = a then v else mget D b := by
  unfold mset
  cases h : midx D a 0 with
  | none =>
    simp only [mget]
    rw [midx_app D a v b 0 h]
    cases hb : midx D b 0 with
    | some p =>
      have : ¬ b = a := fun e => by rw [e, h] at hb; cases hb
      simp [this]
    | none => by_cases e : b = a <;> simp [e]
  | some p =>
    obtain ⟨j, u⟩ := p
    have hm := midx_mod D a v u b 0 j h
    rw [Nat.sub_zero] at hm
    simp only [mget]
    rw [hm]
    cases hb : midx D b 0 with
    | some p => obtain ⟨m, w⟩ := p; by_cases e : b = a <;> simp [e]
    | none =>
      have : ¬ b = a := fun e => by rw [e, h] at hb; cases hb
      simp [this]
theorem mget_nil (a : Int) : mget [] a = 0 := rfl
abbrev MM := List (Int × Int)
noncomputable def lnI (f : Int) (i : Nat) : Int := fam (lnkP (bitP f) (2 ^ i))
noncomputable def wtI (f : Int) (i : Nat) : Int := fam (wtoP (bitP f) (2 ^ i))
noncomputable def spW (W : Int → MM → Bool × MM) (f : Int) (i : Nat) (D : MM) : Bool × MM :=
  if dec (shedQ (bitP f) i) = true then (if (W (lnI f i) D).1 = true then W (wtI f i) (W (lnI f i) D).2 else (false, (W (lnI f i) D).2)) else (false, D)
noncomputable def goW (S : Nat → MM → Bool × MM) (f : Int) : Nat → Nat → MM → Bool × MM
  | 0, _, D => (false, D)
  | n + 1, i, D => if (S i D).1 = true then (true, mset (S i D).2 f 1) else goW S f n (i + 1) (S i D).2
/-- What the program finds, and what it has then written down. -/
noncomputable def wk : Nat → Int → MM → Bool × MM
  | 0, _, D => (true, D)
  | k + 1, f, D => if dec ((setsOf (maxP (bitP f))).length ≤ 1) = true then (true, D) else if dec (mget D f ≠ 0) = true then (dec (mget D f = 1), D) else goW (spW (wk k) f) f 6 0 (mset D f 2)
/-- What stands in the map is right, for families of fewer than m points. -/
def mInv (m : Nat) (D : MM) : Prop := ∀ p, dcl p → pts p < m → mget D (fam p) ≠ 0 → (mget D (fam p) = 1 ↔ finI p)
def mFr (m : Nat) (D D' : MM) : Prop := ∀ p, m ≤ pts p → mget D' (fam p) = mget D (fam p)
theorem mFr.trans {m : Nat} {a b c : MM} (h : mFr m a b) (k : mFr m b c) : mFr m a c := fun p hp => (k p hp).trans (h p hp)
theorem mInv_nil (m : Nat) : mInv m [] := fun p _ _ h => absurd (mget_nil _) h
def wkOk (W : Int → MM → Bool × MM) (k : Nat) : Prop := ∀ m p D, dcl p → pts p < m → m ≤ k → mInv m D → (W (fam p) D).1 = dec (finI p) ∧ mInv m (W (fam p) D).2 ∧ mFr m D (W (fam p) D).2
theorem lnI_fam {p : Int → Prop} {i : Nat} (hi : i < 6) : lnI (fam p) i = fam (lnkP p (2 ^ i)) := fam_congr fun t ht => lnkP_congr (fun s hs => bitP_fam hs) (isS_pow hi) ht
theorem wtI_fam {p : Int → Prop} {i : Nat} (hi : i < 6) : wtI (fam p) i = fam (wtoP p (2 ^ i)) := fam_congr fun t ht => wtoP_congr (fun s hs => bitP_fam hs) ht
theorem spW_ok {W : Int → MM → Bool × MM} {k : Nat} (hW : wkOk W k) {m : Nat} {p : Int → Prop} {D : MM} {i : Nat} (hi : i < 6) (hd : dcl p) (hp : pts p ≤ m) (hm : m ≤ k) (hI : mInv m D) :
    (spW W (fam p) i D).1 = dec (splQ p i) ∧ mInv m (spW W (fam p) i D).2 ∧ mFr m D (spW W (fam p) i D).2 := by
  unfold spW
  have e0 : dec (shedQ (bitP (fam p)) i) = dec (shedQ p i) := by
    rw [Bool.eq_iff_iff, dec_iff, dec_iff]
    exact shedQ_congr (fun s hs => bitP_fam hs) hi
  rw [e0, lnI_fam hi, wtI_fam hi]
  by_cases hs : shedQ p i
  · rw [dec_true hs]
    simp only [if_true]
    have hS := isS_pow hi
    have h1 := hW m _ D (dcl_lnk hd hS) (Nat.lt_of_lt_of_le (pts_lnk hd hi hs.1) hp) hm hI
    obtain ⟨a1, a2, a3⟩ := h1
    by_cases h2 : finI (lnkP p (2 ^ i))
    · rw [a1, dec_true h2]
      simp only [if_true]
      obtain ⟨b1, b2, b3⟩ := hW m _ (W (fam (lnkP p (2 ^ i))) D).2 (dcl_wto hd hS) (Nat.lt_of_lt_of_le (pts_wto hi hs.1) hp) hm a2
      refine ⟨?_, b2, a3.trans b3⟩
      rw [b1, Bool.eq_iff_iff, dec_iff, dec_iff]
      exact ⟨fun h => ⟨hs, h2, h⟩, fun h => h.2.2⟩
    · rw [a1, dec_false h2]
      simp only [Bool.false_eq_true, if_false]
      exact ⟨(dec_false fun h => h2 h.2.1).symm, a2, a3⟩
  · rw [dec_false hs]
    simp only [Bool.false_eq_true, if_false]
    exact ⟨(dec_false fun h => hs h.1).symm, hI, fun _ _ => rfl⟩
theorem goW_ok {S : Nat → MM → Bool × MM} {p : Int → Prop} {j : Nat} (hj : pts p = j) (hS : ∀ i D, i < 6 → mInv j D → (S i D).1 = dec (splQ p i) ∧ mInv j (S i D).2 ∧ mFr j D (S i D).2) :
    ∀ (n i : Nat) (D : MM), i + n = 6 → mInv j D → mget D (fam p) = 2 → ∃ r D', goW S (fam p) n i D = (r, D') ∧ (r = true ↔ ∃ x, i ≤ x ∧ x < 6 ∧ splQ p x) ∧ mInv j D' ∧ mget D' (fam p) = (if r = true then 1 else 2) ∧
      ∀ q, j ≤ pts q → fam q ≠ fam p → mget D' (fam q) = mget D (fam q) := by
  intro n
  induction n with
  | zero =>
    intro i D hi hI h2
    refine ⟨false, D, rfl, ⟨fun h => (by cases h), fun ⟨x, h1, h3, _⟩ => (by omega)⟩, hI, by simpa using h2, fun _ _ _ => rfl⟩
  | succ n ih =>
    intro i D hi hI h2
    obtain ⟨a1, a2, a3⟩ := hS i D (by omega) hI
    unfold goW
    by_cases hs : splQ p i
    · rw [a1, dec_true hs]
      simp only [if_true]
      refine ⟨true, _, rfl, ⟨fun _ => ⟨i, Nat.le_refl _, by omega, hs⟩, fun _ => rfl⟩, ?_, ?_, ?_⟩
      · intro q hq hp h0
        have hne : ¬ fam q = fam p := fun e => by
          have := pts_congr (fam_inj.1 e)
          omega
        rw [mget_mset, if_neg hne] at h0 ⊢
        exact a2 q hq hp h0
      · rw [mget_mset, if_pos rfl]; rfl
      · intro q hq hne
        rw [mget_mset, if_neg hne]
        exact a3 q hq
    · rw [a1, dec_false hs]
      simp only [Bool.false_eq_true, if_false]
      obtain ⟨r, D', b1, b2, b3, b4, b5⟩ := ih (i + 1) (S i D).2 (by omega) a2 (by rw [a3 p (by omega)]; exact h2)
      refine ⟨r, D', b1, b2.trans ⟨fun ⟨x, h1, h3⟩ => ⟨x, by omega, h3⟩, fun ⟨x, h1, h3, h4⟩ => ?_⟩, b3, b4, fun q hq hne => (b5 q hq hne).trans (a3 q hq)⟩
      by_cases e : x = i
      · subst e; exact absurd h4 hs
      · exact ⟨x, by omega, h3, h4⟩
theorem wk_ok : ∀ k, wkOk (wk k) k := by
  intro k
  induction k with
  | zero => intro m p D hd hp hm _; omega
  | succ k ih =>
    intro m p D hd hp hm hI
    unfold wk
    have e0 : setsOf (maxP (bitP (fam p))) = setsOf (maxP p) := setsOf_congr fun s hs => maxP_congr (fun s hs => bitP_fam hs) hs
    rw [e0]
    by_cases hl : (setsOf (maxP p)).length ≤ 1
    · rw [dec_true hl]
      simp only [if_true]
      exact ⟨(dec_true (finI_iff.2 (.inl hl))).symm, hI, fun _ _ => rfl⟩
    rw [dec_false hl]
    simp only [Bool.false_eq_true, if_false]
    by_cases h0 : mget D (fam p) = 0
    rotate_left
    · rw [dec_true h0]
      simp only [if_true]
      refine ⟨?_, hI, fun _ _ => rfl⟩
      rw [Bool.eq_iff_iff, dec_iff, dec_iff]
      exact hI p hd hp h0
    rw [dec_false fun h => h h0]
    simp only [Bool.false_eq_true, if_false]
    generalize hj : pts p = j
    have hI1 : mInv j (mset D (fam p) 2) := by
      intro q hq hqj hq0
      have hne : ¬ fam q = fam p := fun e => by
        have := pts_congr (fam_inj.1 e)
        omega
      rw [mget_mset, if_neg hne] at hq0 ⊢
      exact hI q hq (by omega) hq0
    obtain ⟨r, D', b1, b2, b3, b4, b5⟩ := goW_ok hj (fun i D hi hI => spW_ok ih hi hd (by omega) (by omega) hI) 6 0 _ rfl hI1 (by rw [mget_mset, if_pos rfl])
    rw [b1]
    have hr : r = dec (finI p) := by
      rw [Bool.eq_iff_iff, dec_iff, b2, finI_iff]
      exact ⟨fun ⟨x, _, h⟩ => .inr ⟨x, h⟩, fun h => h.elim (fun h => absurd h hl) fun ⟨x, h⟩ => ⟨x, Nat.zero_le _, h⟩⟩
    refine ⟨hr, ?_, ?_⟩
    · intro q hq hqm hq0
      by_cases e : fam q = fam p
      · have hc := finI_congr (fam_inj.1 e)
        rw [e, b4, hc, hr]
        by_cases hf : finI p
        · rw [dec_true hf]; simp [hf]
        · rw [dec_false hf]; simp [hf]
      · by_cases hqj : pts q < j
        · exact b3 q hq hqj hq0
        · have e2 := b5 q (by omega) e
          rw [mget_mset, if_neg e] at e2
          rw [e2] at hq0 ⊢
          exact hI q hq hqm hq0
    · intro q hq
      have hne : ¬ fam q = fam p := fun e => by
        have := pts_congr (fam_inj.1 e)
        omega
      have e2 := b5 q (by omega) hne
      rw [mget_mset, if_neg hne] at e2
      exact e2
end Go.Proofs.Ytmemomfffehnkaa
namespace Go.Proofs.Ytmemomfffehnkaa
open Go Go.RowKit
set_option maxRecDepth 1000000
set_option linter.unusedSimpArgs false
set_option linter.unusedVariables false
set_option maxHeartbeats 1000000
theorem lst_nat (q : Nat → Prop) (k : Nat) : (∀ i, i < k → ¬ q i) ∨ ∃ m, m < k ∧ q m ∧ ∀ i, i < m → ¬ q i := by
  induction k with
  | zero => exact .inl fun i hi => by omega
  | succ k ih =>
    rcases ih with h | ⟨m, a, b, c⟩
    · by_cases hq : q k
      · exact .inr ⟨k, by omega, hq, h⟩
      · refine .inl fun i hi => ?_
        rcases Nat.lt_succ_iff_lt_or_eq.1 hi with h1 | rfl
        · exact h i h1
        · exact hq
    · exact .inr ⟨m, by omega, b, c⟩
/-- A list that D likes begins so. -/
def exD (D : List Int → Prop) (head : List Int) : Prop := ∃ t, D (head ++ t)
theorem exD_of {D : List Int → Prop} {head : List Int} (s : Int) (h : exD D (head ++ [s])) : exD D head := by
  obtain ⟨t, ht⟩ := h
  exact ⟨s :: t, by simpa using ht⟩
/-- The least next number with which it goes on. -/
theorem nx_ex (D : List Int → Prop) (head : List Int) : ∃ s : Int, (∃ u, isS u ∧ exD D (head ++ [u])) → isS s ∧ exD D (head ++ [s]) ∧ ∀ u, isS u → u < s → ¬ exD D (head ++ [u]) := by
  rcases lst_nat (fun i => exD D (head ++ [(i : Int)])) 64 with h | ⟨m, a, b, c⟩
  · refine ⟨0, fun ⟨u, hu, he⟩ => ?_⟩
    have h1 := hu.1
    have h2 := hu.2
    exact absurd (by rw [Int.toNat_of_nonneg h1]; exact he) (h u.toNat (by omega))
  · refine ⟨m, fun _ => ⟨⟨by omega, by omega⟩, b, fun u hu hlt he => ?_⟩⟩
    have h1 := hu.1
    exact c u.toNat (by omega) (by rw [Int.toNat_of_nonneg h1]; exact he)
noncomputable def nxS (D : List Int → Prop) (head : List Int) : Int := Classical.choose (nx_ex D head)
theorem nxS_spec {D : List Int → Prop} {head : List Int} (h : ∃ u, isS u ∧ exD D (head ++ [u])) : isS (nxS D head) ∧ exD D (head ++ [nxS D head]) ∧ ∀ u, isS u → u < nxS D head → ¬ exD D (head ++ [u]) := Classical.choose_spec (nx_ex D head) h
theorem nxS_eq {D : List Int → Prop} {head : List Int} {s : Int} (hs : isS s) (he : exD D (head ++ [s])) (hm : ∀ u, isS u → u < s → ¬ exD D (head ++ [u])) : nxS D head = s := by
  obtain ⟨h1, h2, h3⟩ := nxS_spec ⟨s, hs, he⟩
  rcases Int.lt_trichotomy (nxS D head) s with h | h | h
  · exact absurd h2 (hm _ h1 h)
  · exact h
  · exact absurd he (h3 s hs h)
/-- The first list that D likes with n more numbers. -/
noncomputable def exL (D : List Int → Prop) : Nat → List Int → List Int
  | 0, head => head
  | n + 1, head => exL D n (head ++ [nxS D head])
theorem exL_step {D : List Int → Prop} {head : List Int} {s : Int} (n : Nat) (hs : isS s) (he : exD D (head ++ [s])) (hm : ∀ u, isS u → u < s → ¬ exD D (head ++ [u])) : exL D (n + 1) head = exL D n (head ++ [s]) := by
  rw [exL, nxS_eq hs he hm]
theorem callable_of {P : Program} {lends : List FuncId} {f : FuncId} {x : Nat × SC × List (Nat × Option Nat)} (h : fnCode P lends f = some x) : Callable P f := by
  obtain ⟨nt, sc, rvs⟩ := x
  obtain ⟨fd, c, hf, hb, hname, _⟩ := fnCode_inv h
  exact ⟨fd, hf, by simp [hb], hname⟩
end Go.Proofs.Ytmemomfffehnkaa
