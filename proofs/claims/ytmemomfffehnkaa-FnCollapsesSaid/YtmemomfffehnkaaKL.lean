import Derived.Test.YtmemomfffehnkaaKJ
import Derived.Test.YtmemomfffehnkaaKG
namespace Go.Proofs.Ytmemomfffehnkaa
open Go Go.RowKit
set_option maxRecDepth 1000000
set_option linter.unusedSimpArgs false
set_option linter.unusedVariables false
set_option maxHeartbeats 1000000
def sc_s_l5Link_L0 : SC := (.seq (.seq (.reg [⟨(some 8), none, (.mov (.t 6))⟩, ⟨(some 9), none, (.fad 1 (.t 2))⟩, ⟨(some 10), none, (.ld none .nil (.t 9))⟩, ⟨(some 11), none, (.len (.t 10))⟩, ⟨(some 12), none, (.bin false .lss (.t 8) (.t 11))⟩]) (.cond (.t 12) .skip (.exit 0))) (.seq (.block 1 (.seq (.reg [⟨(some 15), none, (.fad 1 (.t 2))⟩, ⟨(some 16), none, (.ld none .nil (.t 15))⟩, ⟨(some 17), none, (.mov (.t 6))⟩, ⟨(some 18), none, (.idx 1 (.t 16) (.t 17))⟩, ⟨(some 19), none, (.ld none (.int .i64 0) (.t 18))⟩, ⟨(some 20), none, (.mov (.t 1))⟩, ⟨(some 21), none, (.bin false .and (.t 19) (.t 20))⟩, ⟨(some 22), none, (.mov (.t 1))⟩, ⟨(some 23), none, (.bin false .eql (.t 21) (.t 22))⟩]) (.cond (.t 23) (.reg [⟨(some 24), none, (.mov (.t 5))⟩, ⟨(some 25), none, (.fad 1 (.t 2))⟩, ⟨(some 26), none, (.ld none .nil (.t 25))⟩, ⟨(some 27), none, (.mov (.t 6))⟩, ⟨(some 28), none, (.idx 1 (.t 26) (.t 27))⟩, ⟨(some 29), none, (.ld none (.int .i64 0) (.t 28))⟩, ⟨(some 30), none, (.mov (.t 1))⟩, ⟨(some 31), none, (.bin false .sub (.t 29) (.t 30))⟩, ⟨(some 32), none, (.mks 1 1 [(.int .i64 0)] [(0, (1, (.t 31)))])⟩, ⟨(some 33), none, (.app 1 8 (.t 24) (.t 32))⟩, ⟨(some 5), none, (.mov (.t 33))⟩]) .skip))) (.reg [⟨(some 13), none, (.mov (.t 6))⟩, ⟨(some 14), none, (.bin false .add (.t 13) (.c (.int .i64 1)))⟩, ⟨(some 6), none, (.mov (.t 14))⟩])))
def sc_s_l5Link : SC := (.seq (.reg [⟨(some 2), none, (.box (.t 0))⟩, ⟨(some 4), none, (.new [(.int .i64 0), .nil])⟩]) (.seq (.reg [⟨(some 7), none, (.mks 0 1 [] [])⟩, ⟨(some 5), none, (.mov (.t 7))⟩]) (.seq (.seq (.reg [⟨(some 6), none, (.mov (.c (.int .i64 0)))⟩]) (.block 0 (.loop sc_s_l5Link_L0))) (.seq (.reg [⟨(some 34), none, (.fad 0 (.t 2))⟩, ⟨(some 35), none, (.ld none (.int .i64 0) (.t 34))⟩, ⟨(some 36), none, (.mov (.t 5))⟩, ⟨(some 37), none, (.call 224 [(.t 35), (.t 36)])⟩, ⟨none, none, (.st 2 (.t 4) (.t 37))⟩]) .ret))))
theorem code_s_l5Link : fnCode Try.prog [] 199 = some (38, sc_s_l5Link, [(4, (some 2))]) := by kernel_rfl
theorem lnkL_pos {l : List Int} {k : Nat} (h : k < l.length) {s : Int} (hq : subS s (at0 l k)) : lnkL (l.take (k + 1)) s = lnkL (l.take k) s ++ [at0 l k - s] := by
  unfold lnkL
  rw [filt_pos h (dec_true hq), List.map_append]
  rfl
theorem lnkL_neg {l : List Int} {k : Nat} (h : k < l.length) {s : Int} (hq : ¬ subS s (at0 l k)) : lnkL (l.take (k + 1)) s = lnkL (l.take k) s := by
  unfold lnkL
  rw [filt_neg h (dec_false hq)]
theorem lnkL_len (l : List Int) (k : Nat) (s : Int) : (lnkL (l.take k) s).length ≤ l.length := by
  unfold lnkL
  rw [List.length_map]
  exact filt_len l k _
noncomputable def F_s_l5Link : List V → Option V := F2 dC dI fun c s => @ite _ (allS c.2 ∧ c.2.length ≤ 64 ∧ isS s) (Classical.propDecidable _) (some (.agg [.int .i64 c.1, .own 1 (ints (setsOf (maxP (lnkP (faceS c.2) s))))])) none
theorem fn_s_l5Link : FnOk Try.prog 199 F_s_l5Link := by
  have env := (envNil_ok (P := Try.prog)).add fn_s_l3Make
  refine fn_ok code_s_l5Link mixed env ?_
  intro args r h hb
  obtain ⟨_, _, ⟨n, l⟩, s, rfl, h1, h2, h4⟩ := F2_inv h
  cases dC_inv h1
  cases dI_inv h2
  clear h
  simp only [Option.ite_none_right_eq_some, Option.some.injEq] at h4
  obtain ⟨⟨hS, hl, hs⟩, rfl⟩ := h4
  have hF : F_s_l3Make [.int .i64 n, .list 1 (ints (lnkL l s))] = some (.agg [.int .i64 n, .own 1 (ints (setsOf (maxP (lnkP (faceS l) s))))]) := by
    simp only [F_s_l3Make, F2_mk, dL_list, dI_int, Option.bind_some]
    rw [if_pos (allS_lnkL hS hs), setsOf_congr fun t ht => lnkL_max hS hs ht]
  refine ⟨by simp, fun w0 U0 L0 N0 => ?_⟩
  clear hb
  simp -implicitDefEqProofs [sc_s_l5Link]
  refine loopI env mixed (fun k : Nat => [(1, .int .i64 s), (2, .pt 0 0), (4, .pt 1 0), (5, .sl 2 1 0 (lnkL (l.take k) s).length), (6, .int .i64 (k : Int))]) (fun k => ([(2, ints (lnkL (l.take k) s)), (1, [.int .i64 0, .nil]), (0, [.int .i64 n, .list 1 (ints l)])], 3)) (fun k => k ≤ l.length) (fun k => l.length - k) 0 (by simp) (SubI.slots (by simp [lnkL]) (by simp [lnkL])) ?_
  intro k hk
  have gl := lnkL_len l k s
  by_cases hlt : k < l.length
  · have hf := allS_at hS hlt
    by_cases h1 : band (at0 l k) s = s
    · have hsub := (subS_iff' hs hf).2 h1
      have e := lnkL_pos hlt hsub
      have hw : IntKind.i64.wrap (at0 l k - s) = at0 l k - s := wrapI _ (by have := hf.1; have := hs.2; omega) (by have := hf.2; have := hs.1; omega)
      generalize lnkL (l.take k) s = g at *
      simp -implicitDefEqProofs [sc_s_l5Link_L0, hlt, h1, hw]
      repeat' (first | omega | apply And.intro)
      refine Again.of (k + 1) (by omega) (by omega) (SubI.ren (fun m => if m = 0 then some 0 else if m = 1 then some 1 else if m = 2 then some 4 else none) ?_ ?_ ?_ (by simp) (by simp))
      · simp only [e]
        simp (disch := omega) [subT, renV, ren1, wrapI]
      · simp only [e]
        simp [subH, renL, ren1]
        rw [← ints_app]
        rfl
      · intro m hm
        simp only at hm
        rw [if_neg (by omega), if_neg (by omega), if_neg (by omega)]
    · have e := lnkL_neg hlt fun h => h1 ((subS_iff' hs hf).1 h)
      generalize lnkL (l.take k) s = g at *
      simp -implicitDefEqProofs [sc_s_l5Link_L0, hlt, h1]
      repeat' (first | omega | apply And.intro)
      exact Again.of (k + 1) (by omega) (by omega) (SubI.slots (by simp only [e]) (by simp only [e]; simp (disch := omega) [wrapI]))
  · have : k = l.length := by omega
    subst this
    rw [List.take_length] at *
    generalize lnkL l s = g at *
    generalize setsOf (maxP (lnkP (faceS l) s)) = R at *
    simp -implicitDefEqProofs [sc_s_l5Link_L0, hF]
def sc_s_l5Without_L0 : SC := (.seq (.seq (.reg [⟨(some 11), none, (.mov (.t 7))⟩, ⟨(some 12), none, (.mov (.t 6))⟩, ⟨(some 13), none, (.len (.t 12))⟩, ⟨(some 14), none, (.bin false .lss (.t 11) (.t 13))⟩]) (.cond (.t 14) .skip (.exit 0))) (.seq (.block 1 (.seq (.reg [⟨(some 17), none, (.mov (.t 6))⟩, ⟨(some 18), none, (.mov (.t 7))⟩, ⟨(some 19), none, (.idx 1 (.t 17) (.t 18))⟩, ⟨(some 20), none, (.ld none (.int .i64 0) (.t 19))⟩, ⟨(some 21), none, (.mov (.t 1))⟩, ⟨(some 22), none, (.bin false .and (.t 20) (.t 21))⟩, ⟨(some 23), none, (.mov (.t 1))⟩, ⟨(some 24), none, (.bin false .neq (.t 22) (.t 23))⟩]) (.cond (.t 24) (.reg [⟨(some 25), none, (.mov (.t 5))⟩, ⟨(some 26), none, (.mov (.t 6))⟩, ⟨(some 27), none, (.mov (.t 7))⟩, ⟨(some 28), none, (.idx 1 (.t 26) (.t 27))⟩, ⟨(some 29), none, (.ld none (.int .i64 0) (.t 28))⟩, ⟨(some 30), none, (.mks 1 1 [(.int .i64 0)] [(0, (1, (.t 29)))])⟩, ⟨(some 31), none, (.app 1 8 (.t 25) (.t 30))⟩, ⟨(some 5), none, (.mov (.t 31))⟩]) .skip))) (.reg [⟨(some 15), none, (.mov (.t 7))⟩, ⟨(some 16), none, (.bin false .add (.t 15) (.c (.int .i64 1)))⟩, ⟨(some 7), none, (.mov (.t 16))⟩])))
def sc_s_l5Without : SC := (.seq (.reg [⟨(some 2), none, (.box (.t 0))⟩, ⟨(some 4), none, (.new [(.int .i64 0), .nil])⟩]) (.seq (.reg [⟨(some 8), none, (.mks 0 1 [] [])⟩, ⟨(some 5), none, (.mov (.t 8))⟩]) (.seq (.reg [⟨(some 9), none, (.ld (some 2) .undef (.t 2))⟩, ⟨(some 10), none, (.call 43 [(.t 9)])⟩, ⟨(some 6), none, (.mov (.t 10))⟩]) (.seq (.seq (.reg [⟨(some 7), none, (.mov (.c (.int .i64 0)))⟩]) (.block 0 (.loop sc_s_l5Without_L0))) (.seq (.reg [⟨(some 32), none, (.fad 0 (.t 2))⟩, ⟨(some 33), none, (.ld none (.int .i64 0) (.t 32))⟩, ⟨(some 34), none, (.mov (.t 5))⟩, ⟨(some 35), none, (.call 224 [(.t 33), (.t 34)])⟩, ⟨none, none, (.st 2 (.t 4) (.t 35))⟩]) .ret)))))
theorem code_s_l5Without : fnCode Try.prog [] 176 = some (36, sc_s_l5Without, [(4, (some 2))]) := by kernel_rfl
noncomputable def F_s_l5Without : List V → Option V := F2 dC dI fun c s => @ite _ (cplx c.1 c.2 ∧ isS s) (Classical.propDecidable _) (some (.agg [.int .i64 c.1, .own 1 (ints (setsOf (maxP (wtoP (faceS c.2) s))))])) none
theorem fn_s_l5Without : FnOk Try.prog 176 F_s_l5Without := by
  have env := ((envNil_ok (P := Try.prog)).add fn_s_l3Make).add fn_s_FacesOf
  refine fn_ok code_s_l5Without mixed env ?_
  intro args r h hb
  obtain ⟨_, _, ⟨n, l⟩, s, rfl, h1, h2, h4⟩ := F2_inv h
  cases dC_inv h1
  cases dI_inv h2
  clear h
  simp only [Option.ite_none_right_eq_some, Option.some.injEq] at h4
  obtain ⟨⟨hc, hs⟩, rfl⟩ := h4
  refine ⟨by simp, fun w0 U0 L0 N0 => ?_⟩
  clear hb
  have hL : allS (facesL n l) := allS_setsOf _
  have hLl : (facesL n l).length ≤ 64 := setsOf_len _
  have hF : F_s_l3Make [.int .i64 n, .list 1 (ints ((facesL n l).filter fun t => dec (¬ subS s t)))] = some (.agg [.int .i64 n, .own 1 (ints (setsOf (maxP (wtoP (faceS l) s))))]) := by
    simp only [F_s_l3Make, F2_mk, dL_list, dI_int, Option.bind_some]
    rw [if_pos (show allS _ from fun x hx => hL x (List.mem_filter.1 hx).1), setsOf_congr fun t ht => maxP_congr (fun u hu => ?_) ht]
    rw [List.mem_filter, dec_iff, facesL_of hc, mem_setsOf]
    exact ⟨fun h => ⟨h.1.2, h.2⟩, fun h => ⟨⟨hu, h.1⟩, h.2⟩⟩
  simp -implicitDefEqProofs [sc_s_l5Without, F_s_FacesOf]
  generalize setsOf (maxP (wtoP (faceS l) s)) = R at *
  generalize facesL n l = L at *
  generalize hq : (fun t => dec (¬ subS s t)) = q at *
  refine loopI env mixed (fun k : Nat => [(1, .int .i64 s), (2, .pt 0 0), (4, .pt 1 0), (5, .sl 2 1 0 ((L.take k).filter q).length), (6, .sl 3 1 0 L.length), (7, .int .i64 (k : Int))]) (fun k => ([(3, ints L), (2, ints ((L.take k).filter q)), (1, [.int .i64 0, .nil]), (0, [.int .i64 n, .list 1 (ints l)])], 4)) (fun k => k ≤ L.length) (fun k => L.length - k) 0 (by simp) (SubI.slots (by simp) (by simp)) ?_
  intro k hk
  have gl := filt_len L k q
  by_cases hlt : k < L.length
  · have hf := allS_at hL hlt
    by_cases h1 : band (at0 L k) s = s
    · have e := filt_neg hlt (q := q) (by rw [← hq]; exact dec_false fun h => h ((subS_iff' hs hf).2 h1))
      generalize (L.take k).filter q = g at *
      simp -implicitDefEqProofs [sc_s_l5Without_L0, hlt, h1]
      repeat' (first | omega | apply And.intro)
      exact Again.of (k + 1) (by omega) (by omega) (SubI.slots (by simp only [e]) (by simp only [e]; simp (disch := omega) [wrapI]))
    · have e := filt_pos hlt (q := q) (by rw [← hq]; exact dec_true fun h => h1 ((subS_iff' hs hf).1 h))
      generalize (L.take k).filter q = g at *
      simp -implicitDefEqProofs [sc_s_l5Without_L0, hlt, h1]
      repeat' (first | omega | apply And.intro)
      refine Again.of (k + 1) (by omega) (by omega) (SubI.ren (fun m => if m = 0 then some 0 else if m = 1 then some 1 else if m = 2 then some 5 else if m = 3 then some 3 else none) ?_ ?_ ?_ (by simp) (by simp))
      · simp only [e]
        simp (disch := omega) [subT, renV, ren1, wrapI]
      · simp only [e]
        simp [subH, renL, ren1]
        rw [← ints_app]
        rfl
      · intro m hm
        simp only at hm
        rw [if_neg (by omega), if_neg (by omega), if_neg (by omega), if_neg (by omega)]
  · have : k = L.length := by omega
    subst this
    rw [List.take_length] at *
    generalize L.filter q = g at *
    simp -implicitDefEqProofs [sc_s_l5Without_L0, hF]
end Go.Proofs.Ytmemomfffehnkaa
namespace Go.Proofs.Ytmemomfffehnkaa
open Go Go.RowKit
set_option maxRecDepth 1000000
set_option linter.unusedSimpArgs false
set_option linter.unusedVariables false
set_option maxHeartbeats 1000000
def sc_s_IsShedding_L0 : SC := (.seq (.seq (.reg [⟨(some 37), none, (.mov (.t 7))⟩, ⟨(some 38), none, (.fad 1 (.t 5))⟩, ⟨(some 39), none, (.ld none .nil (.t 38))⟩, ⟨(some 40), none, (.len (.t 39))⟩, ⟨(some 41), none, (.bin false .lss (.t 37) (.t 40))⟩]) (.cond (.t 41) .skip (.exit 0))) (.seq (.block 1 (.seq (.dreg [⟨⟨(some 44), none, (.fad 1 (.t 6))⟩, false, false⟩, ⟨⟨(some 45), none, (.ld none .nil (.t 44))⟩, false, false⟩, ⟨⟨(some 46), none, (.fad 1 (.t 5))⟩, false, false⟩, ⟨⟨(some 47), none, (.ld none .nil (.t 46))⟩, false, false⟩, ⟨⟨(some 48), none, (.mov (.t 7))⟩, false, false⟩, ⟨⟨(some 49), none, (.idx 1 (.t 47) (.t 48))⟩, false, false⟩, ⟨⟨(some 50), none, (.ld none (.int .i64 0) (.t 49))⟩, false, false⟩, ⟨⟨(some 51), none, (.call 134 [(.t 45), (.t 50)])⟩, false, false⟩]) (.cond (.t 51) (.seq (.reg [⟨(some 4), none, (.mov (.c (.bool false)))⟩]) .ret) .skip))) (.reg [⟨(some 42), none, (.mov (.t 7))⟩, ⟨(some 43), none, (.bin false .add (.t 42) (.c (.int .i64 1)))⟩, ⟨(some 7), none, (.mov (.t 43))⟩])))
def sc_s_IsShedding : SC := (.seq (.reg [⟨(some 2), none, (.box (.t 0))⟩, ⟨(some 4), none, (.mov (.c (.bool false)))⟩]) (.seq (.seq (.reg [⟨(some 8), none, (.ld (some 2) .undef (.t 2))⟩, ⟨(some 9), none, (.call 24 [(.t 8)])⟩, ⟨(some 10), none, (.un .not (.t 9))⟩, ⟨(some 11), none, (.mov (.t 10))⟩, ⟨(some 12), (some (11, false)), (.mov (.t 1))⟩, ⟨(some 13), (some (11, false)), (.fad 0 (.t 2))⟩, ⟨(some 14), (some (11, false)), (.ld none (.int .i64 0) (.t 13))⟩, ⟨(some 15), (some (11, false)), (.bin false .sub (.t 14) (.c (.int .i64 1)))⟩, ⟨(some 16), (some (11, false)), (.call 132 [(.t 12), (.c (.int .i64 0)), (.t 15)])⟩, ⟨(some 17), (some (11, false)), (.un .not (.t 16))⟩, ⟨(some 18), none, (.pick (.t 11) (.c (.bool true)) (.t 17))⟩, ⟨(some 19), none, (.mov (.t 18))⟩, ⟨(some 20), (some (19, false)), (.ld (some 2) .undef (.t 2))⟩, ⟨(some 21), (some (19, false)), (.mov (.t 1))⟩, ⟨(some 22), (some (19, false)), (.conv .u64 (.t 21))⟩, ⟨(some 23), (some (19, false)), (.bin false .shl (.c (.int .i64 1)) (.t 22))⟩, ⟨(some 24), (some (19, false)), (.call 158 [(.t 20), (.t 23)])⟩, ⟨(some 25), (some (19, false)), (.un .not (.t 24))⟩, ⟨(some 26), none, (.pick (.t 19) (.c (.bool true)) (.t 25))⟩]) (.cond (.t 26) (.seq (.reg [⟨(some 4), none, (.mov (.c (.bool false)))⟩]) .ret) .skip)) (.seq (.reg [⟨(some 27), none, (.ld (some 2) .undef (.t 2))⟩, ⟨(some 28), none, (.mov (.t 1))⟩, ⟨(some 29), none, (.conv .u64 (.t 28))⟩, ⟨(some 30), none, (.bin false .shl (.c (.int .i64 1)) (.t 29))⟩, ⟨(some 31), none, (.call 199 [(.t 27), (.t 30)])⟩, ⟨(some 5), none, (.new [(.int .i64 0), .nil])⟩, ⟨none, none, (.st 2 (.t 5) (.t 31))⟩]) (.seq (.reg [⟨(some 32), none, (.ld (some 2) .undef (.t 2))⟩, ⟨(some 33), none, (.mov (.t 1))⟩, ⟨(some 34), none, (.conv .u64 (.t 33))⟩, ⟨(some 35), none, (.bin false .shl (.c (.int .i64 1)) (.t 34))⟩, ⟨(some 36), none, (.call 176 [(.t 32), (.t 35)])⟩, ⟨(some 6), none, (.new [(.int .i64 0), .nil])⟩, ⟨none, none, (.st 2 (.t 6) (.t 36))⟩]) (.seq (.seq (.reg [⟨(some 7), none, (.mov (.c (.int .i64 0)))⟩]) (.block 0 (.loop sc_s_IsShedding_L0))) (.seq (.reg [⟨(some 4), none, (.mov (.c (.bool true)))⟩]) .ret))))))
theorem code_s_IsShedding : fnCode Try.prog [] 101 = some (52, sc_s_IsShedding, [(4, none)]) := by kernel_rfl
/-- A point that can be taken away from a family. -/
def shedQ (p : Int → Prop) (i : Nat) : Prop := p (2 ^ i) ∧ ∀ t, isS t → maxP (lnkP p (2 ^ i)) t → ¬ maxP (wtoP p (2 ^ i)) t
theorem lnkP_congr {p q : Int → Prop} (h : ∀ s, isS s → (p s ↔ q s)) {s t : Int} (hs : isS s) (ht : isS t) : lnkP p s t ↔ lnkP q s t := by
  unfold lnkP
  rw [h _ (isS_bor ht hs)]
theorem wtoP_congr {p q : Int → Prop} (h : ∀ s, isS s → (p s ↔ q s)) {s t : Int} (ht : isS t) : wtoP p s t ↔ wtoP q s t := by
  unfold wtoP
  rw [h _ ht]
theorem shedQ_congr {p q : Int → Prop} (h : ∀ s, isS s → (p s ↔ q s)) {i : Nat} (hi : i < 6) : shedQ p i ↔ shedQ q i := by
  have hs := isS_pow hi
  unfold shedQ
  rw [h _ hs]
  have e1 : ∀ t, isS t → (maxP (lnkP p (2 ^ i)) t ↔ maxP (lnkP q (2 ^ i)) t) := fun t ht => maxP_congr (fun u hu => lnkP_congr h hs hu) ht
  have e2 : ∀ t, isS t → (maxP (wtoP p (2 ^ i)) t ↔ maxP (wtoP q (2 ^ i)) t) := fun t ht => maxP_congr (fun u hu => wtoP_congr h hu) ht
  constructor
  · rintro ⟨a, b⟩; exact ⟨a, fun t ht h1 h2 => b t ht ((e1 t ht).2 h1) ((e2 t ht).2 h2)⟩
  · rintro ⟨a, b⟩; exact ⟨a, fun t ht h1 h2 => b t ht ((e1 t ht).1 h1) ((e2 t ht).1 h2)⟩
theorem shl6 {i : Nat} (hi : i < 6) : IntKind.i64.wrap (2 ^ min i IntKind.i64.bits) = 2 ^ i := by
  have : ∀ i : Nat, i < 6 → IntKind.i64.wrap (2 ^ min i IntKind.i64.bits) = 2 ^ i := by decide +kernel
  exact this i hi
def shdP (n : Int) (l : List Int) (x : Int) : Prop := cplx n l ∧ 0 ≤ x ∧ x < n ∧ shedQ (faceS l) x.toNat
noncomputable def F_s_IsShedding : List V → Option V := F2 dC dI fun c x => @ite _ (inR x) (Classical.propDecidable _) (some (.bool (dec (shdP c.1 c.2 x)))) none
theorem cplx_len {n : Int} {l : List Int} (h : cplx n l) : l.length ≤ 64 := by
  have hp : l.Nodup := by
    refine List.pairwise_iff_getElem.2 ?_
    intro i j hi hj hij e
    have hb := cplx_before h hij hj
    have e1 : at0 l i = at0 l j := by rw [at0_eq hi, at0_eq hj, e]
    rw [e1] at hb
    simp only [before, decide_eq_true_eq] at hb
    omega
  exact nodup_len hp (cplx_isS h)
theorem fn_s_IsShedding : FnOk Try.prog 101 F_s_IsShedding := by
  have env := ((((((envNil_ok (P := Try.prog)).add fn_s_IsComplex).add fn_s_l1In).add fn_s_l3Has).add fn_s_l5Link).add fn_s_l5Without).add fn_s_l2Has
  refine fn_ok code_s_IsShedding mixed env ?_
  intro args r h hb
  obtain ⟨_, _, ⟨n, l⟩, x, rfl, h1, h2, h4⟩ := F2_inv h
  cases dC_inv h1
  cases dI_inv h2
  clear h
  simp only [Option.ite_none_right_eq_some, Option.some.injEq] at h4
  obtain ⟨hx, rfl⟩ := h4
  refine ⟨by simp, fun w0 U0 L0 N0 => ?_⟩
  clear hb
  generalize hv : dec (shdP n l x) = v
  cases e0 : cplxB n l with
  | false =>
    have hv1 : v = false := hv ▸ dec_false fun h => by simp [cplxB_iff.2 h.1] at e0
    simp -implicitDefEqProofs [sc_s_IsShedding, F_s_IsComplex, e0, hv1]
  | true =>
  have hc := cplxB_iff.1 e0
  have hS := cplx_isS hc
  have hl64 := cplx_len hc
  obtain ⟨hn1, hn6, _⟩ := id hc
  have hw : IntKind.i64.wrap (n - 1) = n - 1 := wrapI _ (by omega) (by omega)
  by_cases g1 : 0 ≤ x ∧ x ≤ n - 1
  rotate_left
  · have hv1 : v = false := hv ▸ dec_false fun h => g1 ⟨h.2.1, by have := h.2.2.1; omega⟩
    have g1' : decide (0 ≤ x ∧ x ≤ n - 1) = false := by simpa using g1
    simp -implicitDefEqProofs [sc_s_IsShedding, F_s_IsComplex, F_s_l1In, e0, hw, g1', hv1]
    try (exact fun a b => absurd ⟨a, b⟩ g1)
  obtain ⟨m, rfl⟩ : ∃ m : Nat, x = m := ⟨x.toNat, by omega⟩
  have hm : m < 6 := by omega
  have hu : IntKind.u64.wrap (m : Int) = m := wrapU _ (by omega) (by omega)
  have hsh := shl6 hm
  have hpS := isS_pow hm
  have hvv : v = dec (shedQ (faceS l) m) := by
    rw [← hv, Bool.eq_iff_iff, dec_iff, dec_iff]
    exact ⟨fun h => h.2.2.2, fun h => ⟨hc, g1.1, by omega, h⟩⟩
  unfold shedQ at hvv
  generalize (2 : Int) ^ m = s at *
  by_cases f1 : faceS l s
  rotate_left
  · have d1 := dec_false f1
    have hv1 : v = false := hvv.trans (dec_false fun h => f1 h.1)
    simp -implicitDefEqProofs [sc_s_IsShedding, F_s_IsComplex, F_s_l1In, F_s_l3Has, e0, hw, g1, hu, hsh, hS, hpS, d1, hv1]
  have d1 := dec_true f1
  have hA : ∀ t, t ∈ setsOf (maxP (lnkP (faceS l) s)) ↔ isS t ∧ maxP (lnkP (faceS l) s) t := fun t => mem_setsOf
  have hB : ∀ t, t ∈ setsOf (maxP (wtoP (faceS l) s)) ↔ isS t ∧ maxP (wtoP (faceS l) s) t := fun t => mem_setsOf
  have hAl := setsOf_len (maxP (lnkP (faceS l) s))
  have hv2 : v = dec (∀ t, t ∈ setsOf (maxP (lnkP (faceS l) s)) → t ∉ setsOf (maxP (wtoP (faceS l) s))) := by
    rw [hvv, Bool.eq_iff_iff, dec_iff, dec_iff]
    constructor
    · rintro ⟨_, h⟩ t h1 h2; exact h t ((hA t).1 h1).1 ((hA t).1 h1).2 ((hB t).1 h2).2
    · intro h; exact ⟨f1, fun t ht h1 h2 => h t ((hA t).2 ⟨ht, h1⟩) ((hB t).2 ⟨ht, h2⟩)⟩
  clear hA hB hvv hv
  simp -implicitDefEqProofs [sc_s_IsShedding, F_s_IsComplex, F_s_l1In, F_s_l3Has, F_s_l5Link, F_s_l5Without, e0, hw, g1, hu, hsh, hS, hpS, d1, hl64, hc]
  generalize setsOf (maxP (lnkP (faceS l) s)) = A at *
  generalize setsOf (maxP (wtoP (faceS l) s)) = B at *
  refine loopI env mixed (fun k : Nat => [(5, .pt 2 0), (6, .pt 4 0), (7, .int .i64 (k : Int))]) (fun _ => ([(4, [.int .i64 n, .sl 3 1 0 B.length]), (3, ints B), (2, [.int .i64 n, .sl 1 1 0 A.length]), (1, ints A), (0, [.int .i64 n, .list 1 (ints l)])], 5))
    (fun k => k ≤ A.length ∧ ∀ j, j < k → at0 A j ∉ B) (fun k => A.length - k) 0 (by simp) (SubI.slots rfl (by simp)) ?_
  rintro k ⟨hk, hno⟩
  by_cases hlt : k < A.length
  · by_cases hm2 : at0 A k ∈ B
    · have hv1 : v = false := hv2.trans (dec_false fun h => h _ (getD_mem' hlt) hm2)
      simp -implicitDefEqProofs [sc_s_IsShedding_L0, F_s_l2Has, hlt, hm2, hv1]
      try omega
    · simp -implicitDefEqProofs [sc_s_IsShedding_L0, F_s_l2Has, hlt, hm2]
      repeat' (first | omega | apply And.intro)
      refine Again.of (k + 1) ⟨by omega, fun j hj => ?_⟩ (by omega) (SubI.slots rfl (by simp (disch := omega) [wrapI]))
      rcases Nat.lt_succ_iff_lt_or_eq.1 hj with h1 | rfl
      · exact hno j h1
      · exact hm2
  · have hv1 : v = true := hv2.trans (dec_true fun t ht => by
      obtain ⟨j, hj, e⟩ := getD_mem_iff.1 ht
      rw [← e]
      exact hno j (by omega))
    have hka : k = A.length := by omega
    subst hka
    simp -implicitDefEqProofs [sc_s_IsShedding_L0, hv1]
end Go.Proofs.Ytmemomfffehnkaa
