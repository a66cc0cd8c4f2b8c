import Derived.Test.YtkfjacclpjgafaaGcI
import Derived.Test.YtkfjacclpjgafaaGaC
import Derived.Test.YtkfjacclpjgafaaKJ
namespace Go.Proofs.Ytkfjacclpjgafaa
open Go Go.RowKit
set_option maxRecDepth 1000000
set_option linter.unusedSimpArgs false
set_option linter.unusedVariables false
set_option maxHeartbeats 1000000
def sc_s_EdgeComplex_L0 : SC := (.seq (.seq (.reg [⟨(some 22), none, (.mov (.t 7))⟩, ⟨(some 23), none, (.mov (.t 4))⟩, ⟨(some 24), none, (.len (.t 23))⟩, ⟨(some 25), none, (.bin false .lss (.t 22) (.t 24))⟩]) (.cond (.t 25) .skip (.exit 0))) (.seq (.block 1 (.seq (.reg [⟨(some 28), none, (.mov (.t 5))⟩, ⟨(some 29), none, (.mov (.t 7))⟩, ⟨(some 30), none, (.idx 1 (.t 28) (.t 29))⟩, ⟨(some 31), none, (.ld none (.int .i64 0) (.t 30))⟩, ⟨(some 32), none, (.bin false .eql (.t 31) (.c (.int .i64 1)))⟩]) (.cond (.t 32) (.reg [⟨(some 33), none, (.mov (.t 6))⟩, ⟨(some 34), none, (.mov (.t 4))⟩, ⟨(some 35), none, (.mov (.t 7))⟩, ⟨(some 36), none, (.idx 1 (.t 34) (.t 35))⟩, ⟨(some 37), none, (.ld none (.int .i64 0) (.t 36))⟩, ⟨(some 38), none, (.mks 1 1 [(.int .i64 0)] [(0, (1, (.t 37)))])⟩, ⟨(some 39), none, (.app 1 8 (.t 33) (.t 38))⟩, ⟨(some 6), none, (.mov (.t 39))⟩]) .skip))) (.reg [⟨(some 26), none, (.mov (.t 7))⟩, ⟨(some 27), none, (.bin false .add (.t 26) (.c (.int .i64 1)))⟩, ⟨(some 7), none, (.mov (.t 27))⟩])))
def sc_s_EdgeComplex : SC := (.seq (.reg [⟨(some 1), none, (.box (.t 0))⟩, ⟨(some 2), none, (.new [(.int .i64 0), .nil])⟩, ⟨(some 3), none, (.mov (.c (.bool false)))⟩]) (.seq (.seq (.reg [⟨(some 8), none, (.ld (some 2) .undef (.t 1))⟩, ⟨(some 9), none, (.call 72 [(.t 8)])⟩, ⟨(some 10), none, (.un .not (.t 9))⟩, ⟨(some 11), none, (.mov (.t 10))⟩, ⟨(some 12), (some (11, false)), (.ld (some 2) .undef (.t 1))⟩, ⟨(some 13), (some (11, false)), (.call 67 [(.t 12)])⟩, ⟨(some 14), (some (11, false)), (.bin false .lss (.t 13) (.c (.int .i64 0)))⟩, ⟨(some 15), none, (.pick (.t 11) (.c (.bool true)) (.t 14))⟩]) (.cond (.t 15) (.seq (.reg [⟨(some 16), none, (.agg [(.int .i64 0), .nil] [])⟩, ⟨none, none, (.st 2 (.t 2) (.t 16))⟩, ⟨(some 3), none, (.mov (.c (.bool false)))⟩]) .ret) .skip)) (.seq (.reg [⟨(some 17), none, (.ld (some 2) .undef (.t 1))⟩, ⟨(some 18), none, (.call 68 [(.t 17)])⟩, ⟨(some 4), none, (.mov (.t 18))⟩]) (.seq (.reg [⟨(some 19), none, (.ld (some 2) .undef (.t 1))⟩, ⟨(some 20), none, (.call 24 [(.t 19)])⟩, ⟨(some 5), none, (.mov (.t 20))⟩]) (.seq (.reg [⟨(some 21), none, (.mks 0 1 [] [])⟩, ⟨(some 6), none, (.mov (.t 21))⟩]) (.seq (.seq (.reg [⟨(some 7), none, (.mov (.c (.int .i64 0)))⟩]) (.block 0 (.loop sc_s_EdgeComplex_L0))) (.seq (.reg [⟨(some 40), none, (.fad 0 (.t 1))⟩, ⟨(some 41), none, (.ld none (.int .i64 0) (.t 40))⟩, ⟨(some 42), none, (.mov (.t 6))⟩, ⟨(some 43), none, (.call 108 [(.t 41), (.t 42)])⟩, ⟨none, none, (.st 2 (.t 2) (.t 43))⟩, ⟨(some 3), none, (.mov (.c (.bool true)))⟩]) .ret)))))))
theorem code_s_EdgeComplex : fnCode Try.prog [] 52 = some (44, sc_s_EdgeComplex, [(2, (some 2)), (3, none)]) := by kernel_rfl
/-- The ridges in just one greatest facet. -/
noncomputable def edgQ (n : Int) (l : List Int) (s : Int) : Bool := dec (cntR (dimZ n l) l s = 1)
def edgP (n : Int) (l : List Int) : Prop := pureB n l = true ∧ ¬ dimZ n l < 0
open Classical in
noncomputable def edgL (n : Int) (l : List Int) : List Int := if edgP n l then setsOf (maxP (faceS ((rdgL n l).filter (edgQ n l)))) else []
theorem edgN_ex (n : Int) (l : List Int) : ∃ m : Int, (edgP n l → m = n) ∧ (¬ edgP n l → m = 0) := by
  by_cases h : edgP n l
  · exact ⟨n, fun _ => rfl, fun h2 => absurd h h2⟩
  · exact ⟨0, fun h2 => absurd h2 h, fun _ => rfl⟩
noncomputable def edgN (n : Int) (l : List Int) : Int := Classical.choose (edgN_ex n l)
theorem edgN_yes {n : Int} {l : List Int} (h : edgP n l) : edgN n l = n := (Classical.choose_spec (edgN_ex n l)).1 h
theorem edgN_no {n : Int} {l : List Int} (h : ¬ edgP n l) : edgN n l = 0 := (Classical.choose_spec (edgN_ex n l)).2 h
theorem edgL_yes {n : Int} {l : List Int} (h : edgP n l) : edgL n l = setsOf (maxP (faceS ((rdgL n l).filter (edgQ n l)))) := if_pos h
theorem edgL_no {n : Int} {l : List Int} (h : ¬ edgP n l) : edgL n l = [] := if_neg h
open Classical in
noncomputable def F_s_EdgeComplex : List V → Option V := F1 dC fun c => if allR c.2 then some (.tup [.agg [.int .i64 (edgN c.1 c.2), .own 1 (ints (edgL c.1 c.2))], .bool (dec (edgP c.1 c.2))]) else none
theorem fn_s_EdgeComplex : FnOk Try.prog 52 F_s_EdgeComplex := by
  have env := (((((envNil_ok (P := Try.prog)).add fn_s_IsPure).add fn_s_DimOf).add fn_s_l23Ridges).add fn_s_RidgeCounts).add fn_s_l3Make
  refine fn_ok code_s_EdgeComplex mixed env ?_
  intro args r h hb
  obtain ⟨_, ⟨n, l⟩, rfl, h1, h4⟩ := F1_inv h
  cases dC_inv h1
  simp only [Option.ite_none_right_eq_some, Option.some.injEq] at h4
  obtain ⟨hR, rfl⟩ := h4
  clear h
  refine ⟨by simp, fun w0 U0 L0 N0 => ?_⟩
  clear hb
  have hFD : F_s_DimOf [.agg [.int .i64 n, .list 1 (ints l)]] = some (.int .i64 (dimZ n l)) := by simp [F_s_DimOf]
  cases hp : pureB n l with
  | false =>
    have hE : ¬ edgP n l := fun h => by simp [hp, edgP] at h
    rw [edgN_no hE, edgL_no hE, dec_false hE]
    simp -implicitDefEqProofs [sc_s_EdgeComplex, F_s_IsPure, hR, hp]
  | true =>
  by_cases hd : dimZ n l < 0
  · have hE : ¬ edgP n l := fun h => h.2 hd
    rw [edgN_no hE, edgL_no hE, dec_false hE]
    simp -implicitDefEqProofs [sc_s_EdgeComplex, F_s_IsPure, hFD, hR, hp, hd]
  have hE : edgP n l := ⟨hp, hd⟩
  rw [edgN_yes hE, edgL_yes hE, dec_true hE]
  have hFR : F_s_RidgeCounts [.agg [.int .i64 n, .list 1 (ints l)]] = some (.own 1 (ints (rcL n l))) := by simp [F_s_RidgeCounts]
  have hFL : F_s_l23Ridges [.agg [.int .i64 n, .list 1 (ints l)]] = some (.own 1 (ints (rdgL n l))) := by
    rw [rdgL_nn hd]
    simp [F_s_l23Ridges]
  obtain ⟨hL, hLl⟩ := rdgL_ok n l
  have hat := fun (k : Nat) (hk : k < (rdgL n l).length) => rcL_at (n := n) (l := l) hk
  have hrl : (rcL n l).length = (rdgL n l).length := by unfold rcL; simp
  have hq : ∀ s, edgQ n l s = true ↔ cntR (dimZ n l) l s = 1 := fun s => dec_iff
  have hFM : F_s_l3Make [.int .i64 n, .list 1 (ints ((rdgL n l).filter (edgQ n l)))] = some (.agg [.int .i64 n, .own 1 (ints (setsOf (maxP (faceS ((rdgL n l).filter (edgQ n l))))))]) := by
    have hS : allS ((rdgL n l).filter (edgQ n l)) := fun x hx => hL x (List.mem_filter.1 hx).1
    simp only [F_s_l3Make, F2_mk, dL_list, dI_int, Option.bind_some]
    rw [if_pos hS, setsOf_congr fun s hs => maxP_down (q := faceS ((rdgL n l).filter (edgQ n l))) (fun t ht => ⟨fun ⟨f, hf, h⟩ => ⟨f, hS f hf, hf, h⟩, fun ⟨f, _, hf, h⟩ => ⟨f, hf, h⟩⟩) hs]
  generalize setsOf (maxP (faceS ((rdgL n l).filter (edgQ n l)))) = E at *
  generalize edgQ n l = q at *
  generalize rdgL n l = L at *
  generalize rcL n l = M at *
  generalize dimZ n l = d at *
  simp -implicitDefEqProofs [sc_s_EdgeComplex, F_s_IsPure, hFD, hFR, hFL, hR, hp, hd]
  refine loopI env mixed (fun k : Nat => [(1, .pt 0 0), (2, .pt 1 0), (4, .sl 2 1 0 L.length), (5, .sl 3 1 0 M.length), (6, .sl 4 1 0 ((L.take k).filter q).length), (7, .int .i64 (k : Int))]) (fun k => ([(4, ints ((L.take k).filter q)), (3, ints M), (2, ints L), (1, [.int .i64 0, .nil]), (0, [.int .i64 n, .list 1 (ints l)])], 5)) (fun k => k ≤ L.length) (fun k => L.length - k) 0 (by simp) (SubI.slots (by simp) (by simp)) ?_
  intro k hk
  have gl := filt_len L k q
  by_cases hlt : k < L.length
  · have hlt2 : k < M.length := by omega
    have ha := hat k hlt
    by_cases h1 : at0 M k = 1
    · have e := filt_pos hlt (q := q) ((hq _).2 (by rw [← ha]; exact h1))
      generalize (L.take k).filter q = g at *
      simp -implicitDefEqProofs [sc_s_EdgeComplex_L0, hlt, hlt2, h1]
      repeat' (first | omega | apply And.intro)
      refine Again.of (k + 1) (by omega) (by omega) (SubI.ren (fun m => if m = 0 then some 0 else if m = 1 then some 1 else if m = 2 then some 2 else if m = 3 then some 3 else if m = 4 then some 6 else none) ?_ ?_ ?_ (by simp) (by simp))
      · simp only [e]
        simp (disch := omega) [subT, renV, ren1, wrapI]
      · simp only [e]
        simp [subH, renL, ren1]
        rw [← ints_app]
        rfl
      · intro m hm
        simp only at hm
        rw [if_neg (by omega), if_neg (by omega), if_neg (by omega), if_neg (by omega), if_neg (by omega)]
    · have e := filt_neg hlt (q := q) (Bool.eq_false_iff.2 fun h => h1 (by rw [ha]; exact (hq _).1 h))
      generalize (L.take k).filter q = g at *
      simp -implicitDefEqProofs [sc_s_EdgeComplex_L0, hlt, hlt2, h1]
      repeat' (first | omega | apply And.intro)
      exact Again.of (k + 1) (by omega) (by omega) (SubI.slots (by simp only [e]) (by simp only [e]; simp (disch := omega) [wrapI]))
  · have : k = L.length := by omega
    subst this
    rw [List.take_length] at *
    generalize L.filter q = g at *
    simp -implicitDefEqProofs [sc_s_EdgeComplex_L0, hFM]
def sc_i_EdgeComplex_L0 : SC := (.seq (.reg [⟨(some 26), none, (.bin false .lss (.t 25) (.t 24))⟩]) (.seq (.cond (.t 26) .skip (.exit 0)) (.seq (.block 1 (.seq (.reg [⟨(some 27), none, (.mov (.t 25))⟩, ⟨(some 28), none, (.idx 1 (.t 23) (.t 25))⟩, ⟨(some 29), none, (.ld none (.int .i64 0) (.t 28))⟩, ⟨(some 7), none, (.mov (.t 27))⟩, ⟨(some 8), none, (.mov (.t 29))⟩]) (.seq (.reg [⟨(some 30), none, (.mov (.t 5))⟩, ⟨(some 31), none, (.mov (.t 7))⟩, ⟨(some 32), none, (.idx 1 (.t 30) (.t 31))⟩, ⟨(some 33), none, (.ld none (.int .i64 0) (.t 32))⟩, ⟨(some 34), none, (.bin false .eql (.t 33) (.c (.int .i64 1)))⟩]) (.cond (.t 34) (.reg [⟨(some 35), none, (.mov (.t 6))⟩, ⟨(some 36), none, (.mov (.t 8))⟩, ⟨(some 37), none, (.call 109 [(.t 36)])⟩, ⟨(some 38), none, (.bin false .or (.t 35) (.t 37))⟩, ⟨(some 6), none, (.mov (.t 38))⟩]) .skip)))) (.reg [⟨(some 39), none, (.bin false .add (.t 25) (.c (.int .i64 1)))⟩, ⟨(some 25), none, (.mov (.t 39))⟩]))))
def sc_i_EdgeComplex : SC := (.seq (.reg [⟨(some 1), none, (.box (.t 0))⟩, ⟨(some 2), none, (.new [(.int .i64 0), .nil])⟩, ⟨(some 3), none, (.mov (.c (.bool false)))⟩]) (.seq (.seq (.reg [⟨(some 9), none, (.ld (some 2) .undef (.t 1))⟩, ⟨(some 10), none, (.call 73 [(.t 9)])⟩, ⟨(some 11), none, (.un .not (.t 10))⟩, ⟨(some 12), none, (.mov (.t 11))⟩, ⟨(some 13), (some (12, false)), (.ld (some 2) .undef (.t 1))⟩, ⟨(some 14), (some (12, false)), (.call 74 [(.t 13)])⟩, ⟨(some 15), (some (12, false)), (.bin false .lss (.t 14) (.c (.int .i64 0)))⟩, ⟨(some 16), none, (.pick (.t 12) (.c (.bool true)) (.t 15))⟩]) (.cond (.t 16) (.seq (.reg [⟨(some 17), none, (.agg [(.int .i64 0), .nil] [])⟩, ⟨none, none, (.st 2 (.t 2) (.t 17))⟩, ⟨(some 3), none, (.mov (.c (.bool false)))⟩]) .ret) .skip)) (.seq (.reg [⟨(some 19), none, (.ld (some 2) .undef (.t 1))⟩, ⟨(some 20), none, (.call 71 [(.t 19)])⟩, ⟨(some 18), none, (.mov (.t 20))⟩, ⟨(some 21), none, (.ext 0 (.t 18))⟩, ⟨(some 22), none, (.ext 1 (.t 18))⟩, ⟨(some 4), none, (.mov (.t 21))⟩, ⟨(some 5), none, (.mov (.t 22))⟩]) (.seq (.reg [⟨(some 6), none, (.mov (.c (.int .u64 0)))⟩]) (.seq (.seq (.reg [⟨(some 23), none, (.mov (.t 4))⟩, ⟨(some 24), none, (.len (.t 23))⟩, ⟨(some 25), none, (.mov (.c (.int .i64 0)))⟩]) (.block 0 (.loop sc_i_EdgeComplex_L0))) (.seq (.reg [⟨(some 40), none, (.fad 0 (.t 1))⟩, ⟨(some 41), none, (.ld none (.int .i64 0) (.t 40))⟩, ⟨(some 42), none, (.mov (.t 6))⟩, ⟨(some 43), none, (.call 81 [(.t 41), (.t 42)])⟩, ⟨none, none, (.st 2 (.t 2) (.t 43))⟩, ⟨(some 3), none, (.mov (.c (.bool true)))⟩]) .ret))))))
theorem code_i_EdgeComplex : fnCode Try.prog [] 53 = some (44, sc_i_EdgeComplex, [(2, (some 2)), (3, none)]) := by kernel_rfl
theorem fn_i_EdgeComplex : FnOk Try.prog 53 F_s_EdgeComplex := by
  have env := (((((envNil_ok (P := Try.prog)).add fn_i_IsPure).add fn_i_DimOf).add fn_i_ridgesOf).add fn_i_subsetFamily).add fn_i_complexOf
  refine fn_ok code_i_EdgeComplex mixed env ?_
  intro args r h hb
  obtain ⟨_, ⟨n, l⟩, rfl, h1, h4⟩ := F1_inv h
  cases dC_inv h1
  simp only [Option.ite_none_right_eq_some, Option.some.injEq] at h4
  obtain ⟨hR, rfl⟩ := h4
  clear h
  refine ⟨by simp, fun w0 U0 L0 N0 => ?_⟩
  clear hb
  have hFD : F_s_DimOf [.agg [.int .i64 n, .list 1 (ints l)]] = some (.int .i64 (dimZ n l)) := by simp [F_s_DimOf]
  cases hp : pureB n l with
  | false =>
    have hE : ¬ edgP n l := fun h => by simp [hp, edgP] at h
    rw [edgN_no hE, edgL_no hE, dec_false hE]
    simp -implicitDefEqProofs [sc_i_EdgeComplex, F_s_IsPure, hR, hp]
  | true =>
  by_cases hd : dimZ n l < 0
  · have hE : ¬ edgP n l := fun h => h.2 hd
    rw [edgN_no hE, edgL_no hE, dec_false hE]
    simp -implicitDefEqProofs [sc_i_EdgeComplex, F_s_IsPure, hFD, hR, hp, hd]
  have hE : edgP n l := ⟨hp, hd⟩
  rw [edgN_yes hE, edgL_yes hE, dec_true hE]
  have hFR : F_i_ridgesOf [.agg [.int .i64 n, .list 1 (ints l)]] = some (.tup [.own 1 (ints (rdgL n l)), .own 1 (ints (rcL n l))]) := by simp [F_i_ridgesOf]
  obtain ⟨hL, hLl⟩ := rdgL_ok n l
  have hat := fun (k : Nat) (hk : k < (rdgL n l).length) => rcL_at (n := n) (l := l) hk
  have hrl : (rcL n l).length = (rdgL n l).length := by unfold rcL; simp
  have hq : ∀ s, edgQ n l s = true ↔ cntR (dimZ n l) l s = 1 := fun s => dec_iff
  have hcf := cofG_fam n (faceS ((rdgL n l).filter (edgQ n l)))
  generalize setsOf (maxP (faceS ((rdgL n l).filter (edgQ n l)))) = E at *
  generalize edgQ n l = q at *
  generalize rdgL n l = L at *
  generalize rcL n l = M at *
  generalize dimZ n l = d at *
  have e0 : (0 : Int) = fam (faceS []) := (fam_zero.2 fun u hu h => by obtain ⟨f, h1, _⟩ := h; simp at h1).symm
  simp -implicitDefEqProofs [sc_i_EdgeComplex, F_s_IsPure, hFD, hFR, hR, hp, hd]
  refine loopI env mixed (fun k : Nat => [(1, .pt 0 0), (2, .pt 1 0), (5, .sl 3 1 0 M.length), (6, .int .u64 (fam (faceS ((L.take k).filter q)))), (23, .sl 2 1 0 L.length), (24, .int .i64 (L.length : Int)), (25, .int .i64 (k : Int))]) (fun k => ([(3, ints M), (2, ints L), (1, [.int .i64 0, .nil]), (0, [.int .i64 n, .list 1 (ints l)])], 4)) (fun k => k ≤ L.length) (fun k => L.length - k) 0 (by simp) (SubI.slots (by simp) (by simp [← e0])) ?_
  intro k hk
  have gl := filt_len L k q
  by_cases hlt : k < L.length
  · have hlt2 : k < M.length := by omega
    have ha := hat k hlt
    have hf := allS_at hL hlt
    by_cases h1 : at0 M k = 1
    · have e := filt_pos hlt (q := q) ((hq _).2 (by rw [← ha]; exact h1))
      have e2 : (fam fun s => faceS ((L.take k).filter q) s ∨ subS s (at0 L k)) = fam (faceS ((L.take (k + 1)).filter q)) := by
        rw [e]
        exact fam_congr fun s _ => faceS_snoc.symm
      simp -implicitDefEqProofs [sc_i_EdgeComplex_L0, F_i_subsetFamily, hlt, hlt2, h1, hf, e2]
      repeat' (first | omega | apply And.intro)
      exact Again.of (k + 1) (by omega) (by omega) (SubI.slots rfl (by simp (disch := omega) [wrapI]))
    · have e := filt_neg hlt (q := q) (Bool.eq_false_iff.2 fun h => h1 (by rw [ha]; exact (hq _).1 h))
      simp -implicitDefEqProofs [sc_i_EdgeComplex_L0, hlt, hlt2, h1]
      repeat' (first | omega | apply And.intro)
      exact Again.of (k + 1) (by omega) (by omega) (SubI.slots rfl (by simp only [e]; simp (disch := omega) [wrapI]))
  · have : k = L.length := by omega
    subst this
    rw [List.take_length] at *
    simp -implicitDefEqProofs [sc_i_EdgeComplex_L0, F_i_complexOf, hcf]
end Go.Proofs.Ytkfjacclpjgafaa
