import Derived.Test.YtmemomfffehnkaaKS2
import Derived.Test.YtmemomfffehnkaaKG2
import Derived.Test.YtmemomfffehnkaaKG3
import Derived.Test.YtmemomfffehnkaaKG5
import Derived.Test.YtmemomfffehnkaaKF
namespace Go.Proofs.Ytmemomfffehnkaa
open Go Go.RowKit
set_option maxRecDepth 1000000
set_option linter.unusedSimpArgs false
set_option linter.unusedVariables false
set_option maxHeartbeats 1000000
def sc_s_FillChain : SC := (.seq (.reg [⟨(some 4), none, (.box (.t 0))⟩, ⟨(some 8), none, (.mov (.c .nil))⟩, ⟨(some 9), none, (.mov (.c (.bool false)))⟩]) (.seq (.seq (.reg [⟨(some 12), none, (.ld (some 2) .undef (.t 4))⟩, ⟨(some 13), none, (.mov (.t 1))⟩, ⟨(some 14), none, (.mov (.t 2))⟩, ⟨(some 15), none, (.mov (.t 3))⟩, ⟨(some 16), none, (.call 21 [(.t 12), (.t 13), (.t 14), (.t 15)])⟩, ⟨(some 17), none, (.un .not (.t 16))⟩, ⟨(some 18), none, (.mov (.t 17))⟩, ⟨(some 19), (some (18, false)), (.mov (.t 1))⟩, ⟨(some 20), (some (18, false)), (.bin false .eql (.t 19) (.c (.int .i64 6)))⟩, ⟨(some 21), none, (.pick (.t 18) (.c (.bool true)) (.t 20))⟩]) (.cond (.t 21) (.seq (.reg [⟨(some 22), none, (.mks 0 1 [] [])⟩, ⟨(some 8), none, (.mov (.t 22))⟩, ⟨(some 9), none, (.mov (.c (.bool false)))⟩]) .ret) .skip)) (.seq (.dreg [⟨⟨(some 24), none, (.ld (some 2) .undef (.t 4))⟩, false, false⟩, ⟨⟨(some 25), none, (.mov (.t 1))⟩, false, false⟩, ⟨⟨(some 26), none, (.bin false .add (.t 25) (.c (.int .i64 1)))⟩, false, false⟩, ⟨⟨(some 27), none, (.call 123 [(.t 24), (.t 26)])⟩, false, false⟩, ⟨⟨(some 28), none, (.ld (some 2) .undef (.t 4))⟩, false, false⟩, ⟨⟨(some 29), none, (.mov (.t 1))⟩, false, false⟩, ⟨⟨(some 30), none, (.bin false .add (.t 29) (.c (.int .i64 1)))⟩, false, false⟩, ⟨⟨(some 31), none, (.call 124 [(.t 28), (.t 30)])⟩, false, false⟩, ⟨⟨(some 32), none, (.len (.t 31))⟩, false, false⟩, ⟨⟨(some 33), none, (.mov (.t 3))⟩, false, false⟩, ⟨⟨(some 34), none, (.mov (.t 2))⟩, false, false⟩, ⟨⟨(some 35), none, (.call 122 [(.t 27), (.t 32), (.t 33), (.t 34)])⟩, true, false⟩, ⟨⟨(some 23), none, (.mov (.t 35))⟩, false, false⟩, ⟨⟨(some 36), none, (.ext 0 (.t 23))⟩, false, false⟩, ⟨⟨(some 37), none, (.ext 1 (.t 23))⟩, false, false⟩, ⟨⟨(some 10), none, (.mov (.t 36))⟩, false, false⟩, ⟨⟨(some 11), none, (.mov (.t 37))⟩, false, false⟩]) (.seq (.reg [⟨(some 38), none, (.mov (.t 10))⟩, ⟨(some 39), none, (.mov (.t 11))⟩, ⟨(some 8), none, (.mov (.t 38))⟩, ⟨(some 9), none, (.mov (.t 39))⟩]) .ret))))
theorem code_s_FillChain : fnCode Try.prog [122] 13 = some (40, sc_s_FillChain, [(8, none), (9, none)]) := by kernel_rfl
def fcP (n : Int) (l : List Int) (k p : Int) (x : List Int) : Prop := chnP n l k p x ∧ k ≠ 6
noncomputable def fcW (n : Int) (l : List Int) (k : Int) : Nat := (fosL n l (k + 1)).length
noncomputable def fcR (n : Int) (l : List Int) (k p : Int) (x : List Int) : List (List Int) × List Int := flR p (borM n l (k + 1)) x (fcW n l k)
def fchP (n : Int) (l : List Int) (k p : Int) (x : List Int) : Prop := fcP n l k p x ∧ filO (fcR n l k p x).1 (fcR n l k p x).2 (fcW n l k)
open Classical in
noncomputable def fchL (n : Int) (l : List Int) (k p : Int) (x : List Int) : List Int := if fcP n l k p x then filL (fcR n l k p x).1 (fcR n l k p x).2 (fcW n l k) else []
noncomputable def F_s_FillChain : List V → Option V := F4 dC dI dI dL fun c k p x => some (.tup [.own 1 (ints (fchL c.1 c.2 k p x)), .bool (dec (fchP c.1 c.2 k p x))])
theorem fchain_ok {n : Int} {l : List Int} {k p : Int} {x : List Int} (h : fcP n l k p x) : filP (borM n l (k + 1)) (fcW n l k) x p ∧ cplx n l ∧ 1 ≤ k + 1 ∧ k + 1 ≤ 6 := by
  obtain ⟨⟨hc, hk1, hk6, hp, hl, hx⟩, hk⟩ := h
  obtain ⟨_, hRl, hCl⟩ := borM_ok (n := n) (l := l) (k := k + 1)
  rw [Int.add_sub_cancel] at hRl
  have hbl : (borM n l (k + 1)).length = (fosL n l k).length := by unfold borM; rw [sgnM_len, Int.add_sub_cancel]
  refine ⟨⟨hp, hx, by omega, by omega, by omega, by unfold fcW; omega, fun i hi => ?_⟩, hc, by omega, by omega⟩
  rw [hbl] at hi
  unfold borM fcW
  rw [Int.add_sub_cancel, sgnM_at hi]
  simp
theorem fn_s_FillChain : FnOk Try.prog 13 F_s_FillChain := by
  have env := ((((envNil_ok (P := Try.prog)).add fn_s_IsChain).add fn_s_l13Border).add fn_s_FacesOfSize).add fn_s_l16Fill
  refine fn_ok code_s_FillChain mixed env ?_
  intro args r h hb
  obtain ⟨_, _, _, _, ⟨n, l⟩, k, p, x, rfl, h1, h2, h3, h5, h4⟩ := F4_inv h
  cases dC_inv h1
  cases dI_inv h2
  cases dI_inv h3
  cases dL_inv h5
  cases h4
  clear h
  refine ⟨by simp, fun w0 U0 L0 N0 => ?_⟩
  clear hb
  simp only
  by_cases hP : chnP n l k p x
  rotate_left
  · have hf : ¬ fcP n l k p x := fun h => hP h.1
    have e : fchL n l k p x = [] := if_neg hf
    have hd : dec (fchP n l k p x) = false := dec_false fun h => hf h.1
    rw [e, hd]
    have hd2 := dec_false hP
    simp -implicitDefEqProofs [sc_s_FillChain, F_s_IsChain, hd2]
  have hd2 := dec_true hP
  by_cases hk : k = 6
  · have hf : ¬ fcP n l k p x := fun h => h.2 hk
    have e : fchL n l k p x = [] := if_neg hf
    have hd : dec (fchP n l k p x) = false := dec_false fun h => hf h.1
    rw [e, hd]
    simp -implicitDefEqProofs [sc_s_FillChain, F_s_IsChain, hd2, hk]
  have hf : fcP n l k p x := ⟨hP, hk⟩
  have e : fchL n l k p x = filL (fcR n l k p x).1 (fcR n l k p x).2 (fcW n l k) := if_pos hf
  have hd : dec (fchP n l k p x) = dec (filO (fcR n l k p x).1 (fcR n l k p x).2 (fcW n l k)) := by
    rw [Bool.eq_iff_iff, dec_iff, dec_iff]
    exact ⟨fun h => h.2, fun h => ⟨hf, h⟩⟩
  obtain ⟨hfil, hc, hk1, hk6⟩ := fchain_ok hf
  have hF1 : F_i_BorderMatrix [.agg [.int .i64 n, .list 1 (ints l)], .int .i64 (k + 1)] = some (.own 1 (rowsV (borM n l (k + 1)))) := by
    simp only [F_i_BorderMatrix, F2_mk, dC_agg, dI_int, Option.bind_some]
    rw [if_pos ⟨hc, hk1, hk6⟩]
  have hF2 : F_s_FacesOfSize [.agg [.int .i64 n, .list 1 (ints l)], .int .i64 (k + 1)] = some (.own 1 (ints (fosL n l (k + 1)))) := by simp [F_s_FacesOfSize]
  have hF3 : F_s_l16Fill [.list 1 (rowsL (borM n l (k + 1))), .int .i64 ((fosL n l (k + 1)).length : Nat), .list 1 (ints x), .int .i64 p] = some (.tup [.own 1 (ints (filL (fcR n l k p x).1 (fcR n l k p x).2 (fcW n l k))), .bool (dec (filO (fcR n l k p x).1 (fcR n l k p x).2 (fcW n l k)))]) := by
    simp only [F_s_l16Fill, F4_mk, dLL_list, dL_list, dI_int, Option.bind_some]
    have hfil2 : filP (borM n l (k + 1)) ((fosL n l (k + 1)).length : Nat) x p := hfil
    rw [if_pos hfil2, Int.toNat_natCast]
    rfl
  rw [e, hd]
  have hw : IntKind.i64.wrap (k + 1) = k + 1 := wrapI _ (by omega) (by omega)
  generalize filL (fcR n l k p x).1 (fcR n l k p x).2 (fcW n l k) = L at *
  generalize dec (filO (fcR n l k p x).1 (fcR n l k p x).2 (fcW n l k)) = b at *
  simp -implicitDefEqProofs [sc_s_FillChain, F_s_IsChain, hd2, hk, hw, hF1, hF2, hF3]
end Go.Proofs.Ytmemomfffehnkaa
namespace Go.Proofs.Ytmemomfffehnkaa
open Go Go.RowKit
set_option maxRecDepth 1000000
set_option linter.unusedSimpArgs false
set_option linter.unusedVariables false
set_option maxHeartbeats 1000000
def sc_i_FillChain_L4 : SC := (.seq (.reg [⟨(some 83), none, (.bin false .lss (.t 82) (.t 81))⟩]) (.seq (.cond (.t 83) .skip (.exit 4)) (.seq (.block 5 (.seq (.reg [⟨(some 84), none, (.mov (.t 82))⟩, ⟨(some 85), none, (.idx 1 (.t 80) (.t 82))⟩, ⟨(some 86), none, (.ld none (.int .i64 0) (.t 85))⟩, ⟨(some 16), none, (.mov (.t 84))⟩, ⟨(some 17), none, (.mov (.t 86))⟩]) (.reg [⟨(some 87), none, (.mov (.t 15))⟩, ⟨(some 88), none, (.mov (.t 17))⟩, ⟨(some 89), none, (.mov (.t 11))⟩, ⟨(some 90), none, (.mov (.t 16))⟩, ⟨(some 91), none, (.idx 1 (.t 89) (.t 90))⟩, ⟨(some 92), none, (.ld none .nil (.t 91))⟩, ⟨(some 93), none, (.mov (.t 10))⟩, ⟨(some 94), none, (.idx 1 (.t 92) (.t 93))⟩, ⟨(some 95), none, (.ld none (.int .i64 0) (.t 94))⟩, ⟨(some 96), none, (.idx 1 (.t 87) (.t 88))⟩, ⟨none, none, (.st 1 (.t 96) (.t 95))⟩]))) (.reg [⟨(some 97), none, (.bin false .add (.t 82) (.c (.int .i64 1)))⟩, ⟨(some 82), none, (.mov (.t 97))⟩]))))
def sc_i_FillChain_L2 : SC := (.seq (.seq (.reg [⟨(some 64), none, (.mov (.t 14))⟩, ⟨(some 65), none, (.mov (.t 11))⟩, ⟨(some 66), none, (.len (.t 65))⟩, ⟨(some 67), none, (.bin false .lss (.t 64) (.t 66))⟩]) (.cond (.t 67) .skip (.exit 2))) (.seq (.block 3 (.seq (.reg [⟨(some 70), none, (.mov (.t 11))⟩, ⟨(some 71), none, (.mov (.t 14))⟩, ⟨(some 72), none, (.idx 1 (.t 70) (.t 71))⟩, ⟨(some 73), none, (.ld none .nil (.t 72))⟩, ⟨(some 74), none, (.mov (.t 10))⟩, ⟨(some 75), none, (.idx 1 (.t 73) (.t 74))⟩, ⟨(some 76), none, (.ld none (.int .i64 0) (.t 75))⟩, ⟨(some 77), none, (.bin false .neq (.t 76) (.c (.int .i64 0)))⟩]) (.cond (.t 77) (.seq (.reg [⟨(some 8), none, (.mov (.c .nil))⟩, ⟨(some 9), none, (.mov (.c (.bool false)))⟩]) .ret) .skip))) (.reg [⟨(some 68), none, (.mov (.t 14))⟩, ⟨(some 69), none, (.bin false .add (.t 68) (.c (.int .i64 1)))⟩, ⟨(some 14), none, (.mov (.t 69))⟩])))
def sc_i_FillChain_L0 : SC := (.seq (.reg [⟨(some 42), none, (.bin false .lss (.t 41) (.t 40))⟩]) (.seq (.cond (.t 42) .skip (.exit 0)) (.seq (.block 1 (.seq (.reg [⟨(some 43), none, (.mov (.t 41))⟩, ⟨(some 12), none, (.mov (.t 43))⟩]) (.treg (.fst ⟨(some 44), none, (.mov (.t 11))⟩ true (.fst ⟨(some 45), none, (.mov (.t 12))⟩ true (.fst ⟨(some 46), none, (.mov (.t 11))⟩ true (.fst ⟨(some 47), none, (.mov (.t 12))⟩ true (.fst ⟨(some 48), none, (.idx 1 (.t 46) (.t 47))⟩ true (.fst ⟨(some 50), none, (.mov (.t 3))⟩ false (.fst ⟨(some 51), none, (.mov (.t 12))⟩ false (.fst ⟨(some 52), none, (.idx 1 (.t 50) (.t 51))⟩ false (.fst ⟨(some 53), none, (.ld none (.int .i64 0) (.t 52))⟩ false (.alt ⟨(some 49), none, (.ld none .nil (.t 48))⟩ false (.alt ⟨(some 54), none, (.mks 1 1 [(.int .i64 0)] [(0, (1, (.t 53)))])⟩ true (.alt ⟨(some 55), none, (.app 1 8 (.t 49) (.t 54))⟩ true (.fst ⟨(some 56), none, (.idx 1 (.t 44) (.t 45))⟩ false (.alt ⟨none, none, (.st 1 (.t 56) (.t 55))⟩ true .done .stop)) .stop) .stop) (.alt ⟨(some 54), none, (.mks 1 1 [(.int .i64 0)] [(0, (1, (.t 53)))])⟩ true (.fst ⟨(some 49), none, (.ld none .nil (.t 48))⟩ false (.alt ⟨(some 55), none, (.app 1 8 (.t 49) (.t 54))⟩ true (.fst ⟨(some 56), none, (.idx 1 (.t 44) (.t 45))⟩ false (.alt ⟨none, none, (.st 1 (.t 56) (.t 55))⟩ true .done .stop)) .stop)) .stop)))))))))))))) (.reg [⟨(some 57), none, (.bin false .add (.t 41) (.c (.int .i64 1)))⟩, ⟨(some 41), none, (.mov (.t 57))⟩]))))
def sc_i_FillChain : SC := (.seq (.reg [⟨(some 4), none, (.box (.t 0))⟩, ⟨(some 8), none, (.mov (.c .nil))⟩, ⟨(some 9), none, (.mov (.c (.bool false)))⟩]) (.seq (.seq (.reg [⟨(some 18), none, (.ld (some 2) .undef (.t 4))⟩, ⟨(some 19), none, (.mov (.t 1))⟩, ⟨(some 20), none, (.mov (.t 2))⟩, ⟨(some 21), none, (.mov (.t 3))⟩, ⟨(some 22), none, (.call 20 [(.t 18), (.t 19), (.t 20), (.t 21)])⟩, ⟨(some 23), none, (.un .not (.t 22))⟩, ⟨(some 24), none, (.mov (.t 23))⟩, ⟨(some 25), (some (24, false)), (.mov (.t 1))⟩, ⟨(some 26), (some (24, false)), (.bin false .eql (.t 25) (.c (.int .i64 6)))⟩, ⟨(some 27), none, (.pick (.t 24) (.c (.bool true)) (.t 26))⟩]) (.cond (.t 27) (.seq (.reg [⟨(some 8), none, (.mov (.c .nil))⟩, ⟨(some 9), none, (.mov (.c (.bool false)))⟩]) .ret) .skip)) (.seq (.reg [⟨(some 28), none, (.ld (some 2) .undef (.t 4))⟩, ⟨(some 29), none, (.mov (.t 1))⟩, ⟨(some 30), none, (.bin false .add (.t 29) (.c (.int .i64 1)))⟩, ⟨(some 31), none, (.call 118 [(.t 28), (.t 30)])⟩, ⟨(some 32), none, (.len (.t 31))⟩, ⟨(some 10), none, (.mov (.t 32))⟩]) (.seq (.reg [⟨(some 33), none, (.ld (some 2) .undef (.t 4))⟩, ⟨(some 34), none, (.mov (.t 1))⟩, ⟨(some 35), none, (.bin false .add (.t 34) (.c (.int .i64 1)))⟩, ⟨(some 36), none, (.call 120 [(.t 33), (.t 35)])⟩, ⟨(some 37), none, (.mov (.t 2))⟩, ⟨(some 38), none, (.call 119 [(.t 36), (.t 37)])⟩, ⟨(some 11), none, (.mov (.t 38))⟩]) (.seq (.seq (.reg [⟨(some 39), none, (.mov (.t 11))⟩, ⟨(some 40), none, (.len (.t 39))⟩, ⟨(some 41), none, (.mov (.c (.int .i64 0)))⟩]) (.block 0 (.loop sc_i_FillChain_L0))) (.seq (.reg [⟨(some 58), none, (.mov (.t 11))⟩, ⟨(some 59), none, (.mov (.t 10))⟩, ⟨(some 60), none, (.mov (.t 2))⟩, ⟨(some 61), none, (.call 121 [(.t 58), (.t 59), (.t 60)])⟩, ⟨(some 13), none, (.mov (.t 61))⟩]) (.seq (.seq (.reg [⟨(some 62), none, (.mov (.t 13))⟩, ⟨(some 63), none, (.len (.t 62))⟩, ⟨(some 14), none, (.mov (.t 63))⟩]) (.block 2 (.loop sc_i_FillChain_L2))) (.seq (.reg [⟨(some 78), none, (.mov (.t 10))⟩, ⟨(some 79), none, (.mk 1 8 [(.int .i64 0)] (.t 78) (.t 78))⟩, ⟨(some 15), none, (.mov (.t 79))⟩]) (.seq (.seq (.reg [⟨(some 80), none, (.mov (.t 13))⟩, ⟨(some 81), none, (.len (.t 80))⟩, ⟨(some 82), none, (.mov (.c (.int .i64 0)))⟩]) (.block 4 (.loop sc_i_FillChain_L4))) (.seq (.reg [⟨(some 98), none, (.mov (.t 15))⟩, ⟨(some 8), none, (.mov (.t 98))⟩, ⟨(some 9), none, (.mov (.c (.bool true)))⟩]) .ret))))))))))
theorem code_i_FillChain : fnCode Try.prog [121, 777777] 12 = some (99, sc_i_FillChain, [(8, none), (9, none)]) := by kernel_rfl
theorem fn_i_FillChain : FnOk Try.prog 12 F_s_FillChain := by
  have env := (((((envNil_ok (P := Try.prog)).add fn_i_IsChain).add fn_i_BorderMatrix).add fn_i_FacesOfSize).add fn_i_modMatrix).addl ln_i_reduceMod
  refine fn_ok code_i_FillChain mixed env ?_
  intro args r h hb
  obtain ⟨_, _, _, _, ⟨n, l⟩, k, p, x, rfl, h1, h2, h3, h5, h4⟩ := F4_inv h
  cases dC_inv h1
  cases dI_inv h2
  cases dI_inv h3
  cases dL_inv h5
  cases h4
  clear h
  refine ⟨by simp, fun w0 U0 L0 N0 => ?_⟩
  clear hb
  simp only
  by_cases hP : chnP n l k p x
  rotate_left
  · have hf : ¬ fcP n l k p x := fun h => hP h.1
    have e : fchL n l k p x = [] := if_neg hf
    have hd : dec (fchP n l k p x) = false := dec_false fun h => hf h.1
    rw [e, hd]
    have hd2 := dec_false hP
    simp -implicitDefEqProofs [sc_i_FillChain, F_s_IsChain, hd2]
  have hd2 := dec_true hP
  by_cases hk : k = 6
  · have hf : ¬ fcP n l k p x := fun h => h.2 hk
    have e : fchL n l k p x = [] := if_neg hf
    have hd : dec (fchP n l k p x) = false := dec_false fun h => hf h.1
    rw [e, hd]
    simp -implicitDefEqProofs [sc_i_FillChain, F_s_IsChain, hd2, hk]
  have hf : fcP n l k p x := ⟨hP, hk⟩
  have e : fchL n l k p x = filL (fcR n l k p x).1 (fcR n l k p x).2 (fcW n l k) := if_pos hf
  have hd : dec (fchP n l k p x) = dec (filO (fcR n l k p x).1 (fcR n l k p x).2 (fcW n l k)) := by
    rw [Bool.eq_iff_iff, dec_iff, dec_iff]
    exact ⟨fun h => h.2, fun h => ⟨hf, h⟩⟩
  obtain ⟨⟨hp, hx, hxl, hml, _, hw6, hwr⟩, hc, hk1, hk6⟩ := fchain_ok hf
  rw [Int.toNat_natCast] at hwr
  have hF1 : F_i_BorderMatrix [.agg [.int .i64 n, .list 1 (ints l)], .int .i64 (k + 1)] = some (.own 1 (rowsV (borM n l (k + 1)))) := by
    simp only [F_i_BorderMatrix, F2_mk, dC_agg, dI_int, Option.bind_some]
    rw [if_pos ⟨hc, hk1, hk6⟩]
  have hF2 : F_s_FacesOfSize [.agg [.int .i64 n, .list 1 (ints l)], .int .i64 (k + 1)] = some (.own 1 (ints (fosL n l (k + 1)))) := by simp [F_s_FacesOfSize]
  have hF3 : F_i_modMatrix [.list 1 (rowsL (borM n l (k + 1))), .int .i64 p] = some (.own 1 (rowsV (modM p (borM n l (k + 1))))) := by
    simp only [F_i_modMatrix, F2_mk, dLL_list, dI_int, Option.bind_some]
    rw [if_pos ⟨hp, hml, fun i hi => by rw [hwr i hi]; omega⟩]
  rw [e, hd]
  have hw : IntKind.i64.wrap (k + 1) = k + 1 := wrapI _ (by omega) (by omega)
  have hwd : wideM (modM p (borM n l (k + 1))) x = modM p (wideM (borM n l (k + 1)) x) := (mod_wide hx hxl hwr).symm
  have hrR : fcR n l k p x = redS p (modM p (wideM (borM n l (k + 1)) x)) (fcW n l k) := rfl
  rw [← hwd] at hrR
  have hwW : (fosL n l (k + 1)).length = fcW n l k := rfl
  have hOr : ∀ i, i < (modM p (borM n l (k + 1))).length → (atR (modM p (borM n l (k + 1))) i).length = fcW n l k := fun i hi => by
    rw [modM_len] at hi
    rw [modM_at hi, rowF_len, hwr i hi]
  have hokO : okM p (fcW n l k + 1) (wideM (modM p (borM n l (k + 1))) x) := by
    rw [hwd]
    exact okM_mod hp fun i hi => by
      rw [wideM_len] at hi
      rw [wideM_at x hi, List.length_append, hwr i hi]; rfl
  have hOl := modM_len p (borM n l (k + 1))
  clear hwd hd e
  generalize fcW n l k = w at *
  generalize fcR n l k p x = R0 at *
  generalize modM p (borM n l (k + 1)) = O at *
  generalize hm : (borM n l (k + 1)).length = m at *
  have hI := redI_all hp hokO w
  have hG : G_i_reduceMod [.sl 0 1 0 m, .int .i64 (w : Int), .int .i64 p] (rowsV (wideM O x)) = some (.own 1 (ints R0.2), rowsV R0.1) := by
    simp only [G_i_reduceMod, dRowsV_rowsV, Option.bind_some]
    rw [if_pos ⟨w + 1, ⟨hp, by simp [hOl], hokO, by omega, hml⟩, by omega, by omega⟩, Int.toNat_natCast, hrR]
  rw [← hrR] at hI
  clear hrR
  obtain ⟨R, P⟩ := R0
  obtain ⟨hokR, hlR, hpR, hjP, hsP⟩ := hI
  simp only [wideM_len, hOl] at hokR hlR hpR hjP hsP
  simp only at hG
  simp -implicitDefEqProofs [sc_i_FillChain, F_s_IsChain, hd2, hk, hw, hF1, hF2, hF3, hwW]
  refine loopU env mixed (fun i : Nat => [(2, .int .i64 p), (3, .list 1 (ints x)), (10, .int .i64 (w : Int)), (11, .sl 1 1 0 m), (40, .int .i64 (m : Int)), (41, .int .i64 (i : Int))]) (fun i => ([(1, rowsV (pM O (wideG O x) i)), (0, [.int .i64 n, .list 1 (ints l)])], 2)) (fun i => i ≤ m) (fun i => m - i) 0 (by simp) ?_ ?_
  · refine SubI.ren (fun m => if m = 0 then some 0 else if m = 1 then some 3 else none) ?_ ?_ ?_ (by simp) (by simp)
    · simp [subT, renV, ren1, hOl]
    · simp [subH, renL, ren1, pM_zero]
    · intro m hm
      simp only at hm
      rw [if_neg (by omega), if_neg (by omega)]
  intro i hi
  by_cases hlt : i < m
  · have hiO : i < O.length := by omega
    have hix : i < x.length := by omega
    have hge := pM_ge (M := O) (G := wideG O x) hiO (Nat.le_refl i)
    have hset := pM_set (M := O) (G := wideG O x) hiO
    have hpl := pM_len O (wideG O x) i
    have hrl := hOr i hiO
    have hGi : wideG O x i = atR O i ++ [at0 x i] := rfl
    generalize pM O (wideG O x) i = Mi at *
    generalize hri : atR O i = ri at *
    refine ⟨[(2, .int .i64 p), (3, .list 1 (ints x)), (10, .int .i64 (w : Int)), (11, .sl 1 1 0 m), (40, .int .i64 (m : Int)), (41, .int .i64 (i : Int))], ([(2, ints ri), (1, (rowsV Mi).set i (.sl 2 1 0 w)), (0, [.int .i64 n, .list 1 (ints l)])], 3), ?_, ?_⟩
    · refine SubI.unfold 1 i 1 (co := rowsV Mi) (cn := ints ri) rfl (by rw [rowsV_get (by omega), hge]) (by omega) ?_
      exact SubI.slots (by simp [hrl]) (by simp)
    have fin : ∀ T : Tm, subE T [(2, .int .i64 p), (3, .list 1 (ints x)), (10, .int .i64 (w : Int)), (11, .sl 1 1 0 m), (40, .int .i64 (m : Int)), (41, .int .i64 ((i + 1 : Nat) : Int))] → SubI 0 T ([(4, ints ri ++ [.int .i64 (at0 x i)]), (3, [.int .i64 (at0 x i)]), (1, (rowsV Mi).set i (.sl 4 1 0 (w + 1))), (0, [.int .i64 n, .list 1 (ints l)])], 5) [(2, .int .i64 p), (3, .list 1 (ints x)), (10, .int .i64 (w : Int)), (11, .sl 1 1 0 m), (40, .int .i64 (m : Int)), (41, .int .i64 ((i + 1 : Nat) : Int))] ([(1, rowsV (pM O (wideG O x) (i + 1))), (0, [.int .i64 n, .list 1 (ints l)])], 2) := fun T hT => by
      have e1 : ints ri ++ [.int .i64 (at0 x i)] = ints (wideG O x i) := by rw [hGi, ← ints_app]; rfl
      rw [e1]
      refine SubI.fold 1 4 i 1 (w + 1) (cn := ints (wideG O x i)) (co := (rowsV Mi).set i (.sl 4 1 0 (w + 1))) rfl rfl (by simp [hpl, hiO]) (by simp [hGi, hrl]) ?_
      simp only [subE_cons, subE_nil, and_true] at hT
      obtain ⟨t1, t2, t3, t4, t5, t6⟩ := hT
      refine SubI.ren (fun m => if m = 0 then some 0 else if m = 1 then some 1 else none) ?_ ?_ ?_ (by simp) (by simp)
      · simp [subT, renV, ren1, ← t1, ← t2, ← t3, ← t4, ← t5, ← t6]
      · simp [subH, renL, ren1, hset]
      · intro m hm
        simp only at hm
        rw [if_neg (by omega), if_neg (by omega)]
    have htk : ri.take w = ri := List.take_of_length_le (by omega)
    simp -implicitDefEqProofs [sc_i_FillChain_L0, freeOk, hlt, hix, hpl, hOl]
    rw [htk]
    refine ⟨by omega, ⟨⟨by omega, by omega⟩, by omega, ?_⟩, ⟨by omega, by omega⟩, by omega, ?_⟩
    · exact Again.of (i + 1) (by omega) (by omega) (fin _ (by simp (disch := omega) [wrapI]))
    · exact Again.of (i + 1) (by omega) (by omega) (fin _ (by simp (disch := omega) [wrapI]))
  · have : i = m := by omega
    subst this
    refine ⟨_, _, SubI.slots rfl (by simp : subE [(2, .int .i64 p), (3, .list 1 (ints x)), (10, .int .i64 (w : Int)), (11, .sl 1 1 0 i), (40, .int .i64 (i : Int)), (41, .int .i64 (i : Int))] [(2, .int .i64 p), (3, .list 1 (ints x)), (10, .int .i64 (w : Int)), (11, .sl 1 1 0 i), (40, .int .i64 (i : Int)), (41, .int .i64 (i : Int))]), ?_⟩
    have hwd : pM O (wideG O x) i = wideM O x := by rw [← hOl]; rfl
    rw [hwd]
    have hrn : List.map (ren0 1 5) (ints P) = ints P := by simp [ints, ren0]
    simp -implicitDefEqProofs [sc_i_FillChain_L0, ren0, hG]
    rw [hrn]
    have hyes : filO R P w → filL R P w = filK R P w P.length ∧ dec (filO R P w) = true := fun h => ⟨filL_yes h, dec_true h⟩
    have hnot : ¬ filO R P w → filL R P w = [] ∧ dec (filO R P w) = false := fun h => ⟨filL_no h, dec_false h⟩
    generalize filL R P w = Lr at *
    generalize dec (filO R P w) = br at *
    refine loopI env mixed (fun q : Nat => [(10, .int .i64 (w : Int)), (11, .sl 1 1 0 i), (13, .sl 2 1 0 P.length), (14, .int .i64 (q : Int))]) (fun _ => ([(2, ints P), (1, rowsV R), (0, [.int .i64 n, .list 1 (ints l)])], 3)) (fun q => P.length ≤ q ∧ q ≤ i ∧ ∀ s, P.length ≤ s → s < q → at0 (atR R s) w = 0) (fun q => i - q) P.length ⟨by omega, by omega, fun s h1 h2 => by omega⟩ (SubI.slots (by simp) (by simp)) ?_
    rintro q ⟨q1, q2, q3⟩
    by_cases hq : q < i
    · have hqR : q < R.length := by omega
      obtain ⟨hrl, _⟩ := hokR q hqR
      have hself := rowsV_self (M := R) (i := q) hqR
      by_cases hz : at0 (atR R q) w = 0
      · simp -implicitDefEqProofs [sc_i_FillChain_L2, hq, hqR, hlR, hrl, hz]
        repeat' (first | omega | apply And.intro)
        refine Again.of (q + 1) ⟨by omega, by omega, fun s h1 h2 => ?_⟩ (by omega) ?_
        · rcases Nat.lt_succ_iff_lt_or_eq.1 h2 with h | rfl
          · exact q3 s h1 h
          · exact hz
        refine SubI.fold 1 3 q 1 (w + 1) (cn := ints (atR R q)) (co := (rowsV R).set q (.sl 3 1 0 (w + 1))) rfl rfl (by simp [hqR]) (by simp [hrl]) ?_
        refine SubI.ren (fun m => if m = 0 then some 0 else if m = 1 then some 1 else if m = 2 then some 2 else none) ?_ ?_ ?_ (by simp) (by simp)
        · simp (disch := omega) [subT, renV, ren1, wrapI]
        · simp [subH, renL, ren1, hself]
        · intro m hm
          simp only at hm
          rw [if_neg (by omega), if_neg (by omega), if_neg (by omega)]
      · obtain ⟨eL, eb⟩ := hnot fun hO => hz (hO q q1 hqR)
        subst eL eb
        simp -implicitDefEqProofs [sc_i_FillChain_L2, hq, hqR, hlR, hrl, hz]
        try omega
    · have hqi : q = i := by omega
      subst hqi
      obtain ⟨eL, eb⟩ := hyes fun s h1 h2 => q3 s h1 (by omega)
      subst eL eb
      have hw1 : (0 : Int) ≤ w := by omega
      simp -implicitDefEqProofs [sc_i_FillChain_L2]
      repeat' (first | omega | apply And.intro)
      refine loopI env mixed (fun s : Nat => [(10, .int .i64 (w : Int)), (11, .sl 1 1 0 q), (15, .sl 3 1 0 w), (80, .sl 2 1 0 P.length), (81, .int .i64 (P.length : Int)), (82, .int .i64 (s : Int))]) (fun s => ([(3, ints (filK R P w s)), (2, ints P), (1, rowsV R), (0, [.int .i64 n, .list 1 (ints l)])], 4)) (fun s => s ≤ P.length) (fun s => P.length - s) 0 (by simp) (SubI.slots (by simp [filK]) (by simp)) ?_
      intro s hs
      by_cases hlt2 : s < P.length
      · obtain ⟨e1, e2⟩ := hjP s hlt2
        have hsR : s < R.length := by omega
        have hsq : s < q := by omega
        obtain ⟨hrl, _⟩ := hokR s hsR
        obtain ⟨c, hc⟩ : ∃ c : Nat, at0 P s = c := ⟨(at0 P s).toNat, by omega⟩
        have hcw : c < w := by omega
        have hstep : filK R P w (s + 1) = (filK R P w s).set c (at0 (atR R s) w) := by rw [filK, hc, Int.toNat_natCast]
        have hkl := filK_len R P w s
        have hself := rowsV_self (M := R) (i := s) hsR
        generalize filK R P w s = g at *
        simp -implicitDefEqProofs [sc_i_FillChain_L4, hlt2, hsR, hsq, hlR, hc, hcw, hkl, hrl]
        repeat' (first | omega | apply And.intro)
        refine Again.of (s + 1) (by omega) (by omega) ?_
        refine SubI.fold 1 4 s 1 (w + 1) (cn := ints (atR R s)) (co := (rowsV R).set s (.sl 4 1 0 (w + 1))) rfl rfl (by simp [hsR]) (by simp [hrl]) ?_
        refine SubI.ren (fun m => if m = 0 then some 0 else if m = 1 then some 1 else if m = 2 then some 2 else if m = 3 then some 3 else none) ?_ ?_ ?_ (by simp) (by simp)
        · simp (disch := omega) [subT, renV, ren1, wrapI]
        · simp [subH, renL, ren1, hself, hstep]
        · intro m hm
          simp only at hm
          rw [if_neg (by omega), if_neg (by omega), if_neg (by omega), if_neg (by omega)]
      · have : s = P.length := by omega
        subst this
        have htk : (filK R P w P.length).take w = filK R P w P.length := List.take_of_length_le (by simp)
        simp -implicitDefEqProofs [sc_i_FillChain_L4, htk]
        try omega
end Go.Proofs.Ytmemomfffehnkaa
namespace Go.Proofs.Ytmemomfffehnkaa
open Go Go.RowKit
set_option maxRecDepth 1000000
set_option linter.unusedSimpArgs false
set_option linter.unusedVariables false
set_option maxHeartbeats 1000000
/-- The first number below w with Q: its list, and true; else no list, and false. -/
def fsR (w : Nat) (Q : Nat → Prop) (X : Nat → List Int) (x : List Int × Bool) : Prop := (x = ([], false) ∧ ∀ i, i < w → ¬ Q i) ∨ ∃ i, i < w ∧ Q i ∧ x = (X i, true) ∧ ∀ j, j < i → ¬ Q j
theorem fs_ex (w : Nat) (Q : Nat → Prop) (X : Nat → List Int) : ∃ x, fsR w Q X x := by
  rcases least_nat Q w with h | ⟨i, a, b, c⟩
  · exact ⟨_, .inl ⟨rfl, h⟩⟩
  · exact ⟨_, .inr ⟨i, a, b, rfl, c⟩⟩
noncomputable def fsX (w : Nat) (Q : Nat → Prop) (X : Nat → List Int) : List Int × Bool := Classical.choose (fs_ex w Q X)
theorem fsX_none {w : Nat} {Q : Nat → Prop} {X : Nat → List Int} (h : ∀ i, i < w → ¬ Q i) : fsX w Q X = ([], false) := by
  rcases (Classical.choose_spec (fs_ex w Q X) : fsR w Q X (fsX w Q X)) with ⟨e, _⟩ | ⟨i, a, b, _⟩
  · exact e
  · exact absurd b (h i a)
theorem fsX_hit {w : Nat} {Q : Nat → Prop} {X : Nat → List Int} {i : Nat} (hi : i < w) (h : Q i) (hm : ∀ j, j < i → ¬ Q j) : fsX w Q X = (X i, true) := by
  rcases (Classical.choose_spec (fs_ex w Q X) : fsR w Q X (fsX w Q X)) with ⟨_, h2⟩ | ⟨k, a, b, e, c⟩
  · exact absurd h (h2 i hi)
  · have e2 : fsX w Q X = (X k, true) := e
    rw [e2]
    rcases Nat.lt_trichotomy i k with h1 | h1 | h1
    · exact absurd h (c i h1)
    · rw [h1]
    · exact absurd b (hm k h1)
/-- The chain of column c: 1 at c, and at the pivots' places what makes it a cycle. -/
noncomputable def hcK (p : Int) (R : List (List Int)) (P : List Int) (w c : Nat) : Nat → List Int
  | 0 => (List.replicate w 0).set c 1
  | i + 1 => (hcK p R P w c i).set (at0 P i).toNat (-(at0 (atR R i) c) % p)
@[simp] theorem hcK_len (p : Int) (R : List (List Int)) (P : List Int) (w c : Nat) : ∀ i, (hcK p R P w c i).length = w
  | 0 => by simp [hcK]
  | i + 1 => by simp [hcK, hcK_len p R P w c i]
noncomputable def hcZ (n : Int) (l : List Int) (k p : Int) : List (List Int) × List Int := redS p (modM p (borM n l k)) (fosL n l k).length
noncomputable def hcX (n : Int) (l : List Int) (k p : Int) (c : Nat) : List Int := hcK p (hcZ n l k p).1 (hcZ n l k p).2 (fosL n l k).length c (hcZ n l k p).2.length
def hcQ (n : Int) (l : List Int) (k p : Int) (c : Nat) : Prop := (c : Int) ∉ (hcZ n l k p).2 ∧ ¬ fchP n l k p (hcX n l k p c)
def hcP (n : Int) (l : List Int) (k p : Int) : Prop := cplx n l ∧ 1 ≤ k ∧ k ≤ 5 ∧ fpP p
noncomputable def hcF (n : Int) (l : List Int) (k p : Int) : List Int × Bool := @ite _ (hcP n l k p) (Classical.propDecidable _) (fsX (fosL n l k).length (hcQ n l k p) (hcX n l k p)) ([], false)
theorem bor_ok {n : Int} {l : List Int} {k : Int} : (borM n l k).length ≤ 64 ∧ (fosL n l k).length ≤ 64 ∧ ∀ i, i < (borM n l k).length → (atR (borM n l k) i).length = (fosL n l k).length := by
  obtain ⟨_, hRl, hCl⟩ := borM_ok (n := n) (l := l) (k := k)
  have hbl : (borM n l k).length = (fosL n l (k - 1)).length := by unfold borM; rw [sgnM_len]
  refine ⟨by omega, hCl, fun i hi => ?_⟩
  rw [hbl] at hi
  unfold borM
  rw [sgnM_at hi]
  simp
theorem hcF_no {n : Int} {l : List Int} {k p : Int} (h : ¬ hcP n l k p) : hcF n l k p = ([], false) := if_neg h
theorem hcF_yes {n : Int} {l : List Int} {k p : Int} (h : hcP n l k p) : hcF n l k p = fsX (fosL n l k).length (hcQ n l k p) (hcX n l k p) := if_pos h
theorem hcF_len (n : Int) (l : List Int) (k p : Int) : (hcF n l k p).1.length ≤ 64 := by
  by_cases h : hcP n l k p
  · rw [hcF_yes h]
    have hs : fsR _ _ _ (fsX (fosL n l k).length (hcQ n l k p) (hcX n l k p)) := Classical.choose_spec (fs_ex (fosL n l k).length (hcQ n l k p) (hcX n l k p))
    generalize fsX (fosL n l k).length (hcQ n l k p) (hcX n l k p) = y at *
    rcases hs with ⟨e, _⟩ | ⟨i, _, _, e, _⟩
    · rw [e]; exact Nat.zero_le _
    · rw [e]
      have := (bor_ok (n := n) (l := l) (k := k)).2.1
      simpa [hcX] using this
  · rw [hcF_no h]; exact Nat.zero_le _
noncomputable def F_s_HoleCycle : List V → Option V := F3 dC dI dI fun c k p => some (.tup [.own 1 (ints (hcF c.1 c.2 k p).1), .bool (hcF c.1 c.2 k p).2])
end Go.Proofs.Ytmemomfffehnkaa
namespace Go.Proofs.Ytmemomfffehnkaa
open Go Go.RowKit
set_option maxRecDepth 1000000
set_option linter.unusedSimpArgs false
set_option linter.unusedVariables false
set_option maxHeartbeats 1000000
def sc_s_HoleCycle_L2 : SC := (.seq (.seq (.reg [⟨(some 55), none, (.mov (.t 13))⟩, ⟨(some 56), none, (.mov (.t 10))⟩, ⟨(some 57), none, (.len (.t 56))⟩, ⟨(some 58), none, (.bin false .lss (.t 55) (.t 57))⟩]) (.cond (.t 58) .skip (.exit 2))) (.seq (.block 3 (.dreg [⟨⟨(some 61), none, (.mov (.t 12))⟩, false, false⟩, ⟨⟨(some 62), none, (.mov (.t 10))⟩, false, false⟩, ⟨⟨(some 63), none, (.mov (.t 13))⟩, false, false⟩, ⟨⟨(some 64), none, (.idx 1 (.t 62) (.t 63))⟩, false, false⟩, ⟨⟨(some 65), none, (.ld none (.int .i64 0) (.t 64))⟩, false, false⟩, ⟨⟨(some 66), none, (.mov (.t 9))⟩, false, false⟩, ⟨⟨(some 67), none, (.mov (.t 13))⟩, false, false⟩, ⟨⟨(some 68), none, (.idx 1 (.t 66) (.t 67))⟩, false, false⟩, ⟨⟨(some 69), none, (.ld none .nil (.t 68))⟩, false, false⟩, ⟨⟨(some 70), none, (.mov (.t 11))⟩, false, false⟩, ⟨⟨(some 71), none, (.idx 1 (.t 69) (.t 70))⟩, false, false⟩, ⟨⟨(some 72), none, (.ld none (.int .i64 0) (.t 71))⟩, false, false⟩, ⟨⟨(some 73), none, (.un .neg (.t 72))⟩, false, false⟩, ⟨⟨(some 74), none, (.mov (.t 2))⟩, false, false⟩, ⟨⟨(some 75), none, (.call 135 [(.t 73), (.t 74)])⟩, false, false⟩, ⟨⟨(some 76), none, (.idx 1 (.t 61) (.t 65))⟩, false, false⟩, ⟨⟨none, none, (.st 1 (.t 76) (.t 75))⟩, true, false⟩])) (.reg [⟨(some 59), none, (.mov (.t 13))⟩, ⟨(some 60), none, (.bin false .add (.t 59) (.c (.int .i64 1)))⟩, ⟨(some 13), none, (.mov (.t 60))⟩])))
def sc_s_HoleCycle_L0 : SC := (.seq (.seq (.reg [⟨(some 42), none, (.mov (.t 11))⟩, ⟨(some 43), none, (.mov (.t 8))⟩, ⟨(some 44), none, (.bin false .lss (.t 42) (.t 43))⟩]) (.cond (.t 44) .skip (.exit 0))) (.seq (.block 1 (.seq (.seq (.reg [⟨(some 47), none, (.mov (.t 10))⟩, ⟨(some 48), none, (.mov (.t 11))⟩, ⟨(some 49), none, (.call 134 [(.t 47), (.t 48)])⟩]) (.cond (.t 49) (.exit 1) .skip)) (.seq (.reg [⟨(some 50), none, (.mov (.t 8))⟩, ⟨(some 51), none, (.mk 1 8 [(.int .i64 0)] (.t 50) (.t 50))⟩, ⟨(some 12), none, (.mov (.t 51))⟩]) (.seq (.reg [⟨(some 52), none, (.mov (.t 12))⟩, ⟨(some 53), none, (.mov (.t 11))⟩, ⟨(some 54), none, (.idx 1 (.t 52) (.t 53))⟩, ⟨none, none, (.st 1 (.t 54) (.c (.int .i64 1)))⟩]) (.seq (.seq (.reg [⟨(some 13), none, (.mov (.c (.int .i64 0)))⟩]) (.block 2 (.loop sc_s_HoleCycle_L2))) (.seq (.reg [⟨(some 78), none, (.ld (some 2) .undef (.t 3))⟩, ⟨(some 79), none, (.mov (.t 1))⟩, ⟨(some 80), none, (.mov (.t 2))⟩, ⟨(some 81), none, (.mov (.t 12))⟩, ⟨(some 82), none, (.call 13 [(.t 78), (.t 79), (.t 80), (.t 81)])⟩, ⟨(some 77), none, (.mov (.t 82))⟩, ⟨(some 83), none, (.ext 0 (.t 77))⟩, ⟨(some 84), none, (.ext 1 (.t 77))⟩, ⟨(some 14), none, (.mov (.t 83))⟩, ⟨(some 15), none, (.mov (.t 84))⟩]) (.seq (.reg [⟨(some 85), none, (.mov (.t 15))⟩, ⟨(some 86), none, (.un .not (.t 85))⟩]) (.cond (.t 86) (.seq (.reg [⟨(some 87), none, (.mov (.t 12))⟩, ⟨(some 6), none, (.mov (.t 87))⟩, ⟨(some 7), none, (.mov (.c (.bool true)))⟩]) .ret) .skip)))))))) (.reg [⟨(some 45), none, (.mov (.t 11))⟩, ⟨(some 46), none, (.bin false .add (.t 45) (.c (.int .i64 1)))⟩, ⟨(some 11), none, (.mov (.t 46))⟩])))
def sc_s_HoleCycle : SC := (.seq (.reg [⟨(some 3), none, (.box (.t 0))⟩, ⟨(some 6), none, (.mov (.c .nil))⟩, ⟨(some 7), none, (.mov (.c (.bool false)))⟩]) (.seq (.seq (.reg [⟨(some 16), none, (.ld (some 2) .undef (.t 3))⟩, ⟨(some 17), none, (.call 24 [(.t 16)])⟩, ⟨(some 18), none, (.un .not (.t 17))⟩, ⟨(some 19), none, (.mov (.t 18))⟩, ⟨(some 20), (some (19, false)), (.mov (.t 1))⟩, ⟨(some 21), (some (19, false)), (.call 132 [(.t 20), (.c (.int .i64 1)), (.c (.int .i64 5))])⟩, ⟨(some 22), (some (19, false)), (.un .not (.t 21))⟩, ⟨(some 23), none, (.pick (.t 19) (.c (.bool true)) (.t 22))⟩, ⟨(some 24), none, (.mov (.t 23))⟩, ⟨(some 25), (some (24, false)), (.mov (.t 2))⟩, ⟨(some 26), (some (24, false)), (.call 25 [(.t 25)])⟩, ⟨(some 27), (some (24, false)), (.un .not (.t 26))⟩, ⟨(some 28), none, (.pick (.t 24) (.c (.bool true)) (.t 27))⟩]) (.cond (.t 28) (.seq (.reg [⟨(some 29), none, (.mks 0 1 [] [])⟩, ⟨(some 6), none, (.mov (.t 29))⟩, ⟨(some 7), none, (.mov (.c (.bool false)))⟩]) .ret) .skip)) (.seq (.reg [⟨(some 30), none, (.ld (some 2) .undef (.t 3))⟩, ⟨(some 31), none, (.mov (.t 1))⟩, ⟨(some 32), none, (.call 124 [(.t 30), (.t 31)])⟩, ⟨(some 33), none, (.len (.t 32))⟩, ⟨(some 8), none, (.mov (.t 33))⟩]) (.seq (.reg [⟨(some 35), none, (.ld (some 2) .undef (.t 3))⟩, ⟨(some 36), none, (.mov (.t 1))⟩, ⟨(some 37), none, (.call 123 [(.t 35), (.t 36)])⟩, ⟨(some 38), none, (.mov (.t 2))⟩, ⟨(some 39), none, (.call 133 [(.t 37), (.t 38)])⟩, ⟨(some 34), none, (.mov (.t 39))⟩, ⟨(some 40), none, (.ext 0 (.t 34))⟩, ⟨(some 41), none, (.ext 1 (.t 34))⟩, ⟨(some 9), none, (.mov (.t 40))⟩, ⟨(some 10), none, (.mov (.t 41))⟩]) (.seq (.seq (.reg [⟨(some 11), none, (.mov (.c (.int .i64 0)))⟩]) (.block 0 (.loop sc_s_HoleCycle_L0))) (.seq (.reg [⟨(some 88), none, (.mks 0 1 [] [])⟩, ⟨(some 6), none, (.mov (.t 88))⟩, ⟨(some 7), none, (.mov (.c (.bool false)))⟩]) .ret))))))
theorem code_s_HoleCycle : fnCode Try.prog [] 18 = some (89, sc_s_HoleCycle, [(6, none), (7, none)]) := by kernel_rfl
theorem fn_s_HoleCycle : FnOk Try.prog 18 F_s_HoleCycle := by
  have env := ((((((((envNil_ok (P := Try.prog)).add fn_s_IsComplex).add fn_s_l1In).add fn_s_IsFieldPrime).add fn_s_FacesOfSize).add fn_s_l13Border).add fn_s_l13Reduce).add fn_s_l2Has).add fn_s_FillChain |>.add fn_s_l13Mod
  refine fn_ok code_s_HoleCycle mixed env ?_
  intro args r h hb
  obtain ⟨_, _, _, ⟨n, l⟩, k, p, rfl, h1, h2, h3, h4⟩ := F3_inv h
  cases dC_inv h1
  cases dI_inv h2
  cases dI_inv h3
  cases h4
  clear h
  refine ⟨by simp, fun w0 U0 L0 N0 => ?_⟩
  clear hb
  simp only
  cases e0 : cplxB n l with
  | false =>
    have e := hcF_no (n := n) (l := l) (k := k) (p := p) fun h => by simp [cplxB_iff.2 h.1] at e0
    rw [e]
    simp -implicitDefEqProofs [sc_s_HoleCycle, F_s_IsComplex, e0]
  | true =>
  have hc := cplxB_iff.1 e0
  by_cases hk : 1 ≤ k ∧ k ≤ 5
  rotate_left
  · have e := hcF_no (n := n) (l := l) (k := k) (p := p) fun h => hk ⟨h.2.1, h.2.2.1⟩
    have hFI : F_s_l1In [.int .i64 k, .int .i64 1, .int .i64 5] = some (.bool false) := by
      simp [F_s_l1In]
      omega
    rw [e]
    simp -implicitDefEqProofs [sc_s_HoleCycle, F_s_IsComplex, hFI, e0]
  have hFI : F_s_l1In [.int .i64 k, .int .i64 1, .int .i64 5] = some (.bool true) := by simp [F_s_l1In, hk]
  by_cases hp : fpP p
  rotate_left
  · have e := hcF_no (n := n) (l := l) (k := k) (p := p) fun h => hp h.2.2.2
    have hd := dec_false hp
    rw [e]
    simp -implicitDefEqProofs [sc_s_HoleCycle, F_s_IsComplex, F_s_IsFieldPrime, hFI, e0, hd]
  have hd := dec_true hp
  have hcp : hcP n l k p := ⟨hc, hk.1, hk.2, hp⟩
  have hX := hcF_yes hcp
  have hF1 : F_i_BorderMatrix [.agg [.int .i64 n, .list 1 (ints l)], .int .i64 k] = some (.own 1 (rowsV (borM n l k))) := by
    simp only [F_i_BorderMatrix, F2_mk, dC_agg, dI_int, Option.bind_some]
    rw [if_pos ⟨hc, by omega, by omega⟩]
  have hF2 : F_s_FacesOfSize [.agg [.int .i64 n, .list 1 (ints l)], .int .i64 k] = some (.own 1 (ints (fosL n l k))) := by simp [F_s_FacesOfSize]
  obtain ⟨hml, hwl, hrl⟩ := bor_ok (n := n) (l := l) (k := k)
  have hF3 : F_s_l13Reduce [.list 1 (rowsL (borM n l k)), .int .i64 p] = some (.tup [.own 1 (rowsV (hcZ n l k p).1), .own 1 (ints (hcZ n l k p).2)]) := by
    simp only [F_s_l13Reduce, F2_mk, dLL_list, dI_int, Option.bind_some]
    have hrec : recM (borM n l k) := ⟨⟨by omega, fun i hi => by rw [hrl i hi]; omega⟩, fun i hi => by rw [hrl i hi, hrl 0 (by omega)]⟩
    rw [if_pos ⟨hp, hrec⟩]
    unfold hcZ
    by_cases h0 : 0 < (borM n l k).length
    · rw [hrl 0 h0]
    · have e : borM n l k = [] := List.length_eq_zero_iff.1 (by omega)
      have e2 : modM p [] = [] := List.length_eq_zero_iff.1 (by simp)
      rw [e, e2, redS_nil, redS_nil]
  have hI := redI_all hp (okM_mod (p := p) hp hrl) (fosL n l k).length
  have hZ : hcZ n l k p = redS p (modM p (borM n l k)) (fosL n l k).length := rfl
  rw [← hZ] at hI
  have hQ : ∀ c, hcQ n l k p c ↔ (c : Int) ∉ (hcZ n l k p).2 ∧ ¬ fchP n l k p (hcX n l k p c) := fun c => Iff.rfl
  have hXd : ∀ c, hcX n l k p c = hcK p (hcZ n l k p).1 (hcZ n l k p).2 (fosL n l k).length c (hcZ n l k p).2.length := fun c => rfl
  have hFC : ∀ x, F_s_FillChain [.agg [.int .i64 n, .list 1 (ints l)], .int .i64 k, .int .i64 p, .list 1 (ints x)] = some (.tup [.own 1 (ints (fchL n l k p x)), .bool (dec (fchP n l k p x))]) := fun x => by simp [F_s_FillChain]
  have hFm := fn_restMod_at hp
  obtain ⟨p1, p2, p3⟩ := fpP_bnd hp
  generalize hcF n l k p = X at *
  have hhit := fun (i : Nat) h1 h2 h3 => hX.trans (fsX_hit (w := (fosL n l k).length) (Q := hcQ n l k p) (X := hcX n l k p) (i := i) h1 h2 h3)
  have hnone := fun h => hX.trans (fsX_none (w := (fosL n l k).length) (Q := hcQ n l k p) (X := hcX n l k p) h)
  clear hX hZ hrl
  generalize hcQ n l k p = Q at *
  generalize hcX n l k p = G at *
  generalize hcZ n l k p = Z at *
  obtain ⟨R, P⟩ := Z
  obtain ⟨hokR, _, hPR, hjP, hsP⟩ := hI
  simp only at hokR hPR hjP hsP hF3 hQ hXd
  generalize borM n l k = B at *
  generalize hFl : fosL n l k = FL at *
  generalize hw : FL.length = w at *
  simp -implicitDefEqProofs [sc_s_HoleCycle, F_s_IsComplex, F_s_IsFieldPrime, hFI, hF1, hF2, hF3, e0, hd, hw]
  refine loopI env mixed (fun j : Nat => [(1, .int .i64 k), (2, .int .i64 p), (3, .pt 0 0), (8, .int .i64 (w : Int)), (9, .sl 1 1 0 R.length), (10, .sl 2 1 0 P.length), (11, .int .i64 (j : Int))]) (fun _ => ([(2, ints P), (1, rowsV R), (0, [.int .i64 n, .list 1 (ints l)])], 3)) (fun j => j ≤ w ∧ ∀ i, i < j → ¬ Q i) (fun j => w - j) 0 (by simp) ?_ ?_
  · refine SubI.ren (fun m => if m = 0 then some 0 else if m = 1 then some 3 else if m = 2 then some 4 else none) ?_ ?_ ?_ (by simp) (by simp)
    · simp [subT, renV, ren1]
    · simp [subH, renL, ren1]
    · intro m hm
      simp only at hm
      rw [if_neg (by omega), if_neg (by omega), if_neg (by omega)]
  rintro j ⟨hj, hI⟩
  by_cases hlt : j < w
  rotate_left
  · have : j = w := by omega
    subst this
    have e := hnone hI
    subst e
    simp -implicitDefEqProofs [sc_s_HoleCycle_L0]
  have next : ¬ Q j → ∀ i, i < j + 1 → ¬ Q i := fun hn i hi => by
    rcases Nat.lt_succ_iff_lt_or_eq.1 hi with h | rfl
    · exact hI i h
    · exact hn
  by_cases hm : (j : Int) ∈ P
  · have hn := next fun h => ((hQ j).1 h).1 hm
    simp -implicitDefEqProofs [sc_s_HoleCycle_L0, F_s_l2Has, hlt, hm]
    repeat' (first | omega | apply And.intro)
    exact Again.of (j + 1) ⟨by omega, hn⟩ (by omega) (SubI.slots (by simp) (by simp (disch := omega) [wrapI]))
  have hw1 : (0 : Int) ≤ w := by omega
  simp -implicitDefEqProofs [sc_s_HoleCycle_L0, F_s_l2Has, hlt, hm]
  repeat' (first | omega | apply And.intro)
  refine loopU env mixed (fun i : Nat => [(1, .int .i64 k), (2, .int .i64 p), (3, .pt 0 0), (8, .int .i64 (w : Int)), (9, .sl 1 1 0 R.length), (10, .sl 2 1 0 P.length), (11, .int .i64 (j : Int)), (12, .sl 3 1 0 w), (13, .int .i64 (i : Int))]) (fun i => ([(3, ints (hcK p R P w j i)), (2, ints P), (1, rowsV R), (0, [.int .i64 n, .list 1 (ints l)])], 4)) (fun i => i ≤ P.length) (fun i => P.length - i) 0 (by simp) (SubI.slots (by simp [hcK]) (by simp)) ?_
  intro i hi
  by_cases hlt2 : i < P.length
  · obtain ⟨e1, e2⟩ := hjP i hlt2
    have hiR : i < R.length := by omega
    obtain ⟨hrl, hre⟩ := hokR i hiR
    obtain ⟨q, hq⟩ : ∃ q : Nat, at0 P i = q := ⟨(at0 P i).toNat, by omega⟩
    have hqw : q < w := by omega
    have hstep : hcK p R P w j (i + 1) = (hcK p R P w j i).set q (-(at0 (atR R i) j) % p) := by rw [hcK, hq, Int.toNat_natCast]
    have hkl := hcK_len p R P w j i
    have hself := rowsV_self (M := R) (i := i) hiR
    have hb := hre j hlt
    have hwn : IntKind.i64.wrap (-(at0 (atR R i) j)) = -(at0 (atR R i) j) := wrapI _ (by omega) (by omega)
    have hFj := hFm (-(at0 (atR R i) j))
    refine ⟨[(1, .int .i64 k), (2, .int .i64 p), (3, .pt 0 0), (8, .int .i64 (w : Int)), (9, .sl 1 1 0 R.length), (10, .sl 2 1 0 P.length), (11, .int .i64 (j : Int)), (12, .sl 3 1 0 w), (13, .int .i64 (i : Int))], ([(4, ints (atR R i)), (3, ints (hcK p R P w j i)), (2, ints P), (1, (rowsV R).set i (.sl 4 1 0 w)), (0, [.int .i64 n, .list 1 (ints l)])], 5), ?_, ?_⟩
    · refine SubI.unfold 1 i 1 (co := rowsV R) (cn := ints (atR R i)) rfl (by rw [rowsV_get hiR]) (by omega) ?_
      exact SubI.slots (by simp [hrl]) (by simp)
    generalize hcK p R P w j i = g at *
    generalize -(at0 (atR R i) j) % p = z at *
    simp -implicitDefEqProofs [sc_s_HoleCycle_L2, hlt, hlt2, hiR, hq, hqw, hkl, hrl, hwn, hFj]
    repeat' (first | omega | apply And.intro)
    refine Again.of (i + 1) (by omega) (by omega) ?_
    refine SubI.fold 1 4 i 1 w (cn := ints (atR R i)) (co := (rowsV R).set i (.sl 4 1 0 w)) rfl rfl (by simp [hiR]) (by simp [hrl]) ?_
    refine SubI.ren (fun m => if m = 0 then some 0 else if m = 1 then some 1 else if m = 2 then some 2 else if m = 3 then some 3 else none) ?_ ?_ ?_ (by simp) (by simp)
    · simp (disch := omega) [subT, renV, ren1, wrapI]
    · simp [subH, renL, ren1, hself, hstep]
    · intro m hm
      simp only at hm
      rw [if_neg (by omega), if_neg (by omega), if_neg (by omega), if_neg (by omega)]
  have hi2 : i = P.length := by omega
  subst hi2
  rw [← hXd j]
  have hgl : (G j).length = w := by rw [hXd]; simp
  have htk : (G j).take w = G j := List.take_of_length_le (by omega)
  have hwx : w ≤ (G j).length := by omega
  have hFj := hFC (G j)
  have hQj := hQ j
  have hh := hhit j hlt
  generalize G j = x at *
  refine ⟨[(1, .int .i64 k), (2, .int .i64 p), (3, .pt 0 0), (8, .int .i64 (w : Int)), (9, .sl 1 1 0 R.length), (10, .sl 2 1 0 P.length), (11, .int .i64 (j : Int)), (12, .sl 3 1 0 w), (13, .int .i64 (P.length : Int))], ([(3, ints x), (2, ints P), (1, rowsV R), (0, [.int .i64 n, .list 1 (ints l)])], 4), SubI.slots rfl (by simp), ?_⟩
  by_cases hf : fchP n l k p x
  · rw [dec_true hf] at hFj
    have hn := next fun h => (hQj.1 h).2 hf
    generalize fchL n l k p x = y at *
    simp -implicitDefEqProofs [sc_s_HoleCycle_L2, htk, hwx, hFj]
    repeat' (first | omega | apply And.intro)
    refine Again.of (j + 1) ⟨by omega, hn⟩ (by omega) (SubI.ren (fun m => if m = 0 then some 0 else if m = 1 then some 1 else if m = 2 then some 2 else none) ?_ ?_ ?_ (by simp) (by simp))
    · simp (disch := omega) [subT, renV, ren1, wrapI]
    · simp [subH, renL, ren1]
    · intro m hm
      simp only at hm
      rw [if_neg (by omega), if_neg (by omega), if_neg (by omega)]
  · rw [dec_false hf] at hFj
    have e := hh (hQj.2 ⟨hm, hf⟩) hI
    subst e
    generalize fchL n l k p x = y at *
    simp -implicitDefEqProofs [sc_s_HoleCycle_L2, htk, hwx, hFj]
    try omega
end Go.Proofs.Ytmemomfffehnkaa
namespace Go.Proofs.Ytmemomfffehnkaa
open Go Go.RowKit
set_option maxRecDepth 1000000
set_option linter.unusedSimpArgs false
set_option linter.unusedVariables false
set_option maxHeartbeats 1000000
def sc_i_HoleCycle_L2 : SC := (.seq (.reg [⟨(some 74), none, (.bin false .lss (.t 73) (.t 72))⟩]) (.seq (.cond (.t 74) .skip (.exit 2)) (.seq (.block 3 (.seq (.reg [⟨(some 75), none, (.mov (.t 73))⟩, ⟨(some 76), none, (.idx 1 (.t 71) (.t 73))⟩, ⟨(some 77), none, (.ld none (.int .i64 0) (.t 76))⟩, ⟨(some 14), none, (.mov (.t 75))⟩, ⟨(some 15), none, (.mov (.t 77))⟩]) (.reg [⟨(some 78), none, (.mov (.t 13))⟩, ⟨(some 79), none, (.mov (.t 15))⟩, ⟨(some 80), none, (.mov (.t 9))⟩, ⟨(some 81), none, (.mov (.t 14))⟩, ⟨(some 82), none, (.idx 1 (.t 80) (.t 81))⟩, ⟨(some 83), none, (.ld none .nil (.t 82))⟩, ⟨(some 84), none, (.mov (.t 12))⟩, ⟨(some 85), none, (.idx 1 (.t 83) (.t 84))⟩, ⟨(some 86), none, (.ld none (.int .i64 0) (.t 85))⟩, ⟨(some 87), none, (.un .neg (.t 86))⟩, ⟨(some 88), none, (.mov (.t 2))⟩, ⟨(some 89), none, (.call 125 [(.t 87), (.t 88)])⟩, ⟨(some 90), none, (.idx 1 (.t 78) (.t 79))⟩, ⟨none, none, (.st 1 (.t 90) (.t 89))⟩]))) (.reg [⟨(some 91), none, (.bin false .add (.t 73) (.c (.int .i64 1)))⟩, ⟨(some 73), none, (.mov (.t 91))⟩]))))
def sc_i_HoleCycle_L0 : SC := (.seq (.seq (.reg [⟨(some 47), none, (.mov (.t 12))⟩, ⟨(some 48), none, (.mov (.t 8))⟩, ⟨(some 49), none, (.bin false .lss (.t 47) (.t 48))⟩]) (.cond (.t 49) .skip (.exit 0))) (.seq (.block 1 (.seq (.seq (.reg [⟨(some 52), none, (.mov (.t 11))⟩, ⟨(some 53), none, (.mov (.t 10))⟩, ⟨(some 54), none, (.len (.t 53))⟩, ⟨(some 55), none, (.bin false .lss (.t 52) (.t 54))⟩, ⟨(some 56), none, (.mov (.t 55))⟩, ⟨(some 57), (some (56, true)), (.mov (.t 10))⟩, ⟨(some 58), (some (56, true)), (.mov (.t 11))⟩, ⟨(some 59), (some (56, true)), (.idx 1 (.t 57) (.t 58))⟩, ⟨(some 60), (some (56, true)), (.ld none (.int .i64 0) (.t 59))⟩, ⟨(some 61), (some (56, true)), (.mov (.t 12))⟩, ⟨(some 62), (some (56, true)), (.bin false .eql (.t 60) (.t 61))⟩, ⟨(some 63), none, (.pick (.t 56) (.t 62) (.c (.bool false)))⟩]) (.cond (.t 63) (.seq (.reg [⟨(some 64), none, (.mov (.t 11))⟩, ⟨(some 65), none, (.bin false .add (.t 64) (.c (.int .i64 1)))⟩, ⟨(some 11), none, (.mov (.t 65))⟩]) (.exit 1)) .skip)) (.seq (.reg [⟨(some 66), none, (.mov (.t 8))⟩, ⟨(some 67), none, (.mk 1 8 [(.int .i64 0)] (.t 66) (.t 66))⟩, ⟨(some 13), none, (.mov (.t 67))⟩]) (.seq (.reg [⟨(some 68), none, (.mov (.t 13))⟩, ⟨(some 69), none, (.mov (.t 12))⟩, ⟨(some 70), none, (.idx 1 (.t 68) (.t 69))⟩, ⟨none, none, (.st 1 (.t 70) (.c (.int .i64 1)))⟩]) (.seq (.seq (.reg [⟨(some 71), none, (.mov (.t 10))⟩, ⟨(some 72), none, (.len (.t 71))⟩, ⟨(some 73), none, (.mov (.c (.int .i64 0)))⟩]) (.block 2 (.loop sc_i_HoleCycle_L2))) (.seq (.reg [⟨(some 93), none, (.ld (some 2) .undef (.t 3))⟩, ⟨(some 94), none, (.mov (.t 1))⟩, ⟨(some 95), none, (.mov (.t 2))⟩, ⟨(some 96), none, (.mov (.t 13))⟩, ⟨(some 97), none, (.call 12 [(.t 93), (.t 94), (.t 95), (.t 96)])⟩, ⟨(some 92), none, (.mov (.t 97))⟩, ⟨(some 98), none, (.ext 0 (.t 92))⟩, ⟨(some 99), none, (.ext 1 (.t 92))⟩, ⟨(some 16), none, (.mov (.t 98))⟩, ⟨(some 17), none, (.mov (.t 99))⟩]) (.seq (.reg [⟨(some 100), none, (.mov (.t 17))⟩, ⟨(some 101), none, (.un .not (.t 100))⟩]) (.cond (.t 101) (.seq (.reg [⟨(some 102), none, (.mov (.t 13))⟩, ⟨(some 6), none, (.mov (.t 102))⟩, ⟨(some 7), none, (.mov (.c (.bool true)))⟩]) .ret) .skip)))))))) (.reg [⟨(some 50), none, (.mov (.t 12))⟩, ⟨(some 51), none, (.bin false .add (.t 50) (.c (.int .i64 1)))⟩, ⟨(some 12), none, (.mov (.t 51))⟩])))
def sc_i_HoleCycle : SC := (.seq (.reg [⟨(some 3), none, (.box (.t 0))⟩, ⟨(some 6), none, (.mov (.c .nil))⟩, ⟨(some 7), none, (.mov (.c (.bool false)))⟩]) (.seq (.seq (.reg [⟨(some 18), none, (.ld (some 2) .undef (.t 3))⟩, ⟨(some 19), none, (.call 130 [(.t 18)])⟩, ⟨(some 20), none, (.un .not (.t 19))⟩, ⟨(some 21), none, (.mov (.t 20))⟩, ⟨(some 22), (some (21, false)), (.mov (.t 1))⟩, ⟨(some 23), (some (21, false)), (.bin false .lss (.t 22) (.c (.int .i64 1)))⟩, ⟨(some 24), none, (.pick (.t 21) (.c (.bool true)) (.t 23))⟩, ⟨(some 25), none, (.mov (.t 24))⟩, ⟨(some 26), (some (25, false)), (.mov (.t 1))⟩, ⟨(some 27), (some (25, false)), (.bin false .gtr (.t 26) (.c (.int .i64 5)))⟩, ⟨(some 28), none, (.pick (.t 25) (.c (.bool true)) (.t 27))⟩, ⟨(some 29), none, (.mov (.t 28))⟩, ⟨(some 30), (some (29, false)), (.mov (.t 2))⟩, ⟨(some 31), (some (29, false)), (.call 131 [(.t 30)])⟩, ⟨(some 32), (some (29, false)), (.un .not (.t 31))⟩, ⟨(some 33), none, (.pick (.t 29) (.c (.bool true)) (.t 32))⟩]) (.cond (.t 33) (.seq (.reg [⟨(some 6), none, (.mov (.c .nil))⟩, ⟨(some 7), none, (.mov (.c (.bool false)))⟩]) .ret) .skip)) (.seq (.reg [⟨(some 34), none, (.ld (some 2) .undef (.t 3))⟩, ⟨(some 35), none, (.mov (.t 1))⟩, ⟨(some 36), none, (.call 118 [(.t 34), (.t 35)])⟩, ⟨(some 37), none, (.len (.t 36))⟩, ⟨(some 8), none, (.mov (.t 37))⟩]) (.seq (.reg [⟨(some 38), none, (.ld (some 2) .undef (.t 3))⟩, ⟨(some 39), none, (.mov (.t 1))⟩, ⟨(some 40), none, (.call 120 [(.t 38), (.t 39)])⟩, ⟨(some 41), none, (.mov (.t 2))⟩, ⟨(some 42), none, (.call 119 [(.t 40), (.t 41)])⟩, ⟨(some 9), none, (.mov (.t 42))⟩]) (.seq (.reg [⟨(some 43), none, (.mov (.t 9))⟩, ⟨(some 44), none, (.mov (.t 8))⟩, ⟨(some 45), none, (.mov (.t 2))⟩, ⟨(some 46), none, (.call 121 [(.t 43), (.t 44), (.t 45)])⟩, ⟨(some 10), none, (.mov (.t 46))⟩]) (.seq (.reg [⟨(some 11), none, (.mov (.c (.int .i64 0)))⟩]) (.seq (.seq (.reg [⟨(some 12), none, (.mov (.c (.int .i64 0)))⟩]) (.block 0 (.loop sc_i_HoleCycle_L0))) (.seq (.reg [⟨(some 6), none, (.mov (.c .nil))⟩, ⟨(some 7), none, (.mov (.c (.bool false)))⟩]) .ret))))))))
theorem code_i_HoleCycle : fnCode Try.prog [121] 17 = some (103, sc_i_HoleCycle, [(6, none), (7, none)]) := by kernel_rfl
theorem fn_i_HoleCycle : FnOk Try.prog 17 F_s_HoleCycle := by
  have env := ((((((((envNil_ok (P := Try.prog)).add fn_i_IsComplex).add fn_i_IsFieldPrime).add fn_i_FacesOfSize).add fn_i_BorderMatrix).add fn_i_modMatrix).add fn_i_FillChain).add fn_i_restMod).addl ln_i_reduceMod
  refine fn_ok code_i_HoleCycle mixed env ?_
  intro args r h hb
  obtain ⟨_, _, _, ⟨n, l⟩, k, p, rfl, h1, h2, h3, h4⟩ := F3_inv h
  cases dC_inv h1
  cases dI_inv h2
  cases dI_inv h3
  cases h4
  clear h
  refine ⟨by simp, fun w0 U0 L0 N0 => ?_⟩
  clear hb
  simp only
  cases e0 : cplxB n l with
  | false =>
    have e := hcF_no (n := n) (l := l) (k := k) (p := p) fun h => by simp [cplxB_iff.2 h.1] at e0
    rw [e]
    simp -implicitDefEqProofs [sc_i_HoleCycle, F_s_IsComplex, e0]
  | true =>
  have hc := cplxB_iff.1 e0
  by_cases hk1 : k < 1
  · have e := hcF_no (n := n) (l := l) (k := k) (p := p) fun h => by have := h.2.1; omega
    rw [e]
    simp -implicitDefEqProofs [sc_i_HoleCycle, F_s_IsComplex, e0, hk1]
  by_cases hk5 : 5 < k
  · have e := hcF_no (n := n) (l := l) (k := k) (p := p) fun h => by have := h.2.2.1; omega
    rw [e]
    simp -implicitDefEqProofs [sc_i_HoleCycle, F_s_IsComplex, e0, hk1, hk5]
  have hk : 1 ≤ k ∧ k ≤ 5 := by omega
  by_cases hp : fpP p
  rotate_left
  · have e := hcF_no (n := n) (l := l) (k := k) (p := p) fun h => hp h.2.2.2
    have hd := dec_false hp
    rw [e]
    simp -implicitDefEqProofs [sc_i_HoleCycle, F_s_IsComplex, F_s_IsFieldPrime, e0, hk1, hk5, hd]
  have hd := dec_true hp
  have hcp : hcP n l k p := ⟨hc, hk.1, hk.2, hp⟩
  have hX := hcF_yes hcp
  have hF1 : F_i_BorderMatrix [.agg [.int .i64 n, .list 1 (ints l)], .int .i64 k] = some (.own 1 (rowsV (borM n l k))) := by
    simp only [F_i_BorderMatrix, F2_mk, dC_agg, dI_int, Option.bind_some]
    rw [if_pos ⟨hc, by omega, by omega⟩]
  have hF2 : F_s_FacesOfSize [.agg [.int .i64 n, .list 1 (ints l)], .int .i64 k] = some (.own 1 (ints (fosL n l k))) := by simp [F_s_FacesOfSize]
  obtain ⟨hml, hwl, hrl⟩ := bor_ok (n := n) (l := l) (k := k)
  have hF3 : F_i_modMatrix [.list 1 (rowsL (borM n l k)), .int .i64 p] = some (.own 1 (rowsV (modM p (borM n l k)))) := by
    simp only [F_i_modMatrix, F2_mk, dLL_list, dI_int, Option.bind_some]
    rw [if_pos ⟨hp, hml, fun i hi => by rw [hrl i hi]; omega⟩]
  have hok := okM_mod (p := p) hp hrl
  have hI := redI_all hp hok (fosL n l k).length
  have hlS := redS_lt p (modM p (borM n l k)) (fosL n l k).length
  have hZ : hcZ n l k p = redS p (modM p (borM n l k)) (fosL n l k).length := rfl
  rw [← hZ] at hI hlS
  have hG : G_i_reduceMod [.sl 0 1 0 (borM n l k).length, .int .i64 ((fosL n l k).length : Nat), .int .i64 p] (rowsV (modM p (borM n l k))) = some (.own 1 (ints (hcZ n l k p).2), rowsV (hcZ n l k p).1) := by
    simp only [G_i_reduceMod, dRowsV_rowsV, Option.bind_some]
    rw [if_pos ⟨(fosL n l k).length, ⟨hp, by simp, hok, by omega, hml⟩, by omega, by omega⟩, Int.toNat_natCast, hZ]
  have hQ : ∀ c, hcQ n l k p c ↔ (c : Int) ∉ (hcZ n l k p).2 ∧ ¬ fchP n l k p (hcX n l k p c) := fun c => Iff.rfl
  have hXd : ∀ c, hcX n l k p c = hcK p (hcZ n l k p).1 (hcZ n l k p).2 (fosL n l k).length c (hcZ n l k p).2.length := fun c => rfl
  have hFC : ∀ x, F_s_FillChain [.agg [.int .i64 n, .list 1 (ints l)], .int .i64 k, .int .i64 p, .list 1 (ints x)] = some (.tup [.own 1 (ints (fchL n l k p x)), .bool (dec (fchP n l k p x))]) := fun x => by simp [F_s_FillChain]
  have hFm := fn_restMod_at hp
  obtain ⟨p1, p2, p3⟩ := fpP_bnd hp
  generalize hcF n l k p = X at *
  have hhit := fun (i : Nat) h1 h2 h3 => hX.trans (fsX_hit (w := (fosL n l k).length) (Q := hcQ n l k p) (X := hcX n l k p) (i := i) h1 h2 h3)
  have hnone := fun h => hX.trans (fsX_none (w := (fosL n l k).length) (Q := hcQ n l k p) (X := hcX n l k p) h)
  have hol := modM_len p (borM n l k)
  clear hX hZ hrl hok
  generalize hcQ n l k p = Q at *
  generalize hcX n l k p = G at *
  generalize hcZ n l k p = Z at *
  obtain ⟨R, P⟩ := Z
  obtain ⟨hokR, hlR, hPR, hjP, hsP⟩ := hI
  obtain ⟨_, hlt3⟩ := hlS
  simp only at hokR hlR hPR hjP hsP hG hQ hXd hlt3
  generalize modM p (borM n l k) = O at *
  generalize borM n l k = B at *
  generalize hFl : fosL n l k = FL at *
  generalize hw : FL.length = w at *
  have hRB : B.length = R.length := by omega
  have hOR : O.length = R.length := by omega
  rw [hRB] at hG
  have hrn : ∀ a, List.map (ren0 a 5) (ints P) = ints P := fun a => by simp [ints, ren0]
  simp -implicitDefEqProofs [sc_i_HoleCycle, F_s_IsComplex, F_s_IsFieldPrime, hF1, hF2, hF3, e0, hd, hw, hk1, hk5, freeOk, ren0, hOR, hG, hrn]
  refine loopI env mixed (fun x : Nat × Nat => [(1, .int .i64 k), (2, .int .i64 p), (3, .pt 0 0), (8, .int .i64 (w : Int)), (9, .sl 1 1 0 R.length), (10, .sl 2 1 0 P.length), (11, .int .i64 (x.1 : Int)), (12, .int .i64 (x.2 : Int))]) (fun _ => ([(2, ints P), (1, rowsV R), (0, [.int .i64 n, .list 1 (ints l)])], 3)) (fun x => x.2 ≤ w ∧ x.1 ≤ P.length ∧ (∀ a, a < x.1 → at0 P a < x.2) ∧ (∀ a, x.1 ≤ a → a < P.length → (x.2 : Int) ≤ at0 P a) ∧ ∀ i, i < x.2 → ¬ Q i) (fun x => w - x.2) (0, 0) ⟨by simp, by simp, fun a ha => by simp at ha, fun a _ ha => by have := (hjP a ha).1; simp only; omega, fun i hi => by simp at hi⟩ ?_ ?_
  · refine SubI.ren (fun m => if m = 0 then some 0 else if m = 1 then some 3 else if m = 2 then some 4 else none) ?_ ?_ ?_ (by simp) (by simp)
    · simp [subT, renV, ren1]
    · simp [subH, renL, ren1]
    · intro m hm
      simp only at hm
      rw [if_neg (by omega), if_neg (by omega), if_neg (by omega)]
  rintro ⟨t, j⟩ ⟨hj, ht, hA, hB, hI⟩
  simp only at hj ht hA hB hI ⊢
  by_cases hlt : j < w
  rotate_left
  · have : j = w := by omega
    subst this
    have e := hnone hI
    subst e
    simp -implicitDefEqProofs [sc_i_HoleCycle_L0]
  have next : ¬ Q j → ∀ i, i < j + 1 → ¬ Q i := fun hn i hi => by
    rcases Nat.lt_succ_iff_lt_or_eq.1 hi with h | rfl
    · exact hI i h
    · exact hn
  by_cases hm : t < P.length ∧ at0 P t = j
  · obtain ⟨m1, m2⟩ := hm
    have hmem : (j : Int) ∈ P := m2 ▸ getD_mem' m1
    have hn := next fun h => ((hQ j).1 h).1 hmem
    simp -implicitDefEqProofs [sc_i_HoleCycle_L0, hlt, m1, m2]
    repeat' (first | omega | apply And.intro)
    refine Again.of (t + 1, j + 1) ⟨by simp only; omega, by simp only; omega, fun a ha => ?_, fun a h1 h2 => ?_, hn⟩ (by simp only; omega) (SubI.slots (by simp) (by simp (disch := omega) [wrapI]))
    · simp only at ha ⊢
      rcases Nat.lt_succ_iff_lt_or_eq.1 ha with h | rfl
      · have := hA a h
        omega
      · omega
    · simp only at h1 ⊢
      have := hlt3 t a (by omega) h2
      omega
  have hB2 : ∀ a, t ≤ a → a < P.length → ((j + 1 : Nat) : Int) ≤ at0 P a := fun a h1 h2 => by
    have h3 := hB a h1 h2
    by_cases e : a = t
    · subst e
      have : ¬ at0 P a = j := fun h => hm ⟨h2, h⟩
      omega
    · have h4 := hB t (Nat.le_refl _) (by omega)
      have := hlt3 t a (by omega) h2
      omega
  have hnm : (j : Int) ∉ P := fun h => by
    obtain ⟨a, ha, e⟩ := getD_mem_iff.1 h
    by_cases h1 : a < t
    · have := hA a h1
      omega
    · have := hB2 a (by omega) ha
      omega
  have hA2 : ∀ a, a < t → at0 P a < ((j + 1 : Nat) : Int) := fun a h => by
    have := hA a h
    omega
  clear hA hB
  have hw1 : (0 : Int) ≤ w := by omega
  have hcase : (t < P.length ∧ ¬ at0 P t = j) ∨ ¬ t < P.length := by
    by_cases h : t < P.length
    · exact .inl ⟨h, fun e => hm ⟨h, e⟩⟩
    · exact .inr h
  rcases hcase with ⟨a1, a2⟩ | a1
  simp -implicitDefEqProofs [sc_i_HoleCycle_L0, hlt, a1, a2]
  rotate_left
  simp -implicitDefEqProofs [sc_i_HoleCycle_L0, hlt, a1]
  all_goals
    repeat' (first | omega | apply And.intro)
    refine loopI env mixed (fun i : Nat => [(1, .int .i64 k), (2, .int .i64 p), (3, .pt 0 0), (8, .int .i64 (w : Int)), (9, .sl 1 1 0 R.length), (10, .sl 2 1 0 P.length), (11, .int .i64 (t : Int)), (12, .int .i64 (j : Int)), (13, .sl 3 1 0 w), (71, .sl 2 1 0 P.length), (72, .int .i64 (P.length : Int)), (73, .int .i64 (i : Int))]) (fun i => ([(3, ints (hcK p R P w j i)), (2, ints P), (1, rowsV R), (0, [.int .i64 n, .list 1 (ints l)])], 4)) (fun i => i ≤ P.length) (fun i => P.length - i) 0 (by simp) (SubI.slots (by simp [hcK]) (by simp)) ?_
    intro i hi
    by_cases hlt2 : i < P.length
    · obtain ⟨e1, e2⟩ := hjP i hlt2
      have hiR : i < R.length := by omega
      obtain ⟨hrl, hre⟩ := hokR i hiR
      obtain ⟨q, hq⟩ : ∃ q : Nat, at0 P i = q := ⟨(at0 P i).toNat, by omega⟩
      have hqw : q < w := by omega
      have hstep : hcK p R P w j (i + 1) = (hcK p R P w j i).set q (-(at0 (atR R i) j) % p) := by rw [hcK, hq, Int.toNat_natCast]
      have hkl := hcK_len p R P w j i
      have hself := rowsV_self (M := R) (i := i) hiR
      have hb := hre j hlt
      have hwn : IntKind.i64.wrap (-(at0 (atR R i) j)) = -(at0 (atR R i) j) := wrapI _ (by omega) (by omega)
      have hFj := hFm (-(at0 (atR R i) j))
      generalize hcK p R P w j i = g at *
      generalize -(at0 (atR R i) j) % p = z at *
      simp -implicitDefEqProofs [sc_i_HoleCycle_L2, hlt, hlt2, hiR, hq, hqw, hkl, hrl, hwn, hFj]
      repeat' (first | omega | apply And.intro)
      refine Again.of (i + 1) (by omega) (by omega) ?_
      refine SubI.fold 1 4 i 1 w (cn := ints (atR R i)) (co := (rowsV R).set i (.sl 4 1 0 w)) rfl rfl (by simp [hiR]) (by simp [hrl]) ?_
      refine SubI.ren (fun m => if m = 0 then some 0 else if m = 1 then some 1 else if m = 2 then some 2 else if m = 3 then some 3 else none) ?_ ?_ ?_ (by simp) (by simp)
      · simp (disch := omega) [subT, renV, ren1, wrapI]
      · simp [subH, renL, ren1, hself, hstep]
      · intro m hm
        simp only at hm
        rw [if_neg (by omega), if_neg (by omega), if_neg (by omega), if_neg (by omega)]
    have hi2 : i = P.length := by omega
    subst hi2
    rw [← hXd j]
    have hgl : (G j).length = w := by rw [hXd]; simp
    have htk : (G j).take w = G j := List.take_of_length_le (by omega)
    have hwx : w ≤ (G j).length := by omega
    have hFj := hFC (G j)
    have hQj := hQ j
    have hh := hhit j hlt
    generalize G j = x at *
    by_cases hf : fchP n l k p x
    · rw [dec_true hf] at hFj
      have hn := next fun h => (hQj.1 h).2 hf
      generalize fchL n l k p x = y at *
      simp -implicitDefEqProofs [sc_i_HoleCycle_L2, htk, hwx, hFj]
      repeat' (first | omega | apply And.intro)
      refine Again.of (t, j + 1) ⟨by simp only; omega, ht, hA2, hB2, hn⟩ (by simp only; omega) (SubI.ren (fun m => if m = 0 then some 0 else if m = 1 then some 1 else if m = 2 then some 2 else none) ?_ ?_ ?_ (by simp) (by simp))
      · simp (disch := omega) [subT, renV, ren1, wrapI]
      · simp [subH, renL, ren1]
      · intro m hm
        simp only at hm
        rw [if_neg (by omega), if_neg (by omega), if_neg (by omega)]
    · rw [dec_false hf] at hFj
      have e := hh (hQj.2 ⟨hnm, hf⟩) hI
      subst e
      generalize fchL n l k p x = y at *
      simp -implicitDefEqProofs [sc_i_HoleCycle_L2, htk, hwx, hFj]
      try omega
end Go.Proofs.Ytmemomfffehnkaa
