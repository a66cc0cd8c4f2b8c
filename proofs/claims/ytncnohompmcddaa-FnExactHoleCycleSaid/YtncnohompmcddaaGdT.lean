import Derived.Test.YtncnohompmcddaaGdS
import Derived.Test.YtncnohompmcddaaGdP
import Derived.Test.YtncnohompmcddaaGdN
import Derived.Test.YtncnohompmcddaaGcG
import Derived.Test.YtncnohompmcddaaGdE
namespace Go.Proofs.Ytncnohompmcddaa
open Go Go.RowKit
set_option maxRecDepth 1000000
set_option linter.unusedSimpArgs false
set_option linter.unusedVariables false
set_option maxHeartbeats 1000000
def sc_i_FillChain_L4 : SC := (.seq (.reg [⟨(some 83), none, (.bin false .lss (.t 82) (.t 81))⟩]) (.seq (.cond (.t 83) .skip (.exit 4)) (.seq (.block 5 (.seq (.reg [⟨(some 84), none, (.mov (.t 82))⟩, ⟨(some 85), none, (.idx 1 (.t 80) (.t 82))⟩, ⟨(some 86), none, (.ld none (.int .i64 0) (.t 85))⟩, ⟨(some 16), none, (.mov (.t 84))⟩, ⟨(some 17), none, (.mov (.t 86))⟩]) (.reg [⟨(some 87), none, (.mov (.t 15))⟩, ⟨(some 88), none, (.mov (.t 17))⟩, ⟨(some 89), none, (.mov (.t 11))⟩, ⟨(some 90), none, (.mov (.t 16))⟩, ⟨(some 91), none, (.idx 1 (.t 89) (.t 90))⟩, ⟨(some 92), none, (.ld none .nil (.t 91))⟩, ⟨(some 93), none, (.mov (.t 10))⟩, ⟨(some 94), none, (.idx 1 (.t 92) (.t 93))⟩, ⟨(some 95), none, (.ld none (.int .i64 0) (.t 94))⟩, ⟨(some 96), none, (.idx 1 (.t 87) (.t 88))⟩, ⟨none, none, (.st 1 (.t 96) (.t 95))⟩]))) (.reg [⟨(some 97), none, (.bin false .add (.t 82) (.c (.int .i64 1)))⟩, ⟨(some 82), none, (.mov (.t 97))⟩]))))
def sc_i_FillChain_L2 : SC := (.seq (.seq (.reg [⟨(some 64), none, (.mov (.t 14))⟩, ⟨(some 65), none, (.mov (.t 11))⟩, ⟨(some 66), none, (.len (.t 65))⟩, ⟨(some 67), none, (.bin false .lss (.t 64) (.t 66))⟩]) (.cond (.t 67) .skip (.exit 2))) (.seq (.block 3 (.seq (.reg [⟨(some 70), none, (.mov (.t 11))⟩, ⟨(some 71), none, (.mov (.t 14))⟩, ⟨(some 72), none, (.idx 1 (.t 70) (.t 71))⟩, ⟨(some 73), none, (.ld none .nil (.t 72))⟩, ⟨(some 74), none, (.mov (.t 10))⟩, ⟨(some 75), none, (.idx 1 (.t 73) (.t 74))⟩, ⟨(some 76), none, (.ld none (.int .i64 0) (.t 75))⟩, ⟨(some 77), none, (.bin false .neq (.t 76) (.c (.int .i64 0)))⟩]) (.cond (.t 77) (.seq (.reg [⟨(some 8), none, (.mov (.c .nil))⟩, ⟨(some 9), none, (.mov (.c (.bool false)))⟩]) .ret) .skip))) (.reg [⟨(some 68), none, (.mov (.t 14))⟩, ⟨(some 69), none, (.bin false .add (.t 68) (.c (.int .i64 1)))⟩, ⟨(some 14), none, (.mov (.t 69))⟩])))
def sc_i_FillChain_L0 : SC := (.seq (.reg [⟨(some 42), none, (.bin false .lss (.t 41) (.t 40))⟩]) (.seq (.cond (.t 42) .skip (.exit 0)) (.seq (.block 1 (.seq (.reg [⟨(some 43), none, (.mov (.t 41))⟩, ⟨(some 12), none, (.mov (.t 43))⟩]) (.treg (.fst ⟨(some 44), none, (.mov (.t 11))⟩ true (.fst ⟨(some 45), none, (.mov (.t 12))⟩ true (.fst ⟨(some 46), none, (.mov (.t 11))⟩ true (.fst ⟨(some 47), none, (.mov (.t 12))⟩ true (.fst ⟨(some 48), none, (.idx 1 (.t 46) (.t 47))⟩ true (.fst ⟨(some 50), none, (.mov (.t 3))⟩ false (.fst ⟨(some 51), none, (.mov (.t 12))⟩ false (.fst ⟨(some 52), none, (.idx 1 (.t 50) (.t 51))⟩ false (.fst ⟨(some 53), none, (.ld none (.int .i64 0) (.t 52))⟩ false (.alt ⟨(some 49), none, (.ld none .nil (.t 48))⟩ false (.alt ⟨(some 54), none, (.mks 1 1 [(.int .i64 0)] [(0, (1, (.t 53)))])⟩ true (.alt ⟨(some 55), none, (.app 1 8 (.t 49) (.t 54))⟩ true (.fst ⟨(some 56), none, (.idx 1 (.t 44) (.t 45))⟩ false (.alt ⟨none, none, (.st 1 (.t 56) (.t 55))⟩ true .done .stop)) .stop) .stop) (.alt ⟨(some 54), none, (.mks 1 1 [(.int .i64 0)] [(0, (1, (.t 53)))])⟩ true (.fst ⟨(some 49), none, (.ld none .nil (.t 48))⟩ false (.alt ⟨(some 55), none, (.app 1 8 (.t 49) (.t 54))⟩ true (.fst ⟨(some 56), none, (.idx 1 (.t 44) (.t 45))⟩ false (.alt ⟨none, none, (.st 1 (.t 56) (.t 55))⟩ true .done .stop)) .stop)) .stop)))))))))))))) (.reg [⟨(some 57), none, (.bin false .add (.t 41) (.c (.int .i64 1)))⟩, ⟨(some 41), none, (.mov (.t 57))⟩]))))
def sc_i_FillChain : SC := (.seq (.reg [⟨(some 4), none, (.box (.t 0))⟩, ⟨(some 8), none, (.mov (.c .nil))⟩, ⟨(some 9), none, (.mov (.c (.bool false)))⟩]) (.seq (.seq (.reg [⟨(some 18), none, (.ld (some 2) .undef (.t 4))⟩, ⟨(some 19), none, (.mov (.t 1))⟩, ⟨(some 20), none, (.mov (.t 2))⟩, ⟨(some 21), none, (.mov (.t 3))⟩, ⟨(some 22), none, (.call 92 [(.t 18), (.t 19), (.t 20), (.t 21)])⟩, ⟨(some 23), none, (.un .not (.t 22))⟩, ⟨(some 24), none, (.mov (.t 23))⟩, ⟨(some 25), (some (24, false)), (.mov (.t 1))⟩, ⟨(some 26), (some (24, false)), (.bin false .eql (.t 25) (.c (.int .i64 6)))⟩, ⟨(some 27), none, (.pick (.t 24) (.c (.bool true)) (.t 26))⟩]) (.cond (.t 27) (.seq (.reg [⟨(some 8), none, (.mov (.c .nil))⟩, ⟨(some 9), none, (.mov (.c (.bool false)))⟩]) .ret) .skip)) (.seq (.reg [⟨(some 28), none, (.ld (some 2) .undef (.t 4))⟩, ⟨(some 29), none, (.mov (.t 1))⟩, ⟨(some 30), none, (.bin false .add (.t 29) (.c (.int .i64 1)))⟩, ⟨(some 31), none, (.call 57 [(.t 28), (.t 30)])⟩, ⟨(some 32), none, (.len (.t 31))⟩, ⟨(some 10), none, (.mov (.t 32))⟩]) (.seq (.reg [⟨(some 33), none, (.ld (some 2) .undef (.t 4))⟩, ⟨(some 34), none, (.mov (.t 1))⟩, ⟨(some 35), none, (.bin false .add (.t 34) (.c (.int .i64 1)))⟩, ⟨(some 36), none, (.call 59 [(.t 33), (.t 35)])⟩, ⟨(some 37), none, (.mov (.t 2))⟩, ⟨(some 38), none, (.call 58 [(.t 36), (.t 37)])⟩, ⟨(some 11), none, (.mov (.t 38))⟩]) (.seq (.seq (.reg [⟨(some 39), none, (.mov (.t 11))⟩, ⟨(some 40), none, (.len (.t 39))⟩, ⟨(some 41), none, (.mov (.c (.int .i64 0)))⟩]) (.block 0 (.loop sc_i_FillChain_L0))) (.seq (.reg [⟨(some 58), none, (.mov (.t 11))⟩, ⟨(some 59), none, (.mov (.t 10))⟩, ⟨(some 60), none, (.mov (.t 2))⟩, ⟨(some 61), none, (.call 60 [(.t 58), (.t 59), (.t 60)])⟩, ⟨(some 13), none, (.mov (.t 61))⟩]) (.seq (.seq (.reg [⟨(some 62), none, (.mov (.t 13))⟩, ⟨(some 63), none, (.len (.t 62))⟩, ⟨(some 14), none, (.mov (.t 63))⟩]) (.block 2 (.loop sc_i_FillChain_L2))) (.seq (.reg [⟨(some 78), none, (.mov (.t 10))⟩, ⟨(some 79), none, (.mk 1 8 [(.int .i64 0)] (.t 78) (.t 78))⟩, ⟨(some 15), none, (.mov (.t 79))⟩]) (.seq (.seq (.reg [⟨(some 80), none, (.mov (.t 13))⟩, ⟨(some 81), none, (.len (.t 80))⟩, ⟨(some 82), none, (.mov (.c (.int .i64 0)))⟩]) (.block 4 (.loop sc_i_FillChain_L4))) (.seq (.reg [⟨(some 98), none, (.mov (.t 15))⟩, ⟨(some 8), none, (.mov (.t 98))⟩, ⟨(some 9), none, (.mov (.c (.bool true)))⟩]) .ret))))))))))
theorem code_i_FillChain : fnCode Try.prog [60, 777777] 62 = some (99, sc_i_FillChain, [(8, none), (9, none)]) := by kernel_rfl
theorem fn_i_FillChain : FnOk Try.prog 62 F_s_FillChain := by
  have env := (((((envNil_ok (P := Try.prog)).add fn_i_IsChain).add fn_i_BorderMatrix).add fn_i_FacesOfSize).add fn_i_modMatrix).addl ln_i_reduceMod
  refine fn_ok code_i_FillChain mixed env ?_
  intro args r h hb
  obtain ⟨_, _, _, _, ⟨n, l⟩, k, p, x, rfl, h1, h2, h3, h5, h4⟩ := F4_inv h
  cases dC_inv h1
  cases dI_inv h2
  cases dI_inv h3
  cases dL_inv h5
  cases h4
  clear h
  refine ⟨by simp, fun w0 U0 L0 N0 => ?_⟩
  clear hb
  simp only
  by_cases hP : chnP n l k p x
  rotate_left
  · have hf : ¬ fcP n l k p x := fun h => hP h.1
    have e : fchL n l k p x = [] := if_neg hf
    have hd : dec (fchP n l k p x) = false := dec_false fun h => hf h.1
    rw [e, hd]
    have hd2 := dec_false hP
    simp -implicitDefEqProofs [sc_i_FillChain, F_s_IsChain, hd2]
  have hd2 := dec_true hP
  by_cases hk : k = 6
  · have hf : ¬ fcP n l k p x := fun h => h.2 hk
    have e : fchL n l k p x = [] := if_neg hf
    have hd : dec (fchP n l k p x) = false := dec_false fun h => hf h.1
    rw [e, hd]
    simp -implicitDefEqProofs [sc_i_FillChain, F_s_IsChain, hd2, hk]
  have hf : fcP n l k p x := ⟨hP, hk⟩
  have e : fchL n l k p x = filL (fcR n l k p x).1 (fcR n l k p x).2 (fcW n l k) := if_pos hf
  have hd : dec (fchP n l k p x) = dec (filO (fcR n l k p x).1 (fcR n l k p x).2 (fcW n l k)) := by
    rw [Bool.eq_iff_iff, dec_iff, dec_iff]
    exact ⟨fun h => h.2, fun h => ⟨hf, h⟩⟩
  obtain ⟨⟨hp, hx, hxl, hml, _, hw6, hwr⟩, hc, hk1, hk6⟩ := fchain_ok hf
  rw [Int.toNat_natCast] at hwr
  have hF1 : F_i_BorderMatrix [.agg [.int .i64 n, .list 1 (ints l)], .int .i64 (k + 1)] = some (.own 1 (rowsV (borM n l (k + 1)))) := by
    simp only [F_i_BorderMatrix, F2_mk, dC_agg, dI_int, Option.bind_some]
    rw [if_pos ⟨hc, hk1, hk6⟩]
  have hF2 : F_s_FacesOfSize [.agg [.int .i64 n, .list 1 (ints l)], .int .i64 (k + 1)] = some (.own 1 (ints (fosL n l (k + 1)))) := by simp [F_s_FacesOfSize]
  have hF3 : F_i_modMatrix [.list 1 (rowsL (borM n l (k + 1))), .int .i64 p] = some (.own 1 (rowsV (modM p (borM n l (k + 1))))) := by
    simp only [F_i_modMatrix, F2_mk, dLL_list, dI_int, Option.bind_some]
    rw [if_pos ⟨hp, hml, fun i hi => by rw [hwr i hi]; omega⟩]
  rw [e, hd]
  have hw : IntKind.i64.wrap (k + 1) = k + 1 := wrapI _ (by omega) (by omega)
  have hwd : wideM (modM p (borM n l (k + 1))) x = modM p (wideM (borM n l (k + 1)) x) := (mod_wide hx hxl hwr).symm
  have hrR : fcR n l k p x = redS p (modM p (wideM (borM n l (k + 1)) x)) (fcW n l k) := rfl
  rw [← hwd] at hrR
  have hwW : (fosL n l (k + 1)).length = fcW n l k := rfl
  have hOr : ∀ i, i < (modM p (borM n l (k + 1))).length → (atR (modM p (borM n l (k + 1))) i).length = fcW n l k := fun i hi => by
    rw [modM_len] at hi
    rw [modM_at hi, rowF_len, hwr i hi]
  have hokO : okM p (fcW n l k + 1) (wideM (modM p (borM n l (k + 1))) x) := by
    rw [hwd]
    exact okM_mod hp fun i hi => by
      rw [wideM_len] at hi
      rw [wideM_at x hi, List.length_append, hwr i hi]; rfl
  have hOl := modM_len p (borM n l (k + 1))
  clear hwd hd e
  generalize fcW n l k = w at *
  generalize fcR n l k p x = R0 at *
  generalize modM p (borM n l (k + 1)) = O at *
  generalize hm : (borM n l (k + 1)).length = m at *
  have hI := redI_all hp hokO w
  have hG : G_i_reduceMod [.sl 0 1 0 m, .int .i64 (w : Int), .int .i64 p] (rowsV (wideM O x)) = some (.own 1 (ints R0.2), rowsV R0.1) := by
    simp only [G_i_reduceMod, dRowsV_rowsV, Option.bind_some]
    rw [if_pos ⟨w + 1, ⟨hp, by simp [hOl], hokO, by omega, hml⟩, by omega, by omega⟩, Int.toNat_natCast, hrR]
  rw [← hrR] at hI
  clear hrR
  obtain ⟨R, P⟩ := R0
  obtain ⟨hokR, hlR, hpR, hjP, hsP⟩ := hI
  simp only [wideM_len, hOl] at hokR hlR hpR hjP hsP
  simp only at hG
  simp -implicitDefEqProofs [sc_i_FillChain, F_s_IsChain, hd2, hk, hw, hF1, hF2, hF3, hwW]
  refine loopU env mixed (fun i : Nat => [(2, .int .i64 p), (3, .list 1 (ints x)), (10, .int .i64 (w : Int)), (11, .sl 1 1 0 m), (40, .int .i64 (m : Int)), (41, .int .i64 (i : Int))]) (fun i => ([(1, rowsV (pM O (wideG O x) i)), (0, [.int .i64 n, .list 1 (ints l)])], 2)) (fun i => i ≤ m) (fun i => m - i) 0 (by simp) ?_ ?_
  · refine SubI.ren (fun m => if m = 0 then some 0 else if m = 1 then some 3 else none) ?_ ?_ ?_ (by simp) (by simp)
    · simp [subT, renV, ren1, hOl]
    · simp [subH, renL, ren1, pM_zero]
    · intro m hm
      simp only at hm
      rw [if_neg (by omega), if_neg (by omega)]
  intro i hi
  by_cases hlt : i < m
  · have hiO : i < O.length := by omega
    have hix : i < x.length := by omega
    have hge := pM_ge (M := O) (G := wideG O x) hiO (Nat.le_refl i)
    have hset := pM_set (M := O) (G := wideG O x) hiO
    have hpl := pM_len O (wideG O x) i
    have hrl := hOr i hiO
    have hGi : wideG O x i = atR O i ++ [at0 x i] := rfl
    generalize pM O (wideG O x) i = Mi at *
    generalize hri : atR O i = ri at *
    refine ⟨[(2, .int .i64 p), (3, .list 1 (ints x)), (10, .int .i64 (w : Int)), (11, .sl 1 1 0 m), (40, .int .i64 (m : Int)), (41, .int .i64 (i : Int))], ([(2, ints ri), (1, (rowsV Mi).set i (.sl 2 1 0 w)), (0, [.int .i64 n, .list 1 (ints l)])], 3), ?_, ?_⟩
    · refine SubI.unfold 1 i 1 (co := rowsV Mi) (cn := ints ri) rfl (by rw [rowsV_get (by omega), hge]) (by omega) ?_
      exact SubI.slots (by simp [hrl]) (by simp)
    have fin : ∀ T : Tm, subE T [(2, .int .i64 p), (3, .list 1 (ints x)), (10, .int .i64 (w : Int)), (11, .sl 1 1 0 m), (40, .int .i64 (m : Int)), (41, .int .i64 ((i + 1 : Nat) : Int))] → SubI 0 T ([(4, ints ri ++ [.int .i64 (at0 x i)]), (3, [.int .i64 (at0 x i)]), (1, (rowsV Mi).set i (.sl 4 1 0 (w + 1))), (0, [.int .i64 n, .list 1 (ints l)])], 5) [(2, .int .i64 p), (3, .list 1 (ints x)), (10, .int .i64 (w : Int)), (11, .sl 1 1 0 m), (40, .int .i64 (m : Int)), (41, .int .i64 ((i + 1 : Nat) : Int))] ([(1, rowsV (pM O (wideG O x) (i + 1))), (0, [.int .i64 n, .list 1 (ints l)])], 2) := fun T hT => by
      have e1 : ints ri ++ [.int .i64 (at0 x i)] = ints (wideG O x i) := by rw [hGi, ← ints_app]; rfl
      rw [e1]
      refine SubI.fold 1 4 i 1 (w + 1) (cn := ints (wideG O x i)) (co := (rowsV Mi).set i (.sl 4 1 0 (w + 1))) rfl rfl (by simp [hpl, hiO]) (by simp [hGi, hrl]) ?_
      simp only [subE_cons, subE_nil, and_true] at hT
      obtain ⟨t1, t2, t3, t4, t5, t6⟩ := hT
      refine SubI.ren (fun m => if m = 0 then some 0 else if m = 1 then some 1 else none) ?_ ?_ ?_ (by simp) (by simp)
      · simp [subT, renV, ren1, ← t1, ← t2, ← t3, ← t4, ← t5, ← t6]
      · simp [subH, renL, ren1, hset]
      · intro m hm
        simp only at hm
        rw [if_neg (by omega), if_neg (by omega)]
    have htk : ri.take w = ri := List.take_of_length_le (by omega)
    simp -implicitDefEqProofs [sc_i_FillChain_L0, freeOk, hlt, hix, hpl, hOl]
    rw [htk]
    refine ⟨by omega, ⟨⟨by omega, by omega⟩, by omega, ?_⟩, ⟨by omega, by omega⟩, by omega, ?_⟩
    · exact Again.of (i + 1) (by omega) (by omega) (fin _ (by simp (disch := omega) [wrapI]))
    · exact Again.of (i + 1) (by omega) (by omega) (fin _ (by simp (disch := omega) [wrapI]))
  · have : i = m := by omega
    subst this
    refine ⟨_, _, SubI.slots rfl (by simp : subE [(2, .int .i64 p), (3, .list 1 (ints x)), (10, .int .i64 (w : Int)), (11, .sl 1 1 0 i), (40, .int .i64 (i : Int)), (41, .int .i64 (i : Int))] [(2, .int .i64 p), (3, .list 1 (ints x)), (10, .int .i64 (w : Int)), (11, .sl 1 1 0 i), (40, .int .i64 (i : Int)), (41, .int .i64 (i : Int))]), ?_⟩
    have hwd : pM O (wideG O x) i = wideM O x := by rw [← hOl]; rfl
    rw [hwd]
    have hrn : List.map (ren0 1 5) (ints P) = ints P := by simp [ints, ren0]
    simp -implicitDefEqProofs [sc_i_FillChain_L0, ren0, hG]
    rw [hrn]
    have hyes : filO R P w → filL R P w = filK R P w P.length ∧ dec (filO R P w) = true := fun h => ⟨filL_yes h, dec_true h⟩
    have hnot : ¬ filO R P w → filL R P w = [] ∧ dec (filO R P w) = false := fun h => ⟨filL_no h, dec_false h⟩
    generalize filL R P w = Lr at *
    generalize dec (filO R P w) = br at *
    refine loopI env mixed (fun q : Nat => [(10, .int .i64 (w : Int)), (11, .sl 1 1 0 i), (13, .sl 2 1 0 P.length), (14, .int .i64 (q : Int))]) (fun _ => ([(2, ints P), (1, rowsV R), (0, [.int .i64 n, .list 1 (ints l)])], 3)) (fun q => P.length ≤ q ∧ q ≤ i ∧ ∀ s, P.length ≤ s → s < q → at0 (atR R s) w = 0) (fun q => i - q) P.length ⟨by omega, by omega, fun s h1 h2 => by omega⟩ (SubI.slots (by simp) (by simp)) ?_
    rintro q ⟨q1, q2, q3⟩
    by_cases hq : q < i
    · have hqR : q < R.length := by omega
      obtain ⟨hrl, _⟩ := hokR q hqR
      have hself := rowsV_self (M := R) (i := q) hqR
      by_cases hz : at0 (atR R q) w = 0
      · simp -implicitDefEqProofs [sc_i_FillChain_L2, hq, hqR, hlR, hrl, hz]
        repeat' (first | omega | apply And.intro)
        refine Again.of (q + 1) ⟨by omega, by omega, fun s h1 h2 => ?_⟩ (by omega) ?_
        · rcases Nat.lt_succ_iff_lt_or_eq.1 h2 with h | rfl
          · exact q3 s h1 h
          · exact hz
        refine SubI.fold 1 3 q 1 (w + 1) (cn := ints (atR R q)) (co := (rowsV R).set q (.sl 3 1 0 (w + 1))) rfl rfl (by simp [hqR]) (by simp [hrl]) ?_
        refine SubI.ren (fun m => if m = 0 then some 0 else if m = 1 then some 1 else if m = 2 then some 2 else none) ?_ ?_ ?_ (by simp) (by simp)
        · simp (disch := omega) [subT, renV, ren1, wrapI]
        · simp [subH, renL, ren1, hself]
        · intro m hm
          simp only at hm
          rw [if_neg (by omega), if_neg (by omega), if_neg (by omega)]
      · obtain ⟨eL, eb⟩ := hnot fun hO => hz (hO q q1 hqR)
        subst eL eb
        simp -implicitDefEqProofs [sc_i_FillChain_L2, hq, hqR, hlR, hrl, hz]
        try omega
    · have hqi : q = i := by omega
      subst hqi
      obtain ⟨eL, eb⟩ := hyes fun s h1 h2 => q3 s h1 (by omega)
      subst eL eb
      have hw1 : (0 : Int) ≤ w := by omega
      simp -implicitDefEqProofs [sc_i_FillChain_L2]
      repeat' (first | omega | apply And.intro)
      refine loopI env mixed (fun s : Nat => [(10, .int .i64 (w : Int)), (11, .sl 1 1 0 q), (15, .sl 3 1 0 w), (80, .sl 2 1 0 P.length), (81, .int .i64 (P.length : Int)), (82, .int .i64 (s : Int))]) (fun s => ([(3, ints (filK R P w s)), (2, ints P), (1, rowsV R), (0, [.int .i64 n, .list 1 (ints l)])], 4)) (fun s => s ≤ P.length) (fun s => P.length - s) 0 (by simp) (SubI.slots (by simp [filK]) (by simp)) ?_
      intro s hs
      by_cases hlt2 : s < P.length
      · obtain ⟨e1, e2⟩ := hjP s hlt2
        have hsR : s < R.length := by omega
        have hsq : s < q := by omega
        obtain ⟨hrl, _⟩ := hokR s hsR
        obtain ⟨c, hc⟩ : ∃ c : Nat, at0 P s = c := ⟨(at0 P s).toNat, by omega⟩
        have hcw : c < w := by omega
        have hstep : filK R P w (s + 1) = (filK R P w s).set c (at0 (atR R s) w) := by rw [filK, hc, Int.toNat_natCast]
        have hkl := filK_len R P w s
        have hself := rowsV_self (M := R) (i := s) hsR
        generalize filK R P w s = g at *
        simp -implicitDefEqProofs [sc_i_FillChain_L4, hlt2, hsR, hsq, hlR, hc, hcw, hkl, hrl]
        repeat' (first | omega | apply And.intro)
        refine Again.of (s + 1) (by omega) (by omega) ?_
        refine SubI.fold 1 4 s 1 (w + 1) (cn := ints (atR R s)) (co := (rowsV R).set s (.sl 4 1 0 (w + 1))) rfl rfl (by simp [hsR]) (by simp [hrl]) ?_
        refine SubI.ren (fun m => if m = 0 then some 0 else if m = 1 then some 1 else if m = 2 then some 2 else if m = 3 then some 3 else none) ?_ ?_ ?_ (by simp) (by simp)
        · simp (disch := omega) [subT, renV, ren1, wrapI]
        · simp [subH, renL, ren1, hself, hstep]
        · intro m hm
          simp only at hm
          rw [if_neg (by omega), if_neg (by omega), if_neg (by omega), if_neg (by omega)]
      · have : s = P.length := by omega
        subst this
        have htk : (filK R P w P.length).take w = filK R P w P.length := List.take_of_length_le (by simp)
        simp -implicitDefEqProofs [sc_i_FillChain_L4, htk]
        try omega
end Go.Proofs.Ytncnohompmcddaa
