import Derived.Test.YtmemomfffehnkaaDrH
namespace Go.Proofs.Ytmemomfffehnkaa
open Go Go.RowKit
set_option maxRecDepth 1000000
set_option linter.unusedSimpArgs false
set_option linter.unusedVariables false
set_option maxHeartbeats 1000000
def sc_s_DrawIsDivision_L0 : SC := (.seq (.seq (.reg [⟨(some 37), none, (.mov (.t 10))⟩, ⟨(some 38), none, (.fad 1 (.t 5))⟩, ⟨(some 39), none, (.ld none .nil (.t 38))⟩, ⟨(some 40), none, (.len (.t 39))⟩, ⟨(some 41), none, (.bin false .lss (.t 37) (.t 40))⟩]) (.cond (.t 41) .skip (.exit 0))) (.seq (.block 1 (.treg (.fst ⟨(some 44), none, (.mov (.t 8))⟩ true (.fst ⟨(some 45), none, (.fad 1 (.t 5))⟩ true (.fst ⟨(some 47), none, (.mov (.t 10))⟩ true (.fst ⟨(some 50), none, (.mov (.t 4))⟩ false (.alt ⟨(some 46), none, (.ld none .nil (.t 45))⟩ false (.fst ⟨(some 48), none, (.idx 1 (.t 46) (.t 47))⟩ true (.alt ⟨(some 49), none, (.ld none (.int .i64 0) (.t 48))⟩ false (.alt ⟨(some 51), none, (.call 129 [(.t 50), (.c (.int .i64 64))])⟩ true (.fst ⟨(some 52), none, (.bin false .and (.t 49) (.t 51))⟩ false (.alt ⟨(some 53), none, (.mks 1 1 [(.int .i64 0)] [(0, (1, (.t 52)))])⟩ true (.alt ⟨(some 54), none, (.app 1 8 (.t 44) (.t 53))⟩ true (.fst ⟨(some 8), none, (.mov (.t 54))⟩ false .done) .stop) .stop)) .stop) (.alt ⟨(some 51), none, (.call 129 [(.t 50), (.c (.int .i64 64))])⟩ true (.fst ⟨(some 49), none, (.ld none (.int .i64 0) (.t 48))⟩ false (.fst ⟨(some 52), none, (.bin false .and (.t 49) (.t 51))⟩ false (.alt ⟨(some 53), none, (.mks 1 1 [(.int .i64 0)] [(0, (1, (.t 52)))])⟩ true (.alt ⟨(some 54), none, (.app 1 8 (.t 44) (.t 53))⟩ true (.fst ⟨(some 8), none, (.mov (.t 54))⟩ false .done) .stop) .stop))) .stop))) (.alt ⟨(some 51), none, (.call 129 [(.t 50), (.c (.int .i64 64))])⟩ true (.fst ⟨(some 46), none, (.ld none .nil (.t 45))⟩ false (.fst ⟨(some 48), none, (.idx 1 (.t 46) (.t 47))⟩ false (.fst ⟨(some 49), none, (.ld none (.int .i64 0) (.t 48))⟩ false (.fst ⟨(some 52), none, (.bin false .and (.t 49) (.t 51))⟩ false (.alt ⟨(some 53), none, (.mks 1 1 [(.int .i64 0)] [(0, (1, (.t 52)))])⟩ true (.alt ⟨(some 54), none, (.app 1 8 (.t 44) (.t 53))⟩ true (.fst ⟨(some 8), none, (.mov (.t 54))⟩ false .done) .stop) .stop))))) .stop)))))))) (.reg [⟨(some 42), none, (.mov (.t 10))⟩, ⟨(some 43), none, (.bin false .add (.t 42) (.c (.int .i64 1)))⟩, ⟨(some 10), none, (.mov (.t 43))⟩])))
def sc_s_DrawIsDivision : SC := (.seq (.reg [⟨(some 2), none, (.new [(.int .i64 0), .nil])⟩, ⟨(some 3), none, (.mov (.c .nil))⟩]) (.seq (.reg [⟨(some 11), none, (.mov (.t 0))⟩, ⟨(some 12), none, (.call 128 [(.t 11)])⟩, ⟨(some 4), none, (.mov (.t 12))⟩]) (.seq (.reg [⟨(some 13), none, (.mov (.t 4))⟩, ⟨(some 14), none, (.call 201 [(.t 13)])⟩, ⟨(some 5), none, (.new [(.int .i64 0), .nil])⟩, ⟨none, none, (.st 2 (.t 5) (.t 14))⟩]) (.seq (.reg [⟨(some 16), none, (.ld (some 2) .undef (.t 5))⟩, ⟨(some 17), none, (.call 31 [(.t 16)])⟩, ⟨(some 15), none, (.mov (.t 17))⟩, ⟨(some 18), none, (.ext 0 (.t 15))⟩, ⟨(some 19), none, (.ext 1 (.t 15))⟩, ⟨(some 6), none, (.mov (.t 18))⟩, ⟨(some 7), none, (.mov (.t 19))⟩]) (.seq (.reg [⟨(some 21), none, (.ld (some 2) .undef (.t 5))⟩, ⟨(some 22), none, (.mov (.t 6))⟩, ⟨(some 23), none, (.call 109 [(.t 21), (.t 22)])⟩, ⟨(some 20), none, (.mov (.t 23))⟩, ⟨(some 24), none, (.ext 0 (.t 20))⟩, ⟨(some 25), none, (.ext 1 (.t 20))⟩, ⟨(some 8), none, (.mov (.t 24))⟩, ⟨(some 9), none, (.mov (.t 25))⟩]) (.seq (.seq (.reg [⟨(some 26), none, (.mov (.t 7))⟩, ⟨(some 27), none, (.un .not (.t 26))⟩, ⟨(some 28), none, (.mov (.t 27))⟩, ⟨(some 29), (some (28, false)), (.mov (.t 9))⟩, ⟨(some 30), (some (28, false)), (.un .not (.t 29))⟩, ⟨(some 31), none, (.pick (.t 28) (.c (.bool true)) (.t 30))⟩, ⟨(some 32), none, (.mov (.t 31))⟩, ⟨(some 33), (some (32, false)), (.mov (.t 4))⟩, ⟨(some 34), (some (32, false)), (.call 162 [(.t 33), (.c (.int .i64 3))])⟩, ⟨(some 35), none, (.pick (.t 32) (.c (.bool true)) (.t 34))⟩]) (.cond (.t 35) (.seq (.reg [⟨(some 36), none, (.mks 0 1 [] [])⟩, ⟨(some 8), none, (.mov (.t 36))⟩]) (.seq (.reg [⟨(some 10), none, (.mov (.c (.int .i64 0)))⟩]) (.block 0 (.loop sc_s_DrawIsDivision_L0)))) .skip)) (.seq (.seq (.reg [⟨(some 55), none, (.mov (.t 8))⟩, ⟨(some 56), none, (.len (.t 55))⟩, ⟨(some 57), none, (.bin false .gtr (.t 56) (.c (.int .i64 0)))⟩, ⟨(some 58), none, (.mov (.t 57))⟩, ⟨(some 59), (some (58, true)), (.mov (.t 4))⟩, ⟨(some 60), (some (58, true)), (.call 162 [(.t 59), (.c (.int .i64 10))])⟩, ⟨(some 61), none, (.pick (.t 58) (.t 60) (.c (.bool false)))⟩]) (.cond (.t 61) (.reg [⟨(some 62), none, (.mov (.t 8))⟩, ⟨(some 63), none, (.mov (.t 4))⟩, ⟨(some 64), none, (.call 129 [(.t 63), (.c (.int .i64 66))])⟩, ⟨(some 65), none, (.bin false .sub (.t 64) (.c (.int .i64 1)))⟩, ⟨(some 66), none, (.idx 1 (.t 62) (.c (.int .i64 0)))⟩, ⟨none, none, (.st 1 (.t 66) (.t 65))⟩]) .skip)) (.seq (.reg [⟨(some 67), none, (.ld (some 2) .undef (.t 5))⟩, ⟨(some 68), none, (.mov (.t 8))⟩, ⟨none, none, (.st 2 (.t 2) (.t 67))⟩, ⟨(some 3), none, (.mov (.t 68))⟩]) .ret))))))))
theorem code_s_DrawIsDivision : fnCode Try.prog [129, 777777] 106 = some (69, sc_s_DrawIsDivision, [(2, (some 2)), (3, none)]) := by kernel_rfl
/-- Parts of the facets, one behind another, and the cursor there. -/
noncomputable def mI (l : List Int) (c : Cur) : Nat → List Int × Cur
  | 0 => ([], c)
  | k + 1 => ((mI l c k).1 ++ [band (at0 l k) (belowN (mI l c k).2 64).1], (belowN (mI l c k).2 64).2)
theorem band_rng (a : Int) {b : Int} (h : 0 ≤ b ∧ b < 64) : 0 ≤ band a b ∧ band a b ≤ 63 := by
  obtain ⟨k, rfl⟩ := Int.eq_ofNat_of_zero_le h.1
  have := mask_rng k a (by omega)
  show 0 ≤ bitop .and .i64 a (k : Int) ∧ bitop .and .i64 a (k : Int) ≤ 63
  omega
theorem mI_ok {l : List Int} {c : Cur} (h : wfC c) : ∀ k, (mI l c k).1.length = k ∧ wfC (mI l c k).2 ∧ ∀ x ∈ (mI l c k).1, -1 ≤ x ∧ x ≤ 64
  | 0 => ⟨rfl, h, by simp [mI]⟩
  | k + 1 => by
    obtain ⟨i1, i2, i3⟩ := mI_ok (l := l) h k
    refine ⟨by simp [mI, i1], belowN_wf i2 _, fun x hx => ?_⟩
    simp only [mI, List.mem_append, List.mem_singleton] at hx
    rcases hx with hx | hx
    · exact i3 x hx
    · have := band_rng (at0 l k) (belowN_rng (mI l c k).2 (n := 64) (by omega))
      omega
noncomputable def finL (o : List Int) (c : Cur) : List Int := if decide (0 < o.length) && onceN c 10 then o.set 0 ((belowN (belowN c 10).2 66).1 - 1) else o
theorem finL_num {o : List Int} {c : Cur} (hl : ∀ x ∈ o, -1 ≤ x ∧ x ≤ 64) : (finL o c).length = o.length ∧ ∀ x ∈ finL o c, -1 ≤ x ∧ x ≤ 64 := by
  unfold finL
  split
  · refine ⟨by simp, fun x hx => ?_⟩
    rcases List.mem_or_eq_of_mem_set hx with hx | hx
    · exact hl x hx
    · have := belowN_rng (belowN c 10).2 (n := 66) (by omega)
      omega
  · exact ⟨rfl, hl⟩
open Classical in
noncomputable def dcaseL (n : Int) (l : List Int) (c : Cur) : List Int :=
  if dec (fshP n l) = true then (if onceN c 3 = true then finL (mI l (belowN c 3).2 l.length).1 (mI l (belowN c 3).2 l.length).2 else finL (divfL n l (fshL n l)) (belowN c 3).2)
  else finL (mI l c l.length).1 (mI l c l.length).2
theorem dcaseL_num {n : Int} {l : List Int} {c : Cur} (h : wfC c) (hn : numR n l) : (dcaseL n l c).length ≤ 65 ∧ ∀ x ∈ dcaseL n l c, -1 ≤ x ∧ x ≤ 64 := by
  unfold dcaseL
  have hl := hn.2.1
  split
  · rename_i hf
    split
    · obtain ⟨a, _, b⟩ := mI_ok (l := l) (belowN_wf h 3) l.length
      obtain ⟨d, e⟩ := finL_num (c := (mI l (belowN c 3).2 l.length).2) b
      exact ⟨by omega, e⟩
    · have hd := div_shell (fsh_ok (dec_iff.1 hf))
      have hb : ∀ x ∈ divfL n l (fshL n l), -1 ≤ x ∧ x ≤ 64 := fun x hx => by
        obtain ⟨k, hk, e⟩ := getD_mem_iff.1 hx
        have := (hd.2.2.1 k hk).1
        rw [e] at this
        unfold isS at this
        omega
      obtain ⟨d, e⟩ := finL_num (c := (belowN c 3).2) hb
      exact ⟨by rw [d, hd.2.1]; omega, e⟩
  · obtain ⟨a, _, b⟩ := mI_ok (l := l) h l.length
    obtain ⟨d, e⟩ := finL_num (c := (mI l c l.length).2) b
    exact ⟨by omega, e⟩
noncomputable def F_s_DrawIsDivision : List V → Option V := F1 dBy fun b => some (.tup [.agg [.int .i64 (fewN (newCur b)).1.1, .own 1 (ints (fewN (newCur b)).1.2)], .own 1 (ints (dcaseL (fewN (newCur b)).1.1 (fewN (newCur b)).1.2 (fewN (newCur b)).2))])
theorem fn_s_DrawIsDivision : FnOk Try.prog 106 F_s_DrawIsDivision := by
  have env := ((((((envNil_ok (P := Try.prog)).add fn_s_l1New).add fn_s_FindShelling).add fn_s_DivisionFrom).addl ln_s_l1Once).addl ln_s_l1Below).addl ln_s_l21Few
  refine fn_ok code_s_DrawIsDivision mixed env ?_
  intro args r h hb
  obtain ⟨_, b, rfl, h1, h4⟩ := F1_inv h
  obtain ⟨hw, rfl⟩ := dBy_inv h1
  cases h4
  clear h hb h1
  refine ⟨by simp, fun w0 U0 L0 N0 => ?_⟩
  have hN : F_s_l1New [.list 1 (u8s b)] = some (.opt (curC (newCur b))) := by
    simp only [F_s_l1New, F1_mk, dBy_list hw, Option.bind_some]
  have v0 := newCur_wf hw
  have g0 := G_few v0
  have v1 := fewN_wf v0
  have hnum := fewN_num (newCur b)
  generalize fewN (newCur b) = x at *
  generalize newCur b = c0 at *
  obtain ⟨⟨n, l⟩, c⟩ := x
  simp only at g0 v1 hnum ⊢
  have g1 := G_once v1 3
  have v2 := belowN_wf v1 3
  have hF : F_s_FindShelling [.agg [.int .i64 n, .list 1 (ints l)]] = some (.tup [.own 1 (ints (fshL n l)), .bool (dec (fshP n l))]) := by
    simp only [F_s_FindShelling, F1_mk, dC_agg, Option.bind_some]
  have hD : F_s_DivisionFrom [.agg [.int .i64 n, .list 1 (ints l)], .list 1 (ints (fshL n l))] = some (.tup [.own 1 (ints (divfL n l (fshL n l))), .bool (shellB n l (fshL n l))]) := by
    simp only [F_s_DivisionFrom, F2_mk, dC_agg, dL_list, Option.bind_some]
  have hfs : dec (fshP n l) = true → shellB n l (fshL n l) = true := fun h => fsh_ok (dec_iff.1 h)
  have hdl : dec (fshP n l) = true → (divfL n l (fshL n l)).length = l.length := fun h => (div_shell (fsh_ok (dec_iff.1 h))).2.1
  have eC : dcaseL n l c = if dec (fshP n l) = true then (if onceN c 3 = true then finL (mI l (belowN c 3).2 l.length).1 (mI l (belowN c 3).2 l.length).2 else finL (divfL n l (fshL n l)) (belowN c 3).2)
    else finL (mI l c l.length).1 (mI l c l.length).2 := rfl
  generalize dcaseL n l c = R at *
  generalize divfL n l (fshL n l) = O at *
  generalize shellB n l (fshL n l) = sh at *
  generalize fshL n l = S at *
  have hnl := hnum.2.1
  cases hd : dec (fshP n l) with
  | false =>
    rw [hd, if_neg (by simp)] at eC
    rw [hd] at hF
    simp -implicitDefEqProofs [sc_s_DrawIsDivision, ren0, hN, g0, hF, hD]
    have vd := v1
    have ed := eC
    clear g0 g1 v2 eC
    generalize c = d at *
    clear hN hF v0 v1
    have hok := fun k => mI_ok (l := l) vd k
    have hst : ∀ k, mI l d (k + 1) = ((mI l d k).1 ++ [band (at0 l k) (belowN (mI l d k).2 64).1], (belowN (mI l d k).2 64).2) := fun k => rfl
    have h00 : mI l d 0 = ([], d) := rfl
    generalize mI l d = f at *
    refine loopI env mixed (fun k : Nat => [(2, .pt 0 0), (4, .pt 1 0), (5, .pt 3 0), (8, .sl 4 1 0 k), (10, .int .i64 (k : Int))]) (fun k => ([(4, ints (f k).1), (3, [.int .i64 n, .sl 2 1 0 l.length]), (2, ints l), (1, curC (f k).2), (0, [.int .i64 0, .nil])], 5)) (fun k => k ≤ l.length) (fun k => l.length - k) 0 (by simp) ?_ ?_
    · refine SubI.ren (fun m => if m = 0 then some 0 else if m = 1 then some 1 else if m = 2 then some 2 else if m = 3 then some 3 else if m = 4 then some 6 else none) ?_ ?_ ?_ (by simp) (by simp)
      · simp [renV, ren1]
      · simp [renL, ren1, h00]
      · intro n hn
        simp only at hn
        have h1 : n ≠ 0 := by omega
        have h2 : n ≠ 1 := by omega
        have h3 : n ≠ 2 := by omega
        have h4 : n ≠ 3 := by omega
        have h5 : n ≠ 4 := by omega
        simp [h1, h2, h3, h4, h5]
    intro k hk
    obtain ⟨l1, l2, l3⟩ := hok k
    have hwk : IntKind.i64.wrap ((k : Int) + 1) = (k : Int) + 1 := wrapI _ (by omega) (by omega)
    have h3 : (f k).1.take k = (f k).1 := List.take_of_length_le (by omega)
    by_cases hlt : k < l.length
    · have g := G_below l2 64
      have e := hst k
      have k1 : (k + 1) * 8 ≤ 140737488355328 := by omega
      simp -implicitDefEqProofs [sc_s_DrawIsDivision_L0, freeOk, ren0, hlt, g, l1, hwk, h3, k1]
      refine ⟨⟨?_, ?_⟩, ?_⟩
      all_goals
        refine Again.of (k + 1) (by omega) (by omega) (SubI.ren (fun m => if m = 0 then some 0 else if m = 1 then some 1 else if m = 2 then some 2 else if m = 3 then some 3 else if m = 4 then some 6 else none) ?_ ?_ ?_ (by simp) (by simp))
        · simp [renV, ren1]
        · rw [ints_snoc]
          simp [renL, ren1, e]
        · intro n hn
          simp only at hn
          have h1 : n ≠ 0 := by omega
          have h2 : n ≠ 1 := by omega
          have h3 : n ≠ 2 := by omega
          have h4 : n ≠ 3 := by omega
          have h5 : n ≠ 4 := by omega
          simp [h1, h2, h3, h4, h5]
    · have hkk : k = l.length := by omega
      subst hkk
      have gA := G_once l2 10
      have w2 := belowN_wf l2 10
      have gB := G_below w2 66
      have rB := belowN_rng (belowN (f l.length).2 10).2 (n := 66) (by omega)
      have hwB : IntKind.i64.wrap ((belowN (belowN (f l.length).2 10).2 66).1 - 1) = (belowN (belowN (f l.length).2 10).2 66).1 - 1 := wrapI _ (by omega) (by omega)
      by_cases hp : 0 < l.length
      · have hp2 : (0 : Int) < l.length := by omega
        cases ho2 : onceN (f l.length).2 10 with
        | true =>
          rw [ho2] at gA
          have eR : R = (f l.length).1.set 0 ((belowN (belowN (f l.length).2 10).2 66).1 - 1) := by rw [ed]; simp [finL, l1, hp, ho2]
          rw [eR]
          have a3 : ((f l.length).1.set 0 ((belowN (belowN (f l.length).2 10).2 66).1 - 1)).take l.length = (f l.length).1.set 0 ((belowN (belowN (f l.length).2 10).2 66).1 - 1) := List.take_of_length_le (by simp [l1])
          simp -implicitDefEqProofs [sc_s_DrawIsDivision_L0, freeOk, ren0, gA, gB, hwB, hp, hp2, l1, h3, a3]
          try omega
        | false =>
          rw [ho2] at gA
          have eR : R = (f l.length).1 := by rw [ed]; simp [finL, ho2]
          rw [eR]
          simp -implicitDefEqProofs [sc_s_DrawIsDivision_L0, freeOk, ren0, gA, hp, hp2, l1, h3]
          try omega
      · have hp2 : ¬ (0 : Int) < l.length := by omega
        have eR : R = (f l.length).1 := by rw [ed]; simp [finL, l1, hp]
        rw [eR]
        simp -implicitDefEqProofs [sc_s_DrawIsDivision_L0, freeOk, ren0, hp, hp2, l1, h3]
        try omega
  | true =>
    rw [hd, if_pos rfl] at eC
    rw [hd] at hF
    have hs := hfs hd
    subst hs
    cases ho : onceN c 3 with
    | true =>
      rw [ho, if_pos rfl] at eC
      rw [ho] at g1
      simp -implicitDefEqProofs [sc_s_DrawIsDivision, ren0, hN, g0, hF, hD, g1]
      have vd := v2
      have ed := eC
      clear g0 g1 v2 eC
      generalize (belowN c 3).2 = d at *
      clear hN hF v0 v1
      have hok := fun k => mI_ok (l := l) vd k
      have hst : ∀ k, mI l d (k + 1) = ((mI l d k).1 ++ [band (at0 l k) (belowN (mI l d k).2 64).1], (belowN (mI l d k).2 64).2) := fun k => rfl
      have h00 : mI l d 0 = ([], d) := rfl
      generalize mI l d = f at *
      refine loopI env mixed (fun k : Nat => [(2, .pt 0 0), (4, .pt 1 0), (5, .pt 3 0), (8, .sl 4 1 0 k), (10, .int .i64 (k : Int))]) (fun k => ([(4, ints (f k).1), (3, [.int .i64 n, .sl 2 1 0 l.length]), (2, ints l), (1, curC (f k).2), (0, [.int .i64 0, .nil])], 5)) (fun k => k ≤ l.length) (fun k => l.length - k) 0 (by simp) ?_ ?_
      · refine SubI.ren (fun m => if m = 0 then some 0 else if m = 1 then some 1 else if m = 2 then some 2 else if m = 3 then some 3 else if m = 4 then some 6 else none) ?_ ?_ ?_ (by simp) (by simp)
        · simp [renV, ren1]
        · simp [renL, ren1, h00]
        · intro n hn
          simp only at hn
          have h1 : n ≠ 0 := by omega
          have h2 : n ≠ 1 := by omega
          have h3 : n ≠ 2 := by omega
          have h4 : n ≠ 3 := by omega
          have h5 : n ≠ 4 := by omega
          simp [h1, h2, h3, h4, h5]
      intro k hk
      obtain ⟨l1, l2, l3⟩ := hok k
      have hwk : IntKind.i64.wrap ((k : Int) + 1) = (k : Int) + 1 := wrapI _ (by omega) (by omega)
      have h3 : (f k).1.take k = (f k).1 := List.take_of_length_le (by omega)
      by_cases hlt : k < l.length
      · have g := G_below l2 64
        have e := hst k
        have k1 : (k + 1) * 8 ≤ 140737488355328 := by omega
        simp -implicitDefEqProofs [sc_s_DrawIsDivision_L0, freeOk, ren0, hlt, g, l1, hwk, h3, k1]
        refine ⟨⟨?_, ?_⟩, ?_⟩
        all_goals
          refine Again.of (k + 1) (by omega) (by omega) (SubI.ren (fun m => if m = 0 then some 0 else if m = 1 then some 1 else if m = 2 then some 2 else if m = 3 then some 3 else if m = 4 then some 6 else none) ?_ ?_ ?_ (by simp) (by simp))
          · simp [renV, ren1]
          · rw [ints_snoc]
            simp [renL, ren1, e]
          · intro n hn
            simp only at hn
            have h1 : n ≠ 0 := by omega
            have h2 : n ≠ 1 := by omega
            have h3 : n ≠ 2 := by omega
            have h4 : n ≠ 3 := by omega
            have h5 : n ≠ 4 := by omega
            simp [h1, h2, h3, h4, h5]
      · have hkk : k = l.length := by omega
        subst hkk
        have gA := G_once l2 10
        have w2 := belowN_wf l2 10
        have gB := G_below w2 66
        have rB := belowN_rng (belowN (f l.length).2 10).2 (n := 66) (by omega)
        have hwB : IntKind.i64.wrap ((belowN (belowN (f l.length).2 10).2 66).1 - 1) = (belowN (belowN (f l.length).2 10).2 66).1 - 1 := wrapI _ (by omega) (by omega)
        by_cases hp : 0 < l.length
        · have hp2 : (0 : Int) < l.length := by omega
          cases ho2 : onceN (f l.length).2 10 with
          | true =>
            rw [ho2] at gA
            have eR : R = (f l.length).1.set 0 ((belowN (belowN (f l.length).2 10).2 66).1 - 1) := by rw [ed]; simp [finL, l1, hp, ho2]
            rw [eR]
            have a3 : ((f l.length).1.set 0 ((belowN (belowN (f l.length).2 10).2 66).1 - 1)).take l.length = (f l.length).1.set 0 ((belowN (belowN (f l.length).2 10).2 66).1 - 1) := List.take_of_length_le (by simp [l1])
            simp -implicitDefEqProofs [sc_s_DrawIsDivision_L0, freeOk, ren0, gA, gB, hwB, hp, hp2, l1, h3, a3]
            try omega
          | false =>
            rw [ho2] at gA
            have eR : R = (f l.length).1 := by rw [ed]; simp [finL, ho2]
            rw [eR]
            simp -implicitDefEqProofs [sc_s_DrawIsDivision_L0, freeOk, ren0, gA, hp, hp2, l1, h3]
            try omega
        · have hp2 : ¬ (0 : Int) < l.length := by omega
          have eR : R = (f l.length).1 := by rw [ed]; simp [finL, l1, hp]
          rw [eR]
          simp -implicitDefEqProofs [sc_s_DrawIsDivision_L0, freeOk, ren0, hp, hp2, l1, h3]
          try omega
    | false =>
      rw [ho, if_neg (by simp)] at eC
      rw [ho] at g1
      have hol := hdl hd
      have vd := v2
      generalize (belowN c 3).2 = d at *
      have gA := G_once vd 10
      have w2 := belowN_wf vd 10
      have gB := G_below w2 66
      have rB := belowN_rng (belowN d 10).2 (n := 66) (by omega)
      have hwB : IntKind.i64.wrap ((belowN (belowN d 10).2 66).1 - 1) = (belowN (belowN d 10).2 66).1 - 1 := wrapI _ (by omega) (by omega)
      by_cases hp : 0 < O.length
      · have hp2 : (0 : Int) < O.length := by omega
        cases ho2 : onceN d 10 with
        | true =>
          rw [ho2] at gA
          have eR : R = O.set 0 ((belowN (belowN d 10).2 66).1 - 1) := by rw [eC]; simp [finL, hp, ho2]
          rw [eR]
          have a3 : (O.set 0 ((belowN (belowN d 10).2 66).1 - 1)).take O.length = O.set 0 ((belowN (belowN d 10).2 66).1 - 1) := List.take_of_length_le (by simp)
          simp -implicitDefEqProofs [sc_s_DrawIsDivision, ren0, hN, g0, hF, hD, g1, gA, gB, hwB, hp, hp2, a3]
          try omega
        | false =>
          rw [ho2] at gA
          have eR : R = O := by rw [eC]; simp [finL, ho2]
          rw [eR]
          simp -implicitDefEqProofs [sc_s_DrawIsDivision, ren0, hN, g0, hF, hD, g1, gA, hp, hp2]
          try omega
      · have hp2 : ¬ (0 : Int) < O.length := by omega
        have eR : R = O := by rw [eC]; simp [finL, hp]
        rw [eR]
        simp -implicitDefEqProofs [sc_s_DrawIsDivision, ren0, hN, g0, hF, hD, g1, hp, hp2]
        try omega
end Go.Proofs.Ytmemomfffehnkaa
