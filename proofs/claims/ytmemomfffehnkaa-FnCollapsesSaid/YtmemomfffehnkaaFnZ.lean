import Derived.Test.YtmemomfffehnkaaKG
namespace Go.Proofs.Ytmemomfffehnkaa
open Go Go.RowKit
set_option maxRecDepth 1000000
set_option linter.unusedSimpArgs false
set_option linter.unusedVariables false
set_option maxHeartbeats 1000000
def sc_s_l1Bit : SC := (.seq (.reg [⟨(some 2), none, (.mov (.c (.int .i64 0)))⟩]) (.seq (.seq (.reg [⟨(some 3), none, (.mov (.t 0))⟩]) (.cond (.t 3) (.seq (.reg [⟨(some 2), none, (.mov (.c (.int .i64 1)))⟩]) .ret) .skip)) (.seq (.reg [⟨(some 2), none, (.mov (.c (.int .i64 0)))⟩]) .ret)))
theorem code_s_l1Bit : fnCode Try.prog [] 164 = some (4, sc_s_l1Bit, [(2, none)]) := by kernel_rfl
def F_s_l1Bit : List V → Option V := F1 dB fun b => some (.int .i64 (if b = true then 1 else 0))
theorem fn_s_l1Bit : FnOk Try.prog 164 F_s_l1Bit := by
  refine fn_ok code_s_l1Bit mixed envNil_ok ?_
  intro args r h hb
  obtain ⟨_, b, rfl, h1, h4⟩ := F1_inv h
  cases dB_inv h1
  cases h4
  refine ⟨by simp, fun w0 U0 L0 N0 => ?_⟩
  cases b <;> simp -implicitDefEqProofs [sc_s_l1Bit]
def sc_s_l21Once_L2 : SC := (.seq (.seq (.reg [⟨(some 18), none, (.mov (.t 11))⟩, ⟨(some 19), none, (.mov (.t 2))⟩, ⟨(some 20), none, (.len (.t 19))⟩, ⟨(some 21), none, (.bin false .lss (.t 18) (.t 20))⟩]) (.cond (.t 21) .skip (.exit 2))) (.seq (.block 3 (.dreg [⟨⟨(some 24), none, (.mov (.t 10))⟩, false, false⟩, ⟨⟨(some 25), none, (.mov (.t 0))⟩, false, false⟩, ⟨⟨(some 26), none, (.mov (.t 9))⟩, false, false⟩, ⟨⟨(some 27), none, (.idx 1 (.t 25) (.t 26))⟩, false, false⟩, ⟨⟨(some 28), none, (.ld none (.int .i64 0) (.t 27))⟩, false, false⟩, ⟨⟨(some 29), none, (.mov (.t 2))⟩, false, false⟩, ⟨⟨(some 30), none, (.mov (.t 11))⟩, false, false⟩, ⟨⟨(some 31), none, (.idx 1 (.t 29) (.t 30))⟩, false, false⟩, ⟨⟨(some 32), none, (.ld none (.int .i64 0) (.t 31))⟩, false, false⟩, ⟨⟨(some 33), none, (.bin false .and (.t 28) (.t 32))⟩, false, false⟩, ⟨⟨(some 34), none, (.mov (.t 2))⟩, false, false⟩, ⟨⟨(some 35), none, (.mov (.t 11))⟩, false, false⟩, ⟨⟨(some 36), none, (.idx 1 (.t 34) (.t 35))⟩, false, false⟩, ⟨⟨(some 37), none, (.ld none (.int .i64 0) (.t 36))⟩, false, false⟩, ⟨⟨(some 38), none, (.bin false .eql (.t 33) (.t 37))⟩, false, false⟩, ⟨⟨(some 39), none, (.mov (.t 38))⟩, false, false⟩, ⟨⟨(some 40), (some (39, true)), (.mov (.t 1))⟩, false, false⟩, ⟨⟨(some 41), (some (39, true)), (.mov (.t 11))⟩, false, false⟩, ⟨⟨(some 42), (some (39, true)), (.idx 1 (.t 40) (.t 41))⟩, false, false⟩, ⟨⟨(some 43), (some (39, true)), (.ld none (.int .i64 0) (.t 42))⟩, false, false⟩, ⟨⟨(some 44), (some (39, true)), (.mov (.t 0))⟩, false, false⟩, ⟨⟨(some 45), (some (39, true)), (.mov (.t 9))⟩, false, false⟩, ⟨⟨(some 46), (some (39, true)), (.idx 1 (.t 44) (.t 45))⟩, false, false⟩, ⟨⟨(some 47), (some (39, true)), (.ld none (.int .i64 0) (.t 46))⟩, false, false⟩, ⟨⟨(some 48), (some (39, true)), (.bin false .and (.t 43) (.t 47))⟩, false, false⟩, ⟨⟨(some 49), (some (39, true)), (.mov (.t 0))⟩, false, false⟩, ⟨⟨(some 50), (some (39, true)), (.mov (.t 9))⟩, false, false⟩, ⟨⟨(some 51), (some (39, true)), (.idx 1 (.t 49) (.t 50))⟩, false, false⟩, ⟨⟨(some 52), (some (39, true)), (.ld none (.int .i64 0) (.t 51))⟩, false, false⟩, ⟨⟨(some 53), (some (39, true)), (.bin false .eql (.t 48) (.t 52))⟩, false, false⟩, ⟨⟨(some 54), none, (.pick (.t 39) (.t 53) (.c (.bool false)))⟩, false, false⟩, ⟨⟨(some 55), none, (.call 164 [(.t 54)])⟩, false, false⟩, ⟨⟨(some 56), none, (.bin false .add (.t 24) (.t 55))⟩, false, false⟩, ⟨⟨(some 10), none, (.mov (.t 56))⟩, false, false⟩])) (.reg [⟨(some 22), none, (.mov (.t 11))⟩, ⟨(some 23), none, (.bin false .add (.t 22) (.c (.int .i64 1)))⟩, ⟨(some 11), none, (.mov (.t 23))⟩])))
def sc_s_l21Once_L0 : SC := (.seq (.seq (.reg [⟨(some 12), none, (.mov (.t 9))⟩, ⟨(some 13), none, (.mov (.t 0))⟩, ⟨(some 14), none, (.len (.t 13))⟩, ⟨(some 15), none, (.bin false .lss (.t 12) (.t 14))⟩]) (.cond (.t 15) .skip (.exit 0))) (.seq (.block 1 (.seq (.reg [⟨(some 10), none, (.mov (.c (.int .i64 0)))⟩]) (.seq (.seq (.reg [⟨(some 11), none, (.mov (.c (.int .i64 0)))⟩]) (.block 2 (.loop sc_s_l21Once_L2))) (.seq (.reg [⟨(some 57), none, (.mov (.t 10))⟩, ⟨(some 58), none, (.bin false .gtr (.t 57) (.c (.int .i64 1)))⟩, ⟨(some 59), none, (.mov (.t 58))⟩, ⟨(some 60), (some (59, false)), (.mov (.t 3))⟩, ⟨(some 61), (some (59, false)), (.mov (.t 60))⟩, ⟨(some 62), (some (61, true)), (.mov (.t 10))⟩, ⟨(some 63), (some (61, true)), (.bin false .neq (.t 62) (.c (.int .i64 1)))⟩, ⟨(some 64), (some (59, false)), (.pick (.t 61) (.t 63) (.c (.bool false)))⟩, ⟨(some 65), none, (.pick (.t 59) (.c (.bool true)) (.t 64))⟩]) (.cond (.t 65) (.seq (.reg [⟨(some 8), none, (.mov (.c (.bool false)))⟩]) .ret) .skip))))) (.reg [⟨(some 16), none, (.mov (.t 9))⟩, ⟨(some 17), none, (.bin false .add (.t 16) (.c (.int .i64 1)))⟩, ⟨(some 9), none, (.mov (.t 17))⟩])))
def sc_s_l21Once : SC := (.seq (.reg [⟨(some 8), none, (.mov (.c (.bool false)))⟩]) (.seq (.seq (.reg [⟨(some 9), none, (.mov (.c (.int .i64 0)))⟩]) (.block 0 (.loop sc_s_l21Once_L0))) (.seq (.reg [⟨(some 8), none, (.mov (.c (.bool true)))⟩]) .ret)))
theorem code_s_l21Once : fnCode Try.prog [] 205 = some (66, sc_s_l21Once, [(8, none)]) := by kernel_rfl
/-- The set u lies between the i-th low and the i-th facet. -/
def inIv (facets lows : List Int) (u : Int) (i : Nat) : Prop := subS (at0 lows i) u ∧ subS u (at0 facets i)
open Classical in
/-- How many of the first k intervals have u. -/
noncomputable def cntIv (facets lows : List Int) (u : Int) : Nat → Int
  | 0 => 0
  | k + 1 => if inIv facets lows u k then cntIv facets lows u k + 1 else cntIv facets lows u k
theorem cntIv_pos {facets lows : List Int} {u : Int} {k : Nat} (h : inIv facets lows u k) : cntIv facets lows u (k + 1) = cntIv facets lows u k + 1 := by simp only [cntIv, if_pos h]
theorem cntIv_neg {facets lows : List Int} {u : Int} {k : Nat} (h : ¬ inIv facets lows u k) : cntIv facets lows u (k + 1) = cntIv facets lows u k := by simp only [cntIv, if_neg h]
theorem cntIv_bnd (facets lows : List Int) (u : Int) : ∀ k : Nat, 0 ≤ cntIv facets lows u k ∧ cntIv facets lows u k ≤ k
  | 0 => by simp [cntIv]
  | k + 1 => by
    have := cntIv_bnd facets lows u k
    simp only [cntIv]
    split <;> omega
/-- Every face in at most one interval, or in exactly one. -/
def onceP (faces facets lows : List Int) (all : Bool) : Prop := ∀ u ∈ faces, cntIv facets lows u lows.length ≤ 1 ∧ (all = true → cntIv facets lows u lows.length = 1)
noncomputable def F_s_l21Once : List V → Option V := F4 dL dL dL dB fun faces facets lows all => @ite _ (allS faces ∧ allS facets ∧ allS lows ∧ lows.length ≤ facets.length) (Classical.propDecidable _) (some (.bool (dec (onceP faces facets lows all)))) none
theorem fn_s_l21Once : FnOk Try.prog 205 F_s_l21Once := by
  have env := (envNil_ok (P := Try.prog)).add fn_s_l1Bit
  refine fn_ok code_s_l21Once mixed env ?_
  intro args r h hb
  obtain ⟨_, _, _, _, faces, facets, lows, all, rfl, h1, h2, h3, h4, h5⟩ := F4_inv h
  cases dL_inv h1
  cases dL_inv h2
  cases dL_inv h3
  cases dB_inv h4
  simp only [Option.ite_none_right_eq_some, Option.some.injEq] at h5
  obtain ⟨⟨hS1, hS2, hS3, hll⟩, rfl⟩ := h5
  have b1 := bnd_ints (hb _ (List.mem_cons_self ..))
  have b3 := bnd_ints (hb (.list 1 (ints lows)) (by simp))
  refine ⟨by simp, fun w0 U0 L0 N0 => ?_⟩
  generalize hv : dec (onceP faces facets lows all) = v
  have inner : ∀ (k : Nat) (Q : Post) (L : Tm), k < faces.length → subE L [(0, .list 1 (ints faces)), (1, .list 1 (ints facets)), (2, .list 1 (ints lows)), (3, .bool all), (9, .int .i64 (k : Int)), (10, .int .i64 0), (11, .int .i64 0)] →
      Q (.exit 2) [(0, .list 1 (ints faces)), (1, .list 1 (ints facets)), (2, .list 1 (ints lows)), (3, .bool all), (9, .int .i64 (k : Int)), (10, .int .i64 (cntIv facets lows (at0 faces k) lows.length))] ([], 0) →
      LoopI ⟨Try.prog, w0, U0, L0, N0, 0, 66⟩ [] sc_s_l21Once_L2 Q L ([], 0) := by
    intro k Q L hk hs q1
    refine loopQ env mixed (fun i : Nat => [(0, .list 1 (ints faces)), (1, .list 1 (ints facets)), (2, .list 1 (ints lows)), (3, .bool all), (9, .int .i64 (k : Int)), (10, .int .i64 (cntIv facets lows (at0 faces k) i)), (11, .int .i64 (i : Int))]) (fun _ => ([], 0)) (fun i => i ≤ lows.length) (fun i => lows.length - i) 0 (by simp)
      (SubI.slots rfl (by simpa [cntIv] using hs)) ?_
    intro i hi
    by_cases hlt : i < lows.length
    · have hltf : i < facets.length := by omega
      have s1 := allS_at hS1 hk
      have s2 := allS_at hS2 hltf
      have s3 := allS_at hS3 hlt
      have cb := cntIv_bnd facets lows (at0 faces k) i
      by_cases g1 : band (at0 faces k) (at0 lows i) = at0 lows i
      · by_cases g2 : band (at0 facets i) (at0 faces k) = at0 faces k
        · have e := cntIv_pos (facets := facets) (lows := lows) (u := at0 faces k) (k := i) ⟨(subS_iff' s3 s1).2 g1, (subS_iff' s1 s2).2 g2⟩
          have hw : IntKind.i64.wrap (cntIv facets lows (at0 faces k) i + 1) = cntIv facets lows (at0 faces k) i + 1 := wrapI _ (by omega) (by omega)
          simp -implicitDefEqProofs [sc_s_l21Once_L2, F_s_l1Bit, hlt, hltf, hk, g1, g2, hw]
          repeat' (first | omega | apply And.intro)
          exact Again.of (i + 1) (by omega) (by omega) (SubI.slots rfl (by simp (disch := omega) [wrapI, e]))
        · have e := cntIv_neg (facets := facets) (lows := lows) (u := at0 faces k) (k := i) fun h => g2 ((subS_iff' s1 s2).1 h.2)
          have hw : IntKind.i64.wrap (cntIv facets lows (at0 faces k) i) = cntIv facets lows (at0 faces k) i := wrapI _ (by omega) (by omega)
          simp -implicitDefEqProofs [sc_s_l21Once_L2, F_s_l1Bit, hlt, hltf, hk, g1, g2, hw]
          repeat' (first | omega | apply And.intro)
          exact Again.of (i + 1) (by omega) (by omega) (SubI.slots rfl (by simp (disch := omega) [wrapI, e]))
      · have e := cntIv_neg (facets := facets) (lows := lows) (u := at0 faces k) (k := i) fun h => g1 ((subS_iff' s3 s1).1 h.1)
        have hw : IntKind.i64.wrap (cntIv facets lows (at0 faces k) i) = cntIv facets lows (at0 faces k) i := wrapI _ (by omega) (by omega)
        simp -implicitDefEqProofs [sc_s_l21Once_L2, F_s_l1Bit, hlt, hltf, hk, g1, hw]
        repeat' (first | omega | apply And.intro)
        exact Again.of (i + 1) (by omega) (by omega) (SubI.slots rfl (by simp (disch := omega) [wrapI, e]))
    · have : i = lows.length := by omega
      subst this
      simp -implicitDefEqProofs [sc_s_l21Once_L2]
      exact SubQ.of (SubI.slots rfl (by simp)) q1
  simp -implicitDefEqProofs [sc_s_l21Once]
  refine loopI env mixed (fun k : Nat => [(0, .list 1 (ints faces)), (1, .list 1 (ints facets)), (2, .list 1 (ints lows)), (3, .bool all), (9, .int .i64 (k : Int))]) (fun _ => ([], 0))
    (fun k => k ≤ faces.length ∧ ∀ j, j < k → cntIv facets lows (at0 faces j) lows.length ≤ 1 ∧ (all = true → cntIv facets lows (at0 faces j) lows.length = 1)) (fun k => faces.length - k) 0 (by simp) (SubI.slots rfl (by simp)) ?_
  rintro k ⟨hk, hn⟩
  by_cases hlt : k < faces.length
  · simp -implicitDefEqProofs [sc_s_l21Once_L0, hlt]
    refine inner k _ _ hlt (by simp) ?_
    have bad : ¬ (cntIv facets lows (at0 faces k) lows.length ≤ 1 ∧ (all = true → cntIv facets lows (at0 faces k) lows.length = 1)) → v = false := fun h => hv ▸ dec_false fun ho => h (ho _ (getD_mem' hlt))
    have next : (cntIv facets lows (at0 faces k) lows.length ≤ 1 ∧ (all = true → cntIv facets lows (at0 faces k) lows.length = 1)) → ∀ j, j < k + 1 → cntIv facets lows (at0 faces j) lows.length ≤ 1 ∧ (all = true → cntIv facets lows (at0 faces j) lows.length = 1) := fun hh j hj => by
      rcases Nat.lt_succ_iff_lt_or_eq.1 hj with h1 | rfl
      · exact hn j h1
      · exact hh
    generalize cntIv facets lows (at0 faces k) lows.length = c at *
    by_cases g1 : 1 < c
    · have hv1 := bad fun h => by have := h.1; omega
      simp -implicitDefEqProofs [g1, hv1]
    · cases all with
      | false =>
        simp -implicitDefEqProofs [g1]
        exact Again.of (k + 1) ⟨by omega, by simpa using next ⟨by omega, by simp⟩⟩ (by omega) (SubI.slots rfl (by simp (disch := omega) [wrapI]))
      | true =>
        by_cases g2 : c = 1
        · simp -implicitDefEqProofs [g2]
          exact Again.of (k + 1) ⟨by omega, by simpa using next ⟨by omega, fun _ => g2⟩⟩ (by omega) (SubI.slots rfl (by simp (disch := omega) [wrapI]))
        · have hv1 := bad fun h => g2 (h.2 rfl)
          simp -implicitDefEqProofs [g1, g2, hv1]
  · have hv1 : v = true := hv ▸ dec_true fun u hu => by
      obtain ⟨j, hj, e⟩ := getD_mem_iff.1 hu
      rw [← e]
      exact hn j (by omega)
    simp -implicitDefEqProofs [sc_s_l21Once_L0, hlt, hv1]
end Go.Proofs.Ytmemomfffehnkaa
