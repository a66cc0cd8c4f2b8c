import Derived.Test.YtmemomfffehnkaaDR
import Derived.Test.YtmemomfffehnkaaFqN
import Derived.Test.YtmemomfffehnkaaKV
namespace Go.Proofs.Ytmemomfffehnkaa
open Go Go.RowKit
set_option maxRecDepth 1000000
set_option linter.unusedSimpArgs false
set_option linter.unusedVariables false
set_option maxHeartbeats 1000000
def sc_s_l18Case_L0 : SC := (.seq (.seq (.reg [⟨(some 24), none, (.mov (.t 9))⟩, ⟨(some 25), none, (.bin false .lss (.t 24) (.c (.int .i64 20)))⟩, ⟨(some 26), none, (.mov (.t 25))⟩, ⟨(some 27), (some (26, true)), (.mov (.t 8))⟩, ⟨(some 28), (some (26, true)), (.len (.t 27))⟩, ⟨(some 29), (some (26, true)), (.bin false .gtr (.t 28) (.c (.int .i64 0)))⟩, ⟨(some 30), none, (.pick (.t 26) (.t 29) (.c (.bool false)))⟩]) (.cond (.t 30) .skip (.exit 0))) (.seq (.block 1 (.seq (.reg [⟨(some 33), none, (.mov (.t 8))⟩, ⟨(some 34), none, (.mov (.t 4))⟩, ⟨(some 35), none, (.mov (.t 8))⟩, ⟨(some 36), none, (.len (.t 35))⟩, ⟨(some 37), none, (.call 129 [(.t 34), (.t 36)])⟩, ⟨(some 38), none, (.idx 1 (.t 33) (.t 37))⟩, ⟨(some 39), none, (.ld none (.int .i64 0) (.t 38))⟩, ⟨(some 10), none, (.mov (.t 39))⟩]) (.seq (.reg [⟨(some 40), none, (.mov (.t 10))⟩, ⟨(some 41), none, (.mov (.t 4))⟩, ⟨(some 42), none, (.call 129 [(.t 41), (.c (.int .i64 6))])⟩, ⟨(some 43), none, (.conv .u64 (.t 42))⟩, ⟨(some 44), none, (.bin false .shl (.c (.int .i64 1)) (.t 43))⟩, ⟨(some 45), none, (.bin false .or (.t 40) (.t 44))⟩, ⟨(some 11), none, (.mov (.t 45))⟩]) (.seq (.reg [⟨(some 46), none, (.mov (.t 10))⟩, ⟨(some 47), none, (.mov (.t 11))⟩, ⟨(some 48), none, (.bin false .neq (.t 46) (.t 47))⟩, ⟨(some 49), none, (.mov (.t 48))⟩, ⟨(some 50), (some (49, true)), (.ld (some 2) .undef (.t 5))⟩, ⟨(some 51), (some (49, true)), (.mov (.t 11))⟩, ⟨(some 52), (some (49, true)), (.call 158 [(.t 50), (.t 51)])⟩, ⟨(some 53), none, (.pick (.t 49) (.t 52) (.c (.bool false)))⟩, ⟨(some 54), none, (.mov (.t 53))⟩, ⟨(some 55), (some (54, true)), (.mov (.t 7))⟩, ⟨(some 56), (some (54, true)), (.mov (.t 10))⟩, ⟨(some 57), (some (54, true)), (.call 134 [(.t 55), (.t 56)])⟩, ⟨(some 58), (some (54, true)), (.un .not (.t 57))⟩, ⟨(some 59), none, (.pick (.t 54) (.t 58) (.c (.bool false)))⟩, ⟨(some 60), none, (.mov (.t 59))⟩, ⟨(some 61), (some (60, true)), (.mov (.t 7))⟩, ⟨(some 62), (some (60, true)), (.mov (.t 11))⟩, ⟨(some 63), (some (60, true)), (.call 134 [(.t 61), (.t 62)])⟩, ⟨(some 64), (some (60, true)), (.un .not (.t 63))⟩, ⟨(some 65), none, (.pick (.t 60) (.t 64) (.c (.bool false)))⟩]) (.cond (.t 65) (.seq (.reg [⟨(some 66), none, (.mov (.t 7))⟩, ⟨(some 67), none, (.mov (.t 10))⟩, ⟨(some 68), none, (.mov (.t 11))⟩, ⟨(some 69), none, (.mks 2 1 [(.int .i64 0), (.int .i64 0)] [(0, (1, (.t 67))), (1, (1, (.t 68)))])⟩, ⟨(some 70), none, (.app 1 8 (.t 66) (.t 69))⟩, ⟨(some 7), none, (.mov (.t 70))⟩]) (.reg [⟨(some 71), none, (.mov (.t 6))⟩, ⟨(some 72), none, (.mov (.t 10))⟩, ⟨(some 73), none, (.mov (.t 11))⟩, ⟨(some 74), none, (.agg [(.int .i64 0), (.int .i64 0)] [(0, (1, (.t 72))), (1, (1, (.t 73)))])⟩, ⟨(some 75), none, (.mks 1 2 [(.int .i64 0), (.int .i64 0)] [(0, (2, (.t 74)))])⟩, ⟨(some 76), none, (.app 2 16 (.t 71) (.t 75))⟩, ⟨(some 6), none, (.mov (.t 76))⟩])) .skip))))) (.reg [⟨(some 31), none, (.mov (.t 9))⟩, ⟨(some 32), none, (.bin false .add (.t 31) (.c (.int .i64 1)))⟩, ⟨(some 9), none, (.mov (.t 32))⟩])))
def sc_s_l18Case : SC := (.seq (.reg [⟨(some 2), none, (.new [(.int .i64 0), .nil])⟩, ⟨(some 3), none, (.mov (.c .nil))⟩]) (.seq (.reg [⟨(some 12), none, (.mov (.t 0))⟩, ⟨(some 13), none, (.call 128 [(.t 12)])⟩, ⟨(some 4), none, (.mov (.t 13))⟩]) (.seq (.reg [⟨(some 14), none, (.mov (.t 4))⟩, ⟨(some 15), none, (.call 144 [(.t 14)])⟩, ⟨(some 5), none, (.new [(.int .i64 0), .nil])⟩, ⟨none, none, (.st 2 (.t 5) (.t 15))⟩]) (.seq (.reg [⟨(some 16), none, (.ld (some 2) .undef (.t 5))⟩, ⟨(some 17), none, (.call 90 [(.t 16)])⟩, ⟨(some 6), none, (.mov (.t 17))⟩]) (.seq (.seq (.reg [⟨(some 18), none, (.mov (.t 4))⟩, ⟨(some 19), none, (.call 162 [(.t 18), (.c (.int .i64 2))])⟩]) (.cond (.t 19) (.seq (.reg [⟨(some 20), none, (.mks 0 1 [] [])⟩, ⟨(some 7), none, (.mov (.t 20))⟩]) (.seq (.reg [⟨(some 21), none, (.mks 0 2 [] [])⟩, ⟨(some 6), none, (.mov (.t 21))⟩]) (.seq (.reg [⟨(some 22), none, (.ld (some 2) .undef (.t 5))⟩, ⟨(some 23), none, (.call 43 [(.t 22)])⟩, ⟨(some 8), none, (.mov (.t 23))⟩]) (.seq (.reg [⟨(some 9), none, (.mov (.c (.int .i64 0)))⟩]) (.block 0 (.loop sc_s_l18Case_L0)))))) .skip)) (.seq (.seq (.reg [⟨(some 77), none, (.mov (.t 6))⟩, ⟨(some 78), none, (.len (.t 77))⟩, ⟨(some 79), none, (.bin false .gtr (.t 78) (.c (.int .i64 0)))⟩, ⟨(some 80), none, (.mov (.t 79))⟩, ⟨(some 81), (some (80, true)), (.mov (.t 4))⟩, ⟨(some 82), (some (80, true)), (.call 162 [(.t 81), (.c (.int .i64 10))])⟩, ⟨(some 83), none, (.pick (.t 80) (.t 82) (.c (.bool false)))⟩]) (.cond (.t 83) (.reg [⟨(some 84), none, (.mov (.t 6))⟩, ⟨(some 85), none, (.mov (.t 4))⟩, ⟨(some 86), none, (.call 129 [(.t 85), (.c (.int .i64 66))])⟩, ⟨(some 87), none, (.bin false .sub (.t 86) (.c (.int .i64 1)))⟩, ⟨(some 88), none, (.idx 2 (.t 84) (.c (.int .i64 0)))⟩, ⟨(some 89), none, (.fad 1 (.t 88))⟩, ⟨none, none, (.st 1 (.t 89) (.t 87))⟩]) .skip)) (.seq (.reg [⟨(some 90), none, (.ld (some 2) .undef (.t 5))⟩, ⟨(some 91), none, (.mov (.t 6))⟩, ⟨none, none, (.st 2 (.t 2) (.t 90))⟩, ⟨(some 3), none, (.mov (.t 91))⟩]) .ret)))))))
theorem code_s_l18Case : fnCode Try.prog [162, 129, 144] 186 = some (92, sc_s_l18Case, [(2, (some 2)), (3, none)]) := by kernel_rfl
open Classical in
/-- The drawn pairs behind k rounds, and the cursor there. -/
noncomputable def cI18 (p : Int → Prop) (L : List Int) (c : Cur) : Nat → List (Int × Int) × Cur
  | 0 => ([], c)
  | k + 1 =>
    let b := belowN (cI18 p L c k).2 L.length
    let d := belowN b.2 6
    (if ppC p d.1.toNat (cI18 p L c k).1 (at0 L b.1.toNat) then (cI18 p L c k).1 ++ [(at0 L b.1.toNat, bor (at0 L b.1.toNat) (2 ^ d.1.toNat))] else (cI18 p L c k).1, d.2)
theorem cI18_ok {p : Int → Prop} {L : List Int} {c : Cur} (hL : allS L) (hl : L.length ≠ 0) (h : wfC c) : ∀ k, ppOk (cI18 p L c k).1 ∧ wfC (cI18 p L c k).2
  | 0 => ⟨by constructor <;> simp [cI18, usedA, allS], h⟩
  | k + 1 => by
    obtain ⟨⟨a, b⟩, i2⟩ := cI18_ok (p := p) hL hl h k
    have hr := belowN_rng (cI18 p L c k).2 (n := (L.length : Int)) (by omega)
    have hr2 := belowN_rng (belowN (cI18 p L c k).2 L.length).2 (n := 6) (by omega)
    refine ⟨?_, belowN_wf (belowN_wf i2 _) _⟩
    simp only [cI18]
    have ha := allS_at hL (show (belowN (cI18 p L c k).2 L.length).1.toNat < L.length by omega)
    have hi : (belowN (belowN (cI18 p L c k).2 L.length).2 6).1.toNat < 6 := by omega
    generalize (belowN (belowN (cI18 p L c k).2 L.length).2 6).1.toNat = i at *
    generalize at0 L (belowN (cI18 p L c k).2 L.length).1.toNat = x at *
    split
    · rename_i hc
      have hne := (bor_new ha hi).2 hc.1
      unfold ppOk
      rw [usedA_snoc]
      constructor
      · rw [List.nodup_append]
        refine ⟨a, by simpa using hne, ?_⟩
        intro x hx y hy e
        subst e
        simp only [List.mem_cons, List.not_mem_nil, or_false] at hy
        rcases hy with rfl | rfl
        · exact hc.2.2.1 hx
        · exact hc.2.2.2 hx
      · intro x hx
        rcases List.mem_append.1 hx with h | h
        · exact b x h
        · simp only [List.mem_cons, List.not_mem_nil, or_false] at h
          rcases h with rfl | rfl
          · exact ha
          · exact isS_bor ha (isS_pow hi)
    · exact ⟨a, b⟩
open Classical in
/-- The pairs ahead of the last step, and the cursor there. -/
noncomputable def p18 (n : Int) (l : List Int) (c : Cur) : List (Int × Int) × Cur :=
  if onceN c 2 = true then (if (facesL n l).length = 0 then ([], (belowN c 2).2) else cI18 (faceS l) (facesL n l) (belowN c 2).2 20) else (ppL n l, (belowN c 2).2)
noncomputable def case18 (n : Int) (l : List Int) (c : Cur) : List (Int × Int) :=
  if decide (0 < (p18 n l c).1.length) && onceN (p18 n l c).2 10 then (p18 n l c).1.set 0 ((pr0 (p18 n l c).1 0).1, (belowN (belowN (p18 n l c).2 10).2 66).1 - 1) else (p18 n l c).1
theorem prs_set1 {l : List (Int × Int)} (h : 0 < l.length) (b : Int) : ((prs l).set 1 (.int .i64 b)).take (l.length * 2) = prs (l.set 0 ((pr0 l 0).1, b)) := by
  cases l with
  | nil => simp at h
  | cons p l =>
    rw [List.take_of_length_le (by simp; omega)]
    rfl
noncomputable def F_s_l18Case : List V → Option V := F1 dBy fun b => some (.tup [.agg [.int .i64 (bentN (newCur b)).1.1, .own 1 (ints (bentN (newCur b)).1.2)], .own 2 (prs (case18 (bentN (newCur b)).1.1 (bentN (newCur b)).1.2 (bentN (newCur b)).2))])
theorem fn_s_l18Case : FnOk Try.prog 186 F_s_l18Case := by
  have env := ((((((((envNil_ok (P := Try.prog)).add fn_s_l1New).add fn_s_PointPairing).add fn_s_FacesOf).add fn_s_l2Has).add fn_s_l3Has).addl ln_s_l1Once).addl ln_s_l1Below).addl ln_s_l3Bent
  refine fn_ok code_s_l18Case mixed env ?_
  intro args r h hb
  obtain ⟨_, b, rfl, h1, h4⟩ := F1_inv h
  obtain ⟨hw, rfl⟩ := dBy_inv h1
  cases h4
  clear h hb h1
  refine ⟨by simp, fun w0 U0 L0 N0 => ?_⟩
  have hN : F_s_l1New [.list 1 (u8s b)] = some (.opt (curC (newCur b))) := by
    simp only [F_s_l1New, F1_mk, dBy_list hw, Option.bind_some]
  have v0 := newCur_wf hw
  have g0 := G_bent v0
  have v1 := bentN_wf v0
  have hnum := bentN_num (newCur b)
  generalize bentN (newCur b) = x at *
  generalize newCur b = c0 at *
  obtain ⟨⟨n, l⟩, c⟩ := x
  simp only at g0 v1 hnum ⊢
  have g1 := G_once v1 2
  have v2 := belowN_wf v1 2
  have hF : F_s_FacesOf [.agg [.int .i64 n, .list 1 (ints l)]] = some (.own 1 (ints (facesL n l))) := by
    simp only [F_s_FacesOf, F1_mk, dC_agg, Option.bind_some]
  have hP : F_s_PointPairing [.agg [.int .i64 n, .list 1 (ints l)]] = some (.own 2 (prs (ppL n l))) := by
    simp only [F_s_PointPairing, F1_mk, dC_agg, Option.bind_some]
  have hPl : (ppL n l).length ≤ 32 := by
    unfold ppL
    split
    · rename_i hc
      exact ppOk_len (ppOut_ok (allS_setsOf _) _ (by have := hc.2.1; omega))
    · simp
  have eP : p18 n l c = if onceN c 2 = true then (if (facesL n l).length = 0 then ([], (belowN c 2).2) else cI18 (faceS l) (facesL n l) (belowN c 2).2 20) else (ppL n l, (belowN c 2).2) := rfl
  have eC : case18 n l c = if decide (0 < (p18 n l c).1.length) && onceN (p18 n l c).2 10 then (p18 n l c).1.set 0 ((pr0 (p18 n l c).1 0).1, (belowN (belowN (p18 n l c).2 10).2 66).1 - 1) else (p18 n l c).1 := rfl
  have hFl : (facesL n l).length ≤ 64 := setsOf_len _
  have hFS : allS (facesL n l) := allS_setsOf _
  have hlS : (facesL n l).length ≠ 0 → allS l := fun h => by
    by_cases hc : cplx n l
    · exact cplx_isS hc
    · rw [facesL_not hc] at h; simp at h
  generalize case18 n l c = R at *
  generalize p18 n l c = pc at *
  generalize ppL n l = PP at *
  cases ho : onceN c 2 with
  | false =>
    rw [ho, if_neg (by simp)] at eP
    rw [ho] at g1
    subst eP
    simp only at eC
    clear hF hFl hFS hlS hnum
    generalize (belowN c 2).2 = d at *
    have g2 := G_once v2 10
    have v4 := belowN_wf v2 10
    have g3 := G_below v4 66
    have r3 := belowN_rng (belowN d 10).2 (n := 66) (by omega)
    have hwb : IntKind.i64.wrap ((belowN (belowN d 10).2 66).1 - 1) = (belowN (belowN d 10).2 66).1 - 1 := wrapI _ (by omega) (by omega)
    by_cases hp : 0 < PP.length
    · have hp2 : (0 : Int) < PP.length := by omega
      cases ho2 : onceN d 10 with
      | true =>
        rw [ho2] at g2 eC
        simp only [hp, decide_true, Bool.and_true, if_true] at eC
        have hset := prs_set1 hp ((belowN (belowN d 10).2 66).1 - 1)
        have hl2 : 2 ≤ PP.length * 2 := by omega
        rw [eC]
        generalize (belowN (belowN d 10).2 66).1 = hi at *
        simp -implicitDefEqProofs [sc_s_l18Case, hN, g0, hP, g1, freeOk, ren0, g2, g3, hp, hp2, hwb, hset, hl2]
        try omega
      | false =>
        rw [ho2] at g2 eC
        simp only [Bool.and_false, Bool.false_eq_true, if_false] at eC
        rw [eC]
        simp -implicitDefEqProofs [sc_s_l18Case, hN, g0, hP, g1, freeOk, ren0, g2, hp, hp2]
        try omega
    · have hp2 : ¬ (0 : Int) < PP.length := by omega
      simp only [hp, decide_false, Bool.false_and, Bool.false_eq_true, if_false] at eC
      rw [eC]
      simp -implicitDefEqProofs [sc_s_l18Case, hN, g0, hP, g1, freeOk, ren0, hp, hp2]
      try omega
  | true =>
    rw [ho, if_pos rfl] at eP
    rw [ho] at g1
    simp -implicitDefEqProofs [sc_s_l18Case, freeOk, ren0, hN, g0, hP, g1, hF]
    generalize (belowN c 2).2 = d at *
    clear hN hF g0 g1 v0 v1 hP
    by_cases hL0 : (facesL n l).length = 0
    · rw [if_pos hL0] at eP
      subst eP
      have hL1 : facesL n l = [] := List.length_eq_zero_iff.1 hL0
      rw [hL1]
      simp only [List.length_nil, Nat.lt_irrefl, decide_false, Bool.false_and, Bool.false_eq_true, if_false] at eC
      rw [eC]
      refine loopI env mixed (fun _ : Unit => [(2, .pt 0 0), (4, .pt 1 0), (5, .pt 3 0), (6, .sl 4 2 0 0), (8, .sl 5 1 0 0), (9, .int .i64 0)]) (fun _ => ([(5, []), (4, []), (3, [.int .i64 n, .sl 2 1 0 l.length]), (2, ints l), (1, curC d), (0, [.int .i64 0, .nil])], 6)) (fun _ => True) (fun _ => 0) () trivial ?_ ?_
      · refine SubI.ren (fun m => if m = 0 then some 0 else if m = 1 then some 1 else if m = 2 then some 2 else if m = 3 then some 3 else if m = 4 then some 6 else if m = 5 then some 7 else none) ?_ ?_ ?_ (by simp) (by simp)
        · simp [renV, ren1]
        · simp [renL, ren1]
        · intro m hm
          simp only at hm
          have h1 : m ≠ 0 := by omega
          have h2 : m ≠ 1 := by omega
          have h3 : m ≠ 2 := by omega
          have h4 : m ≠ 3 := by omega
          have h5 : m ≠ 4 := by omega
          have h6 : m ≠ 5 := by omega
          simp [h1, h2, h3, h4, h5, h6]
      intro _ _
      simp -implicitDefEqProofs [sc_s_l18Case_L0, freeOk, ren0]
    rw [if_neg hL0] at eP
    have hok := fun k => cI18_ok (p := faceS l) hFS hL0 v2 k
    have hst : ∀ k, cI18 (faceS l) (facesL n l) d (k + 1) = (@ite _ (ppC (faceS l) (belowN (belowN (cI18 (faceS l) (facesL n l) d k).2 (facesL n l).length).2 6).1.toNat (cI18 (faceS l) (facesL n l) d k).1 (at0 (facesL n l) (belowN (cI18 (faceS l) (facesL n l) d k).2 (facesL n l).length).1.toNat)) (Classical.propDecidable _) ((cI18 (faceS l) (facesL n l) d k).1 ++ [(at0 (facesL n l) (belowN (cI18 (faceS l) (facesL n l) d k).2 (facesL n l).length).1.toNat, bor (at0 (facesL n l) (belowN (cI18 (faceS l) (facesL n l) d k).2 (facesL n l).length).1.toNat) (2 ^ (belowN (belowN (cI18 (faceS l) (facesL n l) d k).2 (facesL n l).length).2 6).1.toNat))]) (cI18 (faceS l) (facesL n l) d k).1, (belowN (belowN (cI18 (faceS l) (facesL n l) d k).2 (facesL n l).length).2 6).2) := fun k => rfl
    have h00 : cI18 (faceS l) (facesL n l) d 0 = ([], d) := rfl
    have hS := hlS hL0
    clear hlS
    generalize cI18 (faceS l) (facesL n l) d = f at *
    generalize facesL n l = L at *
    have hLp : 0 < L.length := by omega
    refine loopI env mixed (fun k : Nat => [(2, .pt 0 0), (4, .pt 1 0), (5, .pt 3 0), (6, .sl 4 2 0 (f k).1.length), (7, .sl 5 1 0 (usedA (f k).1).length), (8, .sl 6 1 0 L.length), (9, .int .i64 (k : Int))]) (fun k => ([(6, ints L), (5, ints (usedA (f k).1)), (4, prs (f k).1), (3, [.int .i64 n, .sl 2 1 0 l.length]), (2, ints l), (1, curC (f k).2), (0, [.int .i64 0, .nil])], 7)) (fun k => k ≤ 20) (fun k => 20 - k) 0 (by simp) ?_ ?_
    · refine SubI.ren (fun m => if m = 0 then some 0 else if m = 1 then some 1 else if m = 2 then some 2 else if m = 3 then some 3 else if m = 4 then some 6 else if m = 5 then some 5 else if m = 6 then some 7 else none) ?_ ?_ ?_ (by simp) (by simp)
      · simp [renV, ren1, h00, usedA]
      · simp [renL, ren1, h00, usedA]
      · intro m hm
        simp only at hm
        have h1 : m ≠ 0 := by omega
        have h2 : m ≠ 1 := by omega
        have h3 : m ≠ 2 := by omega
        have h4 : m ≠ 3 := by omega
        have h5 : m ≠ 4 := by omega
        have h6 : m ≠ 5 := by omega
        have h7 : m ≠ 6 := by omega
        simp [h1, h2, h3, h4, h5, h6, h7]
    intro k hk
    obtain ⟨ok1, w1⟩ := hok k
    have hl32 := ppOk_len ok1
    have hul := usedA_len (f k).1
    by_cases hlt : k < 20
    · have hlti : (k : Int) < 20 := by omega
      have hwk : IntKind.i64.wrap ((k : Int) + 1) = (k : Int) + 1 := wrapI _ (by omega) (by omega)
      have g1 := G_below w1 (L.length : Int)
      have w2 := belowN_wf w1 (L.length : Int)
      have r1 := belowN_rng (f k).2 (n := (L.length : Int)) (by omega)
      have g2 := G_below w2 6
      have w3 := belowN_wf w2 6
      have r2 := belowN_rng (belowN (f k).2 (L.length : Int)).2 (n := 6) (by omega)
      have e := hst k
      clear hst hok h00
      obtain ⟨j, hj⟩ := Int.eq_ofNat_of_zero_le r1.1
      obtain ⟨i, hi⟩ := Int.eq_ofNat_of_zero_le r2.1
      rw [hj, hi, Int.toNat_natCast, Int.toNat_natCast] at e
      rw [hj] at g1 r1
      rw [hi] at g2 r2
      have hjl : j < L.length := by omega
      have hi6 : i < 6 := by omega
      have hu : IntKind.u64.wrap (i : Int) = i := wrapU _ (by omega) (by omega)
      have hsh := shlP hi6
      have hpS := isS_pow hi6
      have ha := allS_at hFS hjl
      have hbS := isS_bor ha hpS
      have hnew := bor_new ha hi6
      have skip : ¬ ppC (faceS l) i (f k).1 (at0 L j) → f (k + 1) = ((f k).1, (belowN (belowN (f k).2 (L.length : Int)).2 6).2) := fun h => by rw [e, if_neg h]
      have hit : ppC (faceS l) i (f k).1 (at0 L j) → f (k + 1) = ((f k).1 ++ [(at0 L j, bor (at0 L j) (2 ^ i))], (belowN (belowN (f k).2 (L.length : Int)).2 6).2) := fun h => by rw [e, if_pos h]
      clear e
      unfold ppC at skip hit
      generalize (belowN (belowN (f k).2 (L.length : Int)).2 6).2 = d2 at *
      generalize (2 : Int) ^ i = s at *
      by_cases c1 : at0 L j = bor (at0 L j) s
      · have e := skip fun h => (hnew.2 h.1) c1
        have c1' : bor (at0 L j) s = at0 L j := c1.symm
        simp -implicitDefEqProofs [sc_s_l18Case_L0, freeOk, ren0, hlt, hlti, hLp, hwk, g1, g2, hjl, hu, hsh, c1']
        repeat' (first | omega | apply And.intro)
        exact Again.of (k + 1) (by omega) (by omega) (SubI.slots (by simp only [e]) (by simp only [subE_cons, subE_nil, e]; simp (disch := omega) [wrapI]))
      have c0 := hnew.1 c1
      generalize hbb : bor (at0 L j) s = b' at *
      have hH : F_s_l3Has [.agg [.int .i64 n, .list 1 (ints l)], .int .i64 b'] = some (.bool (dec (faceS l b'))) := by
        simp only [F_s_l3Has, F2_mk, dC_agg, dI_int, Option.bind_some]
        rw [if_pos ⟨hS, hbS⟩]
      by_cases c2 : faceS l b'
      rotate_left
      · have e := skip fun h => c2 h.2.1
        rw [dec_false c2] at hH
        simp -implicitDefEqProofs [sc_s_l18Case_L0, freeOk, ren0, hlt, hlti, hLp, hwk, g1, g2, hjl, hu, hsh, hbb, c1, hH]
        repeat' (first | omega | apply And.intro)
        exact Again.of (k + 1) (by omega) (by omega) (SubI.slots (by simp only [e]) (by simp only [subE_cons, subE_nil, e]; simp (disch := omega) [wrapI]))
      rw [dec_true c2] at hH
      by_cases c3 : at0 L j ∈ usedA (f k).1
      · have e := skip fun h => h.2.2.1 c3
        simp -implicitDefEqProofs [sc_s_l18Case_L0, F_s_l2Has, freeOk, ren0, hlt, hlti, hLp, hwk, g1, g2, hjl, hu, hsh, hbb, c1, hH, c3]
        repeat' (first | omega | apply And.intro)
        exact Again.of (k + 1) (by omega) (by omega) (SubI.slots (by simp only [e]) (by simp only [subE_cons, subE_nil, e]; simp (disch := omega) [wrapI]))
      by_cases c4 : b' ∈ usedA (f k).1
      · have e := skip fun h => h.2.2.2 c4
        simp -implicitDefEqProofs [sc_s_l18Case_L0, F_s_l2Has, freeOk, ren0, hlt, hlti, hLp, hwk, g1, g2, hjl, hu, hsh, hbb, c1, hH, c3, c4]
        repeat' (first | omega | apply And.intro)
        exact Again.of (k + 1) (by omega) (by omega) (SubI.slots (by simp only [e]) (by simp only [subE_cons, subE_nil, e]; simp (disch := omega) [wrapI]))
      have e := hit ⟨c0, c2, c3, c4⟩
      have e3 : usedA (f (k + 1)).1 = usedA (f k).1 ++ [at0 L j, b'] := by rw [e, usedA_snoc]
      have el : (f (k + 1)).1.length = (f k).1.length + 1 := by rw [e]; simp
      simp -implicitDefEqProofs [sc_s_l18Case_L0, F_s_l2Has, freeOk, ren0, hlt, hlti, hLp, hwk, g1, g2, hjl, hu, hsh, hbb, c1, hH, c3, c4]
      repeat' (first | omega | apply And.intro)
      refine Again.of (k + 1) (by omega) (by omega) (SubI.ren (fun m => if m = 0 then some 0 else if m = 1 then some 1 else if m = 2 then some 2 else if m = 3 then some 3 else if m = 4 then some 10 else if m = 5 then some 8 else if m = 6 then some 6 else none) ?_ ?_ ?_ (by simp) (by simp))
      · simp (disch := omega) [subT, renV, ren1, wrapI, e3, el]
      · simp [subH, e3, e, renL, ren1]
        refine ⟨by rw [usedA_snoc, ← ints_app]; rfl, ?_⟩
        have eg : prs (f k).1 ++ [.int .i64 (at0 L j), .int .i64 b'] = prs ((f k).1 ++ [(at0 L j, b')]) := by rw [← prs_app]; rfl
        rw [eg]
        try exact prs_ren _ _
      · intro m hm
        simp only at hm
        have h1 : m ≠ 0 := by omega
        have h2 : m ≠ 1 := by omega
        have h3 : m ≠ 2 := by omega
        have h4 : m ≠ 3 := by omega
        have h5 : m ≠ 4 := by omega
        have h6 : m ≠ 5 := by omega
        have h7 : m ≠ 6 := by omega
        simp [h1, h2, h3, h4, h5, h6, h7]
    · have hk20 : k = 20 := by omega
      subst hk20
      subst eP
      clear hst hok h00
      have eg : ∃ x, f 20 = x := ⟨_, rfl⟩
      obtain ⟨⟨out, cur⟩, eg⟩ := eg
      rw [eg] at eC ok1 w1 hl32 hul
      simp only at eC ok1 w1 hl32 hul
      have g2 := G_once w1 10
      have v4 := belowN_wf w1 10
      have g3 := G_below v4 66
      have r3 := belowN_rng (belowN cur 10).2 (n := 66) (by omega)
      have hwb : IntKind.i64.wrap ((belowN (belowN cur 10).2 66).1 - 1) = (belowN (belowN cur 10).2 66).1 - 1 := wrapI _ (by omega) (by omega)
      by_cases hp : 0 < out.length
      · have hp2 : (0 : Int) < out.length := by omega
        cases ho2 : onceN cur 10 with
        | true =>
          rw [ho2] at g2 eC
          simp only [hp, decide_true, Bool.and_true, if_true] at eC
          have hset := prs_set1 hp ((belowN (belowN cur 10).2 66).1 - 1)
          have hl2 : 2 ≤ out.length * 2 := by omega
          rw [eC]
          generalize (belowN (belowN cur 10).2 66).1 = hi at *
          simp -implicitDefEqProofs [sc_s_l18Case_L0, eg, freeOk, ren0, g2, g3, hp, hp2, hwb, hset, hl2]
          try omega
        | false =>
          rw [ho2] at g2 eC
          simp only [Bool.and_false, Bool.false_eq_true, if_false] at eC
          rw [eC]
          simp -implicitDefEqProofs [sc_s_l18Case_L0, eg, freeOk, ren0, g2, hp, hp2]
          try omega
      · have hp2 : ¬ (0 : Int) < out.length := by omega
        simp only [hp, decide_false, Bool.false_and, Bool.false_eq_true, if_false] at eC
        rw [eC]
        simp -implicitDefEqProofs [sc_s_l18Case_L0, eg, freeOk, ren0, hp, hp2]
        try omega
end Go.Proofs.Ytmemomfffehnkaa
