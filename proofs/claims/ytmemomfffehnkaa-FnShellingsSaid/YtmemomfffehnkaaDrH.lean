import Derived.Test.YtmemomfffehnkaaDR
import Derived.Test.YtmemomfffehnkaaJaA
namespace Go.Proofs.Ytmemomfffehnkaa
open Go Go.RowKit
set_option maxRecDepth 1000000
set_option linter.unusedSimpArgs false
set_option linter.unusedVariables false
set_option maxHeartbeats 1000000
def sc_s_l19Case_L0 : SC := (.seq (.seq (.reg [⟨(some 29), none, (.mov (.t 9))⟩, ⟨(some 30), none, (.fad 1 (.t 5))⟩, ⟨(some 31), none, (.ld none .nil (.t 30))⟩, ⟨(some 32), none, (.len (.t 31))⟩, ⟨(some 33), none, (.bin false .lss (.t 29) (.t 32))⟩]) (.cond (.t 33) .skip (.exit 0))) (.seq (.block 1 (.seq (.reg [⟨(some 36), none, (.mov (.t 4))⟩, ⟨(some 37), none, (.mov (.t 8))⟩, ⟨(some 38), none, (.len (.t 37))⟩, ⟨(some 39), none, (.bin false .add (.t 38) (.c (.int .i64 1)))⟩, ⟨(some 40), none, (.call 129 [(.t 36), (.t 39)])⟩, ⟨(some 10), none, (.mov (.t 40))⟩]) (.seq (.reg [⟨(some 41), none, (.mks 0 1 [] [])⟩, ⟨(some 42), none, (.mov (.t 8))⟩, ⟨(some 43), none, (.mov (.t 10))⟩, ⟨(some 44), none, (.sli 1 (.t 42) (some (.t 43)) none none)⟩, ⟨(some 45), none, (.app 1 8 (.t 41) (.t 44))⟩, ⟨(some 11), none, (.mov (.t 45))⟩]) (.dreg [⟨⟨(some 46), none, (.mov (.t 8))⟩, false, true⟩, ⟨⟨(some 47), none, (.mov (.t 10))⟩, false, true⟩, ⟨⟨(some 48), none, (.sli 1 (.t 46) none (some (.t 47)) none)⟩, false, true⟩, ⟨⟨(some 49), none, (.fad 1 (.t 5))⟩, false, false⟩, ⟨⟨(some 50), none, (.ld none .nil (.t 49))⟩, false, false⟩, ⟨⟨(some 51), none, (.mov (.t 9))⟩, false, false⟩, ⟨⟨(some 52), none, (.idx 1 (.t 50) (.t 51))⟩, false, false⟩, ⟨⟨(some 53), none, (.ld none (.int .i64 0) (.t 52))⟩, false, false⟩, ⟨⟨(some 56), none, (.mov (.t 11))⟩, false, true⟩, ⟨⟨(some 54), none, (.mks 1 1 [(.int .i64 0)] [(0, (1, (.t 53)))])⟩, true, false⟩, ⟨⟨(some 55), none, (.app 1 8 (.t 48) (.t 54))⟩, true, false⟩, ⟨⟨(some 57), none, (.app 1 8 (.t 55) (.t 56))⟩, true, false⟩, ⟨⟨(some 8), none, (.mov (.t 57))⟩, false, false⟩])))) (.reg [⟨(some 34), none, (.mov (.t 9))⟩, ⟨(some 35), none, (.bin false .add (.t 34) (.c (.int .i64 1)))⟩, ⟨(some 9), none, (.mov (.t 35))⟩])))
def sc_s_l19Case : SC := (.seq (.reg [⟨(some 2), none, (.new [(.int .i64 0), .nil])⟩, ⟨(some 3), none, (.mov (.c .nil))⟩]) (.seq (.reg [⟨(some 12), none, (.mov (.t 0))⟩, ⟨(some 13), none, (.call 128 [(.t 12)])⟩, ⟨(some 4), none, (.mov (.t 13))⟩]) (.seq (.reg [⟨(some 14), none, (.mov (.t 4))⟩, ⟨(some 15), none, (.call 144 [(.t 14)])⟩, ⟨(some 5), none, (.new [(.int .i64 0), .nil])⟩, ⟨none, none, (.st 2 (.t 5) (.t 15))⟩]) (.seq (.reg [⟨(some 17), none, (.ld (some 2) .undef (.t 5))⟩, ⟨(some 18), none, (.call 31 [(.t 17)])⟩, ⟨(some 16), none, (.mov (.t 18))⟩, ⟨(some 19), none, (.ext 0 (.t 16))⟩, ⟨(some 20), none, (.ext 1 (.t 16))⟩, ⟨(some 6), none, (.mov (.t 19))⟩, ⟨(some 7), none, (.mov (.t 20))⟩]) (.seq (.seq (.reg [⟨(some 21), none, (.mov (.t 7))⟩, ⟨(some 22), none, (.mov (.t 21))⟩, ⟨(some 23), (some (22, true)), (.mov (.t 4))⟩, ⟨(some 24), (some (22, true)), (.call 162 [(.t 23), (.c (.int .i64 2))])⟩, ⟨(some 25), none, (.pick (.t 22) (.t 24) (.c (.bool false)))⟩]) (.cond (.t 25) (.seq (.reg [⟨(some 26), none, (.ld (some 2) .undef (.t 5))⟩, ⟨(some 27), none, (.mov (.t 6))⟩, ⟨none, none, (.st 2 (.t 2) (.t 26))⟩, ⟨(some 3), none, (.mov (.t 27))⟩]) .ret) .skip)) (.seq (.reg [⟨(some 28), none, (.mks 0 1 [] [])⟩, ⟨(some 8), none, (.mov (.t 28))⟩]) (.seq (.seq (.reg [⟨(some 9), none, (.mov (.c (.int .i64 0)))⟩]) (.block 0 (.loop sc_s_l19Case_L0))) (.seq (.seq (.reg [⟨(some 58), none, (.mov (.t 8))⟩, ⟨(some 59), none, (.len (.t 58))⟩, ⟨(some 60), none, (.bin false .gtr (.t 59) (.c (.int .i64 0)))⟩, ⟨(some 61), none, (.mov (.t 60))⟩, ⟨(some 62), (some (61, true)), (.mov (.t 4))⟩, ⟨(some 63), (some (61, true)), (.call 162 [(.t 62), (.c (.int .i64 12))])⟩, ⟨(some 64), none, (.pick (.t 61) (.t 63) (.c (.bool false)))⟩]) (.cond (.t 64) (.reg [⟨(some 65), none, (.mov (.t 8))⟩, ⟨(some 66), none, (.mov (.t 4))⟩, ⟨(some 67), none, (.call 129 [(.t 66), (.c (.int .i64 64))])⟩, ⟨(some 68), none, (.idx 1 (.t 65) (.c (.int .i64 0)))⟩, ⟨none, none, (.st 1 (.t 68) (.t 67))⟩]) .skip)) (.seq (.reg [⟨(some 69), none, (.ld (some 2) .undef (.t 5))⟩, ⟨(some 70), none, (.mov (.t 8))⟩, ⟨none, none, (.st 2 (.t 2) (.t 69))⟩, ⟨(some 3), none, (.mov (.t 70))⟩]) .ret)))))))))
theorem code_s_l19Case : fnCode Try.prog [] 143 = some (71, sc_s_l19Case, [(2, (some 2)), (3, none)]) := by kernel_rfl
/-- The facets that are put into an order, one behind another, and the cursor there. -/
noncomputable def iI (l : List Int) (c : Cur) : Nat → List Int × Cur
  | 0 => ([], c)
  | k + 1 =>
    let b := belowN (iI l c k).2 ((iI l c k).1.length + 1 : Nat)
    ((iI l c k).1.take b.1.toNat ++ [at0 l k] ++ (iI l c k).1.drop b.1.toNat, b.2)
theorem iI_ok {l : List Int} {c : Cur} (h : wfC c) : ∀ k, (iI l c k).1.length = k ∧ wfC (iI l c k).2 ∧ (k ≤ l.length → ∀ x ∈ (iI l c k).1, x ∈ l)
  | 0 => ⟨rfl, h, by simp [iI]⟩
  | k + 1 => by
    obtain ⟨i1, i2, i3⟩ := iI_ok h k
    have hr := belowN_rng (iI l c k).2 (n := ((iI l c k).1.length + 1 : Nat)) (by omega)
    refine ⟨by simp [iI, i1]; omega, belowN_wf i2 _, fun hk x hx => ?_⟩
    simp only [iI, List.mem_append, List.mem_singleton] at hx
    rcases hx with (hx | hx) | hx
    · exact i3 (by omega) x (List.mem_of_mem_take hx)
    · rw [hx]; exact getD_mem' (by omega)
    · exact i3 (by omega) x (List.mem_of_mem_drop hx)
noncomputable def ordL (l : List Int) (c : Cur) : List Int :=
  if decide (0 < l.length) && onceN (iI l c l.length).2 12 then (iI l c l.length).1.set 0 (belowN (belowN (iI l c l.length).2 12).2 64).1 else (iI l c l.length).1
open Classical in
noncomputable def caseL (n : Int) (l : List Int) (c : Cur) : List Int :=
  if dec (fshP n l) = true then (if onceN c 2 = true then fshL n l else ordL l (belowN c 2).2) else ordL l c
theorem ordL_num {l : List Int} {c : Cur} (h : wfC c) (hl : ∀ x ∈ l, -1 ≤ x ∧ x ≤ 64) : (ordL l c).length = l.length ∧ ∀ x ∈ ordL l c, -1 ≤ x ∧ x ≤ 64 := by
  obtain ⟨a, b, d⟩ := iI_ok (l := l) h l.length
  have e := d (Nat.le_refl _)
  unfold ordL
  split
  · refine ⟨by simp [a], fun x hx => ?_⟩
    rcases List.mem_or_eq_of_mem_set hx with hx | hx
    · exact hl x (e x hx)
    · have := belowN_rng (belowN (iI l c l.length).2 12).2 (n := 64) (by omega)
      omega
  · exact ⟨a, fun x hx => hl x (e x hx)⟩
theorem caseL_num {n : Int} {l : List Int} {c : Cur} (h : wfC c) (hn : numR n l) : (caseL n l c).length ≤ 65 ∧ ∀ x ∈ caseL n l c, -1 ≤ x ∧ x ≤ 64 := by
  unfold caseL
  split
  · rename_i hf
    split
    · have h64 := fshL_len n l
      refine ⟨by omega, fun x hx => ?_⟩
      have := (order_parts (shell_order (fsh_ok (dec_iff.1 hf)))).2.2.1 x hx
      exact hn.2.2 x this
    · obtain ⟨a, b⟩ := ordL_num (belowN_wf h 2) hn.2.2
      exact ⟨by have := hn.2.1; omega, b⟩
  · obtain ⟨a, b⟩ := ordL_num h hn.2.2
    exact ⟨by have := hn.2.1; omega, b⟩
noncomputable def F_s_l19Case : List V → Option V := F1 dBy fun b => some (.tup [.agg [.int .i64 (bentN (newCur b)).1.1, .own 1 (ints (bentN (newCur b)).1.2)], .own 1 (ints (caseL (bentN (newCur b)).1.1 (bentN (newCur b)).1.2 (bentN (newCur b)).2))])
theorem fn_s_l19Case : FnOk Try.prog 143 F_s_l19Case := by
  have env := (((((envNil_ok (P := Try.prog)).add fn_s_l1New).add fn_s_FindShelling).addl ln_s_l1Once).addl ln_s_l1Below).addl ln_s_l3Bent
  refine fn_ok code_s_l19Case mixed env ?_
  intro args r h hb
  obtain ⟨_, b, rfl, h1, h4⟩ := F1_inv h
  obtain ⟨hw, rfl⟩ := dBy_inv h1
  cases h4
  clear h hb h1
  refine ⟨by simp, fun w0 U0 L0 N0 => ?_⟩
  have hN : F_s_l1New [.list 1 (u8s b)] = some (.opt (curC (newCur b))) := by
    simp only [F_s_l1New, F1_mk, dBy_list hw, Option.bind_some]
  have v0 := newCur_wf hw
  have g0 := G_bent v0
  have v1 := bentN_wf v0
  have hnum := bentN_num (newCur b)
  generalize bentN (newCur b) = x at *
  generalize newCur b = c0 at *
  obtain ⟨⟨n, l⟩, c⟩ := x
  simp only at g0 v1 hnum ⊢
  have g1 := G_once v1 2
  have v2 := belowN_wf v1 2
  have hF : F_s_FindShelling [.agg [.int .i64 n, .list 1 (ints l)]] = some (.tup [.own 1 (ints (fshL n l)), .bool (dec (fshP n l))]) := by
    simp only [F_s_FindShelling, F1_mk, dC_agg, Option.bind_some]
  have eC : caseL n l c = if dec (fshP n l) = true then (if onceN c 2 = true then fshL n l else ordL l (belowN c 2).2) else ordL l c := rfl
  generalize caseL n l c = R at *
  generalize fshL n l = S at *
  cases hd : dec (fshP n l) with
  | false =>
    rw [hd, if_neg (by simp)] at eC
    rw [hd] at hF
    simp -implicitDefEqProofs [sc_s_l19Case, ren0, hN, g0, hF]
    have vd := v1
    have ed := eC
    clear g0 g1 v2 eC
    generalize c = d at *
    clear hN hF v0 v1
    have hok := fun k => iI_ok (l := l) vd k
    have hst : ∀ k, iI l d (k + 1) = ((iI l d k).1.take (belowN (iI l d k).2 ((iI l d k).1.length + 1 : Nat)).1.toNat ++ [at0 l k] ++ (iI l d k).1.drop (belowN (iI l d k).2 ((iI l d k).1.length + 1 : Nat)).1.toNat, (belowN (iI l d k).2 ((iI l d k).1.length + 1 : Nat)).2) := fun k => rfl
    have h00 : iI l d 0 = ([], d) := rfl
    have eO : ordL l d = if decide (0 < l.length) && onceN (iI l d l.length).2 12 then (iI l d l.length).1.set 0 (belowN (belowN (iI l d l.length).2 12).2 64).1 else (iI l d l.length).1 := rfl
    rw [eO] at ed
    clear eO
    generalize iI l d = f at *
    refine loopI env mixed (fun k : Nat => [(2, .pt 0 0), (4, .pt 1 0), (5, .pt 3 0), (8, .sl 4 1 0 k), (9, .int .i64 (k : Int))]) (fun k => ([(4, ints (f k).1), (3, [.int .i64 n, .sl 2 1 0 l.length]), (2, ints l), (1, curC (f k).2), (0, [.int .i64 0, .nil])], 5)) (fun k => k ≤ l.length) (fun k => l.length - k) 0 (by simp) ?_ ?_
    · refine SubI.ren (fun m => if m = 0 then some 0 else if m = 1 then some 1 else if m = 2 then some 2 else if m = 3 then some 3 else if m = 4 then some 5 else none) ?_ ?_ ?_ (by simp) (by simp)
      · simp [renV, ren1]
      · simp [renL, ren1, h00]
      · intro n hn
        simp only at hn
        have h1 : n ≠ 0 := by omega
        have h2 : n ≠ 1 := by omega
        have h3 : n ≠ 2 := by omega
        have h4 : n ≠ 3 := by omega
        have h5 : n ≠ 4 := by omega
        simp [h1, h2, h3, h4, h5]
    intro k hk
    obtain ⟨l1, l2, l3⟩ := hok k
    have hnl := hnum.2.1
    have hwk : IntKind.i64.wrap ((k : Int) + 1) = (k : Int) + 1 := wrapI _ (by omega) (by omega)
    have h3 : (f k).1.take k = (f k).1 := List.take_of_length_le (by omega)
    by_cases hlt : k < l.length
    · have g := G_below l2 ((k : Int) + 1)
      obtain ⟨q1, q2⟩ := belowN_rng (f k).2 (n := (k : Int) + 1) (by omega)
      have e := hst k
      rw [l1] at e
      have ec : ((k + 1 : Nat) : Int) = (k : Int) + 1 := by omega
      rw [ec] at e
      obtain ⟨j, hj⟩ := Int.eq_ofNat_of_zero_le q1
      rw [hj, Int.toNat_natCast] at e
      rw [hj] at g q2
      have hjk : j ≤ k := by omega
      have hjk2 : (j : Int) ≤ (k : Int) := by omega
      have k1 : (k - j) * 8 ≤ 140737488355328 := by omega
      have k2 : (j + 1) * 8 ≤ 140737488355328 := by omega
      have k3 : (j + 1 + (k - j)) * 8 ≤ 140737488355328 := by omega
      simp -implicitDefEqProofs [sc_s_l19Case_L0, freeOk, ren0, hlt, g, l1, hwk, h3, hjk, hjk2, k1, k2, k3]
      refine Again.of (k + 1) (by omega) (by omega) (SubI.ren (fun m => if m = 0 then some 0 else if m = 1 then some 1 else if m = 2 then some 2 else if m = 3 then some 3 else if m = 4 then some 9 else none) ?_ ?_ ?_ (by simp) (by simp))
      · have e2 : j + 1 + (k - j) = k + 1 := by omega
        simp [renV, ren1, e2]
      · have a1 : (ints ((f k).1.take j) ++ [V.int .i64 (at0 l k)]).take (j + 1) = ints ((f k).1.take j) ++ [V.int .i64 (at0 l k)] := List.take_of_length_le (by simp [l1]; omega)
        have a2 : ((f k).1.drop j).take (k - j) = (f k).1.drop j := List.take_of_length_le (by simp [l1])
        rw [a1, a2, a2, ints_snoc, ints_app]
        simp [renL, ren1, e]
      · intro n hn
        simp only at hn
        have h1 : n ≠ 0 := by omega
        have h2 : n ≠ 1 := by omega
        have h3 : n ≠ 2 := by omega
        have h4 : n ≠ 3 := by omega
        have h5 : n ≠ 4 := by omega
        simp [h1, h2, h3, h4, h5]
    · have hkk : k = l.length := by omega
      subst hkk
      have g := G_once l2 12
      have w2 := belowN_wf l2 12
      have g2 := G_below w2 64
      by_cases hp : 0 < l.length
      · have hp2 : (0 : Int) < l.length := by omega
        cases ho2 : onceN (f l.length).2 12 with
        | true =>
          rw [ho2] at g ed
          simp only [hp, decide_true, Bool.and_true, if_true] at ed
          rw [ed]
          have a3 : ((f l.length).1.set 0 (belowN (belowN (f l.length).2 12).2 64).1).take l.length = (f l.length).1.set 0 (belowN (belowN (f l.length).2 12).2 64).1 := List.take_of_length_le (by simp [l1])
          simp -implicitDefEqProofs [sc_s_l19Case_L0, freeOk, ren0, g, g2, hp, hp2, l1, h3, a3]
          try omega
        | false =>
          rw [ho2] at g ed
          simp only [Bool.and_false, Bool.false_eq_true, if_false] at ed
          rw [ed]
          simp -implicitDefEqProofs [sc_s_l19Case_L0, freeOk, ren0, g, hp, hp2, l1, h3]
          try omega
      · have hp2 : ¬ (0 : Int) < l.length := by omega
        simp only [hp, decide_false, Bool.false_and, Bool.false_eq_true, if_false] at ed
        rw [ed]
        simp -implicitDefEqProofs [sc_s_l19Case_L0, freeOk, ren0, hp, hp2, l1, h3]
        try omega
  | true =>
    rw [hd, if_pos rfl] at eC
    rw [hd] at hF
    cases ho : onceN c 2 with
    | true =>
      rw [ho, if_pos rfl] at eC
      subst eC
      rw [ho] at g1
      simp -implicitDefEqProofs [sc_s_l19Case, ren0, hN, g0, hF, g1]
    | false =>
      rw [ho, if_neg (by simp)] at eC
      rw [ho] at g1
      simp -implicitDefEqProofs [sc_s_l19Case, ren0, hN, g0, hF, g1]
      have vd := v2
      have ed := eC
      clear g0 g1 v2 eC
      generalize (belowN c 2).2 = d at *
      clear hN hF v0 v1
      have hok := fun k => iI_ok (l := l) vd k
      have hst : ∀ k, iI l d (k + 1) = ((iI l d k).1.take (belowN (iI l d k).2 ((iI l d k).1.length + 1 : Nat)).1.toNat ++ [at0 l k] ++ (iI l d k).1.drop (belowN (iI l d k).2 ((iI l d k).1.length + 1 : Nat)).1.toNat, (belowN (iI l d k).2 ((iI l d k).1.length + 1 : Nat)).2) := fun k => rfl
      have h00 : iI l d 0 = ([], d) := rfl
      have eO : ordL l d = if decide (0 < l.length) && onceN (iI l d l.length).2 12 then (iI l d l.length).1.set 0 (belowN (belowN (iI l d l.length).2 12).2 64).1 else (iI l d l.length).1 := rfl
      rw [eO] at ed
      clear eO
      generalize iI l d = f at *
      refine loopI env mixed (fun k : Nat => [(2, .pt 0 0), (4, .pt 1 0), (5, .pt 3 0), (8, .sl 4 1 0 k), (9, .int .i64 (k : Int))]) (fun k => ([(4, ints (f k).1), (3, [.int .i64 n, .sl 2 1 0 l.length]), (2, ints l), (1, curC (f k).2), (0, [.int .i64 0, .nil])], 5)) (fun k => k ≤ l.length) (fun k => l.length - k) 0 (by simp) ?_ ?_
      · refine SubI.ren (fun m => if m = 0 then some 0 else if m = 1 then some 1 else if m = 2 then some 2 else if m = 3 then some 3 else if m = 4 then some 5 else none) ?_ ?_ ?_ (by simp) (by simp)
        · simp [renV, ren1]
        · simp [renL, ren1, h00]
        · intro n hn
          simp only at hn
          have h1 : n ≠ 0 := by omega
          have h2 : n ≠ 1 := by omega
          have h3 : n ≠ 2 := by omega
          have h4 : n ≠ 3 := by omega
          have h5 : n ≠ 4 := by omega
          simp [h1, h2, h3, h4, h5]
      intro k hk
      obtain ⟨l1, l2, l3⟩ := hok k
      have hnl := hnum.2.1
      have hwk : IntKind.i64.wrap ((k : Int) + 1) = (k : Int) + 1 := wrapI _ (by omega) (by omega)
      have h3 : (f k).1.take k = (f k).1 := List.take_of_length_le (by omega)
      by_cases hlt : k < l.length
      · have g := G_below l2 ((k : Int) + 1)
        obtain ⟨q1, q2⟩ := belowN_rng (f k).2 (n := (k : Int) + 1) (by omega)
        have e := hst k
        rw [l1] at e
        have ec : ((k + 1 : Nat) : Int) = (k : Int) + 1 := by omega
        rw [ec] at e
        obtain ⟨j, hj⟩ := Int.eq_ofNat_of_zero_le q1
        rw [hj, Int.toNat_natCast] at e
        rw [hj] at g q2
        have hjk : j ≤ k := by omega
        have hjk2 : (j : Int) ≤ (k : Int) := by omega
        have k1 : (k - j) * 8 ≤ 140737488355328 := by omega
        have k2 : (j + 1) * 8 ≤ 140737488355328 := by omega
        have k3 : (j + 1 + (k - j)) * 8 ≤ 140737488355328 := by omega
        simp -implicitDefEqProofs [sc_s_l19Case_L0, freeOk, ren0, hlt, g, l1, hwk, h3, hjk, hjk2, k1, k2, k3]
        refine Again.of (k + 1) (by omega) (by omega) (SubI.ren (fun m => if m = 0 then some 0 else if m = 1 then some 1 else if m = 2 then some 2 else if m = 3 then some 3 else if m = 4 then some 9 else none) ?_ ?_ ?_ (by simp) (by simp))
        · have e2 : j + 1 + (k - j) = k + 1 := by omega
          simp [renV, ren1, e2]
        · have a1 : (ints ((f k).1.take j) ++ [V.int .i64 (at0 l k)]).take (j + 1) = ints ((f k).1.take j) ++ [V.int .i64 (at0 l k)] := List.take_of_length_le (by simp [l1]; omega)
          have a2 : ((f k).1.drop j).take (k - j) = (f k).1.drop j := List.take_of_length_le (by simp [l1])
          rw [a1, a2, a2, ints_snoc, ints_app]
          simp [renL, ren1, e]
        · intro n hn
          simp only at hn
          have h1 : n ≠ 0 := by omega
          have h2 : n ≠ 1 := by omega
          have h3 : n ≠ 2 := by omega
          have h4 : n ≠ 3 := by omega
          have h5 : n ≠ 4 := by omega
          simp [h1, h2, h3, h4, h5]
      · have hkk : k = l.length := by omega
        subst hkk
        have g := G_once l2 12
        have w2 := belowN_wf l2 12
        have g2 := G_below w2 64
        by_cases hp : 0 < l.length
        · have hp2 : (0 : Int) < l.length := by omega
          cases ho2 : onceN (f l.length).2 12 with
          | true =>
            rw [ho2] at g ed
            simp only [hp, decide_true, Bool.and_true, if_true] at ed
            rw [ed]
            have a3 : ((f l.length).1.set 0 (belowN (belowN (f l.length).2 12).2 64).1).take l.length = (f l.length).1.set 0 (belowN (belowN (f l.length).2 12).2 64).1 := List.take_of_length_le (by simp [l1])
            simp -implicitDefEqProofs [sc_s_l19Case_L0, freeOk, ren0, g, g2, hp, hp2, l1, h3, a3]
            try omega
          | false =>
            rw [ho2] at g ed
            simp only [Bool.and_false, Bool.false_eq_true, if_false] at ed
            rw [ed]
            simp -implicitDefEqProofs [sc_s_l19Case_L0, freeOk, ren0, g, hp, hp2, l1, h3]
            try omega
        · have hp2 : ¬ (0 : Int) < l.length := by omega
          simp only [hp, decide_false, Bool.false_and, Bool.false_eq_true, if_false] at ed
          rw [ed]
          simp -implicitDefEqProofs [sc_s_l19Case_L0, freeOk, ren0, hp, hp2, l1, h3]
          try omega
def sc_s_DrawDivisionFrom : SC := (.seq (.reg [⟨(some 2), none, (.new [(.int .i64 0), .nil])⟩, ⟨(some 3), none, (.mov (.c .nil))⟩]) (.seq (.reg [⟨(some 7), none, (.mov (.t 0))⟩, ⟨(some 8), none, (.call 143 [(.t 7)])⟩, ⟨(some 6), none, (.mov (.t 8))⟩, ⟨(some 9), none, (.ext 0 (.t 6))⟩, ⟨(some 10), none, (.ext 1 (.t 6))⟩, ⟨(some 4), none, (.new [(.int .i64 0), .nil])⟩, ⟨none, none, (.st 2 (.t 4) (.t 9))⟩, ⟨(some 5), none, (.mov (.t 10))⟩]) (.seq (.reg [⟨(some 11), none, (.ld (some 2) .undef (.t 4))⟩, ⟨(some 12), none, (.mov (.t 5))⟩, ⟨none, none, (.st 2 (.t 2) (.t 11))⟩, ⟨(some 3), none, (.mov (.t 12))⟩]) .ret)))
theorem code_s_DrawDivisionFrom : fnCode Try.prog [] 107 = some (13, sc_s_DrawDivisionFrom, [(2, (some 2)), (3, none)]) := by kernel_rfl
noncomputable def F_s_DrawDivisionFrom : List V → Option V := F_s_l19Case
theorem fn_s_DrawDivisionFrom : FnOk Try.prog 107 F_s_DrawDivisionFrom := by
  have env := (envNil_ok (P := Try.prog)).add fn_s_l19Case
  refine fn_ok code_s_DrawDivisionFrom mixed env ?_
  intro args r h hb
  obtain ⟨_, b, rfl, h1, h4⟩ := F1_inv h
  obtain ⟨hw, rfl⟩ := dBy_inv h1
  cases h4
  clear h hb h1
  refine ⟨by simp, fun w0 U0 L0 N0 => ?_⟩
  have hF : F_s_l19Case [.list 1 (u8s b)] = some (.tup [.agg [.int .i64 (bentN (newCur b)).1.1, .own 1 (ints (bentN (newCur b)).1.2)], .own 1 (ints (caseL (bentN (newCur b)).1.1 (bentN (newCur b)).1.2 (bentN (newCur b)).2))]) := by
    simp only [F_s_l19Case, F1_mk, dBy_list hw, Option.bind_some]
  generalize caseL (bentN (newCur b)).1.1 (bentN (newCur b)).1.2 (bentN (newCur b)).2 = L at *
  generalize bentN (newCur b) = x at *
  simp -implicitDefEqProofs [sc_s_DrawDivisionFrom, hF]
def sc_s_DrawIsShelling : SC := (.seq (.reg [⟨(some 2), none, (.new [(.int .i64 0), .nil])⟩, ⟨(some 3), none, (.mov (.c .nil))⟩]) (.seq (.reg [⟨(some 7), none, (.mov (.t 0))⟩, ⟨(some 8), none, (.call 143 [(.t 7)])⟩, ⟨(some 6), none, (.mov (.t 8))⟩, ⟨(some 9), none, (.ext 0 (.t 6))⟩, ⟨(some 10), none, (.ext 1 (.t 6))⟩, ⟨(some 4), none, (.new [(.int .i64 0), .nil])⟩, ⟨none, none, (.st 2 (.t 4) (.t 9))⟩, ⟨(some 5), none, (.mov (.t 10))⟩]) (.seq (.reg [⟨(some 11), none, (.ld (some 2) .undef (.t 4))⟩, ⟨(some 12), none, (.mov (.t 5))⟩, ⟨none, none, (.st 2 (.t 2) (.t 11))⟩, ⟨(some 3), none, (.mov (.t 12))⟩]) .ret)))
theorem code_s_DrawIsShelling : fnCode Try.prog [] 28 = some (13, sc_s_DrawIsShelling, [(2, (some 2)), (3, none)]) := by kernel_rfl
noncomputable def F_s_DrawIsShelling : List V → Option V := F_s_l19Case
theorem fn_s_DrawIsShelling : FnOk Try.prog 28 F_s_DrawIsShelling := by
  have env := (envNil_ok (P := Try.prog)).add fn_s_l19Case
  refine fn_ok code_s_DrawIsShelling mixed env ?_
  intro args r h hb
  obtain ⟨_, b, rfl, h1, h4⟩ := F1_inv h
  obtain ⟨hw, rfl⟩ := dBy_inv h1
  cases h4
  clear h hb h1
  refine ⟨by simp, fun w0 U0 L0 N0 => ?_⟩
  have hF : F_s_l19Case [.list 1 (u8s b)] = some (.tup [.agg [.int .i64 (bentN (newCur b)).1.1, .own 1 (ints (bentN (newCur b)).1.2)], .own 1 (ints (caseL (bentN (newCur b)).1.1 (bentN (newCur b)).1.2 (bentN (newCur b)).2))]) := by
    simp only [F_s_l19Case, F1_mk, dBy_list hw, Option.bind_some]
  generalize caseL (bentN (newCur b)).1.1 (bentN (newCur b)).1.2 (bentN (newCur b)).2 = L at *
  generalize bentN (newCur b) = x at *
  simp -implicitDefEqProofs [sc_s_DrawIsShelling, hF]
def sc_s_DrawFindDivision : SC := (.seq (.reg [⟨(some 2), none, (.new [(.int .i64 0), .nil])⟩]) (.seq (.reg [⟨(some 3), none, (.mov (.t 0))⟩, ⟨(some 4), none, (.call 128 [(.t 3)])⟩, ⟨(some 5), none, (.call 201 [(.t 4)])⟩, ⟨none, none, (.st 2 (.t 2) (.t 5))⟩]) .ret))
theorem code_s_DrawFindDivision : fnCode Try.prog [] 110 = some (6, sc_s_DrawFindDivision, [(2, (some 2))]) := by kernel_rfl
noncomputable def F_s_DrawFindDivision : List V → Option V := F1 dBy fun b => some (.agg [.int .i64 (fewN (newCur b)).1.1, .own 1 (ints (fewN (newCur b)).1.2)])
theorem fn_s_DrawFindDivision : FnOk Try.prog 110 F_s_DrawFindDivision := by
  have env := ((envNil_ok (P := Try.prog)).add fn_s_l1New).addl ln_s_l21Few
  refine fn_ok code_s_DrawFindDivision mixed env ?_
  intro args r h hb
  obtain ⟨_, b, rfl, h1, h4⟩ := F1_inv h
  obtain ⟨hw, rfl⟩ := dBy_inv h1
  cases h4
  clear h hb h1
  refine ⟨by simp, fun w0 U0 L0 N0 => ?_⟩
  have hN : F_s_l1New [.list 1 (u8s b)] = some (.opt (curC (newCur b))) := by
    simp only [F_s_l1New, F1_mk, dBy_list hw, Option.bind_some]
  have g0 := G_few (newCur_wf hw)
  generalize fewN (newCur b) = x at *
  generalize newCur b = c0 at *
  simp -implicitDefEqProofs [sc_s_DrawFindDivision, ren0, hN, g0]
def sc_s_DrawFindShelling : SC := (.seq (.reg [⟨(some 2), none, (.new [(.int .i64 0), .nil])⟩]) (.seq (.reg [⟨(some 3), none, (.mov (.t 0))⟩, ⟨(some 4), none, (.call 128 [(.t 3)])⟩, ⟨(some 5), none, (.call 144 [(.t 4)])⟩, ⟨none, none, (.st 2 (.t 2) (.t 5))⟩]) .ret))
theorem code_s_DrawFindShelling : fnCode Try.prog [] 29 = some (6, sc_s_DrawFindShelling, [(2, (some 2))]) := by kernel_rfl
noncomputable def F_s_DrawFindShelling : List V → Option V := F1 dBy fun b => some (.agg [.int .i64 (bentN (newCur b)).1.1, .own 1 (ints (bentN (newCur b)).1.2)])
theorem fn_s_DrawFindShelling : FnOk Try.prog 29 F_s_DrawFindShelling := by
  have env := ((envNil_ok (P := Try.prog)).add fn_s_l1New).addl ln_s_l3Bent
  refine fn_ok code_s_DrawFindShelling mixed env ?_
  intro args r h hb
  obtain ⟨_, b, rfl, h1, h4⟩ := F1_inv h
  obtain ⟨hw, rfl⟩ := dBy_inv h1
  cases h4
  clear h hb h1
  refine ⟨by simp, fun w0 U0 L0 N0 => ?_⟩
  have hN : F_s_l1New [.list 1 (u8s b)] = some (.opt (curC (newCur b))) := by
    simp only [F_s_l1New, F1_mk, dBy_list hw, Option.bind_some]
  have g0 := G_bent (newCur_wf hw)
  generalize bentN (newCur b) = x at *
  generalize newCur b = c0 at *
  simp -implicitDefEqProofs [sc_s_DrawFindShelling, ren0, hN, g0]
end Go.Proofs.Ytmemomfffehnkaa
