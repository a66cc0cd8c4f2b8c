import Derived.Test.YtmemomfffehnkaaLmA
import Derived.Test.YtmemomfffehnkaaKG4
import Derived.Test.YtmemomfffehnkaaKG6
namespace Go.Proofs.Ytmemomfffehnkaa
open Go Go.RowKit
set_option maxRecDepth 1000000
set_option linter.unusedSimpArgs false
set_option linter.unusedVariables false
set_option maxHeartbeats 1000000
def sc_s_l16Case_L0 : SC := (.seq (.seq (.reg [⟨(some 47), none, (.mov (.t 14))⟩, ⟨(some 48), none, (.mov (.t 10))⟩, ⟨(some 49), none, (.bin false .lss (.t 47) (.t 48))⟩]) (.cond (.t 49) .skip (.exit 0))) (.seq (.block 1 (.reg [⟨(some 52), none, (.mov (.t 13))⟩, ⟨(some 53), none, (.mov (.t 8))⟩, ⟨(some 54), none, (.mov (.t 7))⟩, ⟨(some 55), none, (.call 206 [(.c (.int .i64 1)), (.t 54)])⟩, ⟨(some 56), none, (.call 129 [(.t 53), (.t 55)])⟩, ⟨(some 57), none, (.mks 1 1 [(.int .i64 0)] [(0, (1, (.t 56)))])⟩, ⟨(some 58), none, (.app 1 8 (.t 52) (.t 57))⟩, ⟨(some 13), none, (.mov (.t 58))⟩])) (.reg [⟨(some 50), none, (.mov (.t 14))⟩, ⟨(some 51), none, (.bin false .add (.t 50) (.c (.int .i64 1)))⟩, ⟨(some 14), none, (.mov (.t 51))⟩])))
def sc_s_l16Case : SC := (.seq (.reg [⟨(some 2), none, (.new [(.int .i64 0), .nil])⟩, ⟨(some 3), none, (.mov (.c (.int .i64 0)))⟩, ⟨(some 4), none, (.mov (.c (.int .i64 0)))⟩, ⟨(some 5), none, (.mov (.c .nil))⟩]) (.seq (.reg [⟨(some 17), none, (.mov (.t 0))⟩, ⟨(some 18), none, (.call 127 [(.t 17)])⟩, ⟨(some 16), none, (.mov (.t 18))⟩, ⟨(some 19), none, (.ext 0 (.t 16))⟩, ⟨(some 20), none, (.ext 1 (.t 16))⟩, ⟨(some 6), none, (.new [(.int .i64 0), .nil])⟩, ⟨none, none, (.st 2 (.t 6) (.t 19))⟩, ⟨(some 7), none, (.mov (.t 20))⟩]) (.seq (.reg [⟨(some 21), none, (.mov (.t 0))⟩, ⟨(some 22), none, (.call 128 [(.t 21)])⟩, ⟨(some 8), none, (.mov (.t 22))⟩]) (.seq (.reg [⟨(some 23), none, (.mov (.t 8))⟩, ⟨(some 24), none, (.call 129 [(.t 23), (.c (.int .i64 3))])⟩, ⟨(some 25), none, (.bin false .add (.c (.int .i64 1)) (.t 24))⟩, ⟨(some 9), none, (.mov (.t 25))⟩]) (.seq (.reg [⟨(some 26), none, (.ld (some 2) .undef (.t 6))⟩, ⟨(some 27), none, (.mov (.t 9))⟩, ⟨(some 28), none, (.call 124 [(.t 26), (.t 27)])⟩, ⟨(some 29), none, (.len (.t 28))⟩, ⟨(some 10), none, (.mov (.t 29))⟩]) (.seq (.reg [⟨(some 31), none, (.ld (some 2) .undef (.t 6))⟩, ⟨(some 32), none, (.mov (.t 9))⟩, ⟨(some 33), none, (.mov (.t 7))⟩, ⟨(some 34), none, (.call 18 [(.t 31), (.t 32), (.t 33)])⟩, ⟨(some 30), none, (.mov (.t 34))⟩, ⟨(some 35), none, (.ext 0 (.t 30))⟩, ⟨(some 36), none, (.ext 1 (.t 30))⟩, ⟨(some 11), none, (.mov (.t 35))⟩, ⟨(some 12), none, (.mov (.t 36))⟩]) (.seq (.seq (.reg [⟨(some 37), none, (.mov (.t 12))⟩, ⟨(some 38), none, (.mov (.t 37))⟩, ⟨(some 39), (some (38, true)), (.mov (.t 8))⟩, ⟨(some 40), (some (38, true)), (.call 162 [(.t 39), (.c (.int .i64 3))])⟩, ⟨(some 41), none, (.pick (.t 38) (.t 40) (.c (.bool false)))⟩]) (.cond (.t 41) (.seq (.reg [⟨(some 42), none, (.ld (some 2) .undef (.t 6))⟩, ⟨(some 43), none, (.mov (.t 9))⟩, ⟨(some 44), none, (.mov (.t 7))⟩, ⟨(some 45), none, (.mov (.t 11))⟩, ⟨none, none, (.st 2 (.t 2) (.t 42))⟩, ⟨(some 3), none, (.mov (.t 43))⟩, ⟨(some 4), none, (.mov (.t 44))⟩, ⟨(some 5), none, (.mov (.t 45))⟩]) .ret) .skip)) (.seq (.reg [⟨(some 46), none, (.mks 0 1 [] [])⟩, ⟨(some 13), none, (.mov (.t 46))⟩]) (.seq (.seq (.reg [⟨(some 14), none, (.mov (.c (.int .i64 0)))⟩]) (.block 0 (.loop sc_s_l16Case_L0))) (.seq (.reg [⟨(some 59), none, (.ld (some 2) .undef (.t 6))⟩, ⟨(some 60), none, (.mov (.t 9))⟩, ⟨(some 61), none, (.bin false .add (.t 60) (.c (.int .i64 1)))⟩, ⟨(some 62), none, (.call 124 [(.t 59), (.t 61)])⟩, ⟨(some 63), none, (.len (.t 62))⟩, ⟨(some 64), none, (.mk 1 8 [(.int .i64 0)] (.t 63) (.t 63))⟩, ⟨(some 15), none, (.mov (.t 64))⟩]) (.seq (.seq (.reg [⟨(some 65), none, (.mov (.t 15))⟩, ⟨(some 66), none, (.len (.t 65))⟩, ⟨(some 67), none, (.bin false .gtr (.t 66) (.c (.int .i64 0)))⟩, ⟨(some 68), none, (.mov (.t 67))⟩, ⟨(some 69), (some (68, true)), (.mov (.t 7))⟩, ⟨(some 70), (some (68, true)), (.call 25 [(.t 69)])⟩, ⟨(some 71), none, (.pick (.t 68) (.t 70) (.c (.bool false)))⟩, ⟨(some 72), none, (.mov (.t 71))⟩, ⟨(some 73), (some (72, true)), (.mov (.t 8))⟩, ⟨(some 74), (some (72, true)), (.call 162 [(.t 73), (.c (.int .i64 3))])⟩, ⟨(some 75), none, (.pick (.t 72) (.t 74) (.c (.bool false)))⟩]) (.cond (.t 75) (.seq (.reg [⟨(some 76), none, (.mov (.t 15))⟩, ⟨(some 77), none, (.mov (.t 8))⟩, ⟨(some 78), none, (.mov (.t 15))⟩, ⟨(some 79), none, (.len (.t 78))⟩, ⟨(some 80), none, (.call 129 [(.t 77), (.t 79)])⟩, ⟨(some 81), none, (.idx 1 (.t 76) (.t 80))⟩, ⟨none, none, (.st 1 (.t 81) (.c (.int .i64 1)))⟩]) (.reg [⟨(some 82), none, (.ld (some 2) .undef (.t 6))⟩, ⟨(some 83), none, (.mov (.t 9))⟩, ⟨(some 84), none, (.bin false .add (.t 83) (.c (.int .i64 1)))⟩, ⟨(some 85), none, (.call 123 [(.t 82), (.t 84)])⟩, ⟨(some 86), none, (.mov (.t 15))⟩, ⟨(some 87), none, (.mov (.t 7))⟩, ⟨(some 88), none, (.call 126 [(.t 85), (.t 86), (.t 87)])⟩, ⟨(some 13), none, (.mov (.t 88))⟩])) .skip)) (.seq (.seq (.reg [⟨(some 89), none, (.mov (.t 8))⟩, ⟨(some 90), none, (.call 162 [(.t 89), (.c (.int .i64 14))])⟩]) (.cond (.t 90) (.reg [⟨(some 91), none, (.mov (.t 13))⟩, ⟨(some 92), none, (.mks 1 1 [(.int .i64 0)] [(0, (1, (.c (.int .i64 0))))])⟩, ⟨(some 93), none, (.app 1 8 (.t 91) (.t 92))⟩, ⟨(some 13), none, (.mov (.t 93))⟩]) .skip)) (.seq (.reg [⟨(some 94), none, (.ld (some 2) .undef (.t 6))⟩, ⟨(some 95), none, (.mov (.t 9))⟩, ⟨(some 96), none, (.mov (.t 7))⟩, ⟨(some 97), none, (.mov (.t 13))⟩, ⟨none, none, (.st 2 (.t 2) (.t 94))⟩, ⟨(some 3), none, (.mov (.t 95))⟩, ⟨(some 4), none, (.mov (.t 96))⟩, ⟨(some 5), none, (.mov (.t 97))⟩]) .ret)))))))))))))
theorem code_s_l16Case : fnCode Try.prog [144, 211, 129, 162] 117 = some (98, sc_s_l16Case, [(2, (some 2)), (3, none), (4, none), (5, none)]) := by kernel_rfl
/-- The drawn numbers of a chain, and the cursor there. -/
noncomputable def oN (m : Int) (c : Cur) : Nat → List Int × Cur
  | 0 => ([], c)
  | k + 1 => ((oN m c k).1 ++ [(belowN (oN m c k).2 m).1], (belowN (oN m c k).2 m).2)
theorem oN_ok {m : Int} {c : Cur} (h : wfC c) : ∀ k, (oN m c k).1.length = k ∧ wfC (oN m c k).2
  | 0 => ⟨rfl, h⟩
  | k + 1 => ⟨by simp [oN, (oN_ok (m := m) h k).1], belowN_wf (oN_ok h k).2 _⟩
/-- One 1 among zeros. -/
noncomputable def zN (w : Nat) (i : Nat) : List Int := (List.replicate w 0).set i 1
open Classical in
/-- The chain behind the drawn numbers, and the cursor there. -/
noncomputable def tN (n : Int) (l : List Int) (k p : Int) (x : List Int × Cur) : List Int × Cur :=
  if 0 < (fosL n l (k + 1)).length ∧ fpP p then (if onceN x.2 3 = true then (bocL (borM n l (k + 1)) (zN (fosL n l (k + 1)).length (belowN (belowN x.2 3).2 (fosL n l (k + 1)).length).1.toNat) p, (belowN (belowN x.2 3).2 (fosL n l (k + 1)).length).2) else (x.1, (belowN x.2 3).2)) else x
noncomputable def lastN (x : List Int × Cur) : List Int := if onceN x.2 14 = true then x.1 ++ [0] else x.1
open Classical in
/-- The drawn chain. -/
noncomputable def chainN (n : Int) (l : List Int) (k p : Int) (c : Cur) : List Int :=
  if (hcF n l k p).2 = true then (if onceN c 3 = true then (hcF n l k p).1 else lastN (tN n l k p (oN (max 1 p) (belowN c 3).2 (fosL n l k).length))) else lastN (tN n l k p (oN (max 1 p) c (fosL n l k).length))
theorem zN_len (w i : Nat) : (zN w i).length = w := by simp [zN]
theorem zN_mat {n : Int} {l : List Int} {k p : Int} (hp : fpP p) (i : Nat) : matP (borM n l k) (zN (fosL n l k).length i) p ∧ (borM n l k).length ≤ 64 ∧ (zN (fosL n l k).length i).length ≤ 64 := by
  obtain ⟨_, hRl, hCl⟩ := borM_ok (n := n) (l := l) (k := k)
  have hpp := fpP_bnd hp
  refine ⟨⟨hp, fun j hj => ?_, fun t ht => ?_⟩, by unfold borM; rw [sgnM_len]; exact hRl, by rw [zN_len]; exact hCl⟩
  · unfold zN
    rw [at0_set]
    split
    · omega
    · have : at0 (List.replicate (fosL n l k).length 0) j = 0 := by
        by_cases h : j < (fosL n l k).length
        · simp [at0, h]
        · simp [at0, h]
      rw [this]; omega
  · unfold borM at ht ⊢
    rw [sgnM_len] at ht
    rw [sgnM_at ht, zN_len]
    refine ⟨by simp, fun j hj => ?_⟩
    rw [← rowF_map, rowF_at (by omega)]
    exact sgnZ_bnd _ _
theorem fos_cplx {n : Int} {l : List Int} {k : Int} (h : 0 < (fosL n l k).length) : cplx n l := (mem_fosL (getD_mem' h)).2.1
noncomputable def F_s_l16Case : List V → Option V := F1 dBy fun b => some (.tup [.agg [.int .i64 (bentN (newCur b)).1.1, .own 1 (ints (bentN (newCur b)).1.2)], .int .i64 (1 + (belowN (newCur b) 3).1), .int .i64 (pickN (bentN (newCur b)).2 qLs),
  .own 1 (ints (chainN (bentN (newCur b)).1.1 (bentN (newCur b)).1.2 (1 + (belowN (newCur b) 3).1) (pickN (bentN (newCur b)).2 qLs) (belowN (newCur b) 3).2))])
theorem fn_s_l16Case : FnOk Try.prog 117 F_s_l16Case := by
  have env := ((((((((((envNil_ok (P := Try.prog)).add fn_s_l1New).add fn_s_l14Case).add fn_s_FacesOfSize).add fn_s_HoleCycle).add fn_s_IsFieldPrime).add fn_s_l13Border).add fn_s_l16Times).add fn_s_l1Max).addl ln_s_l1Below).addl ln_s_l1Once
  refine fn_ok code_s_l16Case mixed env ?_
  intro args r h hb
  obtain ⟨_, b, rfl, h1, h4⟩ := F1_inv h
  obtain ⟨hw, rfl⟩ := dBy_inv h1
  cases h4
  clear h hb h1
  refine ⟨by simp, fun w0 U0 L0 N0 => ?_⟩
  have hN : F_s_l1New [.list 1 (u8s b)] = some (.opt (curC (newCur b))) := by
    simp only [F_s_l1New, F1_mk, dBy_list hw, Option.bind_some]
  have hC : F_s_l14Case [.list 1 (u8s b)] = some (.tup [.agg [.int .i64 (bentN (newCur b)).1.1, .own 1 (ints (bentN (newCur b)).1.2)], .int .i64 (pickN (bentN (newCur b)).2 qLs)]) := by
    simp only [F_s_l14Case, F1_mk, dBy_list hw, Option.bind_some]
  have v0 := newCur_wf hw
  have g0 := G_below v0 3
  have v1 := belowN_wf v0 3
  have r1 := belowN_rng (newCur b) (n := 3) (by omega)
  have hq := qLs_rng (bentN (newCur b)).2
  generalize pickN (bentN (newCur b)).2 qLs = p at *
  generalize bentN (newCur b) = x at *
  generalize belowN (newCur b) 3 = y at *
  generalize newCur b = c0 at *
  obtain ⟨⟨n, l⟩, _⟩ := x
  obtain ⟨j, c⟩ := y
  simp only at hC g0 v1 r1 ⊢
  obtain ⟨k, hk⟩ : ∃ k, 1 + j = k := ⟨_, rfl⟩
  have hwk : IntKind.i64.wrap (1 + j) = k := by rw [hk]; exact wrapI _ (by omega) (by omega)
  rw [hk]
  have hFS : ∀ z, F_s_FacesOfSize [.agg [.int .i64 n, .list 1 (ints l)], .int .i64 z] = some (.own 1 (ints (fosL n l z))) := fun z => by
    simp only [F_s_FacesOfSize, F2_mk, dC_agg, dI_int, Option.bind_some]
  have hHC : F_s_HoleCycle [.agg [.int .i64 n, .list 1 (ints l)], .int .i64 k, .int .i64 p] = some (.tup [.own 1 (ints (hcF n l k p).1), .bool (hcF n l k p).2]) := by
    simp only [F_s_HoleCycle, F3_mk, dC_agg, dI_int, Option.bind_some]
  have hHl := hcF_len n l k p
  have g1 := G_once v1 3
  have v2 := belowN_wf v1 3
  have eC : chainN n l k p c = if (hcF n l k p).2 = true then (if onceN c 3 = true then (hcF n l k p).1 else lastN (tN n l k p (oN (max 1 p) (belowN c 3).2 (fosL n l k).length))) else lastN (tN n l k p (oN (max 1 p) c (fosL n l k).length)) := rfl
  generalize chainN n l k p c = R at *
  generalize hcF n l k p = hc at *
  obtain ⟨hcl, hcb⟩ := hc
  simp only at hHC eC hHl
  have f1 := hFS k
  have fl1 : (fosL n l k).length ≤ 64 := setsOf_len _
  cases hcb with
  | true =>
    rw [if_pos rfl] at eC
    cases ho : onceN c 3 with
    | true =>
      rw [ho, if_pos rfl] at eC
      rw [ho] at g1
      rw [eC]
      simp -implicitDefEqProofs [sc_s_l16Case, freeOk, ren0, hN, hC, g0, hwk, f1, hHC, g1]
    | false =>
      rw [ho, if_neg (by simp)] at eC
      rw [ho] at g1
      simp -implicitDefEqProofs [sc_s_l16Case, freeOk, ren0, hN, hC, g0, hwk, f1, hHC, g1]
      have vd := v2
      clear hN hC hHC g0 g1 v0 v1 v2 f1
      generalize (belowN c 3).2 = d at *
      have hok := fun i => oN_ok (m := max 1 p) vd i
      have hst : ∀ i, oN (max 1 p) d (i + 1) = ((oN (max 1 p) d i).1 ++ [(belowN (oN (max 1 p) d i).2 (max 1 p)).1], (belowN (oN (max 1 p) d i).2 (max 1 p)).2) := fun i => rfl
      have h00 : oN (max 1 p) d 0 = ([], d) := rfl
      have hmx : F_s_l1Max [.int .i64 1, .int .i64 p] = some (.int .i64 (max 1 p)) := by simp only [F_s_l1Max, F2_mk, dI_int, Option.bind_some]
      generalize max 1 p = mp at *
      generalize oN mp d = f at *
      obtain ⟨w, hw9⟩ : ∃ w, (fosL n l k).length = w := ⟨_, rfl⟩
      rw [hw9] at eC fl1
      rw [hw9]
      refine loopI env mixed (fun i : Nat => [(2, .pt 0 0), (6, .pt 2 0), (7, .int .i64 p), (8, .pt 3 0), (9, .int .i64 k), (10, .int .i64 (w : Int)), (13, .sl 4 1 0 i), (14, .int .i64 (i : Int))]) (fun i => ([(4, ints (f i).1), (3, curC (f i).2), (2, [.int .i64 n, .sl 1 1 0 l.length]), (1, ints l), (0, [.int .i64 0, .nil])], 5)) (fun i => i ≤ w) (fun i => w - i) 0 (by simp) ?_ ?_
      · refine SubI.ren (fun m => if m = 0 then some 0 else if m = 1 then some 1 else if m = 2 then some 2 else if m = 3 then some 3 else if m = 4 then some 6 else none) ?_ ?_ ?_ (by simp) (by simp)
        · simp [renV, ren1, h00]
        · simp [renL, ren1, h00]
        · intro m hm
          simp only at hm
          have h1 : m ≠ 0 := by omega
          have h2 : m ≠ 1 := by omega
          have h3 : m ≠ 2 := by omega
          have h4 : m ≠ 3 := by omega
          have h5 : m ≠ 4 := by omega
          simp [h1, h2, h3, h4, h5]
      intro i hi
      obtain ⟨l1, w1⟩ := hok i
      by_cases hlt : i < w
      · have hlti : (i : Int) < (w : Int) := by omega
        have hwi : IntKind.i64.wrap ((i : Int) + 1) = (i : Int) + 1 := wrapI _ (by omega) (by omega)
        have g := G_below w1 mp
        have e := hst i
        have q1 : (i + 1) * 8 ≤ 140737488355328 := by omega
        simp -implicitDefEqProofs [sc_s_l16Case_L0, freeOk, ren0, hlt, hlti, hmx, g, hwi, l1, q1]
        refine Again.of (i + 1) (by omega) (by omega) (SubI.ren (fun m => if m = 0 then some 0 else if m = 1 then some 1 else if m = 2 then some 2 else if m = 3 then some 3 else if m = 4 then some 6 else none) ?_ ?_ ?_ (by simp) (by simp))
        · simp [renV, ren1]
        · have a1 : (ints (f i).1 ++ [V.int .i64 (belowN (f i).2 mp).1]).take (i + 1) = ints (f i).1 ++ [V.int .i64 (belowN (f i).2 mp).1] := List.take_of_length_le (by simp [l1])
          simp [renL, ren1, e]
          try rw [a1]
          have a2 : (f i).1.take i = (f i).1 := List.take_of_length_le (by omega)
          try rw [a2]
          try rw [ints_snoc]
        · intro m hm
          simp only at hm
          have h1 : m ≠ 0 := by omega
          have h2 : m ≠ 1 := by omega
          have h3 : m ≠ 2 := by omega
          have h4 : m ≠ 3 := by omega
          have h5 : m ≠ 4 := by omega
          simp [h1, h2, h3, h4, h5]
      · have hiw : i = w := by omega
        subst hiw
        clear hst hok h00
        obtain ⟨⟨out, cur⟩, ef⟩ : ∃ x, f i = x := ⟨_, rfl⟩
        rw [ef] at l1 w1 eC
        simp only at l1 w1
        have f2 := hFS (k + 1)
        have hwk1 : IntKind.i64.wrap (k + 1) = k + 1 := wrapI _ (by omega) (by omega)
        obtain ⟨W, hW⟩ : ∃ W, (fosL n l (k + 1)).length = W := ⟨_, rfl⟩
        have hWl : W ≤ 64 := by rw [← hW]; exact setsOf_len _
        have hWb : W * 8 ≤ 140737488355328 := by omega
        have ha : out.take i = out := List.take_of_length_le (by omega)
        by_cases hz : 0 < W
        · have hzi : (0 : Int) < (W : Int) := by omega
          have hFP : F_s_IsFieldPrime [.int .i64 p] = some (.bool (dec (fpP p))) := by simp only [F_s_IsFieldPrime, F1_mk, dI_int, Option.bind_some]
          by_cases hp : fpP p
          · rw [dec_true hp] at hFP
            have g3 := G_once w1 3
            have w3 := belowN_wf w1 3
            have eT : tN n l k p (out, cur) = if onceN cur 3 = true then (bocL (borM n l (k + 1)) (zN W (belowN (belowN cur 3).2 W).1.toNat) p, (belowN (belowN cur 3).2 W).2) else (out, (belowN cur 3).2) := by
              unfold tN
              rw [if_pos ⟨by rw [hW]; exact hz, hp⟩, hW]
            cases ho3 : onceN cur 3 with
            | true =>
              rw [ho3, if_pos rfl] at eT
              rw [ho3] at g3
              rw [eT] at eC
              have g4 := G_below w3 (W : Int)
              have w4 := belowN_wf w3 (W : Int)
              have r4 := belowN_rng (belowN cur 3).2 (n := (W : Int)) (by omega)
              have hmat := zN_mat (n := n) (l := l) (k := k + 1) hp (belowN (belowN cur 3).2 W).1.toNat
              have hF1 : F_i_BorderMatrix [.agg [.int .i64 n, .list 1 (ints l)], .int .i64 (k + 1)] = some (.own 1 (rowsV (borM n l (k + 1)))) := by
                simp only [F_i_BorderMatrix, F2_mk, dC_agg, dI_int, Option.bind_some]
                rw [if_pos ⟨fos_cplx (by rw [hW]; exact hz), by omega, by omega⟩]
              rw [hW] at hmat
              have hF2 : F_s_l16Times [.list 1 (rowsL (borM n l (k + 1))), .list 1 (ints (zN W (belowN (belowN cur 3).2 W).1.toNat)), .int .i64 p] = some (.own 1 (ints (bocL (borM n l (k + 1)) (zN W (belowN (belowN cur 3).2 W).1.toNat) p))) := by
                simp only [F_s_l16Times, F3_mk, dLL_list, dL_list, dI_int, Option.bind_some]
                rw [if_pos hmat]
              have hBl := bocL_len (borM n l (k + 1)) (zN W (belowN (belowN cur 3).2 W).1.toNat) p
              have hBl2 := hmat.2.1
              rw [← hBl] at hBl2
              clear hBl hmat
              have hzs : ∀ t : Nat, (List.replicate W (0 : Int)).set t 1 = zN W t := fun t => rfl
              obtain ⟨t, ht⟩ := Int.eq_ofNat_of_zero_le r4.1
              rw [ht, Int.toNat_natCast] at hF2 hBl2 eC
              rw [ht] at g4 r4
              have htW : t < W := by omega
              have hzl := zN_len W t
              have hzt : (zN W t).take W = zN W t := List.take_of_length_le (by omega)
              generalize bocL (borM n l (k + 1)) (zN W t) p = B at *
              generalize borM n l (k + 1) = MM at *
              generalize (belowN (belowN cur 3).2 W).2 = cur2 at *
              have gl := G_once w4 14
              cases ho9 : onceN cur2 14 with
              | true =>
                rw [ho9] at gl
                have eR : R = B ++ [0] := by rw [eC]; unfold lastN; simp only [ho9, if_true]
                rw [eR]
                have q1 : (B.length + 1) * 8 ≤ 140737488355328 := by omega
                have q2 : (B ++ [0]).take (B.length + 1) = B ++ [0] := List.take_of_length_le (by simp <;> omega)
                simp -implicitDefEqProofs [sc_s_l16Case_L0, freeOk, ren0, ef, hwk1, f2, hW, hz, hzi, hWb, hFP, g3, g4, htW, hF1, hF2, hzs, hzl, hzt, gl, q1, q2, ints_snoc]
                try omega
              | false =>
                rw [ho9] at gl
                have eR : R = B := by rw [eC]; unfold lastN; simp only [ho9, Bool.false_eq_true, if_false]
                rw [eR]
                simp -implicitDefEqProofs [sc_s_l16Case_L0, freeOk, ren0, ef, hwk1, f2, hW, hz, hzi, hWb, hFP, g3, g4, htW, hF1, hF2, hzs, hzl, hzt, gl]
                try omega
            | false =>
              rw [ho3, if_neg (by simp)] at eT
              rw [ho3] at g3
              rw [eT] at eC
              generalize (belowN cur 3).2 = cur2 at *
              have gl := G_once w3 14
              cases ho9 : onceN cur2 14 with
              | true =>
                rw [ho9] at gl
                have eR : R = out ++ [0] := by rw [eC]; unfold lastN; simp only [ho9, if_true]
                rw [eR]
                have q1 : (i + 1) * 8 ≤ 140737488355328 := by omega
                have q2 : (out ++ [0]).take (i + 1) = out ++ [0] := List.take_of_length_le (by simp <;> omega)
                simp -implicitDefEqProofs [sc_s_l16Case_L0, freeOk, ren0, ef, hwk1, f2, hW, hz, hzi, hWb, hFP, g3, ha, gl, q1, q2, ints_snoc]
                try omega
              | false =>
                rw [ho9] at gl
                have eR : R = out := by rw [eC]; unfold lastN; simp only [ho9, Bool.false_eq_true, if_false]
                rw [eR]
                simp -implicitDefEqProofs [sc_s_l16Case_L0, freeOk, ren0, ef, hwk1, f2, hW, hz, hzi, hWb, hFP, g3, ha, gl]
                try omega
          · rw [dec_false hp] at hFP
            have eT : tN n l k p (out, cur) = (out, cur) := by
              unfold tN
              rw [if_neg fun h => hp h.2]
            rw [eT] at eC
            have gl := G_once w1 14
            cases ho9 : onceN cur 14 with
            | true =>
              rw [ho9] at gl
              have eR : R = out ++ [0] := by rw [eC]; unfold lastN; simp only [ho9, if_true]
              rw [eR]
              have q1 : (i + 1) * 8 ≤ 140737488355328 := by omega
              have q2 : (out ++ [0]).take (i + 1) = out ++ [0] := List.take_of_length_le (by simp <;> omega)
              simp -implicitDefEqProofs [sc_s_l16Case_L0, freeOk, ren0, ef, hwk1, f2, hW, hz, hzi, hWb, hFP, ha, gl, q1, q2, ints_snoc]
              try omega
            | false =>
              rw [ho9] at gl
              have eR : R = out := by rw [eC]; unfold lastN; simp only [ho9, Bool.false_eq_true, if_false]
              rw [eR]
              simp -implicitDefEqProofs [sc_s_l16Case_L0, freeOk, ren0, ef, hwk1, f2, hW, hz, hzi, hWb, hFP, ha, gl]
              try omega
        · have hz0 : W = 0 := by omega
          subst hz0
          have hfn : fosL n l (k + 1) = [] := List.length_eq_zero_iff.1 hW
          rw [hfn] at f2
          have eT : tN n l k p (out, cur) = (out, cur) := by
            unfold tN
            rw [if_neg fun h => by have := h.1; omega]
          rw [eT] at eC
          have gl := G_once w1 14
          cases ho9 : onceN cur 14 with
          | true =>
            rw [ho9] at gl
            have eR : R = out ++ [0] := by rw [eC]; unfold lastN; simp only [ho9, if_true]
            rw [eR]
            have q1 : (i + 1) * 8 ≤ 140737488355328 := by omega
            have q2 : (out ++ [0]).take (i + 1) = out ++ [0] := List.take_of_length_le (by simp <;> omega)
            simp -implicitDefEqProofs [sc_s_l16Case_L0, freeOk, ren0, ef, hwk1, f2, ha, gl, q1, q2, ints_snoc]
            try omega
          | false =>
            rw [ho9] at gl
            have eR : R = out := by rw [eC]; unfold lastN; simp only [ho9, Bool.false_eq_true, if_false]
            rw [eR]
            simp -implicitDefEqProofs [sc_s_l16Case_L0, freeOk, ren0, ef, hwk1, f2, ha, gl]
            try omega
  | false =>
    rw [if_neg (by simp)] at eC
    simp -implicitDefEqProofs [sc_s_l16Case, freeOk, ren0, hN, hC, g0, hwk, f1, hHC]
    have vd := v1
    clear hN hC hHC g0 g1 v0 v1 v2 f1
    generalize c = d at *
    have hok := fun i => oN_ok (m := max 1 p) vd i
    have hst : ∀ i, oN (max 1 p) d (i + 1) = ((oN (max 1 p) d i).1 ++ [(belowN (oN (max 1 p) d i).2 (max 1 p)).1], (belowN (oN (max 1 p) d i).2 (max 1 p)).2) := fun i => rfl
    have h00 : oN (max 1 p) d 0 = ([], d) := rfl
    have hmx : F_s_l1Max [.int .i64 1, .int .i64 p] = some (.int .i64 (max 1 p)) := by simp only [F_s_l1Max, F2_mk, dI_int, Option.bind_some]
    generalize max 1 p = mp at *
    generalize oN mp d = f at *
    obtain ⟨w, hw9⟩ : ∃ w, (fosL n l k).length = w := ⟨_, rfl⟩
    rw [hw9] at eC fl1
    rw [hw9]
    refine loopI env mixed (fun i : Nat => [(2, .pt 0 0), (6, .pt 2 0), (7, .int .i64 p), (8, .pt 3 0), (9, .int .i64 k), (10, .int .i64 (w : Int)), (13, .sl 4 1 0 i), (14, .int .i64 (i : Int))]) (fun i => ([(4, ints (f i).1), (3, curC (f i).2), (2, [.int .i64 n, .sl 1 1 0 l.length]), (1, ints l), (0, [.int .i64 0, .nil])], 5)) (fun i => i ≤ w) (fun i => w - i) 0 (by simp) ?_ ?_
    · refine SubI.ren (fun m => if m = 0 then some 0 else if m = 1 then some 1 else if m = 2 then some 2 else if m = 3 then some 3 else if m = 4 then some 6 else none) ?_ ?_ ?_ (by simp) (by simp)
      · simp [renV, ren1, h00]
      · simp [renL, ren1, h00]
      · intro m hm
        simp only at hm
        have h1 : m ≠ 0 := by omega
        have h2 : m ≠ 1 := by omega
        have h3 : m ≠ 2 := by omega
        have h4 : m ≠ 3 := by omega
        have h5 : m ≠ 4 := by omega
        simp [h1, h2, h3, h4, h5]
    intro i hi
    obtain ⟨l1, w1⟩ := hok i
    by_cases hlt : i < w
    · have hlti : (i : Int) < (w : Int) := by omega
      have hwi : IntKind.i64.wrap ((i : Int) + 1) = (i : Int) + 1 := wrapI _ (by omega) (by omega)
      have g := G_below w1 mp
      have e := hst i
      have q1 : (i + 1) * 8 ≤ 140737488355328 := by omega
      simp -implicitDefEqProofs [sc_s_l16Case_L0, freeOk, ren0, hlt, hlti, hmx, g, hwi, l1, q1]
      refine Again.of (i + 1) (by omega) (by omega) (SubI.ren (fun m => if m = 0 then some 0 else if m = 1 then some 1 else if m = 2 then some 2 else if m = 3 then some 3 else if m = 4 then some 6 else none) ?_ ?_ ?_ (by simp) (by simp))
      · simp [renV, ren1]
      · have a1 : (ints (f i).1 ++ [V.int .i64 (belowN (f i).2 mp).1]).take (i + 1) = ints (f i).1 ++ [V.int .i64 (belowN (f i).2 mp).1] := List.take_of_length_le (by simp [l1])
        simp [renL, ren1, e]
        try rw [a1]
        have a2 : (f i).1.take i = (f i).1 := List.take_of_length_le (by omega)
        try rw [a2]
        try rw [ints_snoc]
      · intro m hm
        simp only at hm
        have h1 : m ≠ 0 := by omega
        have h2 : m ≠ 1 := by omega
        have h3 : m ≠ 2 := by omega
        have h4 : m ≠ 3 := by omega
        have h5 : m ≠ 4 := by omega
        simp [h1, h2, h3, h4, h5]
    · have hiw : i = w := by omega
      subst hiw
      clear hst hok h00
      obtain ⟨⟨out, cur⟩, ef⟩ : ∃ x, f i = x := ⟨_, rfl⟩
      rw [ef] at l1 w1 eC
      simp only at l1 w1
      have f2 := hFS (k + 1)
      have hwk1 : IntKind.i64.wrap (k + 1) = k + 1 := wrapI _ (by omega) (by omega)
      obtain ⟨W, hW⟩ : ∃ W, (fosL n l (k + 1)).length = W := ⟨_, rfl⟩
      have hWl : W ≤ 64 := by rw [← hW]; exact setsOf_len _
      have hWb : W * 8 ≤ 140737488355328 := by omega
      have ha : out.take i = out := List.take_of_length_le (by omega)
      by_cases hz : 0 < W
      · have hzi : (0 : Int) < (W : Int) := by omega
        have hFP : F_s_IsFieldPrime [.int .i64 p] = some (.bool (dec (fpP p))) := by simp only [F_s_IsFieldPrime, F1_mk, dI_int, Option.bind_some]
        by_cases hp : fpP p
        · rw [dec_true hp] at hFP
          have g3 := G_once w1 3
          have w3 := belowN_wf w1 3
          have eT : tN n l k p (out, cur) = if onceN cur 3 = true then (bocL (borM n l (k + 1)) (zN W (belowN (belowN cur 3).2 W).1.toNat) p, (belowN (belowN cur 3).2 W).2) else (out, (belowN cur 3).2) := by
            unfold tN
            rw [if_pos ⟨by rw [hW]; exact hz, hp⟩, hW]
          cases ho3 : onceN cur 3 with
          | true =>
            rw [ho3, if_pos rfl] at eT
            rw [ho3] at g3
            rw [eT] at eC
            have g4 := G_below w3 (W : Int)
            have w4 := belowN_wf w3 (W : Int)
            have r4 := belowN_rng (belowN cur 3).2 (n := (W : Int)) (by omega)
            have hmat := zN_mat (n := n) (l := l) (k := k + 1) hp (belowN (belowN cur 3).2 W).1.toNat
            have hF1 : F_i_BorderMatrix [.agg [.int .i64 n, .list 1 (ints l)], .int .i64 (k + 1)] = some (.own 1 (rowsV (borM n l (k + 1)))) := by
              simp only [F_i_BorderMatrix, F2_mk, dC_agg, dI_int, Option.bind_some]
              rw [if_pos ⟨fos_cplx (by rw [hW]; exact hz), by omega, by omega⟩]
            rw [hW] at hmat
            have hF2 : F_s_l16Times [.list 1 (rowsL (borM n l (k + 1))), .list 1 (ints (zN W (belowN (belowN cur 3).2 W).1.toNat)), .int .i64 p] = some (.own 1 (ints (bocL (borM n l (k + 1)) (zN W (belowN (belowN cur 3).2 W).1.toNat) p))) := by
              simp only [F_s_l16Times, F3_mk, dLL_list, dL_list, dI_int, Option.bind_some]
              rw [if_pos hmat]
            have hBl := bocL_len (borM n l (k + 1)) (zN W (belowN (belowN cur 3).2 W).1.toNat) p
            have hBl2 := hmat.2.1
            rw [← hBl] at hBl2
            clear hBl hmat
            have hzs : ∀ t : Nat, (List.replicate W (0 : Int)).set t 1 = zN W t := fun t => rfl
            obtain ⟨t, ht⟩ := Int.eq_ofNat_of_zero_le r4.1
            rw [ht, Int.toNat_natCast] at hF2 hBl2 eC
            rw [ht] at g4 r4
            have htW : t < W := by omega
            have hzl := zN_len W t
            have hzt : (zN W t).take W = zN W t := List.take_of_length_le (by omega)
            generalize bocL (borM n l (k + 1)) (zN W t) p = B at *
            generalize borM n l (k + 1) = MM at *
            generalize (belowN (belowN cur 3).2 W).2 = cur2 at *
            have gl := G_once w4 14
            cases ho9 : onceN cur2 14 with
            | true =>
              rw [ho9] at gl
              have eR : R = B ++ [0] := by rw [eC]; unfold lastN; simp only [ho9, if_true]
              rw [eR]
              have q1 : (B.length + 1) * 8 ≤ 140737488355328 := by omega
              have q2 : (B ++ [0]).take (B.length + 1) = B ++ [0] := List.take_of_length_le (by simp <;> omega)
              simp -implicitDefEqProofs [sc_s_l16Case_L0, freeOk, ren0, ef, hwk1, f2, hW, hz, hzi, hWb, hFP, g3, g4, htW, hF1, hF2, hzs, hzl, hzt, gl, q1, q2, ints_snoc]
              try omega
            | false =>
              rw [ho9] at gl
              have eR : R = B := by rw [eC]; unfold lastN; simp only [ho9, Bool.false_eq_true, if_false]
              rw [eR]
              simp -implicitDefEqProofs [sc_s_l16Case_L0, freeOk, ren0, ef, hwk1, f2, hW, hz, hzi, hWb, hFP, g3, g4, htW, hF1, hF2, hzs, hzl, hzt, gl]
              try omega
          | false =>
            rw [ho3, if_neg (by simp)] at eT
            rw [ho3] at g3
            rw [eT] at eC
            generalize (belowN cur 3).2 = cur2 at *
            have gl := G_once w3 14
            cases ho9 : onceN cur2 14 with
            | true =>
              rw [ho9] at gl
              have eR : R = out ++ [0] := by rw [eC]; unfold lastN; simp only [ho9, if_true]
              rw [eR]
              have q1 : (i + 1) * 8 ≤ 140737488355328 := by omega
              have q2 : (out ++ [0]).take (i + 1) = out ++ [0] := List.take_of_length_le (by simp <;> omega)
              simp -implicitDefEqProofs [sc_s_l16Case_L0, freeOk, ren0, ef, hwk1, f2, hW, hz, hzi, hWb, hFP, g3, ha, gl, q1, q2, ints_snoc]
              try omega
            | false =>
              rw [ho9] at gl
              have eR : R = out := by rw [eC]; unfold lastN; simp only [ho9, Bool.false_eq_true, if_false]
              rw [eR]
              simp -implicitDefEqProofs [sc_s_l16Case_L0, freeOk, ren0, ef, hwk1, f2, hW, hz, hzi, hWb, hFP, g3, ha, gl]
              try omega
        · rw [dec_false hp] at hFP
          have eT : tN n l k p (out, cur) = (out, cur) := by
            unfold tN
            rw [if_neg fun h => hp h.2]
          rw [eT] at eC
          have gl := G_once w1 14
          cases ho9 : onceN cur 14 with
          | true =>
            rw [ho9] at gl
            have eR : R = out ++ [0] := by rw [eC]; unfold lastN; simp only [ho9, if_true]
            rw [eR]
            have q1 : (i + 1) * 8 ≤ 140737488355328 := by omega
            have q2 : (out ++ [0]).take (i + 1) = out ++ [0] := List.take_of_length_le (by simp <;> omega)
            simp -implicitDefEqProofs [sc_s_l16Case_L0, freeOk, ren0, ef, hwk1, f2, hW, hz, hzi, hWb, hFP, ha, gl, q1, q2, ints_snoc]
            try omega
          | false =>
            rw [ho9] at gl
            have eR : R = out := by rw [eC]; unfold lastN; simp only [ho9, Bool.false_eq_true, if_false]
            rw [eR]
            simp -implicitDefEqProofs [sc_s_l16Case_L0, freeOk, ren0, ef, hwk1, f2, hW, hz, hzi, hWb, hFP, ha, gl]
            try omega
      · have hz0 : W = 0 := by omega
        subst hz0
        have hfn : fosL n l (k + 1) = [] := List.length_eq_zero_iff.1 hW
        rw [hfn] at f2
        have eT : tN n l k p (out, cur) = (out, cur) := by
          unfold tN
          rw [if_neg fun h => by have := h.1; omega]
        rw [eT] at eC
        have gl := G_once w1 14
        cases ho9 : onceN cur 14 with
        | true =>
          rw [ho9] at gl
          have eR : R = out ++ [0] := by rw [eC]; unfold lastN; simp only [ho9, if_true]
          rw [eR]
          have q1 : (i + 1) * 8 ≤ 140737488355328 := by omega
          have q2 : (out ++ [0]).take (i + 1) = out ++ [0] := List.take_of_length_le (by simp <;> omega)
          simp -implicitDefEqProofs [sc_s_l16Case_L0, freeOk, ren0, ef, hwk1, f2, ha, gl, q1, q2, ints_snoc]
          try omega
        | false =>
          rw [ho9] at gl
          have eR : R = out := by rw [eC]; unfold lastN; simp only [ho9, Bool.false_eq_true, if_false]
          rw [eR]
          simp -implicitDefEqProofs [sc_s_l16Case_L0, freeOk, ren0, ef, hwk1, f2, ha, gl]
          try omega
end Go.Proofs.Ytmemomfffehnkaa
