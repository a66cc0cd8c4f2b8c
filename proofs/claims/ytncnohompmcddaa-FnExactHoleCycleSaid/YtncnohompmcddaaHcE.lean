import Derived.Test.YtncnohompmcddaaHbD
import Derived.Test.YtncnohompmcddaaKF
namespace Go.Proofs.Ytncnohompmcddaa
open Go Go.RowKit
set_option maxRecDepth 1000000
set_option linter.unusedSimpArgs false
set_option linter.unusedVariables false
set_option maxHeartbeats 1000000
def sc_s_HoleCycle_L2 : SC := (.seq (.seq (.reg [⟨(some 55), none, (.mov (.t 13))⟩, ⟨(some 56), none, (.mov (.t 10))⟩, ⟨(some 57), none, (.len (.t 56))⟩, ⟨(some 58), none, (.bin false .lss (.t 55) (.t 57))⟩]) (.cond (.t 58) .skip (.exit 2))) (.seq (.block 3 (.dreg [⟨⟨(some 61), none, (.mov (.t 12))⟩, false, false⟩, ⟨⟨(some 62), none, (.mov (.t 10))⟩, false, false⟩, ⟨⟨(some 63), none, (.mov (.t 13))⟩, false, false⟩, ⟨⟨(some 64), none, (.idx 1 (.t 62) (.t 63))⟩, false, false⟩, ⟨⟨(some 65), none, (.ld none (.int .i64 0) (.t 64))⟩, false, false⟩, ⟨⟨(some 66), none, (.mov (.t 9))⟩, false, false⟩, ⟨⟨(some 67), none, (.mov (.t 13))⟩, false, false⟩, ⟨⟨(some 68), none, (.idx 1 (.t 66) (.t 67))⟩, false, false⟩, ⟨⟨(some 69), none, (.ld none .nil (.t 68))⟩, false, false⟩, ⟨⟨(some 70), none, (.mov (.t 11))⟩, false, false⟩, ⟨⟨(some 71), none, (.idx 1 (.t 69) (.t 70))⟩, false, false⟩, ⟨⟨(some 72), none, (.ld none (.int .i64 0) (.t 71))⟩, false, false⟩, ⟨⟨(some 73), none, (.un .neg (.t 72))⟩, false, false⟩, ⟨⟨(some 74), none, (.mov (.t 2))⟩, false, false⟩, ⟨⟨(some 75), none, (.call 55 [(.t 73), (.t 74)])⟩, false, false⟩, ⟨⟨(some 76), none, (.idx 1 (.t 61) (.t 65))⟩, false, false⟩, ⟨⟨none, none, (.st 1 (.t 76) (.t 75))⟩, true, false⟩])) (.reg [⟨(some 59), none, (.mov (.t 13))⟩, ⟨(some 60), none, (.bin false .add (.t 59) (.c (.int .i64 1)))⟩, ⟨(some 13), none, (.mov (.t 60))⟩])))
def sc_s_HoleCycle_L0 : SC := (.seq (.seq (.reg [⟨(some 42), none, (.mov (.t 11))⟩, ⟨(some 43), none, (.mov (.t 8))⟩, ⟨(some 44), none, (.bin false .lss (.t 42) (.t 43))⟩]) (.cond (.t 44) .skip (.exit 0))) (.seq (.block 1 (.seq (.seq (.reg [⟨(some 47), none, (.mov (.t 10))⟩, ⟨(some 48), none, (.mov (.t 11))⟩, ⟨(some 49), none, (.call 54 [(.t 47), (.t 48)])⟩]) (.cond (.t 49) (.exit 1) .skip)) (.seq (.reg [⟨(some 50), none, (.mov (.t 8))⟩, ⟨(some 51), none, (.mk 1 8 [(.int .i64 0)] (.t 50) (.t 50))⟩, ⟨(some 12), none, (.mov (.t 51))⟩]) (.seq (.reg [⟨(some 52), none, (.mov (.t 12))⟩, ⟨(some 53), none, (.mov (.t 11))⟩, ⟨(some 54), none, (.idx 1 (.t 52) (.t 53))⟩, ⟨none, none, (.st 1 (.t 54) (.c (.int .i64 1)))⟩]) (.seq (.seq (.reg [⟨(some 13), none, (.mov (.c (.int .i64 0)))⟩]) (.block 2 (.loop sc_s_HoleCycle_L2))) (.seq (.reg [⟨(some 78), none, (.ld (some 2) .undef (.t 3))⟩, ⟨(some 79), none, (.mov (.t 1))⟩, ⟨(some 80), none, (.mov (.t 2))⟩, ⟨(some 81), none, (.mov (.t 12))⟩, ⟨(some 82), none, (.call 56 [(.t 78), (.t 79), (.t 80), (.t 81)])⟩, ⟨(some 77), none, (.mov (.t 82))⟩, ⟨(some 83), none, (.ext 0 (.t 77))⟩, ⟨(some 84), none, (.ext 1 (.t 77))⟩, ⟨(some 14), none, (.mov (.t 83))⟩, ⟨(some 15), none, (.mov (.t 84))⟩]) (.seq (.reg [⟨(some 85), none, (.mov (.t 15))⟩, ⟨(some 86), none, (.un .not (.t 85))⟩]) (.cond (.t 86) (.seq (.reg [⟨(some 87), none, (.mov (.t 12))⟩, ⟨(some 6), none, (.mov (.t 87))⟩, ⟨(some 7), none, (.mov (.c (.bool true)))⟩]) .ret) .skip)))))))) (.reg [⟨(some 45), none, (.mov (.t 11))⟩, ⟨(some 46), none, (.bin false .add (.t 45) (.c (.int .i64 1)))⟩, ⟨(some 11), none, (.mov (.t 46))⟩])))
def sc_s_HoleCycle : SC := (.seq (.reg [⟨(some 3), none, (.box (.t 0))⟩, ⟨(some 6), none, (.mov (.c .nil))⟩, ⟨(some 7), none, (.mov (.c (.bool false)))⟩]) (.seq (.seq (.reg [⟨(some 16), none, (.ld (some 2) .undef (.t 3))⟩, ⟨(some 17), none, (.call 49 [(.t 16)])⟩, ⟨(some 18), none, (.un .not (.t 17))⟩, ⟨(some 19), none, (.mov (.t 18))⟩, ⟨(some 20), (some (19, false)), (.mov (.t 1))⟩, ⟨(some 21), (some (19, false)), (.call 50 [(.t 20), (.c (.int .i64 1)), (.c (.int .i64 5))])⟩, ⟨(some 22), (some (19, false)), (.un .not (.t 21))⟩, ⟨(some 23), none, (.pick (.t 19) (.c (.bool true)) (.t 22))⟩, ⟨(some 24), none, (.mov (.t 23))⟩, ⟨(some 25), (some (24, false)), (.mov (.t 2))⟩, ⟨(some 26), (some (24, false)), (.call 33 [(.t 25)])⟩, ⟨(some 27), (some (24, false)), (.un .not (.t 26))⟩, ⟨(some 28), none, (.pick (.t 24) (.c (.bool true)) (.t 27))⟩]) (.cond (.t 28) (.seq (.reg [⟨(some 29), none, (.mks 0 1 [] [])⟩, ⟨(some 6), none, (.mov (.t 29))⟩, ⟨(some 7), none, (.mov (.c (.bool false)))⟩]) .ret) .skip)) (.seq (.reg [⟨(some 30), none, (.ld (some 2) .undef (.t 3))⟩, ⟨(some 31), none, (.mov (.t 1))⟩, ⟨(some 32), none, (.call 51 [(.t 30), (.t 31)])⟩, ⟨(some 33), none, (.len (.t 32))⟩, ⟨(some 8), none, (.mov (.t 33))⟩]) (.seq (.reg [⟨(some 35), none, (.ld (some 2) .undef (.t 3))⟩, ⟨(some 36), none, (.mov (.t 1))⟩, ⟨(some 37), none, (.call 53 [(.t 35), (.t 36)])⟩, ⟨(some 38), none, (.mov (.t 2))⟩, ⟨(some 39), none, (.call 52 [(.t 37), (.t 38)])⟩, ⟨(some 34), none, (.mov (.t 39))⟩, ⟨(some 40), none, (.ext 0 (.t 34))⟩, ⟨(some 41), none, (.ext 1 (.t 34))⟩, ⟨(some 9), none, (.mov (.t 40))⟩, ⟨(some 10), none, (.mov (.t 41))⟩]) (.seq (.seq (.reg [⟨(some 11), none, (.mov (.c (.int .i64 0)))⟩]) (.block 0 (.loop sc_s_HoleCycle_L0))) (.seq (.reg [⟨(some 88), none, (.mks 0 1 [] [])⟩, ⟨(some 6), none, (.mov (.t 88))⟩, ⟨(some 7), none, (.mov (.c (.bool false)))⟩]) .ret))))))
theorem code_s_HoleCycle : fnCode Try.prog [] 19 = some (89, sc_s_HoleCycle, [(6, none), (7, none)]) := by kernel_rfl
theorem fn_s_HoleCycle : FnOk Try.prog 19 F_s_HoleCycle := by
  have env := ((((((((envNil_ok (P := Try.prog)).add fn_s_IsComplex).add fn_s_l1In).add fn_s_IsFieldPrime).add fn_s_FacesOfSize).add fn_s_l13Border).add fn_s_l13Reduce).add fn_s_l2Has).add fn_s_FillChain |>.add fn_s_l13Mod
  refine fn_ok code_s_HoleCycle mixed env ?_
  intro args r h hb
  obtain ⟨_, _, _, ⟨n, l⟩, k, p, rfl, h1, h2, h3, h4⟩ := F3_inv h
  cases dC_inv h1
  cases dI_inv h2
  cases dI_inv h3
  cases h4
  clear h
  refine ⟨by simp, fun w0 U0 L0 N0 => ?_⟩
  clear hb
  simp only
  cases e0 : cplxB n l with
  | false =>
    have e := hcF_no (n := n) (l := l) (k := k) (p := p) fun h => by simp [cplxB_iff.2 h.1] at e0
    rw [e]
    simp -implicitDefEqProofs [sc_s_HoleCycle, F_s_IsComplex, e0]
  | true =>
  have hc := cplxB_iff.1 e0
  by_cases hk : 1 ≤ k ∧ k ≤ 5
  rotate_left
  · have e := hcF_no (n := n) (l := l) (k := k) (p := p) fun h => hk ⟨h.2.1, h.2.2.1⟩
    have hFI : F_s_l1In [.int .i64 k, .int .i64 1, .int .i64 5] = some (.bool false) := by
      simp [F_s_l1In]
      omega
    rw [e]
    simp -implicitDefEqProofs [sc_s_HoleCycle, F_s_IsComplex, hFI, e0]
  have hFI : F_s_l1In [.int .i64 k, .int .i64 1, .int .i64 5] = some (.bool true) := by simp [F_s_l1In, hk]
  by_cases hp : fpP p
  rotate_left
  · have e := hcF_no (n := n) (l := l) (k := k) (p := p) fun h => hp h.2.2.2
    have hd := dec_false hp
    rw [e]
    simp -implicitDefEqProofs [sc_s_HoleCycle, F_s_IsComplex, F_s_IsFieldPrime, hFI, e0, hd]
  have hd := dec_true hp
  have hcp : hcP n l k p := ⟨hc, hk.1, hk.2, hp⟩
  have hX := hcF_yes hcp
  have hF1 : F_i_BorderMatrix [.agg [.int .i64 n, .list 1 (ints l)], .int .i64 k] = some (.own 1 (rowsV (borM n l k))) := by
    simp only [F_i_BorderMatrix, F2_mk, dC_agg, dI_int, Option.bind_some]
    rw [if_pos ⟨hc, by omega, by omega⟩]
  have hF2 : F_s_FacesOfSize [.agg [.int .i64 n, .list 1 (ints l)], .int .i64 k] = some (.own 1 (ints (fosL n l k))) := by simp [F_s_FacesOfSize]
  obtain ⟨hml, hwl, hrl⟩ := bor_ok (n := n) (l := l) (k := k)
  have hF3 : F_s_l13Reduce [.list 1 (rowsL (borM n l k)), .int .i64 p] = some (.tup [.own 1 (rowsV (hcZ n l k p).1), .own 1 (ints (hcZ n l k p).2)]) := by
    simp only [F_s_l13Reduce, F2_mk, dLL_list, dI_int, Option.bind_some]
    have hrec : recM (borM n l k) := ⟨⟨by omega, fun i hi => by rw [hrl i hi]; omega⟩, fun i hi => by rw [hrl i hi, hrl 0 (by omega)]⟩
    rw [if_pos ⟨hp, hrec⟩]
    unfold hcZ
    by_cases h0 : 0 < (borM n l k).length
    · rw [hrl 0 h0]
    · have e : borM n l k = [] := List.length_eq_zero_iff.1 (by omega)
      have e2 : modM p [] = [] := List.length_eq_zero_iff.1 (by simp)
      rw [e, e2, redS_nil, redS_nil]
  have hI := redI_all hp (okM_mod (p := p) hp hrl) (fosL n l k).length
  have hZ : hcZ n l k p = redS p (modM p (borM n l k)) (fosL n l k).length := rfl
  rw [← hZ] at hI
  have hQ : ∀ c, hcQ n l k p c ↔ (c : Int) ∉ (hcZ n l k p).2 ∧ ¬ fchP n l k p (hcX n l k p c) := fun c => Iff.rfl
  have hXd : ∀ c, hcX n l k p c = hcK p (hcZ n l k p).1 (hcZ n l k p).2 (fosL n l k).length c (hcZ n l k p).2.length := fun c => rfl
  have hFC : ∀ x, F_s_FillChain [.agg [.int .i64 n, .list 1 (ints l)], .int .i64 k, .int .i64 p, .list 1 (ints x)] = some (.tup [.own 1 (ints (fchL n l k p x)), .bool (dec (fchP n l k p x))]) := fun x => by simp [F_s_FillChain]
  have hFm := fn_restMod_at hp
  obtain ⟨p1, p2, p3⟩ := fpP_bnd hp
  generalize hcF n l k p = X at *
  have hhit := fun (i : Nat) h1 h2 h3 => hX.trans (fsX_hit (w := (fosL n l k).length) (Q := hcQ n l k p) (X := hcX n l k p) (i := i) h1 h2 h3)
  have hnone := fun h => hX.trans (fsX_none (w := (fosL n l k).length) (Q := hcQ n l k p) (X := hcX n l k p) h)
  clear hX hZ hrl
  generalize hcQ n l k p = Q at *
  generalize hcX n l k p = G at *
  generalize hcZ n l k p = Z at *
  obtain ⟨R, P⟩ := Z
  obtain ⟨hokR, _, hPR, hjP, hsP⟩ := hI
  simp only at hokR hPR hjP hsP hF3 hQ hXd
  generalize borM n l k = B at *
  generalize hFl : fosL n l k = FL at *
  generalize hw : FL.length = w at *
  simp -implicitDefEqProofs [sc_s_HoleCycle, F_s_IsComplex, F_s_IsFieldPrime, hFI, hF1, hF2, hF3, e0, hd, hw]
  refine loopI env mixed (fun j : Nat => [(1, .int .i64 k), (2, .int .i64 p), (3, .pt 0 0), (8, .int .i64 (w : Int)), (9, .sl 1 1 0 R.length), (10, .sl 2 1 0 P.length), (11, .int .i64 (j : Int))]) (fun _ => ([(2, ints P), (1, rowsV R), (0, [.int .i64 n, .list 1 (ints l)])], 3)) (fun j => j ≤ w ∧ ∀ i, i < j → ¬ Q i) (fun j => w - j) 0 (by simp) ?_ ?_
  · refine SubI.ren (fun m => if m = 0 then some 0 else if m = 1 then some 3 else if m = 2 then some 4 else none) ?_ ?_ ?_ (by simp) (by simp)
    · simp [subT, renV, ren1]
    · simp [subH, renL, ren1]
    · intro m hm
      simp only at hm
      rw [if_neg (by omega), if_neg (by omega), if_neg (by omega)]
  rintro j ⟨hj, hI⟩
  by_cases hlt : j < w
  rotate_left
  · have : j = w := by omega
    subst this
    have e := hnone hI
    subst e
    simp -implicitDefEqProofs [sc_s_HoleCycle_L0]
  have next : ¬ Q j → ∀ i, i < j + 1 → ¬ Q i := fun hn i hi => by
    rcases Nat.lt_succ_iff_lt_or_eq.1 hi with h | rfl
    · exact hI i h
    · exact hn
  by_cases hm : (j : Int) ∈ P
  · have hn := next fun h => ((hQ j).1 h).1 hm
    simp -implicitDefEqProofs [sc_s_HoleCycle_L0, F_s_l2Has, hlt, hm]
    repeat' (first | omega | apply And.intro)
    exact Again.of (j + 1) ⟨by omega, hn⟩ (by omega) (SubI.slots (by simp) (by simp (disch := omega) [wrapI]))
  have hw1 : (0 : Int) ≤ w := by omega
  simp -implicitDefEqProofs [sc_s_HoleCycle_L0, F_s_l2Has, hlt, hm]
  repeat' (first | omega | apply And.intro)
  refine loopU env mixed (fun i : Nat => [(1, .int .i64 k), (2, .int .i64 p), (3, .pt 0 0), (8, .int .i64 (w : Int)), (9, .sl 1 1 0 R.length), (10, .sl 2 1 0 P.length), (11, .int .i64 (j : Int)), (12, .sl 3 1 0 w), (13, .int .i64 (i : Int))]) (fun i => ([(3, ints (hcK p R P w j i)), (2, ints P), (1, rowsV R), (0, [.int .i64 n, .list 1 (ints l)])], 4)) (fun i => i ≤ P.length) (fun i => P.length - i) 0 (by simp) (SubI.slots (by simp [hcK]) (by simp)) ?_
  intro i hi
  by_cases hlt2 : i < P.length
  · obtain ⟨e1, e2⟩ := hjP i hlt2
    have hiR : i < R.length := by omega
    obtain ⟨hrl, hre⟩ := hokR i hiR
    obtain ⟨q, hq⟩ : ∃ q : Nat, at0 P i = q := ⟨(at0 P i).toNat, by omega⟩
    have hqw : q < w := by omega
    have hstep : hcK p R P w j (i + 1) = (hcK p R P w j i).set q (-(at0 (atR R i) j) % p) := by rw [hcK, hq, Int.toNat_natCast]
    have hkl := hcK_len p R P w j i
    have hself := rowsV_self (M := R) (i := i) hiR
    have hb := hre j hlt
    have hwn : IntKind.i64.wrap (-(at0 (atR R i) j)) = -(at0 (atR R i) j) := wrapI _ (by omega) (by omega)
    have hFj := hFm (-(at0 (atR R i) j))
    refine ⟨[(1, .int .i64 k), (2, .int .i64 p), (3, .pt 0 0), (8, .int .i64 (w : Int)), (9, .sl 1 1 0 R.length), (10, .sl 2 1 0 P.length), (11, .int .i64 (j : Int)), (12, .sl 3 1 0 w), (13, .int .i64 (i : Int))], ([(4, ints (atR R i)), (3, ints (hcK p R P w j i)), (2, ints P), (1, (rowsV R).set i (.sl 4 1 0 w)), (0, [.int .i64 n, .list 1 (ints l)])], 5), ?_, ?_⟩
    · refine SubI.unfold 1 i 1 (co := rowsV R) (cn := ints (atR R i)) rfl (by rw [rowsV_get hiR]) (by omega) ?_
      exact SubI.slots (by simp [hrl]) (by simp)
    generalize hcK p R P w j i = g at *
    generalize -(at0 (atR R i) j) % p = z at *
    simp -implicitDefEqProofs [sc_s_HoleCycle_L2, hlt, hlt2, hiR, hq, hqw, hkl, hrl, hwn, hFj]
    repeat' (first | omega | apply And.intro)
    refine Again.of (i + 1) (by omega) (by omega) ?_
    refine SubI.fold 1 4 i 1 w (cn := ints (atR R i)) (co := (rowsV R).set i (.sl 4 1 0 w)) rfl rfl (by simp [hiR]) (by simp [hrl]) ?_
    refine SubI.ren (fun m => if m = 0 then some 0 else if m = 1 then some 1 else if m = 2 then some 2 else if m = 3 then some 3 else none) ?_ ?_ ?_ (by simp) (by simp)
    · simp (disch := omega) [subT, renV, ren1, wrapI]
    · simp [subH, renL, ren1, hself, hstep]
    · intro m hm
      simp only at hm
      rw [if_neg (by omega), if_neg (by omega), if_neg (by omega), if_neg (by omega)]
  have hi2 : i = P.length := by omega
  subst hi2
  rw [← hXd j]
  have hgl : (G j).length = w := by rw [hXd]; simp
  have htk : (G j).take w = G j := List.take_of_length_le (by omega)
  have hwx : w ≤ (G j).length := by omega
  have hFj := hFC (G j)
  have hQj := hQ j
  have hh := hhit j hlt
  generalize G j = x at *
  refine ⟨[(1, .int .i64 k), (2, .int .i64 p), (3, .pt 0 0), (8, .int .i64 (w : Int)), (9, .sl 1 1 0 R.length), (10, .sl 2 1 0 P.length), (11, .int .i64 (j : Int)), (12, .sl 3 1 0 w), (13, .int .i64 (P.length : Int))], ([(3, ints x), (2, ints P), (1, rowsV R), (0, [.int .i64 n, .list 1 (ints l)])], 4), SubI.slots rfl (by simp), ?_⟩
  by_cases hf : fchP n l k p x
  · rw [dec_true hf] at hFj
    have hn := next fun h => (hQj.1 h).2 hf
    generalize fchL n l k p x = y at *
    simp -implicitDefEqProofs [sc_s_HoleCycle_L2, htk, hwx, hFj]
    repeat' (first | omega | apply And.intro)
    refine Again.of (j + 1) ⟨by omega, hn⟩ (by omega) (SubI.ren (fun m => if m = 0 then some 0 else if m = 1 then some 1 else if m = 2 then some 2 else none) ?_ ?_ ?_ (by simp) (by simp))
    · simp (disch := omega) [subT, renV, ren1, wrapI]
    · simp [subH, renL, ren1]
    · intro m hm
      simp only at hm
      rw [if_neg (by omega), if_neg (by omega), if_neg (by omega)]
  · rw [dec_false hf] at hFj
    have e := hh (hQj.2 ⟨hm, hf⟩) hI
    subst e
    generalize fchL n l k p x = y at *
    simp -implicitDefEqProofs [sc_s_HoleCycle_L2, htk, hwx, hFj]
    try omega
end Go.Proofs.Ytncnohompmcddaa
