import Derived.Test.YtncnohompmcddaaHbD
import Derived.Test.YtncnohompmcddaaKF
namespace Go.Proofs.Ytncnohompmcddaa
open Go Go.RowKit
set_option maxRecDepth 1000000
set_option linter.unusedSimpArgs false
set_option linter.unusedVariables false
set_option maxHeartbeats 1000000
def sc_i_HoleCycle_L2 : SC := (.seq (.reg [⟨(some 74), none, (.bin false .lss (.t 73) (.t 72))⟩]) (.seq (.cond (.t 74) .skip (.exit 2)) (.seq (.block 3 (.seq (.reg [⟨(some 75), none, (.mov (.t 73))⟩, ⟨(some 76), none, (.idx 1 (.t 71) (.t 73))⟩, ⟨(some 77), none, (.ld none (.int .i64 0) (.t 76))⟩, ⟨(some 14), none, (.mov (.t 75))⟩, ⟨(some 15), none, (.mov (.t 77))⟩]) (.reg [⟨(some 78), none, (.mov (.t 13))⟩, ⟨(some 79), none, (.mov (.t 15))⟩, ⟨(some 80), none, (.mov (.t 9))⟩, ⟨(some 81), none, (.mov (.t 14))⟩, ⟨(some 82), none, (.idx 1 (.t 80) (.t 81))⟩, ⟨(some 83), none, (.ld none .nil (.t 82))⟩, ⟨(some 84), none, (.mov (.t 12))⟩, ⟨(some 85), none, (.idx 1 (.t 83) (.t 84))⟩, ⟨(some 86), none, (.ld none (.int .i64 0) (.t 85))⟩, ⟨(some 87), none, (.un .neg (.t 86))⟩, ⟨(some 88), none, (.mov (.t 2))⟩, ⟨(some 89), none, (.call 61 [(.t 87), (.t 88)])⟩, ⟨(some 90), none, (.idx 1 (.t 78) (.t 79))⟩, ⟨none, none, (.st 1 (.t 90) (.t 89))⟩]))) (.reg [⟨(some 91), none, (.bin false .add (.t 73) (.c (.int .i64 1)))⟩, ⟨(some 73), none, (.mov (.t 91))⟩]))))
def sc_i_HoleCycle_L0 : SC := (.seq (.seq (.reg [⟨(some 47), none, (.mov (.t 12))⟩, ⟨(some 48), none, (.mov (.t 8))⟩, ⟨(some 49), none, (.bin false .lss (.t 47) (.t 48))⟩]) (.cond (.t 49) .skip (.exit 0))) (.seq (.block 1 (.seq (.seq (.reg [⟨(some 52), none, (.mov (.t 11))⟩, ⟨(some 53), none, (.mov (.t 10))⟩, ⟨(some 54), none, (.len (.t 53))⟩, ⟨(some 55), none, (.bin false .lss (.t 52) (.t 54))⟩, ⟨(some 56), none, (.mov (.t 55))⟩, ⟨(some 57), (some (56, true)), (.mov (.t 10))⟩, ⟨(some 58), (some (56, true)), (.mov (.t 11))⟩, ⟨(some 59), (some (56, true)), (.idx 1 (.t 57) (.t 58))⟩, ⟨(some 60), (some (56, true)), (.ld none (.int .i64 0) (.t 59))⟩, ⟨(some 61), (some (56, true)), (.mov (.t 12))⟩, ⟨(some 62), (some (56, true)), (.bin false .eql (.t 60) (.t 61))⟩, ⟨(some 63), none, (.pick (.t 56) (.t 62) (.c (.bool false)))⟩]) (.cond (.t 63) (.seq (.reg [⟨(some 64), none, (.mov (.t 11))⟩, ⟨(some 65), none, (.bin false .add (.t 64) (.c (.int .i64 1)))⟩, ⟨(some 11), none, (.mov (.t 65))⟩]) (.exit 1)) .skip)) (.seq (.reg [⟨(some 66), none, (.mov (.t 8))⟩, ⟨(some 67), none, (.mk 1 8 [(.int .i64 0)] (.t 66) (.t 66))⟩, ⟨(some 13), none, (.mov (.t 67))⟩]) (.seq (.reg [⟨(some 68), none, (.mov (.t 13))⟩, ⟨(some 69), none, (.mov (.t 12))⟩, ⟨(some 70), none, (.idx 1 (.t 68) (.t 69))⟩, ⟨none, none, (.st 1 (.t 70) (.c (.int .i64 1)))⟩]) (.seq (.seq (.reg [⟨(some 71), none, (.mov (.t 10))⟩, ⟨(some 72), none, (.len (.t 71))⟩, ⟨(some 73), none, (.mov (.c (.int .i64 0)))⟩]) (.block 2 (.loop sc_i_HoleCycle_L2))) (.seq (.reg [⟨(some 93), none, (.ld (some 2) .undef (.t 3))⟩, ⟨(some 94), none, (.mov (.t 1))⟩, ⟨(some 95), none, (.mov (.t 2))⟩, ⟨(some 96), none, (.mov (.t 13))⟩, ⟨(some 97), none, (.call 62 [(.t 93), (.t 94), (.t 95), (.t 96)])⟩, ⟨(some 92), none, (.mov (.t 97))⟩, ⟨(some 98), none, (.ext 0 (.t 92))⟩, ⟨(some 99), none, (.ext 1 (.t 92))⟩, ⟨(some 16), none, (.mov (.t 98))⟩, ⟨(some 17), none, (.mov (.t 99))⟩]) (.seq (.reg [⟨(some 100), none, (.mov (.t 17))⟩, ⟨(some 101), none, (.un .not (.t 100))⟩]) (.cond (.t 101) (.seq (.reg [⟨(some 102), none, (.mov (.t 13))⟩, ⟨(some 6), none, (.mov (.t 102))⟩, ⟨(some 7), none, (.mov (.c (.bool true)))⟩]) .ret) .skip)))))))) (.reg [⟨(some 50), none, (.mov (.t 12))⟩, ⟨(some 51), none, (.bin false .add (.t 50) (.c (.int .i64 1)))⟩, ⟨(some 12), none, (.mov (.t 51))⟩])))
def sc_i_HoleCycle : SC := (.seq (.reg [⟨(some 3), none, (.box (.t 0))⟩, ⟨(some 6), none, (.mov (.c .nil))⟩, ⟨(some 7), none, (.mov (.c (.bool false)))⟩]) (.seq (.seq (.reg [⟨(some 18), none, (.ld (some 2) .undef (.t 3))⟩, ⟨(some 19), none, (.call 38 [(.t 18)])⟩, ⟨(some 20), none, (.un .not (.t 19))⟩, ⟨(some 21), none, (.mov (.t 20))⟩, ⟨(some 22), (some (21, false)), (.mov (.t 1))⟩, ⟨(some 23), (some (21, false)), (.bin false .lss (.t 22) (.c (.int .i64 1)))⟩, ⟨(some 24), none, (.pick (.t 21) (.c (.bool true)) (.t 23))⟩, ⟨(some 25), none, (.mov (.t 24))⟩, ⟨(some 26), (some (25, false)), (.mov (.t 1))⟩, ⟨(some 27), (some (25, false)), (.bin false .gtr (.t 26) (.c (.int .i64 5)))⟩, ⟨(some 28), none, (.pick (.t 25) (.c (.bool true)) (.t 27))⟩, ⟨(some 29), none, (.mov (.t 28))⟩, ⟨(some 30), (some (29, false)), (.mov (.t 2))⟩, ⟨(some 31), (some (29, false)), (.call 39 [(.t 30)])⟩, ⟨(some 32), (some (29, false)), (.un .not (.t 31))⟩, ⟨(some 33), none, (.pick (.t 29) (.c (.bool true)) (.t 32))⟩]) (.cond (.t 33) (.seq (.reg [⟨(some 6), none, (.mov (.c .nil))⟩, ⟨(some 7), none, (.mov (.c (.bool false)))⟩]) .ret) .skip)) (.seq (.reg [⟨(some 34), none, (.ld (some 2) .undef (.t 3))⟩, ⟨(some 35), none, (.mov (.t 1))⟩, ⟨(some 36), none, (.call 57 [(.t 34), (.t 35)])⟩, ⟨(some 37), none, (.len (.t 36))⟩, ⟨(some 8), none, (.mov (.t 37))⟩]) (.seq (.reg [⟨(some 38), none, (.ld (some 2) .undef (.t 3))⟩, ⟨(some 39), none, (.mov (.t 1))⟩, ⟨(some 40), none, (.call 59 [(.t 38), (.t 39)])⟩, ⟨(some 41), none, (.mov (.t 2))⟩, ⟨(some 42), none, (.call 58 [(.t 40), (.t 41)])⟩, ⟨(some 9), none, (.mov (.t 42))⟩]) (.seq (.reg [⟨(some 43), none, (.mov (.t 9))⟩, ⟨(some 44), none, (.mov (.t 8))⟩, ⟨(some 45), none, (.mov (.t 2))⟩, ⟨(some 46), none, (.call 60 [(.t 43), (.t 44), (.t 45)])⟩, ⟨(some 10), none, (.mov (.t 46))⟩]) (.seq (.reg [⟨(some 11), none, (.mov (.c (.int .i64 0)))⟩]) (.seq (.seq (.reg [⟨(some 12), none, (.mov (.c (.int .i64 0)))⟩]) (.block 0 (.loop sc_i_HoleCycle_L0))) (.seq (.reg [⟨(some 6), none, (.mov (.c .nil))⟩, ⟨(some 7), none, (.mov (.c (.bool false)))⟩]) .ret))))))))
theorem code_i_HoleCycle : fnCode Try.prog [60] 20 = some (103, sc_i_HoleCycle, [(6, none), (7, none)]) := by kernel_rfl
theorem fn_i_HoleCycle : FnOk Try.prog 20 F_s_HoleCycle := by
  have env := ((((((((envNil_ok (P := Try.prog)).add fn_i_IsComplex).add fn_i_IsFieldPrime).add fn_i_FacesOfSize).add fn_i_BorderMatrix).add fn_i_modMatrix).add fn_i_FillChain).add fn_i_restMod).addl ln_i_reduceMod
  refine fn_ok code_i_HoleCycle mixed env ?_
  intro args r h hb
  obtain ⟨_, _, _, ⟨n, l⟩, k, p, rfl, h1, h2, h3, h4⟩ := F3_inv h
  cases dC_inv h1
  cases dI_inv h2
  cases dI_inv h3
  cases h4
  clear h
  refine ⟨by simp, fun w0 U0 L0 N0 => ?_⟩
  clear hb
  simp only
  cases e0 : cplxB n l with
  | false =>
    have e := hcF_no (n := n) (l := l) (k := k) (p := p) fun h => by simp [cplxB_iff.2 h.1] at e0
    rw [e]
    simp -implicitDefEqProofs [sc_i_HoleCycle, F_s_IsComplex, e0]
  | true =>
  have hc := cplxB_iff.1 e0
  by_cases hk1 : k < 1
  · have e := hcF_no (n := n) (l := l) (k := k) (p := p) fun h => by have := h.2.1; omega
    rw [e]
    simp -implicitDefEqProofs [sc_i_HoleCycle, F_s_IsComplex, e0, hk1]
  by_cases hk5 : 5 < k
  · have e := hcF_no (n := n) (l := l) (k := k) (p := p) fun h => by have := h.2.2.1; omega
    rw [e]
    simp -implicitDefEqProofs [sc_i_HoleCycle, F_s_IsComplex, e0, hk1, hk5]
  have hk : 1 ≤ k ∧ k ≤ 5 := by omega
  by_cases hp : fpP p
  rotate_left
  · have e := hcF_no (n := n) (l := l) (k := k) (p := p) fun h => hp h.2.2.2
    have hd := dec_false hp
    rw [e]
    simp -implicitDefEqProofs [sc_i_HoleCycle, F_s_IsComplex, F_s_IsFieldPrime, e0, hk1, hk5, hd]
  have hd := dec_true hp
  have hcp : hcP n l k p := ⟨hc, hk.1, hk.2, hp⟩
  have hX := hcF_yes hcp
  have hF1 : F_i_BorderMatrix [.agg [.int .i64 n, .list 1 (ints l)], .int .i64 k] = some (.own 1 (rowsV (borM n l k))) := by
    simp only [F_i_BorderMatrix, F2_mk, dC_agg, dI_int, Option.bind_some]
    rw [if_pos ⟨hc, by omega, by omega⟩]
  have hF2 : F_s_FacesOfSize [.agg [.int .i64 n, .list 1 (ints l)], .int .i64 k] = some (.own 1 (ints (fosL n l k))) := by simp [F_s_FacesOfSize]
  obtain ⟨hml, hwl, hrl⟩ := bor_ok (n := n) (l := l) (k := k)
  have hF3 : F_i_modMatrix [.list 1 (rowsL (borM n l k)), .int .i64 p] = some (.own 1 (rowsV (modM p (borM n l k)))) := by
    simp only [F_i_modMatrix, F2_mk, dLL_list, dI_int, Option.bind_some]
    rw [if_pos ⟨hp, hml, fun i hi => by rw [hrl i hi]; omega⟩]
  have hok := okM_mod (p := p) hp hrl
  have hI := redI_all hp hok (fosL n l k).length
  have hlS := redS_lt p (modM p (borM n l k)) (fosL n l k).length
  have hZ : hcZ n l k p = redS p (modM p (borM n l k)) (fosL n l k).length := rfl
  rw [← hZ] at hI hlS
  have hG : G_i_reduceMod [.sl 0 1 0 (borM n l k).length, .int .i64 ((fosL n l k).length : Nat), .int .i64 p] (rowsV (modM p (borM n l k))) = some (.own 1 (ints (hcZ n l k p).2), rowsV (hcZ n l k p).1) := by
    simp only [G_i_reduceMod, dRowsV_rowsV, Option.bind_some]
    rw [if_pos ⟨(fosL n l k).length, ⟨hp, by simp, hok, by omega, hml⟩, by omega, by omega⟩, Int.toNat_natCast, hZ]
  have hQ : ∀ c, hcQ n l k p c ↔ (c : Int) ∉ (hcZ n l k p).2 ∧ ¬ fchP n l k p (hcX n l k p c) := fun c => Iff.rfl
  have hXd : ∀ c, hcX n l k p c = hcK p (hcZ n l k p).1 (hcZ n l k p).2 (fosL n l k).length c (hcZ n l k p).2.length := fun c => rfl
  have hFC : ∀ x, F_s_FillChain [.agg [.int .i64 n, .list 1 (ints l)], .int .i64 k, .int .i64 p, .list 1 (ints x)] = some (.tup [.own 1 (ints (fchL n l k p x)), .bool (dec (fchP n l k p x))]) := fun x => by simp [F_s_FillChain]
  have hFm := fn_restMod_at hp
  obtain ⟨p1, p2, p3⟩ := fpP_bnd hp
  generalize hcF n l k p = X at *
  have hhit := fun (i : Nat) h1 h2 h3 => hX.trans (fsX_hit (w := (fosL n l k).length) (Q := hcQ n l k p) (X := hcX n l k p) (i := i) h1 h2 h3)
  have hnone := fun h => hX.trans (fsX_none (w := (fosL n l k).length) (Q := hcQ n l k p) (X := hcX n l k p) h)
  have hol := modM_len p (borM n l k)
  clear hX hZ hrl hok
  generalize hcQ n l k p = Q at *
  generalize hcX n l k p = G at *
  generalize hcZ n l k p = Z at *
  obtain ⟨R, P⟩ := Z
  obtain ⟨hokR, hlR, hPR, hjP, hsP⟩ := hI
  obtain ⟨_, hlt3⟩ := hlS
  simp only at hokR hlR hPR hjP hsP hG hQ hXd hlt3
  generalize modM p (borM n l k) = O at *
  generalize borM n l k = B at *
  generalize hFl : fosL n l k = FL at *
  generalize hw : FL.length = w at *
  have hRB : B.length = R.length := by omega
  have hOR : O.length = R.length := by omega
  rw [hRB] at hG
  have hrn : ∀ a, List.map (ren0 a 5) (ints P) = ints P := fun a => by simp [ints, ren0]
  simp -implicitDefEqProofs [sc_i_HoleCycle, F_s_IsComplex, F_s_IsFieldPrime, hF1, hF2, hF3, e0, hd, hw, hk1, hk5, freeOk, ren0, hOR, hG, hrn]
  refine loopI env mixed (fun x : Nat × Nat => [(1, .int .i64 k), (2, .int .i64 p), (3, .pt 0 0), (8, .int .i64 (w : Int)), (9, .sl 1 1 0 R.length), (10, .sl 2 1 0 P.length), (11, .int .i64 (x.1 : Int)), (12, .int .i64 (x.2 : Int))]) (fun _ => ([(2, ints P), (1, rowsV R), (0, [.int .i64 n, .list 1 (ints l)])], 3)) (fun x => x.2 ≤ w ∧ x.1 ≤ P.length ∧ (∀ a, a < x.1 → at0 P a < x.2) ∧ (∀ a, x.1 ≤ a → a < P.length → (x.2 : Int) ≤ at0 P a) ∧ ∀ i, i < x.2 → ¬ Q i) (fun x => w - x.2) (0, 0) ⟨by simp, by simp, fun a ha => by simp at ha, fun a _ ha => by have := (hjP a ha).1; simp only; omega, fun i hi => by simp at hi⟩ ?_ ?_
  · refine SubI.ren (fun m => if m = 0 then some 0 else if m = 1 then some 3 else if m = 2 then some 4 else none) ?_ ?_ ?_ (by simp) (by simp)
    · simp [subT, renV, ren1]
    · simp [subH, renL, ren1]
    · intro m hm
      simp only at hm
      rw [if_neg (by omega), if_neg (by omega), if_neg (by omega)]
  rintro ⟨t, j⟩ ⟨hj, ht, hA, hB, hI⟩
  simp only at hj ht hA hB hI ⊢
  by_cases hlt : j < w
  rotate_left
  · have : j = w := by omega
    subst this
    have e := hnone hI
    subst e
    simp -implicitDefEqProofs [sc_i_HoleCycle_L0]
  have next : ¬ Q j → ∀ i, i < j + 1 → ¬ Q i := fun hn i hi => by
    rcases Nat.lt_succ_iff_lt_or_eq.1 hi with h | rfl
    · exact hI i h
    · exact hn
  by_cases hm : t < P.length ∧ at0 P t = j
  · obtain ⟨m1, m2⟩ := hm
    have hmem : (j : Int) ∈ P := m2 ▸ getD_mem' m1
    have hn := next fun h => ((hQ j).1 h).1 hmem
    simp -implicitDefEqProofs [sc_i_HoleCycle_L0, hlt, m1, m2]
    repeat' (first | omega | apply And.intro)
    refine Again.of (t + 1, j + 1) ⟨by simp only; omega, by simp only; omega, fun a ha => ?_, fun a h1 h2 => ?_, hn⟩ (by simp only; omega) (SubI.slots (by simp) (by simp (disch := omega) [wrapI]))
    · simp only at ha ⊢
      rcases Nat.lt_succ_iff_lt_or_eq.1 ha with h | rfl
      · have := hA a h
        omega
      · omega
    · simp only at h1 ⊢
      have := hlt3 t a (by omega) h2
      omega
  have hB2 : ∀ a, t ≤ a → a < P.length → ((j + 1 : Nat) : Int) ≤ at0 P a := fun a h1 h2 => by
    have h3 := hB a h1 h2
    by_cases e : a = t
    · subst e
      have : ¬ at0 P a = j := fun h => hm ⟨h2, h⟩
      omega
    · have h4 := hB t (Nat.le_refl _) (by omega)
      have := hlt3 t a (by omega) h2
      omega
  have hnm : (j : Int) ∉ P := fun h => by
    obtain ⟨a, ha, e⟩ := getD_mem_iff.1 h
    by_cases h1 : a < t
    · have := hA a h1
      omega
    · have := hB2 a (by omega) ha
      omega
  have hA2 : ∀ a, a < t → at0 P a < ((j + 1 : Nat) : Int) := fun a h => by
    have := hA a h
    omega
  clear hA hB
  have hw1 : (0 : Int) ≤ w := by omega
  have hcase : (t < P.length ∧ ¬ at0 P t = j) ∨ ¬ t < P.length := by
    by_cases h : t < P.length
    · exact .inl ⟨h, fun e => hm ⟨h, e⟩⟩
    · exact .inr h
  rcases hcase with ⟨a1, a2⟩ | a1
  simp -implicitDefEqProofs [sc_i_HoleCycle_L0, hlt, a1, a2]
  rotate_left
  simp -implicitDefEqProofs [sc_i_HoleCycle_L0, hlt, a1]
  all_goals
    repeat' (first | omega | apply And.intro)
    refine loopI env mixed (fun i : Nat => [(1, .int .i64 k), (2, .int .i64 p), (3, .pt 0 0), (8, .int .i64 (w : Int)), (9, .sl 1 1 0 R.length), (10, .sl 2 1 0 P.length), (11, .int .i64 (t : Int)), (12, .int .i64 (j : Int)), (13, .sl 3 1 0 w), (71, .sl 2 1 0 P.length), (72, .int .i64 (P.length : Int)), (73, .int .i64 (i : Int))]) (fun i => ([(3, ints (hcK p R P w j i)), (2, ints P), (1, rowsV R), (0, [.int .i64 n, .list 1 (ints l)])], 4)) (fun i => i ≤ P.length) (fun i => P.length - i) 0 (by simp) (SubI.slots (by simp [hcK]) (by simp)) ?_
    intro i hi
    by_cases hlt2 : i < P.length
    · obtain ⟨e1, e2⟩ := hjP i hlt2
      have hiR : i < R.length := by omega
      obtain ⟨hrl, hre⟩ := hokR i hiR
      obtain ⟨q, hq⟩ : ∃ q : Nat, at0 P i = q := ⟨(at0 P i).toNat, by omega⟩
      have hqw : q < w := by omega
      have hstep : hcK p R P w j (i + 1) = (hcK p R P w j i).set q (-(at0 (atR R i) j) % p) := by rw [hcK, hq, Int.toNat_natCast]
      have hkl := hcK_len p R P w j i
      have hself := rowsV_self (M := R) (i := i) hiR
      have hb := hre j hlt
      have hwn : IntKind.i64.wrap (-(at0 (atR R i) j)) = -(at0 (atR R i) j) := wrapI _ (by omega) (by omega)
      have hFj := hFm (-(at0 (atR R i) j))
      generalize hcK p R P w j i = g at *
      generalize -(at0 (atR R i) j) % p = z at *
      simp -implicitDefEqProofs [sc_i_HoleCycle_L2, hlt, hlt2, hiR, hq, hqw, hkl, hrl, hwn, hFj]
      repeat' (first | omega | apply And.intro)
      refine Again.of (i + 1) (by omega) (by omega) ?_
      refine SubI.fold 1 4 i 1 w (cn := ints (atR R i)) (co := (rowsV R).set i (.sl 4 1 0 w)) rfl rfl (by simp [hiR]) (by simp [hrl]) ?_
      refine SubI.ren (fun m => if m = 0 then some 0 else if m = 1 then some 1 else if m = 2 then some 2 else if m = 3 then some 3 else none) ?_ ?_ ?_ (by simp) (by simp)
      · simp (disch := omega) [subT, renV, ren1, wrapI]
      · simp [subH, renL, ren1, hself, hstep]
      · intro m hm
        simp only at hm
        rw [if_neg (by omega), if_neg (by omega), if_neg (by omega), if_neg (by omega)]
    have hi2 : i = P.length := by omega
    subst hi2
    rw [← hXd j]
    have hgl : (G j).length = w := by rw [hXd]; simp
    have htk : (G j).take w = G j := List.take_of_length_le (by omega)
    have hwx : w ≤ (G j).length := by omega
    have hFj := hFC (G j)
    have hQj := hQ j
    have hh := hhit j hlt
    generalize G j = x at *
    by_cases hf : fchP n l k p x
    · rw [dec_true hf] at hFj
      have hn := next fun h => (hQj.1 h).2 hf
      generalize fchL n l k p x = y at *
      simp -implicitDefEqProofs [sc_i_HoleCycle_L2, htk, hwx, hFj]
      repeat' (first | omega | apply And.intro)
      refine Again.of (t, j + 1) ⟨by simp only; omega, ht, hA2, hB2, hn⟩ (by simp only; omega) (SubI.ren (fun m => if m = 0 then some 0 else if m = 1 then some 1 else if m = 2 then some 2 else none) ?_ ?_ ?_ (by simp) (by simp))
      · simp (disch := omega) [subT, renV, ren1, wrapI]
      · simp [subH, renL, ren1]
      · intro m hm
        simp only at hm
        rw [if_neg (by omega), if_neg (by omega), if_neg (by omega)]
    · rw [dec_false hf] at hFj
      have e := hh (hQj.2 ⟨hnm, hf⟩) hI
      subst e
      generalize fchL n l k p x = y at *
      simp -implicitDefEqProofs [sc_i_HoleCycle_L2, htk, hwx, hFj]
      try omega
end Go.Proofs.Ytncnohompmcddaa
