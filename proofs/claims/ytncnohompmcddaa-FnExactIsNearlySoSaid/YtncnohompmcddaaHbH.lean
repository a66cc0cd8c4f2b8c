import Derived.Test.YtncnohompmcddaaHbE
import Derived.Test.YtncnohompmcddaaGcR
namespace Go.Proofs.Ytncnohompmcddaa
open Go Go.RowKit
set_option maxRecDepth 1000000
set_option linter.unusedSimpArgs false
set_option linter.unusedVariables false
set_option maxHeartbeats 1000000
def sc_s_IsNearlySo_L0 : SC := (.seq (.seq (.reg [⟨(some 20), none, (.mov (.t 5))⟩, ⟨(some 21), none, (.fad 0 (.t 2))⟩, ⟨(some 22), none, (.ld none (.int .i64 0) (.t 21))⟩, ⟨(some 23), none, (.bin false .lss (.t 20) (.t 22))⟩]) (.cond (.t 23) .skip (.exit 0))) (.seq (.block 1 (.seq (.reg [⟨(some 26), none, (.ld (some 2) .undef (.t 2))⟩, ⟨(some 27), none, (.mov (.t 5))⟩, ⟨(some 28), none, (.conv .u64 (.t 27))⟩, ⟨(some 29), none, (.bin false .shl (.c (.int .i64 1)) (.t 28))⟩, ⟨(some 30), none, (.call 66 [(.t 26), (.t 29)])⟩, ⟨(some 31), none, (.mov (.t 30))⟩, ⟨(some 32), (some (31, true)), (.ld (some 2) .undef (.t 2))⟩, ⟨(some 33), (some (31, true)), (.mov (.t 5))⟩, ⟨(some 34), (some (31, true)), (.conv .u64 (.t 33))⟩, ⟨(some 35), (some (31, true)), (.bin false .shl (.c (.int .i64 1)) (.t 34))⟩, ⟨(some 36), (some (31, true)), (.call 35 [(.t 32), (.t 35)])⟩, ⟨(some 37), (some (31, true)), (.mov (.t 1))⟩, ⟨(some 38), (some (31, true)), (.call 17 [(.t 36), (.t 37)])⟩, ⟨(some 39), (some (31, true)), (.un .not (.t 38))⟩, ⟨(some 40), none, (.pick (.t 31) (.t 39) (.c (.bool false)))⟩]) (.cond (.t 40) (.seq (.reg [⟨(some 4), none, (.mov (.c (.bool false)))⟩]) .ret) .skip))) (.reg [⟨(some 24), none, (.mov (.t 5))⟩, ⟨(some 25), none, (.bin false .add (.t 24) (.c (.int .i64 1)))⟩, ⟨(some 5), none, (.mov (.t 25))⟩])))
def sc_s_IsNearlySo : SC := (.seq (.reg [⟨(some 2), none, (.box (.t 0))⟩, ⟨(some 4), none, (.mov (.c (.bool false)))⟩]) (.seq (.seq (.reg [⟨(some 6), none, (.ld (some 2) .undef (.t 2))⟩, ⟨(some 7), none, (.call 65 [(.t 6)])⟩, ⟨(some 8), none, (.un .not (.t 7))⟩, ⟨(some 9), none, (.mov (.t 8))⟩, ⟨(some 10), (some (9, false)), (.fad 1 (.t 2))⟩, ⟨(some 11), (some (9, false)), (.ld none .nil (.t 10))⟩, ⟨(some 12), (some (9, false)), (.len (.t 11))⟩, ⟨(some 13), (some (9, false)), (.bin false .eql (.t 12) (.c (.int .i64 0)))⟩, ⟨(some 14), none, (.pick (.t 9) (.c (.bool true)) (.t 13))⟩, ⟨(some 15), none, (.mov (.t 14))⟩, ⟨(some 16), (some (15, false)), (.mov (.t 1))⟩, ⟨(some 17), (some (15, false)), (.call 33 [(.t 16)])⟩, ⟨(some 18), (some (15, false)), (.un .not (.t 17))⟩, ⟨(some 19), none, (.pick (.t 15) (.c (.bool true)) (.t 18))⟩]) (.cond (.t 19) (.seq (.reg [⟨(some 4), none, (.mov (.c (.bool false)))⟩]) .ret) .skip)) (.seq (.seq (.reg [⟨(some 5), none, (.mov (.c (.int .i64 0)))⟩]) (.block 0 (.loop sc_s_IsNearlySo_L0))) (.seq (.reg [⟨(some 4), none, (.mov (.c (.bool true)))⟩]) .ret))))
theorem code_s_IsNearlySo : fnCode Try.prog [] 27 = some (41, sc_s_IsNearlySo, [(4, none)]) := by kernel_rfl
/-- Pure, and the links of all points are Cohen-Macaulay. -/
def nearP (n : Int) (l : List Int) (p : Int) : Prop := pureB n l = true ∧ l ≠ [] ∧ fpP p ∧ ∀ i : Nat, i < 6 → faceS l (2 ^ i) → fdP p (lnkP (faceS l) (2 ^ i))
open Classical in
noncomputable def F_s_IsNearlySo : List V → Option V := F2 dC dI fun c p => if allR c.2 then some (.bool (dec (nearP c.1 c.2 p))) else none
theorem pureB_cplx {n : Int} {l : List Int} (h : pureB n l = true) : cplx n l := (dec_iff.1 h).1
theorem cm_link {n : Int} {l : List Int} {p : Int} (hc : cplx n l) {s : Int} (hs : isS s) (hp : fpP p) : cmP n (lkS l s) p ↔ fdP p (lnkP (faceS l) s) := by
  unfold cmP
  rw [fdP_congr fun u hu => lkS_face (cplx_isS hc) hs hu]
  exact ⟨fun h => h.2.2, fun h => ⟨cplx_lnk hc hs, hp, h⟩⟩
theorem fn_s_IsNearlySo : FnOk Try.prog 27 F_s_IsNearlySo := by
  have env := (((((envNil_ok (P := Try.prog)).add fn_s_IsPure).add fn_s_IsFieldPrime).add fn_s_l3Has).add fn_s_l5Link).add fn_s_IsCohenMacaulay
  refine fn_ok code_s_IsNearlySo mixed env ?_
  intro args r h hb
  obtain ⟨_, _, ⟨n, l⟩, p, rfl, h1, h2, h4⟩ := F2_inv h
  cases dC_inv h1
  cases dI_inv h2
  simp only [Option.ite_none_right_eq_some, Option.some.injEq] at h4
  obtain ⟨hR, rfl⟩ := h4
  clear h
  refine ⟨by simp, fun w0 U0 L0 N0 => ?_⟩
  clear hb
  generalize hv : dec (nearP n l p) = v
  cases hpu : pureB n l with
  | false =>
    have hv1 : v = false := hv ▸ dec_false fun h => by have := h.1; simp [hpu] at this
    simp -implicitDefEqProofs [sc_s_IsNearlySo, F_s_IsPure, hR, hpu, hv1]
  | true =>
  have hc := pureB_cplx hpu
  have hS := cplx_isS hc
  have hl64 := cplx_len64 hc
  obtain ⟨hn1, hn6, _⟩ := id hc
  by_cases hl : l = []
  · have hv1 : v = false := hv ▸ dec_false fun h => h.2.1 hl
    subst hl
    simp -implicitDefEqProofs [sc_s_IsNearlySo, F_s_IsPure, hR, hpu, hv1]
  by_cases hp : fpP p
  rotate_left
  · have hv1 : v = false := hv ▸ dec_false fun h => hp h.2.2.1
    have hd := dec_false hp
    simp -implicitDefEqProofs [sc_s_IsNearlySo, F_s_IsPure, F_s_IsFieldPrime, hR, hpu, hl, hd, hv1]
  have hd := dec_true hp
  simp -implicitDefEqProofs [sc_s_IsNearlySo, F_s_IsPure, F_s_IsFieldPrime, hR, hpu, hl, hd]
  refine loopI env mixed (fun k : Nat => [(1, .int .i64 p), (2, .pt 0 0), (5, .int .i64 (k : Int))]) (fun _ => ([(0, [.int .i64 n, .list 1 (ints l)])], 1)) (fun k => k ≤ 6 ∧ ∀ i : Nat, i < k → faceS l (2 ^ i) → fdP p (lnkP (faceS l) (2 ^ i))) (fun k => 6 - k) 0 (by simp) (SubI.slots (by simp) (by simp)) ?_
  rintro k ⟨hk, hI⟩
  by_cases hlt : (k : Int) < n
  · have hk6 : k < 6 := by omega
    have hu : IntKind.u64.wrap (k : Int) = k := wrapU _ (by omega) (by omega)
    have hsh := shl6 hk6
    have hpS := isS_pow hk6
    by_cases hf : faceS l (2 ^ k)
    rotate_left
    · have hf1 := dec_false hf
      simp -implicitDefEqProofs [sc_s_IsNearlySo_L0, F_s_l3Has, hlt, hu, hsh, hS, hpS, hf1]
      repeat' (first | omega | apply And.intro)
      refine Again.of (k + 1) ⟨by omega, fun i hi h => ?_⟩ (by omega) (SubI.slots (by simp) (by simp (disch := omega) [wrapI]))
      rcases Nat.lt_succ_iff_lt_or_eq.1 hi with h1 | rfl
      · exact hI i h1 h
      · exact absurd h hf
    have hf1 := dec_true hf
    have hFK : F_s_l5Link [.agg [.int .i64 n, .list 1 (ints l)], .int .i64 (2 ^ k)] = some (.agg [.int .i64 n, .own 1 (ints (lkS l (2 ^ k)))]) := by
      simp only [F_s_l5Link, F2_mk, dC_agg, dI_int, Option.bind_some]
      rw [if_pos ⟨hS, hl64, hpS⟩]
      rfl
    have hgd : cmP n (lkS l (2 ^ k)) p ↔ fdP p (lnkP (faceS l) (2 ^ k)) := cm_link hc hpS hp
    have hno : ¬ fdP p (lnkP (faceS l) (2 ^ k)) → v = false := fun h => hv ▸ dec_false fun h2 => h (h2.2.2.2 k hk6 hf)
    have hFC : F_s_IsCohenMacaulay [.agg [.int .i64 n, .list 1 (ints (lkS l (2 ^ k)))], .int .i64 p] = some (.bool (dec (cmP n (lkS l (2 ^ k)) p))) := by simp [F_s_IsCohenMacaulay]
    generalize lkS l (2 ^ k) = R at *
    by_cases g2 : cmP n R p
    rotate_left
    · have hv1 := hno fun h => g2 (hgd.2 h)
      rw [dec_false g2] at hFC
      simp -implicitDefEqProofs [sc_s_IsNearlySo_L0, F_s_l3Has, hFK, hFC, hlt, hu, hsh, hS, hpS, hf1, hv1]
    rw [dec_true g2] at hFC
    simp -implicitDefEqProofs [sc_s_IsNearlySo_L0, F_s_l3Has, hFK, hFC, hlt, hu, hsh, hS, hpS, hf1]
    repeat' (first | omega | apply And.intro)
    refine Again.of (k + 1) ⟨by omega, fun i hi h => ?_⟩ (by omega) (SubI.ren (fun m => if m = 0 then some 0 else none) ?_ ?_ ?_ (by simp) (by simp))
    · rcases Nat.lt_succ_iff_lt_or_eq.1 hi with h1 | rfl
      · exact hI i h1 h
      · exact hgd.1 g2
    · simp (disch := omega) [subT, renV, ren1, wrapI]
    · simp [subH, renL, ren1]
    · intro m hm
      simp only at hm
      rw [if_neg (by omega)]
  · have hv1 : v = true := hv ▸ dec_true ⟨hpu, hl, hp, fun i hi h => by
      have := pow_face hc hi h
      exact hI i (by omega) h⟩
    simp -implicitDefEqProofs [sc_s_IsNearlySo_L0, hlt, hv1]
def sc_i_IsNearlySo_L0 : SC := (.seq (.seq (.reg [⟨(some 24), none, (.mov (.t 6))⟩, ⟨(some 25), none, (.fad 0 (.t 2))⟩, ⟨(some 26), none, (.ld none (.int .i64 0) (.t 25))⟩, ⟨(some 27), none, (.bin false .lss (.t 24) (.t 26))⟩]) (.cond (.t 27) .skip (.exit 0))) (.seq (.block 1 (.seq (.reg [⟨(some 30), none, (.mov (.t 6))⟩, ⟨(some 31), none, (.conv .u64 (.t 30))⟩, ⟨(some 32), none, (.bin false .shl (.c (.int .i64 1)) (.t 31))⟩, ⟨(some 7), none, (.mov (.t 32))⟩]) (.seq (.reg [⟨(some 33), none, (.mov (.t 5))⟩, ⟨(some 34), none, (.mov (.t 7))⟩, ⟨(some 35), none, (.call 68 [(.t 33), (.t 34)])⟩, ⟨(some 36), none, (.mov (.t 35))⟩, ⟨(some 37), (some (36, true)), (.mov (.t 5))⟩, ⟨(some 38), (some (36, true)), (.mov (.t 7))⟩, ⟨(some 39), (some (36, true)), (.call 46 [(.t 37), (.t 38)])⟩, ⟨(some 40), (some (36, true)), (.mov (.t 1))⟩, ⟨(some 41), (some (36, true)), (.call 48 [(.t 39), (.t 40)])⟩, ⟨(some 42), (some (36, true)), (.un .not (.t 41))⟩, ⟨(some 43), none, (.pick (.t 36) (.t 42) (.c (.bool false)))⟩]) (.cond (.t 43) (.seq (.reg [⟨(some 4), none, (.mov (.c (.bool false)))⟩]) .ret) .skip)))) (.reg [⟨(some 28), none, (.mov (.t 6))⟩, ⟨(some 29), none, (.bin false .add (.t 28) (.c (.int .i64 1)))⟩, ⟨(some 6), none, (.mov (.t 29))⟩])))
def sc_i_IsNearlySo : SC := (.seq (.reg [⟨(some 2), none, (.box (.t 0))⟩, ⟨(some 4), none, (.mov (.c (.bool false)))⟩]) (.seq (.seq (.reg [⟨(some 8), none, (.mov (.t 1))⟩, ⟨(some 9), none, (.call 39 [(.t 8)])⟩, ⟨(some 10), none, (.un .not (.t 9))⟩, ⟨(some 11), none, (.mov (.t 10))⟩, ⟨(some 12), (some (11, false)), (.ld (some 2) .undef (.t 2))⟩, ⟨(some 13), (some (11, false)), (.call 67 [(.t 12)])⟩, ⟨(some 14), (some (11, false)), (.un .not (.t 13))⟩, ⟨(some 15), none, (.pick (.t 11) (.c (.bool true)) (.t 14))⟩, ⟨(some 16), none, (.mov (.t 15))⟩, ⟨(some 17), (some (16, false)), (.fad 1 (.t 2))⟩, ⟨(some 18), (some (16, false)), (.ld none .nil (.t 17))⟩, ⟨(some 19), (some (16, false)), (.len (.t 18))⟩, ⟨(some 20), (some (16, false)), (.bin false .eql (.t 19) (.c (.int .i64 0)))⟩, ⟨(some 21), none, (.pick (.t 16) (.c (.bool true)) (.t 20))⟩]) (.cond (.t 21) (.seq (.reg [⟨(some 4), none, (.mov (.c (.bool false)))⟩]) .ret) .skip)) (.seq (.reg [⟨(some 22), none, (.ld (some 2) .undef (.t 2))⟩, ⟨(some 23), none, (.call 41 [(.t 22)])⟩, ⟨(some 5), none, (.mov (.t 23))⟩]) (.seq (.seq (.reg [⟨(some 6), none, (.mov (.c (.int .i64 0)))⟩]) (.block 0 (.loop sc_i_IsNearlySo_L0))) (.seq (.reg [⟨(some 4), none, (.mov (.c (.bool true)))⟩]) .ret)))))
theorem code_i_IsNearlySo : fnCode Try.prog [] 28 = some (44, sc_i_IsNearlySo, [(4, none)]) := by kernel_rfl
theorem fn_i_IsNearlySo : FnOk Try.prog 28 F_s_IsNearlySo := by
  have env := ((((((envNil_ok (P := Try.prog)).add fn_i_IsFieldPrime).add fn_i_IsPure).add fn_i_facesIn).add fn_i_hasSet).add fn_i_linkIn).add fn_i_isFullDepth
  refine fn_ok code_i_IsNearlySo mixed env ?_
  intro args r h hb
  obtain ⟨_, _, ⟨n, l⟩, p, rfl, h1, h2, h4⟩ := F2_inv h
  cases dC_inv h1
  cases dI_inv h2
  simp only [Option.ite_none_right_eq_some, Option.some.injEq] at h4
  obtain ⟨hR, rfl⟩ := h4
  clear h
  refine ⟨by simp, fun w0 U0 L0 N0 => ?_⟩
  clear hb
  generalize hv : dec (nearP n l p) = v
  by_cases hp : fpP p
  rotate_left
  · have hv1 : v = false := hv ▸ dec_false fun h => hp h.2.2.1
    have hd := dec_false hp
    simp -implicitDefEqProofs [sc_i_IsNearlySo, F_s_IsFieldPrime, hd, hv1]
  have hd := dec_true hp
  cases hpu : pureB n l with
  | false =>
    have hv1 : v = false := hv ▸ dec_false fun h => by have := h.1; simp [hpu] at this
    simp -implicitDefEqProofs [sc_i_IsNearlySo, F_s_IsPure, F_s_IsFieldPrime, hd, hR, hpu, hv1]
  | true =>
  have hc := pureB_cplx hpu
  have hS := cplx_isS hc
  obtain ⟨hn1, hn6, _⟩ := id hc
  by_cases hl : l = []
  · have hv1 : v = false := hv ▸ dec_false fun h => h.2.1 hl
    subst hl
    simp -implicitDefEqProofs [sc_i_IsNearlySo, F_s_IsPure, F_s_IsFieldPrime, hd, hR, hpu, hv1]
  simp -implicitDefEqProofs [sc_i_IsNearlySo, F_s_IsPure, F_s_IsFieldPrime, F_i_facesIn, hd, hR, hpu, hl, hS]
  refine loopI env mixed (fun k : Nat => [(1, .int .i64 p), (2, .pt 0 0), (5, .int .u64 (fam (faceS l))), (6, .int .i64 (k : Int))]) (fun _ => ([(0, [.int .i64 n, .list 1 (ints l)])], 1)) (fun k => k ≤ 6 ∧ ∀ i : Nat, i < k → faceS l (2 ^ i) → fdP p (lnkP (faceS l) (2 ^ i))) (fun k => 6 - k) 0 (by simp) (SubI.slots (by simp) (by simp)) ?_
  rintro k ⟨hk, hI⟩
  by_cases hlt : (k : Int) < n
  · have hk6 : k < 6 := by omega
    have hu : IntKind.u64.wrap (k : Int) = k := wrapU _ (by omega) (by omega)
    have hsh := shl6 hk6
    have hpS := isS_pow hk6
    have hg1 := hasG_fam (p := faceS l) hpS
    have hg2 := lnkG_fam (faceS l) hpS
    have hg3 := fdG_fam (lnkP (faceS l) (2 ^ k)) hp
    by_cases hf : faceS l (2 ^ k)
    rotate_left
    · rw [dec_false hf] at hg1
      simp -implicitDefEqProofs [sc_i_IsNearlySo_L0, F_i_hasSet, hlt, hu, hsh, hg1]
      repeat' (first | omega | apply And.intro)
      refine Again.of (k + 1) ⟨by omega, fun i hi h => ?_⟩ (by omega) (SubI.slots (by simp) (by simp (disch := omega) [wrapI]))
      rcases Nat.lt_succ_iff_lt_or_eq.1 hi with h1 | rfl
      · exact hI i h1 h
      · exact absurd h hf
    rw [dec_true hf] at hg1
    have hno : ¬ fdP p (lnkP (faceS l) (2 ^ k)) → v = false := fun h => hv ▸ dec_false fun h2 => h (h2.2.2.2 k hk6 hf)
    by_cases g2 : fdP p (lnkP (faceS l) (2 ^ k))
    rotate_left
    · have hv1 := hno g2
      rw [dec_false g2] at hg3
      generalize fam (lnkP (faceS l) (2 ^ k)) = G at *
      simp -implicitDefEqProofs [sc_i_IsNearlySo_L0, F_i_hasSet, F_i_linkIn, F_i_isFullDepth, hlt, hu, hsh, hg1, hg2, hg3, hv1]
    rw [dec_true g2] at hg3
    generalize fam (lnkP (faceS l) (2 ^ k)) = G at *
    simp -implicitDefEqProofs [sc_i_IsNearlySo_L0, F_i_hasSet, F_i_linkIn, F_i_isFullDepth, hlt, hu, hsh, hg1, hg2, hg3]
    repeat' (first | omega | apply And.intro)
    refine Again.of (k + 1) ⟨by omega, fun i hi h => ?_⟩ (by omega) (SubI.slots (by simp) (by simp (disch := omega) [wrapI]))
    rcases Nat.lt_succ_iff_lt_or_eq.1 hi with h1 | rfl
    · exact hI i h1 h
    · exact g2
  · have hv1 : v = true := hv ▸ dec_true ⟨hpu, hl, hp, fun i hi h => by
      have := pow_face hc hi h
      exact hI i (by omega) h⟩
    simp -implicitDefEqProofs [sc_i_IsNearlySo_L0, hlt, hv1]
end Go.Proofs.Ytncnohompmcddaa
