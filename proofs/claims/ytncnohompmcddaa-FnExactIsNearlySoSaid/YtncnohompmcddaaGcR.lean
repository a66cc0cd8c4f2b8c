import Derived.Test.YtncnohompmcddaaGcQ
import Derived.Test.YtncnohompmcddaaGaD
import Derived.Test.YtncnohompmcddaaKL
namespace Go.Proofs.Ytncnohompmcddaa
open Go Go.RowKit
set_option maxRecDepth 1000000
set_option linter.unusedSimpArgs false
set_option linter.unusedVariables false
set_option maxHeartbeats 1000000
def sc_s_IsSurface_L0 : SC := (.seq (.seq (.reg [⟨(some 18), none, (.mov (.t 3))⟩, ⟨(some 19), none, (.fad 0 (.t 1))⟩, ⟨(some 20), none, (.ld none (.int .i64 0) (.t 19))⟩, ⟨(some 21), none, (.bin false .lss (.t 18) (.t 20))⟩]) (.cond (.t 21) .skip (.exit 0))) (.seq (.block 1 (.seq (.seq (.reg [⟨(some 24), none, (.ld (some 2) .undef (.t 1))⟩, ⟨(some 25), none, (.mov (.t 3))⟩, ⟨(some 26), none, (.conv .u64 (.t 25))⟩, ⟨(some 27), none, (.bin false .shl (.c (.int .i64 1)) (.t 26))⟩, ⟨(some 28), none, (.call 66 [(.t 24), (.t 27)])⟩, ⟨(some 29), none, (.un .not (.t 28))⟩]) (.cond (.t 29) (.exit 1) .skip)) (.seq (.reg [⟨(some 30), none, (.ld (some 2) .undef (.t 1))⟩, ⟨(some 31), none, (.mov (.t 3))⟩, ⟨(some 32), none, (.conv .u64 (.t 31))⟩, ⟨(some 33), none, (.bin false .shl (.c (.int .i64 1)) (.t 32))⟩, ⟨(some 34), none, (.call 35 [(.t 30), (.t 33)])⟩, ⟨(some 4), none, (.new [(.int .i64 0), .nil])⟩, ⟨none, none, (.st 2 (.t 4) (.t 34))⟩]) (.seq (.reg [⟨(some 35), none, (.ld (some 2) .undef (.t 4))⟩, ⟨(some 36), none, (.call 95 [(.t 35)])⟩, ⟨(some 37), none, (.un .not (.t 36))⟩, ⟨(some 38), none, (.mov (.t 37))⟩, ⟨(some 39), (some (38, false)), (.ld (some 2) .undef (.t 4))⟩, ⟨(some 40), (some (38, false)), (.call 94 [(.t 39)])⟩, ⟨(some 41), (some (38, false)), (.un .not (.t 40))⟩, ⟨(some 42), none, (.pick (.t 38) (.c (.bool true)) (.t 41))⟩]) (.cond (.t 42) (.seq (.reg [⟨(some 2), none, (.mov (.c (.bool false)))⟩]) .ret) .skip))))) (.reg [⟨(some 22), none, (.mov (.t 3))⟩, ⟨(some 23), none, (.bin false .add (.t 22) (.c (.int .i64 1)))⟩, ⟨(some 3), none, (.mov (.t 23))⟩])))
def sc_s_IsSurface : SC := (.seq (.reg [⟨(some 1), none, (.box (.t 0))⟩, ⟨(some 2), none, (.mov (.c (.bool false)))⟩]) (.seq (.seq (.reg [⟨(some 5), none, (.ld (some 2) .undef (.t 1))⟩, ⟨(some 6), none, (.call 42 [(.t 5)])⟩, ⟨(some 7), none, (.bin false .neq (.t 6) (.c (.int .i64 2)))⟩, ⟨(some 8), none, (.mov (.t 7))⟩, ⟨(some 9), (some (8, false)), (.ld (some 2) .undef (.t 1))⟩, ⟨(some 10), (some (8, false)), (.call 94 [(.t 9)])⟩, ⟨(some 11), (some (8, false)), (.un .not (.t 10))⟩, ⟨(some 12), none, (.pick (.t 8) (.c (.bool true)) (.t 11))⟩, ⟨(some 13), none, (.mov (.t 12))⟩, ⟨(some 14), (some (13, false)), (.ld (some 2) .undef (.t 1))⟩, ⟨(some 15), (some (13, false)), (.call 95 [(.t 14)])⟩, ⟨(some 16), (some (13, false)), (.un .not (.t 15))⟩, ⟨(some 17), none, (.pick (.t 13) (.c (.bool true)) (.t 16))⟩]) (.cond (.t 17) (.seq (.reg [⟨(some 2), none, (.mov (.c (.bool false)))⟩]) .ret) .skip)) (.seq (.seq (.reg [⟨(some 3), none, (.mov (.c (.int .i64 0)))⟩]) (.block 0 (.loop sc_s_IsSurface_L0))) (.seq (.reg [⟨(some 2), none, (.mov (.c (.bool true)))⟩]) .ret))))
theorem code_s_IsSurface : fnCode Try.prog [] 69 = some (43, sc_s_IsSurface, [(2, none)]) := by kernel_rfl
/-- The link of the point i. -/
noncomputable def lkL (l : List Int) (i : Nat) : List Int := setsOf (maxP (lnkP (faceS l) (2 ^ i)))
def ptGood (n : Int) (l : List Int) (i : Nat) : Prop := chainB n (lkL l i) = true ∧ clsP n (lkL l i)
def surfP (n : Int) (l : List Int) : Prop := dimZ n l = 2 ∧ clsP n l ∧ chainB n l = true ∧ ∀ i : Nat, i < 6 → faceS l (2 ^ i) → ptGood n l i
theorem pow_face {n : Int} {l : List Int} (hc : cplx n l) {i : Nat} (hi : i < 6) (h : faceS l (2 ^ i)) : (i : Int) < n := by
  have h1 := isSet_face' hc (isS_pow hi) h
  simp only [isSet, decide_eq_true_eq] at h1
  obtain ⟨h2, _, _, h3⟩ := h1
  obtain ⟨m, rfl⟩ : ∃ m : Nat, n = m := ⟨n.toNat, by omega⟩
  rw [Int.toNat_natCast] at h3
  have h4 : 2 ^ i < 2 ^ m := by exact_mod_cast h3
  have := (Nat.pow_lt_pow_iff_right (by omega : 1 < 2)).1 h4
  omega
open Classical in
noncomputable def F_s_IsSurface : List V → Option V := F1 dC fun c => if allR c.2 then some (.bool (dec (surfP c.1 c.2))) else none
theorem fn_s_IsSurface : FnOk Try.prog 69 F_s_IsSurface := by
  have env := (((((envNil_ok (P := Try.prog)).add fn_s_DimOf).add fn_s_IsClosed).add fn_s_IsChained).add fn_s_l3Has).add fn_s_l5Link
  refine fn_ok code_s_IsSurface mixed env ?_
  intro args r h hb
  obtain ⟨_, ⟨n, l⟩, rfl, h1, h4⟩ := F1_inv h
  cases dC_inv h1
  simp only [Option.ite_none_right_eq_some, Option.some.injEq] at h4
  obtain ⟨hR, rfl⟩ := h4
  clear h
  refine ⟨by simp, fun w0 U0 L0 N0 => ?_⟩
  clear hb
  generalize hv : dec (surfP n l) = v
  have hFD : F_s_DimOf [.agg [.int .i64 n, .list 1 (ints l)]] = some (.int .i64 (dimZ n l)) := by simp [F_s_DimOf]
  by_cases hd : dimZ n l = 2
  rotate_left
  · have hv1 : v = false := hv ▸ dec_false fun h => hd h.1
    simp -implicitDefEqProofs [sc_s_IsSurface, hFD, hd, hv1]
  have hc := dimZ_cplx (show ¬ dimZ n l < 0 by omega)
  have hS := cplx_isS hc
  have hl64 := cplx_len64 hc
  obtain ⟨hn1, hn6, _⟩ := id hc
  by_cases hcl : clsP n l
  rotate_left
  · have hv1 : v = false := hv ▸ dec_false fun h => hcl h.2.1
    have hcl1 := dec_false hcl
    simp -implicitDefEqProofs [sc_s_IsSurface, hFD, F_s_IsClosed, hR, hd, hcl1, hv1]
  have hcl1 := dec_true hcl
  cases hch : chainB n l with
  | false =>
    have hv1 : v = false := hv ▸ dec_false fun h => by have := h.2.2.1; simp [hch] at this
    simp -implicitDefEqProofs [sc_s_IsSurface, hFD, F_s_IsClosed, F_s_IsChained, hR, hd, hcl1, hch, hv1]
  | true =>
  simp -implicitDefEqProofs [sc_s_IsSurface, hFD, F_s_IsClosed, F_s_IsChained, hR, hd, hcl1, hch]
  refine loopI env mixed (fun k : Nat => [(1, .pt 0 0), (3, .int .i64 (k : Int))]) (fun _ => ([(0, [.int .i64 n, .list 1 (ints l)])], 1)) (fun k => k ≤ 6 ∧ ∀ i : Nat, i < k → faceS l (2 ^ i) → ptGood n l i) (fun k => 6 - k) 0 (by simp) (SubI.slots (by simp) (by simp)) ?_
  rintro k ⟨hk, hI⟩
  by_cases hlt : (k : Int) < n
  · have hk6 : k < 6 := by omega
    have hu : IntKind.u64.wrap (k : Int) = k := wrapU _ (by omega) (by omega)
    have hsh := shl6 hk6
    have hpS := isS_pow hk6
    by_cases hf : faceS l (2 ^ k)
    rotate_left
    · have hf1 := dec_false hf
      simp -implicitDefEqProofs [sc_s_IsSurface_L0, F_s_l3Has, hlt, hu, hsh, hS, hpS, hf1]
      repeat' (first | omega | apply And.intro)
      refine Again.of (k + 1) ⟨by omega, fun i hi h => ?_⟩ (by omega) (SubI.slots (by simp) (by simp (disch := omega) [wrapI]))
      rcases Nat.lt_succ_iff_lt_or_eq.1 hi with h1 | rfl
      · exact hI i h1 h
      · exact absurd h hf
    have hf1 := dec_true hf
    have hRk : allR (lkL l k) := allR_of (allS_setsOf _)
    have hFK : F_s_l5Link [.agg [.int .i64 n, .list 1 (ints l)], .int .i64 (2 ^ k)] = some (.agg [.int .i64 n, .own 1 (ints (lkL l k))]) := by
      simp only [F_s_l5Link, F2_mk, dC_agg, dI_int, Option.bind_some]
      rw [if_pos ⟨hS, hl64, hpS⟩]
      rfl
    have hno : ¬ ptGood n l k → v = false := fun h => hv ▸ dec_false fun h2 => h (h2.2.2.2 k hk6 hf)
    have hgd : ptGood n l k ↔ chainB n (lkL l k) = true ∧ clsP n (lkL l k) := Iff.rfl
    generalize lkL l k = R at *
    cases g1 : chainB n R with
    | false =>
      have hv1 := hno fun h => by have := (hgd.1 h).1; simp [g1] at this
      simp -implicitDefEqProofs [sc_s_IsSurface_L0, F_s_l3Has, hFK, F_s_IsChained, hlt, hu, hsh, hS, hpS, hf1, hRk, g1, hv1]
    | true =>
    by_cases g2 : clsP n R
    rotate_left
    · have hv1 := hno fun h => g2 (hgd.1 h).2
      have g3 := dec_false g2
      simp -implicitDefEqProofs [sc_s_IsSurface_L0, F_s_l3Has, hFK, F_s_IsChained, F_s_IsClosed, hlt, hu, hsh, hS, hpS, hf1, hRk, g1, g3, hv1]
    have g3 := dec_true g2
    simp -implicitDefEqProofs [sc_s_IsSurface_L0, F_s_l3Has, hFK, F_s_IsChained, F_s_IsClosed, hlt, hu, hsh, hS, hpS, hf1, hRk, g1, g3]
    repeat' (first | omega | apply And.intro)
    refine Again.of (k + 1) ⟨by omega, fun i hi h => ?_⟩ (by omega) (SubI.ren (fun m => if m = 0 then some 0 else none) ?_ ?_ ?_ (by simp) (by simp))
    · rcases Nat.lt_succ_iff_lt_or_eq.1 hi with h1 | rfl
      · exact hI i h1 h
      · exact hgd.2 ⟨g1, g2⟩
    · simp (disch := omega) [subT, renV, ren1, wrapI]
    · simp [subH, renL, ren1]
    · intro m hm
      simp only at hm
      rw [if_neg (by omega)]
  · have hv1 : v = true := hv ▸ dec_true ⟨hd, hcl, hch, fun i hi h => by
      have := pow_face hc hi h
      exact hI i (by omega) h⟩
    simp -implicitDefEqProofs [sc_s_IsSurface_L0, hlt, hv1]
def sc_i_IsSurface_L0 : SC := (.seq (.reg [⟨(some 25), none, (.bin false .lss (.t 24) (.t 23))⟩]) (.seq (.cond (.t 25) .skip (.exit 0)) (.seq (.block 1 (.seq (.reg [⟨(some 26), none, (.idx 1 (.t 22) (.t 24))⟩, ⟨(some 27), none, (.ld none (.int .i64 0) (.t 26))⟩, ⟨(some 4), none, (.mov (.t 27))⟩]) (.seq (.reg [⟨(some 29), none, (.ld (some 2) .undef (.t 1))⟩, ⟨(some 30), none, (.mov (.t 4))⟩, ⟨(some 31), none, (.conv .u64 (.t 30))⟩, ⟨(some 32), none, (.bin false .shl (.c (.int .i64 1)) (.t 31))⟩, ⟨(some 33), none, (.call 101 [(.t 29), (.t 32)])⟩, ⟨(some 28), none, (.mov (.t 33))⟩, ⟨(some 34), none, (.ext 0 (.t 28))⟩, ⟨(some 35), none, (.ext 1 (.t 28))⟩, ⟨(some 5), none, (.new [(.int .i64 0), .nil])⟩, ⟨none, none, (.st 2 (.t 5) (.t 34))⟩, ⟨(some 6), none, (.mov (.t 35))⟩]) (.seq (.reg [⟨(some 36), none, (.ld (some 2) .undef (.t 5))⟩, ⟨(some 37), none, (.call 98 [(.t 36)])⟩, ⟨(some 38), none, (.un .not (.t 37))⟩, ⟨(some 39), none, (.mov (.t 38))⟩, ⟨(some 40), (some (39, false)), (.ld (some 2) .undef (.t 5))⟩, ⟨(some 41), (some (39, false)), (.call 97 [(.t 40)])⟩, ⟨(some 42), (some (39, false)), (.un .not (.t 41))⟩, ⟨(some 43), none, (.pick (.t 39) (.c (.bool true)) (.t 42))⟩]) (.cond (.t 43) (.seq (.reg [⟨(some 2), none, (.mov (.c (.bool false)))⟩]) .ret) .skip))))) (.reg [⟨(some 44), none, (.bin false .add (.t 24) (.c (.int .i64 1)))⟩, ⟨(some 24), none, (.mov (.t 44))⟩]))))
def sc_i_IsSurface : SC := (.seq (.reg [⟨(some 1), none, (.box (.t 0))⟩, ⟨(some 2), none, (.mov (.c (.bool false)))⟩]) (.seq (.seq (.reg [⟨(some 7), none, (.ld (some 2) .undef (.t 1))⟩, ⟨(some 8), none, (.call 96 [(.t 7)])⟩, ⟨(some 9), none, (.bin false .neq (.t 8) (.c (.int .i64 2)))⟩, ⟨(some 10), none, (.mov (.t 9))⟩, ⟨(some 11), (some (10, false)), (.ld (some 2) .undef (.t 1))⟩, ⟨(some 12), (some (10, false)), (.call 97 [(.t 11)])⟩, ⟨(some 13), (some (10, false)), (.un .not (.t 12))⟩, ⟨(some 14), none, (.pick (.t 10) (.c (.bool true)) (.t 13))⟩, ⟨(some 15), none, (.mov (.t 14))⟩, ⟨(some 16), (some (15, false)), (.ld (some 2) .undef (.t 1))⟩, ⟨(some 17), (some (15, false)), (.call 98 [(.t 16)])⟩, ⟨(some 18), (some (15, false)), (.un .not (.t 17))⟩, ⟨(some 19), none, (.pick (.t 15) (.c (.bool true)) (.t 18))⟩]) (.cond (.t 19) (.seq (.reg [⟨(some 2), none, (.mov (.c (.bool false)))⟩]) .ret) .skip)) (.seq (.seq (.reg [⟨(some 20), none, (.ld (some 2) .undef (.t 1))⟩, ⟨(some 21), none, (.call 100 [(.t 20)])⟩, ⟨(some 22), none, (.call 99 [(.t 21)])⟩, ⟨(some 23), none, (.len (.t 22))⟩, ⟨(some 24), none, (.mov (.c (.int .i64 0)))⟩]) (.block 0 (.loop sc_i_IsSurface_L0))) (.seq (.reg [⟨(some 2), none, (.mov (.c (.bool true)))⟩]) .ret))))
theorem code_i_IsSurface : fnCode Try.prog [] 70 = some (45, sc_i_IsSurface, [(2, none)]) := by kernel_rfl
theorem fn_i_IsSurface : FnOk Try.prog 70 F_s_IsSurface := by
  have env := ((((((envNil_ok (P := Try.prog)).add fn_i_DimOf).add fn_i_IsClosed).add fn_i_IsChained).add fn_i_UsedPoints).add fn_i_PointsOf).add fn_i_LinkOf
  refine fn_ok code_i_IsSurface mixed env ?_
  intro args r h hb
  obtain ⟨_, ⟨n, l⟩, rfl, h1, h4⟩ := F1_inv h
  cases dC_inv h1
  simp only [Option.ite_none_right_eq_some, Option.some.injEq] at h4
  obtain ⟨hR, rfl⟩ := h4
  clear h
  refine ⟨by simp, fun w0 U0 L0 N0 => ?_⟩
  clear hb
  generalize hv : dec (surfP n l) = v
  have hFD : F_s_DimOf [.agg [.int .i64 n, .list 1 (ints l)]] = some (.int .i64 (dimZ n l)) := by simp [F_s_DimOf]
  by_cases hd : dimZ n l = 2
  rotate_left
  · have hv1 : v = false := hv ▸ dec_false fun h => hd h.1
    simp -implicitDefEqProofs [sc_i_IsSurface, hFD, hd, hv1]
  have hc := dimZ_cplx (show ¬ dimZ n l < 0 by omega)
  have hS := cplx_isS hc
  have hl64 := cplx_len64 hc
  by_cases hcl : clsP n l
  rotate_left
  · have hv1 : v = false := hv ▸ dec_false fun h => hcl h.2.1
    have hcl1 := dec_false hcl
    simp -implicitDefEqProofs [sc_i_IsSurface, hFD, F_s_IsClosed, hR, hd, hcl1, hv1]
  have hcl1 := dec_true hcl
  cases hch : chainB n l with
  | false =>
    have hv1 : v = false := hv ▸ dec_false fun h => by have := h.2.2.1; simp [hch] at this
    simp -implicitDefEqProofs [sc_i_IsSurface, hFD, F_s_IsClosed, F_s_IsChained, hR, hd, hcl1, hch, hv1]
  | true =>
  have hFU : F_i_UsedPoints [.agg [.int .i64 n, .list 1 (ints l)]] = some (.int .i64 (useZ l)) := by
    simp only [F_i_UsedPoints, F1_mk, dC_agg, Option.bind_some]
    rw [if_pos hc]
  have hFP : F_i_PointsOf [.int .i64 (useZ l)] = some (.own 1 (ints (ptsK (useZ l) 6))) := by
    simp only [F_i_PointsOf, F1_mk, dI_int, Option.bind_some]
    rw [if_pos (useZ_isS hS)]
  have hpl := ptsK_len (useZ l) 6
  have hmem : ∀ x, x ∈ ptsK (useZ l) 6 ↔ ∃ i : Nat, i < 6 ∧ faceS l (2 ^ i) ∧ x = (i : Int) := fun x => by
    rw [mem_ptsK]
    exact ⟨fun ⟨i, h1, h2, h3⟩ => ⟨i, h1, (useZ_tb hS h1).1 h2, h3⟩, fun ⟨i, h1, h2, h3⟩ => ⟨i, h1, (useZ_tb hS h1).2 h2, h3⟩⟩
  generalize ptsK (useZ l) 6 = P at *
  generalize useZ l = u at *
  simp -implicitDefEqProofs [sc_i_IsSurface, hFD, F_s_IsClosed, F_s_IsChained, hFU, hFP, hR, hd, hcl1, hch]
  refine loopI env mixed (fun k : Nat => [(1, .pt 0 0), (22, .sl 1 1 0 P.length), (23, .int .i64 (P.length : Int)), (24, .int .i64 (k : Int))]) (fun _ => ([(1, ints P), (0, [.int .i64 n, .list 1 (ints l)])], 2)) (fun k => k ≤ P.length ∧ ∀ j : Nat, j < k → ∀ i : Nat, at0 P j = i → ptGood n l i) (fun k => P.length - k) 0 (by simp) (SubI.slots (by simp) (by simp)) ?_
  rintro k ⟨hk, hI⟩
  by_cases hlt : k < P.length
  · obtain ⟨i, hi6, hf, he⟩ := (hmem _).1 (getD_mem' hlt)
    have hu : IntKind.u64.wrap (i : Int) = i := wrapU _ (by omega) (by omega)
    have hsh := shl6 hi6
    have hpS := isS_pow hi6
    have hset := isSet_face' hc hpS hf
    have hRk : allR (lkL l i) := allR_of (allS_setsOf _)
    have hFK : F_i_LinkOf [.agg [.int .i64 n, .list 1 (ints l)], .int .i64 (2 ^ i)] = some (.tup [.agg [.int .i64 n, .own 1 (ints (lkL l i))], .bool true]) := by
      simp only [F_i_LinkOf, F2_mk, dC_agg, dI_int, Option.bind_some]
      rw [if_pos ⟨hc, hset⟩]
      rfl
    have hno : ¬ ptGood n l i → v = false := fun h => hv ▸ dec_false fun h2 => h (h2.2.2.2 i hi6 hf)
    have hgd : ptGood n l i ↔ chainB n (lkL l i) = true ∧ clsP n (lkL l i) := Iff.rfl
    generalize lkL l i = R at *
    cases g1 : chainB n R with
    | false =>
      have hv1 := hno fun h => by have := (hgd.1 h).1; simp [g1] at this
      simp -implicitDefEqProofs [sc_i_IsSurface_L0, hFK, F_s_IsChained, hlt, he, hu, hsh, hRk, g1, hv1]
    | true =>
    by_cases g2 : clsP n R
    rotate_left
    · have hv1 := hno fun h => g2 (hgd.1 h).2
      have g3 := dec_false g2
      simp -implicitDefEqProofs [sc_i_IsSurface_L0, hFK, F_s_IsChained, F_s_IsClosed, hlt, he, hu, hsh, hRk, g1, g3, hv1]
    have g3 := dec_true g2
    simp -implicitDefEqProofs [sc_i_IsSurface_L0, hFK, F_s_IsChained, F_s_IsClosed, hlt, he, hu, hsh, hRk, g1, g3]
    repeat' (first | omega | apply And.intro)
    refine Again.of (k + 1) ⟨by omega, fun j hj i' h => ?_⟩ (by omega) (SubI.ren (fun m => if m = 0 then some 0 else if m = 1 then some 1 else none) ?_ ?_ ?_ (by simp) (by simp))
    · rcases Nat.lt_succ_iff_lt_or_eq.1 hj with h1 | rfl
      · exact hI j h1 i' h
      · have : i' = i := by omega
        subst this
        exact hgd.2 ⟨g1, g2⟩
    · simp (disch := omega) [subT, renV, ren1, wrapI]
    · simp [subH, renL, ren1]
    · intro m hm
      simp only at hm
      rw [if_neg (by omega), if_neg (by omega)]
  · have : k = P.length := by omega
    subst this
    have hv1 : v = true := hv ▸ dec_true ⟨hd, hcl, hch, fun i hi h => by
      obtain ⟨j, hj, e⟩ := getD_mem_iff.1 ((hmem (i : Int)).2 ⟨i, hi, h, rfl⟩)
      exact hI j hj i e⟩
    simp -implicitDefEqProofs [sc_i_IsSurface_L0, hv1]
end Go.Proofs.Ytncnohompmcddaa
