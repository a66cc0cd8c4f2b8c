import Derived.Test.YtedampaecopkhaaFqN
import Derived.Test.YtedampaecopkhaaFoA
namespace Go.Proofs.Ytedampaecopkhaa
open Go Go.RowKit
set_option maxRecDepth 1000000
set_option linter.unusedSimpArgs false
set_option linter.unusedVariables false
set_option maxHeartbeats 1000000
def sc_i_PointPairing_L2 : SC := (.seq (.reg [⟨(some 29), none, (.bin false .lss (.t 28) (.t 27))⟩]) (.seq (.cond (.t 29) .skip (.exit 2)) (.seq (.block 3 (.seq (.reg [⟨(some 30), none, (.idx 1 (.t 26) (.t 28))⟩, ⟨(some 31), none, (.ld none (.int .i64 0) (.t 30))⟩, ⟨(some 9), none, (.mov (.t 31))⟩]) (.seq (.reg [⟨(some 32), none, (.mov (.t 9))⟩, ⟨(some 33), none, (.mov (.t 7))⟩, ⟨(some 34), none, (.bin false .and (.t 32) (.t 33))⟩, ⟨(some 35), none, (.bin false .eql (.t 34) (.c (.int .i64 0)))⟩, ⟨(some 36), none, (.mov (.t 35))⟩, ⟨(some 37), (some (36, true)), (.mov (.t 4))⟩, ⟨(some 38), (some (36, true)), (.mov (.t 9))⟩, ⟨(some 39), (some (36, true)), (.call 78 [(.t 37), (.t 38)])⟩, ⟨(some 40), none, (.pick (.t 36) (.t 39) (.c (.bool false)))⟩, ⟨(some 41), none, (.mov (.t 40))⟩, ⟨(some 42), (some (41, true)), (.mov (.t 4))⟩, ⟨(some 43), (some (41, true)), (.mov (.t 9))⟩, ⟨(some 44), (some (41, true)), (.mov (.t 7))⟩, ⟨(some 45), (some (41, true)), (.bin false .or (.t 43) (.t 44))⟩, ⟨(some 46), (some (41, true)), (.call 78 [(.t 42), (.t 45)])⟩, ⟨(some 47), none, (.pick (.t 41) (.t 46) (.c (.bool false)))⟩]) (.cond (.t 47) (.seq (.reg [⟨(some 48), none, (.mov (.t 5))⟩, ⟨(some 49), none, (.mov (.t 9))⟩, ⟨(some 50), none, (.mov (.t 9))⟩, ⟨(some 51), none, (.mov (.t 7))⟩, ⟨(some 52), none, (.bin false .or (.t 50) (.t 51))⟩, ⟨(some 53), none, (.agg [(.int .i64 0), (.int .i64 0)] [(0, (1, (.t 49))), (1, (1, (.t 52)))])⟩, ⟨(some 54), none, (.mks 1 2 [(.int .i64 0), (.int .i64 0)] [(0, (2, (.t 53)))])⟩, ⟨(some 55), none, (.app 2 16 (.t 48) (.t 54))⟩, ⟨(some 5), none, (.mov (.t 55))⟩]) (.reg [⟨(some 56), none, (.mov (.t 4))⟩, ⟨(some 57), none, (.mov (.t 9))⟩, ⟨(some 58), none, (.conv .u64 (.t 57))⟩, ⟨(some 59), none, (.bin false .shl (.c (.int .u64 1)) (.t 58))⟩, ⟨(some 60), none, (.mov (.t 9))⟩, ⟨(some 61), none, (.mov (.t 7))⟩, ⟨(some 62), none, (.bin false .or (.t 60) (.t 61))⟩, ⟨(some 63), none, (.conv .u64 (.t 62))⟩, ⟨(some 64), none, (.bin false .shl (.c (.int .u64 1)) (.t 63))⟩, ⟨(some 65), none, (.bin false .or (.t 59) (.t 64))⟩, ⟨(some 66), none, (.bin false .andNot (.t 56) (.t 65))⟩, ⟨(some 4), none, (.mov (.t 66))⟩])) .skip)))) (.reg [⟨(some 67), none, (.bin false .add (.t 28) (.c (.int .i64 1)))⟩, ⟨(some 28), none, (.mov (.t 67))⟩]))))
def sc_i_PointPairing_L0 : SC := (.seq (.seq (.reg [⟨(some 16), none, (.mov (.t 6))⟩, ⟨(some 17), none, (.fad 0 (.t 1))⟩, ⟨(some 18), none, (.ld none (.int .i64 0) (.t 17))⟩, ⟨(some 19), none, (.bin false .lss (.t 16) (.t 18))⟩]) (.cond (.t 19) .skip (.exit 0))) (.seq (.block 1 (.seq (.reg [⟨(some 22), none, (.mov (.t 6))⟩, ⟨(some 23), none, (.conv .u64 (.t 22))⟩, ⟨(some 24), none, (.bin false .shl (.c (.int .i64 1)) (.t 23))⟩, ⟨(some 7), none, (.mov (.t 24))⟩]) (.seq (.reg [⟨(some 25), none, (.mov (.t 3))⟩, ⟨(some 26), none, (.call 77 [(.t 25)])⟩, ⟨(some 27), none, (.len (.t 26))⟩, ⟨(some 28), none, (.mov (.c (.int .i64 0)))⟩]) (.block 2 (.loop sc_i_PointPairing_L2))))) (.reg [⟨(some 20), none, (.mov (.t 6))⟩, ⟨(some 21), none, (.bin false .add (.t 20) (.c (.int .i64 1)))⟩, ⟨(some 6), none, (.mov (.t 21))⟩])))
def sc_i_PointPairing : SC := (.seq (.reg [⟨(some 1), none, (.box (.t 0))⟩, ⟨(some 2), none, (.mov (.c .nil))⟩]) (.seq (.seq (.reg [⟨(some 10), none, (.ld (some 2) .undef (.t 1))⟩, ⟨(some 11), none, (.call 57 [(.t 10)])⟩, ⟨(some 12), none, (.un .not (.t 11))⟩]) (.cond (.t 12) (.seq (.reg [⟨(some 2), none, (.mov (.c .nil))⟩]) .ret) .skip)) (.seq (.reg [⟨(some 13), none, (.ld (some 2) .undef (.t 1))⟩, ⟨(some 14), none, (.call 67 [(.t 13)])⟩, ⟨(some 3), none, (.mov (.t 14))⟩]) (.seq (.reg [⟨(some 15), none, (.mov (.t 3))⟩, ⟨(some 4), none, (.mov (.t 15))⟩]) (.seq (.reg [⟨(some 5), none, (.mov (.c .nil))⟩]) (.seq (.seq (.reg [⟨(some 6), none, (.mov (.c (.int .i64 0)))⟩]) (.block 0 (.loop sc_i_PointPairing_L0))) (.seq (.reg [⟨(some 68), none, (.mov (.t 5))⟩, ⟨(some 2), none, (.mov (.t 68))⟩]) .ret)))))))
theorem code_i_PointPairing : fnCode Try.prog [] 35 = some (69, sc_i_PointPairing, [(2, none)]) := by kernel_rfl
theorem fn_i_PointPairing : FnOk Try.prog 35 F_s_PointPairing := by
  have env := ((((envNil_ok (P := Try.prog)).add fn_i_IsComplex).add fn_i_facesIn).add fn_i_hasSet).add fn_i_setsIn
  refine fn_ok code_i_PointPairing mixed env ?_
  intro args r h hb
  obtain ⟨_, ⟨n, l⟩, rfl, h1, h4⟩ := F1_inv h
  cases dC_inv h1
  cases h4
  clear h
  refine ⟨by simp, fun w0 U0 L0 N0 => ?_⟩
  clear hb
  cases e0 : cplxB n l with
  | false =>
    have e : ppL n l = [] := by unfold ppL; rw [if_neg fun h => by simp [cplxB_iff.2 h] at e0]
    rw [e]
    simp -implicitDefEqProofs [sc_i_PointPairing, F_s_IsComplex, e0]
  | true =>
  have hc := cplxB_iff.1 e0
  have e : ppL n l = ppOut (faceS l) (setsOf (faceS l)) n.toNat := by unfold ppL; rw [if_pos hc]
  rw [e]
  have hS := cplx_isS hc
  obtain ⟨hn1, hn6, _⟩ := id hc
  obtain ⟨N, rfl⟩ : ∃ N : Nat, n = N := ⟨n.toNat, by omega⟩
  rw [Int.toNat_natCast]
  have hg0 := setsG_fam (faceS l)
  have hL := allS_setsOf (faceS l)
  have hLl := setsOf_len (faceS l)
  have hLf : ∀ k, k < (setsOf (faceS l)).length → faceS l (at0 (setsOf (faceS l)) k) := fun k hk => (mem_setsOf.1 (getD_mem' hk)).2
  generalize setsOf (faceS l) = L at *
  have inner : ∀ (i : Nat) (Q : Post) (T0 : Tm), i < 6 → subE T0 [(1, .pt 0 0), (3, .int .u64 (fam (faceS l))), (4, .int .u64 (fam fun s => faceS l s ∧ s ∉ usedA (ppOut (faceS l) L i))), (5, .sl 1 2 0 (ppOut (faceS l) L i).length), (6, .int .i64 (i : Int)), (7, .int .i64 (2 ^ i)), (26, .sl 2 1 0 L.length), (27, .int .i64 (L.length : Int)), (28, .int .i64 0)] →
      Q (.exit 2) [(1, .pt 0 0), (3, .int .u64 (fam (faceS l))), (4, .int .u64 (fam fun s => faceS l s ∧ s ∉ usedA (ppOut (faceS l) L (i + 1)))), (5, .sl 1 2 0 (ppOut (faceS l) L (i + 1)).length), (6, .int .i64 (i : Int))] ([(1, prs (ppOut (faceS l) L (i + 1))), (0, [.int .i64 N, .list 1 (ints l)])], 2) →
      LoopI ⟨Try.prog, w0, U0, L0, N0, 0, 69⟩ [] sc_i_PointPairing_L2 Q T0 ([(2, ints L), (1, prs (ppOut (faceS l) L i)), (0, [.int .i64 N, .list 1 (ints l)])], 3) := by
    intro i Q T0 hi hsub q1
    have hok0 := ppOut_ok (p := faceS l) hL i (by omega)
    have hpS := isS_pow hi
    refine loopQ env mixed (fun k : Nat => [(1, .pt 0 0), (3, .int .u64 (fam (faceS l))), (4, .int .u64 (fam fun s => faceS l s ∧ s ∉ usedA (ppIn (faceS l) L i (ppOut (faceS l) L i) k))), (5, .sl 1 2 0 (ppIn (faceS l) L i (ppOut (faceS l) L i) k).length), (6, .int .i64 (i : Int)), (7, .int .i64 (2 ^ i)), (26, .sl 2 1 0 L.length), (27, .int .i64 (L.length : Int)), (28, .int .i64 (k : Int))])
      (fun k => ([(2, ints L), (1, prs (ppIn (faceS l) L i (ppOut (faceS l) L i) k)), (0, [.int .i64 N, .list 1 (ints l)])], 3)) (fun k => k ≤ L.length) (fun k => L.length - k) 0 (by simp) (SubI.slots (by simp [ppIn]) (by simpa [ppIn] using hsub)) ?_
    intro k hk
    have hok := ppIn_ok (p := faceS l) hL hi hok0 k hk
    have hl32 := ppOk_len hok
    by_cases hlt : k < L.length
    · have ha := allS_at hL hlt
      have hfa := hLf k hlt
      have hbS := isS_bor ha hpS
      have skip : ¬ ppC (faceS l) i (ppIn (faceS l) L i (ppOut (faceS l) L i) k) (at0 L k) → ppIn (faceS l) L i (ppOut (faceS l) L i) (k + 1) = ppIn (faceS l) L i (ppOut (faceS l) L i) k := ppIn_neg
      have hit : ppC (faceS l) i (ppIn (faceS l) L i (ppOut (faceS l) L i) k) (at0 L k) → ppIn (faceS l) L i (ppOut (faceS l) L i) (k + 1) = ppIn (faceS l) L i (ppOut (faceS l) L i) k ++ [(at0 L k, bor (at0 L k) (2 ^ i))] := ppIn_pos
      unfold ppC at skip hit
      generalize ppIn (faceS l) L i (ppOut (faceS l) L i) k = g at *
      generalize (2 : Int) ^ i = s at *
      generalize hbb : bor (at0 L k) s = b at *
      have ga := hasG_fam (p := fun t => faceS l t ∧ t ∉ usedA g) ha
      have gb := hasG_fam (p := fun t => faceS l t ∧ t ∉ usedA g) hbS
      by_cases c0 : band (at0 L k) s = 0
      rotate_left
      · have e := skip fun h => c0 h.1
        simp -implicitDefEqProofs [sc_i_PointPairing_L2, hlt, c0]
        repeat' (first | omega | apply And.intro)
        exact Again.of (k + 1) (by omega) (by omega) (SubI.slots (by simp only [e]) (by simp only [subE_cons, subE_nil, e]; simp (disch := omega) [wrapI]))
      by_cases c3 : at0 L k ∈ usedA g
      · have e := skip fun h => h.2.2.1 c3
        rw [dec_false fun h => h.2 c3] at ga
        simp -implicitDefEqProofs [sc_i_PointPairing_L2, F_i_hasSet, hlt, c0, ga]
        repeat' (first | omega | apply And.intro)
        exact Again.of (k + 1) (by omega) (by omega) (SubI.slots (by simp only [e]) (by simp only [subE_cons, subE_nil, e]; simp (disch := omega) [wrapI]))
      rw [dec_true ⟨hfa, c3⟩] at ga
      by_cases c4 : faceS l b ∧ b ∉ usedA g
      rotate_left
      · have e := skip fun h => c4 ⟨h.2.1, h.2.2.2⟩
        rw [dec_false c4] at gb
        simp -implicitDefEqProofs [sc_i_PointPairing_L2, F_i_hasSet, hlt, c0, ga, hbb, gb]
        repeat' (first | omega | apply And.intro)
        exact Again.of (k + 1) (by omega) (by omega) (SubI.slots (by simp only [e]) (by simp only [subE_cons, subE_nil, e]; simp (disch := omega) [wrapI]))
      rw [dec_true c4] at gb
      have e := hit ⟨c0, c4.1, c3, c4.2⟩
      have ep : prs (ppIn (faceS l) L i (ppOut (faceS l) L i) (k + 1)) = prs g ++ [.int .i64 (at0 L k), .int .i64 b] := by rw [e, ← prs_app]; rfl
      have el : (ppIn (faceS l) L i (ppOut (faceS l) L i) (k + 1)).length = g.length + 1 := by rw [e]; simp
      have ef : (fam fun t => (faceS l t ∧ ¬ t ∈ usedA g) ∧ ¬ (t = at0 L k ∨ t = b)) = fam fun t => faceS l t ∧ ¬ t ∈ usedA (ppIn (faceS l) L i (ppOut (faceS l) L i) (k + 1)) := fam_congr fun t _ => by
        rw [e, usedA_snoc]
        simp only [List.mem_append, List.mem_cons, List.not_mem_nil, or_false, not_or, and_assoc]
      simp only [not_or] at ef
      have u1 := wrapS ha
      have u2 := wrapS hbS
      have o1 := fam_one ha
      have o2 := fam_one hbS
      have p1 := ha.1
      have p2 := hbS.1
      simp -implicitDefEqProofs [sc_i_PointPairing_L2, F_i_hasSet, hlt, c0, ga, hbb, gb, u1, u2, o1, o2, p1, p2, ef]
      repeat' (first | omega | apply And.intro)
      refine Again.of (k + 1) (by omega) (by omega) (SubI.ren (fun m => if m = 0 then some 0 else if m = 1 then some 4 else if m = 2 then some 2 else none) ?_ ?_ ?_ (by simp) (by simp))
      · simp (disch := omega) [subT, renV, ren1, wrapI, el]
      · simp [subH, ep, renL, ren1]
        have eg : prs g ++ [.int .i64 (at0 L k), .int .i64 b] = prs (g ++ [(at0 L k, b)]) := by rw [← prs_app]; rfl
        rw [eg]
        exact prs_ren _ _
      · intro m hm
        simp only at hm
        rw [if_neg (by omega), if_neg (by omega), if_neg (by omega)]
    · have hkl : k = L.length := by omega
      subst hkl
      have q2 := q1
      simp only [ppOut] at q2
      generalize ppIn (faceS l) L i (ppOut (faceS l) L i) L.length = g at *
      simp -implicitDefEqProofs [sc_i_PointPairing_L2]
      refine SubQ.of (SubI.ren (fun m => if m = 0 then some 0 else if m = 1 then some 1 else none) ?_ ?_ ?_ (by simp) (by simp)) q2
      · simp [subT, renV, ren1]
      · simp [subH, renL, ren1]
      · intro m hm
        simp only at hm
        rw [if_neg (by omega), if_neg (by omega)]
  simp -implicitDefEqProofs [sc_i_PointPairing, F_s_IsComplex, F_i_facesIn, e0, hS]
  refine loopI env mixed (fun i : Nat => [(1, .pt 0 0), (3, .int .u64 (fam (faceS l))), (4, .int .u64 (fam fun s => faceS l s ∧ s ∉ usedA (ppOut (faceS l) L i))), (5, .sl 1 2 0 (ppOut (faceS l) L i).length), (6, .int .i64 (i : Int))])
    (fun i => ([(1, prs (ppOut (faceS l) L i)), (0, [.int .i64 N, .list 1 (ints l)])], 2)) (fun i => i ≤ N) (fun i => N - i) 0 (by simp) (SubI.nilN 5 2 (by simp) (SubI.slots (by simp [ppOut, usedA]) ?_)) ?_
  · have ef : (fam fun s => faceS l s ∧ s ∉ usedA (ppOut (faceS l) L 0)) = fam (faceS l) := fam_congr fun s _ => by simp [ppOut, usedA]
    simp only [subE_cons, subE_nil, ef]
    simp [ppOut]
  intro i hi
  by_cases hlt : i < N
  · have hu : IntKind.u64.wrap (i : Int) = i := wrapU _ (by omega) (by omega)
    have hsh := shlP (show i < 6 by omega)
    simp -implicitDefEqProofs [sc_i_PointPairing_L0, F_i_setsIn, hlt, hu, hsh, hg0]
    repeat' (first | omega | apply And.intro)
    refine inner i _ _ (by omega) (by simp) ?_
    simp -implicitDefEqProofs
    exact Again.of (i + 1) (by omega) (by omega) (SubI.slots (by simp) (by simp (disch := omega) [wrapI]))
  · have hiN : i = N := by omega
    subst hiN
    simp -implicitDefEqProofs [sc_i_PointPairing_L0]
end Go.Proofs.Ytedampaecopkhaa
