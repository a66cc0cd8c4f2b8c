import Derived.Test.YtncnohompmcddaaHaF
import Derived.Test.YtncnohompmcddaaHaC
import Derived.Test.YtncnohompmcddaaGdE
namespace Go.Proofs.Ytncnohompmcddaa
open Go Go.RowKit
set_option maxRecDepth 1000000
set_option linter.unusedSimpArgs false
set_option linter.unusedVariables false
set_option maxHeartbeats 1000000
def sc_s_HolesMod_L0 : SC := (.seq (.seq (.reg [⟨(some 17), none, (.mov (.t 8))⟩, ⟨(some 18), none, (.mov (.t 6))⟩, ⟨(some 19), none, (.len (.t 18))⟩, ⟨(some 20), none, (.bin false .lss (.t 17) (.t 19))⟩]) (.cond (.t 20) .skip (.exit 0))) (.seq (.block 1 (.seq (.reg [⟨(some 9), none, (.mov (.c (.int .i64 0)))⟩]) (.seq (.seq (.reg [⟨(some 23), none, (.mov (.t 8))⟩, ⟨(some 24), none, (.bin false .add (.t 23) (.c (.int .i64 1)))⟩, ⟨(some 25), none, (.mov (.t 6))⟩, ⟨(some 26), none, (.len (.t 25))⟩, ⟨(some 27), none, (.bin false .lss (.t 24) (.t 26))⟩]) (.cond (.t 27) (.reg [⟨(some 28), none, (.ld (some 2) .undef (.t 2))⟩, ⟨(some 29), none, (.mov (.t 8))⟩, ⟨(some 30), none, (.bin false .add (.t 29) (.c (.int .i64 1)))⟩, ⟨(some 31), none, (.call 53 [(.t 28), (.t 30)])⟩, ⟨(some 32), none, (.mov (.t 1))⟩, ⟨(some 33), none, (.call 74 [(.t 31), (.t 32)])⟩, ⟨(some 9), none, (.mov (.t 33))⟩]) .skip)) (.seq (.reg [⟨(some 34), none, (.mov (.t 5))⟩, ⟨(some 35), none, (.mov (.t 6))⟩, ⟨(some 36), none, (.mov (.t 8))⟩, ⟨(some 37), none, (.idx 1 (.t 35) (.t 36))⟩, ⟨(some 38), none, (.ld none (.int .i64 0) (.t 37))⟩, ⟨(some 39), none, (.mov (.t 7))⟩, ⟨(some 40), none, (.bin false .sub (.t 38) (.t 39))⟩, ⟨(some 41), none, (.mov (.t 9))⟩, ⟨(some 42), none, (.bin false .sub (.t 40) (.t 41))⟩, ⟨(some 43), none, (.mks 1 1 [(.int .i64 0)] [(0, (1, (.t 42)))])⟩, ⟨(some 44), none, (.app 1 8 (.t 34) (.t 43))⟩, ⟨(some 5), none, (.mov (.t 44))⟩]) (.reg [⟨(some 45), none, (.mov (.t 9))⟩, ⟨(some 7), none, (.mov (.t 45))⟩]))))) (.reg [⟨(some 21), none, (.mov (.t 8))⟩, ⟨(some 22), none, (.bin false .add (.t 21) (.c (.int .i64 1)))⟩, ⟨(some 8), none, (.mov (.t 22))⟩])))
def sc_s_HolesMod : SC := (.seq (.reg [⟨(some 2), none, (.box (.t 0))⟩, ⟨(some 4), none, (.mov (.c .nil))⟩]) (.seq (.reg [⟨(some 10), none, (.mks 0 1 [] [])⟩, ⟨(some 5), none, (.mov (.t 10))⟩]) (.seq (.reg [⟨(some 11), none, (.ld (some 2) .undef (.t 2))⟩, ⟨(some 12), none, (.call 73 [(.t 11)])⟩, ⟨(some 6), none, (.mov (.t 12))⟩]) (.seq (.seq (.reg [⟨(some 13), none, (.mov (.t 1))⟩, ⟨(some 14), none, (.call 33 [(.t 13)])⟩, ⟨(some 15), none, (.un .not (.t 14))⟩]) (.cond (.t 15) (.seq (.reg [⟨(some 16), none, (.mov (.t 5))⟩, ⟨(some 4), none, (.mov (.t 16))⟩]) .ret) .skip)) (.seq (.reg [⟨(some 7), none, (.mov (.c (.int .i64 0)))⟩]) (.seq (.seq (.reg [⟨(some 8), none, (.mov (.c (.int .i64 0)))⟩]) (.block 0 (.loop sc_s_HolesMod_L0))) (.seq (.reg [⟨(some 46), none, (.mov (.t 5))⟩, ⟨(some 4), none, (.mov (.t 46))⟩]) .ret)))))))
theorem code_s_HolesMod : fnCode Try.prog [] 34 = some (47, sc_s_HolesMod, [(4, none)]) := by kernel_rfl
theorem fn_s_HolesMod : FnOk Try.prog 34 F_s_HolesMod := by
  have env := ((((envNil_ok (P := Try.prog)).add fn_s_FaceCounts).add fn_s_IsFieldPrime).add fn_s_l13Border).add fn_s_l13Rank
  refine fn_ok code_s_HolesMod mixed env ?_
  intro args r h hb
  obtain ⟨_, _, ⟨n, l⟩, p, rfl, h1, h2, h4⟩ := F2_inv h
  cases dC_inv h1
  cases dI_inv h2
  cases h4
  clear h
  refine ⟨by simp, fun w0 U0 L0 N0 => ?_⟩
  clear hb
  simp only
  have hFF : F_s_FaceCounts [.agg [.int .i64 n, .list 1 (ints l)]] = some (.own 1 (ints (fctL n l))) := by simp [F_s_FaceCounts]
  by_cases hp : fpP p
  rotate_left
  · have e : hmL n l p = [] := if_neg fun h => hp h.2
    have hd := dec_false hp
    rw [e]
    generalize fctL n l = F at *
    simp -implicitDefEqProofs [sc_s_HolesMod, hFF, F_s_IsFieldPrime, hd]
  have hd := dec_true hp
  have hdef : ∃ m : Nat, m ≤ 7 ∧ (fctL n l).length = m ∧ (hmL n l p).length = m ∧ ∀ k, k < m → cplx n l ∧ topZ (faceS l) + 1 = m ∧ at0 (fctL n l) k = ((szS (faceS l) k).length : Nat) ∧ at0 (hmL n l p) k = holV p (faceS l) k := by
    by_cases hc : cplx n l
    · have htb := topZ_bnd (faceS l)
      have e1 : fctL n l = rowF (topZ (faceS l) + 1).toNat (fun z => ((szS (faceS l) z).length : Nat)) := if_pos hc
      have e2 : hmL n l p = holL p (faceS l) := if_pos ⟨hc, hp⟩
      refine ⟨(topZ (faceS l) + 1).toNat, by omega, by rw [e1, rowF_len], by rw [e2]; exact (holL_len p _).1, fun k hk => ⟨hc, by omega, by rw [e1, rowF_at hk], ?_⟩⟩
      rw [e2]
      exact rowF_at hk
    · have e1 : fctL n l = [] := if_neg hc
      have e2 : hmL n l p = [] := if_neg fun h => hc h.1
      exact ⟨0, by omega, by rw [e1]; rfl, by rw [e2]; rfl, fun k hk => by omega⟩
  obtain ⟨m, hm7, hFl, hOl, hk⟩ := hdef
  generalize fctL n l = F at *
  generalize hmL n l p = O at *
  simp -implicitDefEqProofs [sc_s_HolesMod, hFF, F_s_IsFieldPrime, hd]
  refine loopI env mixed (fun k : Nat => [(1, .int .i64 p), (2, .pt 0 0), (5, .sl 1 1 0 k), (6, .sl 2 1 0 F.length), (7, .int .i64 (rkZ p (faceS l) k)), (8, .int .i64 (k : Int))]) (fun k => ([(2, ints F), (1, ints (O.take k)), (0, [.int .i64 n, .list 1 (ints l)])], 3)) (fun k => k ≤ m) (fun k => m - k) 0 (by simp) (SubI.slots (by simp) (by simp [rkZ_low])) ?_
  intro k hkm
  by_cases hlt : k < m
  · obtain ⟨hc, ht, hf, ho⟩ := hk k hlt
    have hltF : k < F.length := by omega
    have b1 := rkZ_bnd hp (faceS l) k
    have b2 := rkZ_bnd hp (faceS l) ((k : Int) + 1)
    have b3 := szS_len (faceS l) k
    have hv : holV p (faceS l) k = ((szS (faceS l) k).length : Nat) - rkZ p (faceS l) k - rkZ p (faceS l) (k + 1) := rfl
    have hw1 : IntKind.i64.wrap ((k : Int) + 1) = (k : Int) + 1 := wrapI _ (by omega) (by omega)
    have e : O.take (k + 1) = O.take k ++ [((szS (faceS l) k).length : Nat) - rkZ p (faceS l) k - rkZ p (faceS l) (k + 1)] := by rw [take_at (by omega), ho, hv]
    have gl : (O.take k).length = k := by simp; omega
    have hkk : ((k + 1 : Nat) : Int) = (k : Int) + 1 := by omega
    have fin : ∀ T : Tm, subE T [(1, .int .i64 p), (2, .pt 0 0), (5, .sl 1 1 0 (k + 1)), (6, .sl 2 1 0 F.length), (7, .int .i64 (rkZ p (faceS l) ((k : Int) + 1))), (8, .int .i64 ((k : Int) + 1))] → True := fun _ _ => trivial
    by_cases hnx : k + 1 < m
    · have hF1 : F_i_BorderMatrix [.agg [.int .i64 n, .list 1 (ints l)], .int .i64 ((k : Int) + 1)] = some (.own 1 (rowsV (borM n l ((k : Int) + 1)))) := by
        simp only [F_i_BorderMatrix, F2_mk, dC_agg, dI_int, Option.bind_some]
        rw [if_pos ⟨hc, by omega, by omega⟩]
      have hbm : borM n l ((k : Int) + 1) = sgnM (szS (faceS l) ((k : Int) + 1 - 1)) (szS (faceS l) ((k : Int) + 1)) := by
        unfold borM
        rw [szS_fos hc, szS_fos hc]
      have hF2 : F_i_rankOf [.list 1 (rowsL (borM n l ((k : Int) + 1))), .int .i64 p] = some (.int .i64 (rkZ p (faceS l) ((k : Int) + 1))) := by
        rw [hbm]
        simp only [F_i_rankOf, F2_mk, dLL_list, dI_int, Option.bind_some]
        rw [if_pos ⟨hp, rec_sgn _ _ (szS_len _ _) (szS_len _ _)⟩]
        rfl
      have hnI : (k : Int) + 1 < (F.length : Int) := by omega
      generalize borM n l ((k : Int) + 1) = B at *
      generalize szS (faceS l) k = s0 at *
      generalize hr2 : rkZ p (faceS l) ((k : Int) + 1) = r2 at *
      generalize hr1 : rkZ p (faceS l) k = r1 at *
      generalize O.take k = g at *
      have hw2 : IntKind.i64.wrap ((s0.length : Int) - r1) = s0.length - r1 := wrapI _ (by omega) (by omega)
      have hw3 : IntKind.i64.wrap ((s0.length : Int) - r1 - r2) = s0.length - r1 - r2 := wrapI _ (by omega) (by omega)
      simp -implicitDefEqProofs [sc_s_HolesMod_L0, hltF, hw1, hnI, hF1, hF2, hf, hw2, hw3, gl]
      refine ⟨by omega, ?_⟩
      refine Again.of (k + 1) (by omega) (by omega) (SubI.ren (fun m => if m = 0 then some 0 else if m = 1 then some 5 else if m = 2 then some 2 else none) ?_ ?_ ?_ (by simp) (by simp))
      · simp [subT, renV, ren1, hr2]
      · have htk : g.take k = g := List.take_of_length_le (by omega)
        simp [subH, e, renL, ren1, htk]
        rw [← ints_app]
        rfl
      · intro m hm
        simp only at hm
        rw [if_neg (by omega), if_neg (by omega), if_neg (by omega)]
    · have hr0 : rkZ p (faceS l) ((k : Int) + 1) = 0 := rkZ_high p _ (by omega)
      have hnI : ¬ ((k : Int) + 1 < (F.length : Int)) := by omega
      rw [hr0, Int.sub_zero] at e
      generalize szS (faceS l) k = s0 at *
      generalize hr1 : rkZ p (faceS l) k = r1 at *
      generalize O.take k = g at *
      have hw2 : IntKind.i64.wrap ((s0.length : Int) - r1) = s0.length - r1 := wrapI _ (by omega) (by omega)
      simp -implicitDefEqProofs [sc_s_HolesMod_L0, hltF, hw1, hnI, hf, hw2, gl]
      refine ⟨by omega, ?_⟩
      refine Again.of (k + 1) (by omega) (by omega) (SubI.ren (fun m => if m = 0 then some 0 else if m = 1 then some 4 else if m = 2 then some 2 else none) ?_ ?_ ?_ (by simp) (by simp))
      · simp [subT, renV, ren1, hr0]
      · have htk : g.take k = g := List.take_of_length_le (by omega)
        simp [subH, e, renL, ren1, htk]
        rw [← ints_app]
        rfl
      · intro m hm
        simp only at hm
        rw [if_neg (by omega), if_neg (by omega), if_neg (by omega)]
  · have : k = m := by omega
    subst this
    have htk : O.take k = O := List.take_of_length_le (by omega)
    have hltF : ¬ k < F.length := by omega
    simp -implicitDefEqProofs [sc_s_HolesMod_L0, hltF, hFl, htk]
    try omega
end Go.Proofs.Ytncnohompmcddaa
