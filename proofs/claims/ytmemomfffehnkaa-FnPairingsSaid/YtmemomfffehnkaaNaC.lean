import Derived.Test.YtmemomfffehnkaaPqC
import Derived.Test.YtmemomfffehnkaaPqA
import Derived.Test.YtmemomfffehnkaaKZ
import Derived.Test.YtmemomfffehnkaaKY
import Derived.Test.YtmemomfffehnkaaKT
import Derived.Test.YtmemomfffehnkaaKV
import Derived.Test.YtmemomfffehnkaaJbA
namespace Go.Proofs.Ytmemomfffehnkaa
open Go Go.RowKit
set_option maxRecDepth 1000000
set_option linter.unusedSimpArgs false
set_option linter.unusedVariables false
set_option maxHeartbeats 1000000
def sc_l_FnPairings_L0 : SC := (.seq (.seq (.reg [⟨(some 114), none, (.mov (.t 11))⟩, ⟨(some 115), none, (.mov (.t 8))⟩, ⟨(some 116), none, (.len (.t 115))⟩, ⟨(some 117), none, (.bin false .lss (.t 114) (.t 116))⟩]) (.cond (.t 117) .skip (.exit 0))) (.seq (.block 1 (.seq (.dreg [⟨⟨(some 120), none, (.mov (.t 9))⟩, false, false⟩, ⟨⟨(some 121), none, (.mov (.t 11))⟩, false, false⟩, ⟨⟨(some 122), none, (.call 26 [(.t 120), (.t 121)])⟩, false, false⟩, ⟨⟨(some 123), none, (.mov (.t 8))⟩, false, false⟩, ⟨⟨(some 124), none, (.mov (.t 11))⟩, false, false⟩, ⟨⟨(some 125), none, (.idx 1 (.t 123) (.t 124))⟩, false, false⟩, ⟨⟨(some 126), none, (.ld none (.int .i64 0) (.t 125))⟩, false, false⟩, ⟨⟨(some 127), none, (.bin false .gtr (.t 122) (.t 126))⟩, false, false⟩, ⟨⟨(some 128), none, (.mov (.t 127))⟩, false, false⟩, ⟨⟨(some 129), (some (128, false)), (.mov (.t 10))⟩, false, false⟩, ⟨⟨(some 130), (some (128, false)), (.mov (.t 11))⟩, false, false⟩, ⟨⟨(some 131), (some (128, false)), (.call 26 [(.t 129), (.t 130)])⟩, false, false⟩, ⟨⟨(some 132), (some (128, false)), (.mov (.t 8))⟩, false, false⟩, ⟨⟨(some 133), (some (128, false)), (.mov (.t 11))⟩, false, false⟩, ⟨⟨(some 134), (some (128, false)), (.idx 1 (.t 132) (.t 133))⟩, false, false⟩, ⟨⟨(some 135), (some (128, false)), (.ld none (.int .i64 0) (.t 134))⟩, false, false⟩, ⟨⟨(some 136), (some (128, false)), (.bin false .gtr (.t 131) (.t 135))⟩, false, false⟩, ⟨⟨(some 137), none, (.pick (.t 128) (.c (.bool true)) (.t 136))⟩, false, false⟩]) (.cond (.t 137) (.seq (.reg [⟨(some 2), none, (.mov (.c (.bool false)))⟩]) .ret) .skip))) (.reg [⟨(some 118), none, (.mov (.t 11))⟩, ⟨(some 119), none, (.bin false .add (.t 118) (.c (.int .i64 1)))⟩, ⟨(some 11), none, (.mov (.t 119))⟩])))
def sc_l_FnPairings : SC := (.seq (.reg [⟨(some 2), none, (.mov (.c (.bool false)))⟩]) (.seq (.seq (.reg [⟨(some 12), none, (.mov (.t 0))⟩, ⟨(some 13), none, (.call 10 [(.t 12)])⟩]) (.cond (.t 13) (.seq (.reg [⟨(some 2), none, (.mov (.c (.bool true)))⟩]) .ret) .skip)) (.seq (.reg [⟨(some 15), none, (.mov (.t 0))⟩, ⟨(some 16), none, (.call 80 [(.t 15)])⟩, ⟨(some 14), none, (.mov (.t 16))⟩, ⟨(some 17), none, (.ext 0 (.t 14))⟩, ⟨(some 18), none, (.ext 1 (.t 14))⟩, ⟨(some 3), none, (.new [(.int .i64 0), .nil])⟩, ⟨none, none, (.st 2 (.t 3) (.t 17))⟩, ⟨(some 4), none, (.mov (.t 18))⟩]) (.seq (.reg [⟨(some 19), none, (.mov (.t 0))⟩, ⟨(some 20), none, (.call 81 [(.t 19)])⟩, ⟨(some 5), none, (.new [(.int .i64 0), .nil])⟩, ⟨none, none, (.st 2 (.t 5) (.t 20))⟩]) (.seq (.reg [⟨(some 21), none, (.ld (some 2) .undef (.t 5))⟩, ⟨(some 22), none, (.call 82 [(.t 21)])⟩, ⟨(some 6), none, (.mov (.t 22))⟩]) (.seq (.reg [⟨(some 23), none, (.ld (some 2) .undef (.t 3))⟩, ⟨(some 24), none, (.mov (.t 4))⟩, ⟨(some 25), none, (.call 83 [(.t 23), (.t 24)])⟩, ⟨(some 7), none, (.mov (.t 25))⟩]) (.cut (.reg [⟨(some 26), none, (.ld (some 2) .undef (.t 3))⟩, ⟨(some 27), none, (.mov (.t 4))⟩, ⟨(some 28), none, (.call 84 [(.t 26), (.t 27)])⟩, ⟨(some 8), none, (.mov (.t 28))⟩]) (.seq (.seq (.dreg [⟨⟨(some 29), none, (.ld (some 2) .undef (.t 3))⟩, false, false⟩, ⟨⟨(some 30), none, (.mov (.t 4))⟩, false, false⟩, ⟨⟨(some 31), none, (.call 85 [(.t 29), (.t 30)])⟩, false, false⟩, ⟨⟨(some 32), none, (.ld (some 2) .undef (.t 3))⟩, false, false⟩, ⟨⟨(some 33), none, (.mov (.t 4))⟩, false, false⟩, ⟨⟨(some 34), none, (.call 86 [(.t 32), (.t 33)])⟩, false, false⟩, ⟨⟨(some 35), none, (.bin true .neq (.t 31) (.t 34))⟩, false, false⟩, ⟨⟨(some 36), none, (.mov (.t 35))⟩, false, false⟩, ⟨⟨(some 37), (some (36, false)), (.ld (some 2) .undef (.t 3))⟩, false, false⟩, ⟨⟨(some 38), (some (36, false)), (.mov (.t 4))⟩, false, false⟩, ⟨⟨(some 39), (some (36, false)), (.call 87 [(.t 37), (.t 38)])⟩, false, false⟩, ⟨⟨(some 40), (some (36, false)), (.ld (some 2) .undef (.t 3))⟩, false, false⟩, ⟨⟨(some 41), (some (36, false)), (.mov (.t 4))⟩, false, false⟩, ⟨⟨(some 42), (some (36, false)), (.call 88 [(.t 40), (.t 41)])⟩, false, false⟩, ⟨⟨(some 43), (some (36, false)), (.bin true .neq (.t 39) (.t 42))⟩, false, false⟩, ⟨⟨(some 44), none, (.pick (.t 36) (.c (.bool true)) (.t 43))⟩, false, false⟩, ⟨⟨(some 45), none, (.mov (.t 44))⟩, false, false⟩, ⟨⟨(some 46), (some (45, false)), (.mov (.t 6))⟩, false, true⟩, ⟨⟨(some 47), (some (45, false)), (.ld (some 2) .undef (.t 5))⟩, false, false⟩, ⟨⟨(some 48), (some (45, false)), (.call 90 [(.t 47)])⟩, true, false⟩, ⟨⟨(some 49), (some (45, false)), (.call 89 [(.t 46), (.t 48)])⟩, false, false⟩, ⟨⟨(some 50), (some (45, false)), (.un .not (.t 49))⟩, false, false⟩, ⟨⟨(some 51), none, (.pick (.t 45) (.c (.bool true)) (.t 50))⟩, false, false⟩, ⟨⟨(some 52), none, (.mov (.t 51))⟩, false, false⟩, ⟨⟨(some 53), (some (52, false)), (.mov (.t 7))⟩, false, true⟩, ⟨⟨(some 54), (some (52, false)), (.ld (some 2) .undef (.t 3))⟩, false, false⟩, ⟨⟨(some 55), (some (52, false)), (.mov (.t 4))⟩, false, false⟩, ⟨⟨(some 56), (some (52, false)), (.call 91 [(.t 54), (.t 55)])⟩, true, false⟩, ⟨⟨(some 57), (some (52, false)), (.call 19 [(.t 53), (.t 56)])⟩, false, false⟩, ⟨⟨(some 58), (some (52, false)), (.un .not (.t 57))⟩, false, false⟩, ⟨⟨(some 59), none, (.pick (.t 52) (.c (.bool true)) (.t 58))⟩, false, false⟩, ⟨⟨(some 60), none, (.mov (.t 59))⟩, false, false⟩, ⟨⟨(some 61), (some (60, false)), (.mov (.t 8))⟩, false, true⟩, ⟨⟨(some 62), (some (60, false)), (.ld (some 2) .undef (.t 3))⟩, false, false⟩, ⟨⟨(some 63), (some (60, false)), (.mov (.t 4))⟩, false, false⟩, ⟨⟨(some 64), (some (60, false)), (.call 92 [(.t 62), (.t 63)])⟩, true, false⟩, ⟨⟨(some 65), (some (60, false)), (.call 19 [(.t 61), (.t 64)])⟩, false, false⟩, ⟨⟨(some 66), (some (60, false)), (.un .not (.t 65))⟩, false, false⟩, ⟨⟨(some 67), none, (.pick (.t 60) (.c (.bool true)) (.t 66))⟩, false, false⟩]) (.cond (.t 67) (.seq (.reg [⟨(some 2), none, (.mov (.c (.bool false)))⟩]) .ret) .skip)) (.seq (.seq (.reg [⟨(some 68), none, (.ld (some 2) .undef (.t 5))⟩, ⟨(some 69), none, (.call 24 [(.t 68)])⟩, ⟨(some 70), none, (.mov (.t 69))⟩, ⟨(some 71), (some (70, true)), (.ld (some 2) .undef (.t 5))⟩, ⟨(some 72), (some (70, true)), (.mov (.t 6))⟩, ⟨(some 73), (some (70, true)), (.call 87 [(.t 71), (.t 72)])⟩, ⟨(some 74), (some (70, true)), (.un .not (.t 73))⟩, ⟨(some 75), none, (.pick (.t 70) (.t 74) (.c (.bool false)))⟩]) (.cond (.t 75) (.seq (.reg [⟨(some 2), none, (.mov (.c (.bool false)))⟩]) .ret) .skip)) (.seq (.seq (.reg [⟨(some 76), none, (.ld (some 2) .undef (.t 3))⟩, ⟨(some 77), none, (.mov (.t 4))⟩, ⟨(some 78), none, (.call 85 [(.t 76), (.t 77)])⟩, ⟨(some 79), none, (.mov (.t 78))⟩, ⟨(some 80), (some (79, true)), (.mov (.t 7))⟩, ⟨(some 81), (some (79, true)), (.len (.t 80))⟩, ⟨(some 82), (some (79, true)), (.ld (some 2) .undef (.t 3))⟩, ⟨(some 83), (some (79, true)), (.call 43 [(.t 82)])⟩, ⟨(some 84), (some (79, true)), (.len (.t 83))⟩, ⟨(some 85), (some (79, true)), (.mov (.t 4))⟩, ⟨(some 86), (some (79, true)), (.len (.t 85))⟩, ⟨(some 87), (some (79, true)), (.bin false .mul (.c (.int .i64 2)) (.t 86))⟩, ⟨(some 88), (some (79, true)), (.bin false .sub (.t 84) (.t 87))⟩, ⟨(some 89), (some (79, true)), (.bin false .neq (.t 81) (.t 88))⟩, ⟨(some 90), none, (.pick (.t 79) (.t 89) (.c (.bool false)))⟩]) (.cond (.t 90) (.seq (.reg [⟨(some 2), none, (.mov (.c (.bool false)))⟩]) .ret) .skip)) (.cut (.seq (.reg [⟨(some 91), none, (.mov (.t 8))⟩, ⟨(some 92), none, (.len (.t 91))⟩, ⟨(some 93), none, (.bin false .eql (.t 92) (.c (.int .i64 0)))⟩]) (.cond (.t 93) (.seq (.reg [⟨(some 2), none, (.mov (.c (.bool true)))⟩]) .ret) .skip)) (.seq (.seq (.dreg [⟨⟨(some 94), none, (.mov (.t 8))⟩, false, false⟩, ⟨⟨(some 95), none, (.call 61 [(.t 94)])⟩, false, false⟩, ⟨⟨(some 96), none, (.mov (.t 7))⟩, false, false⟩, ⟨⟨(some 97), none, (.len (.t 96))⟩, false, false⟩, ⟨⟨(some 98), none, (.bin false .neq (.t 95) (.t 97))⟩, false, false⟩, ⟨⟨(some 99), none, (.mov (.t 98))⟩, false, false⟩, ⟨⟨(some 100), (some (99, false)), (.mov (.t 8))⟩, false, false⟩, ⟨⟨(some 101), (some (99, false)), (.call 93 [(.t 100)])⟩, false, false⟩, ⟨⟨(some 102), (some (99, false)), (.ld (some 2) .undef (.t 3))⟩, false, false⟩, ⟨⟨(some 103), (some (99, false)), (.call 78 [(.t 102)])⟩, false, false⟩, ⟨⟨(some 104), (some (99, false)), (.bin false .neq (.t 101) (.t 103))⟩, false, false⟩, ⟨⟨(some 105), none, (.pick (.t 99) (.c (.bool true)) (.t 104))⟩, false, false⟩]) (.cond (.t 105) (.seq (.reg [⟨(some 2), none, (.mov (.c (.bool false)))⟩]) .ret) .skip)) (.seq (.seq (.reg [⟨(some 106), none, (.ld (some 2) .undef (.t 3))⟩, ⟨(some 107), none, (.mov (.t 4))⟩, ⟨(some 108), none, (.call 87 [(.t 106), (.t 107)])⟩, ⟨(some 109), none, (.un .not (.t 108))⟩]) (.cond (.t 109) (.seq (.reg [⟨(some 2), none, (.mov (.c (.bool true)))⟩]) .ret) .skip)) (.seq (.reg [⟨(some 110), none, (.ld (some 2) .undef (.t 3))⟩, ⟨(some 111), none, (.call 27 [(.t 110), (.c (.int .i64 2))])⟩, ⟨(some 9), none, (.mov (.t 111))⟩]) (.seq (.reg [⟨(some 112), none, (.ld (some 2) .undef (.t 3))⟩, ⟨(some 113), none, (.call 27 [(.t 112), (.c (.int .i64 3))])⟩, ⟨(some 10), none, (.mov (.t 113))⟩]) (.seq (.seq (.reg [⟨(some 11), none, (.mov (.c (.int .i64 0)))⟩]) (.block 0 (.loop sc_l_FnPairings_L0))) (.seq (.reg [⟨(some 2), none, (.mov (.c (.bool true)))⟩]) .ret)))))))))))))))))
theorem code_l_FnPairings : fnCode Try.prog [90, 91, 92, 666666] 7 = some (138, sc_l_FnPairings, [(2, none)]) := by kernel_rfl
open Classical in
noncomputable def F_l_FnPairings : List V → Option V
  | [.list 1 cells] => if ∃ b, (∀ x ∈ b, 0 ≤ x ∧ x < 256) ∧ cells = u8s b then some (.bool true) else none
  | _ => none
theorem upc_zero {n : Int} {l : List Int} {list : List (Int × Int)} (h : ¬ pairP n l list) : upcL n l list = [] := by
  unfold upcL
  rw [if_neg h]
theorem upc_eq {n : Int} {l : List Int} {list : List (Int × Int)} (h : pairP n l list) : upcL n l list = szRow (topZ (faceS l) + 1).toNat (unpL n l list) := by
  unfold upcL
  rw [if_pos h]
theorem unp_top {n : Int} {l : List Int} {list : List (Int × Int)} : ∀ k, k < (unpL n l list).length → sz (at0 (unpL n l list) k) < ((topZ (faceS l) + 1).toNat : Int) := fun k hk => by
  obtain ⟨_, _, h⟩ := unpL_ok (n := n) (l := l) (list := list)
  have h1 := h _ (getD_mem' hk)
  have h2 := topZ_bnd (faceS l)
  omega
theorem upc_all {n : Int} {l : List Int} {list : List (Int × Int)} (h : pairP n l list) : (upcL n l list).length ≤ 7 ∧ (∀ x ∈ upcL n l list, 0 ≤ x ∧ x ≤ 64) ∧ (upcL n l list).sum = (unpL n l list).length ∧ sgnL (upcL n l list) = eulZ n l := by
  obtain ⟨_, h64, _⟩ := unpL_ok (n := n) (l := l) (list := list)
  have htb := topZ_bnd (faceS l)
  rw [upc_eq h]
  refine ⟨by rw [szRow_len]; omega, fun x hx => by have := szRow_mem hx; omega, szRow_total unp_top, ?_⟩
  unfold eulZ
  rw [pair_euler h, ← szRow_sgn unp_top]
  unfold sgnL
  rw [szRow_len]
  refine sumN_congr fun k hk => ?_
  rw [at0_szRow _ hk]
  rfl
theorem upc_holes {p n : Int} {l : List Int} {list : List (Int × Int)} (hp : fpP p) (h : acycP n l list) : ∀ k, k < (upcL n l list).length → at0 (hmL n l p) k ≤ at0 (upcL n l list) k := fun k hk => by
  rw [upc_eq h.1] at hk ⊢
  rw [szRow_len] at hk
  rw [at0_szRow _ hk]
  have e : hmL n l p = holL p (faceS l) := by
    unfold hmL
    rw [if_pos ⟨h.1.1, hp⟩]
  rw [e]
  unfold holL
  rw [rowF_at hk]
  exact hole_le hp h k
set_option maxHeartbeats 20000000
theorem fn_l_FnPairings : FnOk Try.prog 7 F_l_FnPairings := by
  have env := ((((((((((((((((((((((envNil_ok (P := Try.prog)).add fn_l_big).add fn_l_sameInts).add fn_l_samePairs).add fn_l_total).add fn_l_signed).add fn_l_at22).add fn_s_DrawIsAcyclic).add fn_s_DrawPointPairing).add fn_s_PointPairing).add fn_i_PointPairing).add fn_s_UnpairedFaces).add fn_i_UnpairedFaces).add fn_s_UnpairedCounts).add fn_i_UnpairedCounts).add fn_s_IsPairing).add fn_i_IsPairing).add fn_s_IsAcyclic).add fn_i_IsAcyclic).add fn_s_IsComplex).add fn_s_FacesOf).add fn_s_EulerOf).add fn_s_HolesMod
  refine fn_ok code_l_FnPairings mixed env ?_
  intro args r h hb
  unfold F_l_FnPairings at h
  split at h
  case h_2 => simp at h
  rename_i cells
  simp only [Option.ite_none_right_eq_some, Option.some.injEq] at h
  obtain ⟨⟨b, hbr, rfl⟩, rfl⟩ := h
  clear hb
  refine ⟨by simp, fun w0 U0 L0 N0 => ?_⟩
  have hBig : F_l_big [.list 1 (u8s b)] = some (.bool (decide (1048576 < b.length))) := by simp only [F_l_big, u8s_len]
  by_cases hlong : 1048576 < b.length
  · rw [decide_eq_true hlong] at hBig
    simp -implicitDefEqProofs [sc_l_FnPairings, hBig]
  rw [decide_eq_false hlong] at hBig
  have hw : wfb b := ⟨hbr, by omega⟩
  have hD1 : F_s_DrawIsAcyclic [.list 1 (u8s b)] = some (.tup [.agg [.int .i64 (bentN (newCur b)).1.1, .own 1 (ints (bentN (newCur b)).1.2)], .own 2 (prs (case18 (bentN (newCur b)).1.1 (bentN (newCur b)).1.2 (bentN (newCur b)).2))]) := by
    simp only [F_s_DrawIsAcyclic, F_s_l18Case, F1_mk, dBy_list hw, Option.bind_some]
  have hD2 : F_s_DrawPointPairing [.list 1 (u8s b)] = some (.agg [.int .i64 (bentN (newCur b)).1.1, .own 1 (ints (bentN (newCur b)).1.2)]) := by
    simp only [F_s_DrawPointPairing, F1_mk, dBy_list hw, Option.bind_some]
  generalize case18 (bentN (newCur b)).1.1 (bentN (newCur b)).1.2 (bentN (newCur b)).2 = list at *
  generalize (bentN (newCur b)).1 = c1 at *
  obtain ⟨n, l⟩ := c1
  simp only at hD1 hD2
  clear hw hbr
  have hA1 : F_s_PointPairing [.agg [.int .i64 n, .list 1 (ints l)]] = some (.own 2 (prs (ppL n l))) := by
    simp only [F_s_PointPairing, F1_mk, dC_agg, Option.bind_some]
  have hA2 : F_s_UnpairedFaces [.agg [.int .i64 n, .list 1 (ints l)], .list 2 (prs list)] = some (.own 1 (ints (unpL n l list))) := by
    simp only [F_s_UnpairedFaces, F2_mk, dC_agg, dP_list, Option.bind_some]
  have hA3 : F_s_UnpairedCounts [.agg [.int .i64 n, .list 1 (ints l)], .list 2 (prs list)] = some (.own 1 (ints (upcL n l list))) := by
    simp only [F_s_UnpairedCounts, F2_mk, dC_agg, dP_list, Option.bind_some]
  have hA4 : F_s_IsPairing [.agg [.int .i64 n, .list 1 (ints l)], .list 2 (prs list)] = some (.bool (dec (pairP n l list))) := by
    simp only [F_s_IsPairing, F2_mk, dC_agg, dP_list, Option.bind_some]
  have hA5 : ∀ q, F_s_IsAcyclic [.agg [.int .i64 n, .list 1 (ints l)], .list 2 (prs q)] = some (.bool (dec (acycP n l q))) := fun q => by
    simp only [F_s_IsAcyclic, F2_mk, dC_agg, dP_list, Option.bind_some]
  have hA6 : F_s_IsComplex [.agg [.int .i64 n, .list 1 (ints l)]] = some (.bool (cplxB n l)) := by
    simp only [F_s_IsComplex, F1_mk, dC_agg, Option.bind_some]
  have hA7 : F_s_FacesOf [.agg [.int .i64 n, .list 1 (ints l)]] = some (.own 1 (ints (facesL n l))) := by
    simp only [F_s_FacesOf, F1_mk, dC_agg, Option.bind_some]
  have hA8 : F_s_EulerOf [.agg [.int .i64 n, .list 1 (ints l)]] = some (.int .i64 (eulZ n l)) := by
    simp only [F_s_EulerOf, F1_mk, dC_agg, Option.bind_some]
  have hA9 : ∀ p, F_s_HolesMod [.agg [.int .i64 n, .list 1 (ints l)], .int .i64 p] = some (.own 1 (ints (hmL n l p))) := fun p => by
    simp only [F_s_HolesMod, F2_mk, dC_agg, dI_int, Option.bind_some]
  have hB1 := hA5 list
  have hB2 := hA5 (ppL n l)
  have hB3 := hA9 2
  have hB4 := hA9 3
  clear hA5 hA9
  have hI : ∀ a b : List Int, F_l_sameInts [.list 1 (ints a), .list 1 (ints b)] = some (.bool (dec (a = b))) := fun a b => by
    simp only [F_l_sameInts, F2_mk, dL_list, Option.bind_some]
  have hSP : ∀ a b : List (Int × Int), F_l_samePairs [.list 2 (prs a), .list 2 (prs b)] = some (.bool (dec (a = b))) := fun a b => by
    simp only [F_l_samePairs, F2_mk, dP_list, Option.bind_some]
  have hAt : ∀ (a : List Int) (k : Nat), F_l_at22 [.list 1 (ints a), .int .i64 (k : Int)] = some (.int .i64 (at0 a k)) := fun a k => by
    simp only [F_l_at22, F2_mk, dL_list, dI_int, Option.bind_some, atZ_nat]
  have hE : dec True = true := dec_iff.2 trivial
  have hpa : cplxB n l = true → dec (acycP n l (ppL n l)) = true := fun h => dec_iff.2 (pp_acyclic (cplxB_iff.1 h))
  have hac : dec (acycP n l list) = true → (∀ k, k < (upcL n l list).length → at0 (hmL n l 2) k ≤ at0 (upcL n l list) k) ∧ ∀ k, k < (upcL n l list).length → at0 (hmL n l 3) k ≤ at0 (upcL n l list) k := fun h =>
    ⟨upc_holes (.inl rfl) (dec_iff.1 h), upc_holes (.inr (.inl rfl)) (dec_iff.1 h)⟩
  have hc7 : (upcL n l list).length ≤ 7 := by
    by_cases h : pairP n l list
    · exact (upc_all h).1
    · rw [upc_zero h]; simp
  have hpr : (dec (pairP n l list) = false ∧ upcL n l list = []) ∨ (dec (pairP n l list) = true ∧ ((unpL n l list).length : Int) = IntKind.i64.wrap (((facesL n l).length : Int) - IntKind.i64.wrap (2 * (list.length : Int))) ∧
      F_l_total [.list 1 (ints (upcL n l list))] = some (.int .i64 ((unpL n l list).length : Int)) ∧ F_l_signed [.list 1 (ints (upcL n l list))] = some (.int .i64 (eulZ n l))) := by
    by_cases h : pairP n l list
    · have h1 := unp_len h
      have h2 := pair_len h
      have h3 : (facesL n l).length ≤ 64 := setsOf_len _
      obtain ⟨h4, h5, h6, h7⟩ := upc_all h
      refine .inr ⟨dec_true h, ?_, ?_, ?_⟩
      · rw [wrapI (2 * (list.length : Int)) (by omega) (by omega), wrapI _ (by omega) (by omega)]
        exact h1
      · simp only [F_l_total, F1_mk, dL_list, Option.bind_some]
        rw [if_pos ⟨h5, by omega⟩, h6]
      · simp only [F_l_signed, F1_mk, dL_list, Option.bind_some]
        rw [if_pos ⟨h5, by omega⟩, h7]
    · exact .inl ⟨dec_false h, upc_zero h⟩
  generalize dec (pairP n l list) = pr at *
  generalize dec (acycP n l list) = ac at *
  generalize dec (acycP n l (ppL n l)) = pa at *
  generalize cplxB n l = cb at *
  generalize unpL n l list = u at *
  generalize upcL n l list = C at *
  generalize ppL n l = pp at *
  generalize facesL n l = faces at *
  generalize hmL n l 2 = HA at *
  generalize hmL n l 3 = HB at *
  generalize eulZ n l = eu at *
  have hcb : (cb = true ∧ pa = true) ∨ cb = false := by
    cases cb with
    | true => exact .inl ⟨rfl, hpa rfl⟩
    | false => exact .inr rfl
  clear hpa
  simp -implicitDefEqProofs [sc_l_FnPairings, freeOk, hBig, hD1, hD2, hA1, hA2, hA3]
  refine CutI.of (l' := [(3, .pt 2 0), (4, .sl 1 2 0 list.length), (5, .pt 4 0), (6, .sl 5 2 0 pp.length), (7, .sl 6 1 0 u.length), (8, .sl 7 1 0 C.length)]) (SubI.slots rfl (by simp)) ?_
  clear hD1 hD2 hBig
  rcases hpr with ⟨rfl, hC⟩ | ⟨rfl, hu, hT, hS⟩
  · rcases hcb with ⟨rfl, rfl⟩ | rfl
    all_goals
      simp -implicitDefEqProofs [freeOk, hA1, hA2, hA3, hA4, hB1, hB2, hA6, hA7, hSP, hI, hE]
      intro h
      exact absurd hC h
  have hu2 := hu.symm
  clear hu
  rcases hcb with ⟨rfl, rfl⟩ | rfl
  all_goals
    simp -implicitDefEqProofs [freeOk, hA1, hA2, hA3, hA4, hB1, hB2, hA6, hA7, hSP, hI, hE, hu2]
    intro hC0
    refine CutI.of (l' := [(3, .pt 2 0), (4, .sl 1 2 0 list.length), (7, .sl 6 1 0 u.length), (8, .sl 7 1 0 C.length)]) (SubI.slots rfl (by simp)) ?_
    have hC1 : 0 < C.length := List.length_pos_iff.2 hC0
    have hC2 : ¬ ((C.length : Int) = 0) := by omega
    cases ac with
    | false =>
      simp -implicitDefEqProofs [freeOk, hA8, hT, hS, hB1, hC0, hC2]
    | true =>
      obtain ⟨hH2, hH3⟩ := hac rfl
      simp -implicitDefEqProofs [freeOk, hA8, hT, hS, hB1, hC0, hC2, hB3, hB4]
      refine loopI env mixed (fun k : Nat => [(8, .sl 0 1 0 C.length), (9, .sl 1 1 0 HA.length), (10, .sl 2 1 0 HB.length), (11, .int .i64 (k : Int))]) (fun _ => ([(2, ints HB), (1, ints HA), (0, ints C)], 3)) (fun k => k ≤ C.length) (fun k => C.length - k) 0 (by simp) (SubI.ren (fun m => if m = 0 then some 7 else if m = 1 then some 12 else if m = 2 then some 13 else none) ?_ ?_ ?_ (by simp) (by simp)) ?_
      · simp [renV, ren1]
      · simp [renL, ren1]
      · intro n hn
        simp only at hn
        have h1 : n ≠ 0 := by omega
        have h2 : n ≠ 1 := by omega
        have h3 : n ≠ 2 := by omega
        simp [h1, h2, h3]
      intro k hk
      have hwk : IntKind.i64.wrap ((k : Int) + 1) = (k : Int) + 1 := wrapI _ (by omega) (by omega)
      by_cases hlt : k < C.length
      · have a1 := hAt HA k
        have a2 := hAt HB k
        have b1 : ¬ at0 C k < at0 HA k := by have := hH2 k hlt; omega
        have b2 : ¬ at0 C k < at0 HB k := by have := hH3 k hlt; omega
        simp -implicitDefEqProofs [sc_l_FnPairings_L0, freeOk, hlt, a1, a2, b1, b2, hwk]
        repeat' (first | omega | apply And.intro)
        exact Again.of (k + 1) (by omega) (by omega) (SubI.slots rfl (by simp))
      · simp -implicitDefEqProofs [sc_l_FnPairings_L0, freeOk, hlt]
end Go.Proofs.Ytmemomfffehnkaa
