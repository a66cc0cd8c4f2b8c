import Derived.Test.YtkoljbncokmeaaaDoorPDJ
import Derived.Test.YtkoljbncokmeaaaDoorPDK
import Derived.Test.YtkoljbncokmeaaaDoorPDG
namespace Go.Proofs.YtkoljbncokmeaaaDoor
open Go Go.RowKit
set_option maxRecDepth 1000000
set_option linter.unusedSimpArgs false
set_option linter.unusedVariables false
set_option maxHeartbeats 1000000
def sc_i_divisorsMod_L8 : SC := (.seq (.seq (.reg [⟨(some 76), none, (.mov (.t 15))⟩, ⟨(some 77), none, (.mov (.t 8))⟩, ⟨(some 78), none, (.bin false .lss (.t 76) (.t 77))⟩]) (.cond (.t 78) .skip (.exit 8))) (.seq (.block 9 (.seq (.dreg [⟨⟨(some 81), none, (.mov (.t 12))⟩, false, false⟩, ⟨⟨(some 82), none, (.mov (.t 14))⟩, false, false⟩, ⟨⟨(some 83), none, (.idx 1 (.t 81) (.t 82))⟩, false, false⟩, ⟨⟨(some 84), none, (.ld none (.int .i64 0) (.t 83))⟩, false, false⟩, ⟨⟨(some 85), none, (.mov (.t 12))⟩, false, false⟩, ⟨⟨(some 86), none, (.mov (.t 15))⟩, false, false⟩, ⟨⟨(some 87), none, (.idx 1 (.t 85) (.t 86))⟩, false, false⟩, ⟨⟨(some 88), none, (.ld none (.int .i64 0) (.t 87))⟩, false, false⟩, ⟨⟨(some 89), none, (.call 72 [(.t 84), (.t 88)])⟩, false, false⟩, ⟨⟨(some 16), none, (.mov (.t 89))⟩, false, false⟩]) (.seq (.dreg [⟨⟨(some 90), none, (.mov (.t 12))⟩, false, false⟩, ⟨⟨(some 91), none, (.mov (.t 15))⟩, false, false⟩, ⟨⟨(some 92), none, (.mov (.t 12))⟩, false, false⟩, ⟨⟨(some 93), none, (.mov (.t 14))⟩, false, false⟩, ⟨⟨(some 94), none, (.idx 1 (.t 92) (.t 93))⟩, false, false⟩, ⟨⟨(some 95), none, (.ld none (.int .i64 0) (.t 94))⟩, false, false⟩, ⟨⟨(some 96), none, (.mov (.t 16))⟩, false, false⟩, ⟨⟨(some 97), none, (.bin false .quo (.t 95) (.t 96))⟩, false, false⟩, ⟨⟨(some 98), none, (.mov (.t 12))⟩, false, false⟩, ⟨⟨(some 99), none, (.mov (.t 15))⟩, false, false⟩, ⟨⟨(some 100), none, (.idx 1 (.t 98) (.t 99))⟩, false, false⟩, ⟨⟨(some 101), none, (.ld none (.int .i64 0) (.t 100))⟩, false, false⟩, ⟨⟨(some 102), none, (.bin false .mul (.t 97) (.t 101))⟩, false, false⟩, ⟨⟨(some 103), none, (.idx 1 (.t 90) (.t 91))⟩, false, false⟩, ⟨⟨none, none, (.st 1 (.t 103) (.t 102))⟩, true, false⟩]) (.reg [⟨(some 104), none, (.mov (.t 12))⟩, ⟨(some 105), none, (.mov (.t 14))⟩, ⟨(some 106), none, (.mov (.t 16))⟩, ⟨(some 107), none, (.idx 1 (.t 104) (.t 105))⟩, ⟨none, none, (.st 1 (.t 107) (.t 106))⟩])))) (.reg [⟨(some 79), none, (.mov (.t 15))⟩, ⟨(some 80), none, (.bin false .add (.t 79) (.c (.int .i64 1)))⟩, ⟨(some 15), none, (.mov (.t 80))⟩])))
def sc_i_divisorsMod_L6 : SC := (.seq (.reg [⟨(some 72), none, (.bin false .lss (.t 71) (.t 70))⟩]) (.seq (.cond (.t 72) .skip (.exit 6)) (.seq (.block 7 (.seq (.reg [⟨(some 73), none, (.mov (.t 71))⟩, ⟨(some 14), none, (.mov (.t 73))⟩]) (.seq (.reg [⟨(some 74), none, (.mov (.t 14))⟩, ⟨(some 75), none, (.bin false .add (.t 74) (.c (.int .i64 1)))⟩, ⟨(some 15), none, (.mov (.t 75))⟩]) (.block 8 (.loop sc_i_divisorsMod_L8))))) (.reg [⟨(some 108), none, (.bin false .add (.t 71) (.c (.int .i64 1)))⟩, ⟨(some 71), none, (.mov (.t 108))⟩]))))
def sc_i_divisorsMod_L4 : SC := (.seq (.reg [⟨(some 54), none, (.bin false .lss (.t 53) (.t 52))⟩]) (.seq (.cond (.t 54) .skip (.exit 4)) (.seq (.block 5 (.seq (.reg [⟨(some 55), none, (.mov (.t 53))⟩, ⟨(some 13), none, (.mov (.t 55))⟩]) (.reg [⟨(some 56), none, (.mov (.t 12))⟩, ⟨(some 57), none, (.mov (.t 13))⟩, ⟨(some 58), none, (.mov (.t 2))⟩, ⟨(some 59), none, (.mov (.t 7))⟩, ⟨(some 60), none, (.mov (.t 13))⟩, ⟨(some 61), none, (.idx 1 (.t 59) (.t 60))⟩, ⟨(some 62), none, (.ld none .nil (.t 61))⟩, ⟨(some 63), none, (.mov (.t 13))⟩, ⟨(some 64), none, (.idx 1 (.t 62) (.t 63))⟩, ⟨(some 65), none, (.ld none (.int .i64 0) (.t 64))⟩, ⟨(some 66), none, (.call 72 [(.t 58), (.t 65)])⟩, ⟨(some 67), none, (.idx 1 (.t 56) (.t 57))⟩, ⟨none, none, (.st 1 (.t 67) (.t 66))⟩]))) (.reg [⟨(some 68), none, (.bin false .add (.t 53) (.c (.int .i64 1)))⟩, ⟨(some 53), none, (.mov (.t 68))⟩]))))
def sc_i_divisorsMod_L2 : SC := (.block 3 (.seq (.reg [⟨(some 33), none, (.mov (.t 7))⟩, ⟨(some 34), none, (.mov (.t 9))⟩, ⟨(some 35), none, (.call 70 [(.t 33), (.t 34)])⟩, ⟨(some 32), none, (.mov (.t 35))⟩, ⟨(some 36), none, (.ext 0 (.t 32))⟩, ⟨(some 37), none, (.ext 1 (.t 32))⟩, ⟨(some 10), none, (.mov (.t 36))⟩, ⟨(some 11), none, (.mov (.t 37))⟩]) (.seq (.seq (.reg [⟨(some 38), none, (.mov (.t 10))⟩, ⟨(some 39), none, (.bin false .lss (.t 38) (.c (.int .i64 0)))⟩]) (.cond (.t 39) (.exit 2) .skip)) (.seq (.reg [⟨(some 40), none, (.mov (.t 7))⟩, ⟨(some 41), none, (.mov (.t 9))⟩, ⟨(some 42), none, (.mov (.t 10))⟩, ⟨(some 43), none, (.mov (.t 11))⟩, ⟨(some 44), none, (.call 68 [(.t 40), (.t 41), (.t 42), (.t 43)])⟩]) (.seq (.reg [⟨(some 45), none, (.mov (.t 7))⟩, ⟨(some 46), none, (.mov (.t 9))⟩, ⟨(some 47), none, (.mov (.t 2))⟩, ⟨(some 48), none, (.call 71 [(.t 45), (.t 46), (.t 47)])⟩]) (.cond (.t 48) (.exit 2) .skip))))))
def sc_i_divisorsMod_L0 : SC := (.seq (.seq (.reg [⟨(some 27), none, (.mov (.t 9))⟩, ⟨(some 28), none, (.mov (.t 8))⟩, ⟨(some 29), none, (.bin false .lss (.t 27) (.t 28))⟩]) (.cond (.t 29) .skip (.exit 0))) (.seq (.block 1 (.block 2 (.loop sc_i_divisorsMod_L2))) (.reg [⟨(some 30), none, (.mov (.t 9))⟩, ⟨(some 31), none, (.bin false .add (.t 30) (.c (.int .i64 1)))⟩, ⟨(some 9), none, (.mov (.t 31))⟩])))
def sc_i_divisorsMod : SC := (.seq (.reg [⟨(some 6), none, (.mov (.c .nil))⟩]) (.seq (.reg [⟨(some 17), none, (.mov (.t 0))⟩, ⟨(some 18), none, (.mov (.t 2))⟩, ⟨(some 19), none, (.call 69 [(.t 17), (.t 18)])⟩, ⟨(some 7), none, (.mov (.t 19))⟩]) (.seq (.reg [⟨(some 20), none, (.mov (.t 7))⟩, ⟨(some 21), none, (.len (.t 20))⟩, ⟨(some 22), none, (.mov (.t 7))⟩, ⟨(some 23), none, (.idx 1 (.t 22) (.c (.int .i64 0)))⟩, ⟨(some 24), none, (.ld none .nil (.t 23))⟩, ⟨(some 25), none, (.len (.t 24))⟩, ⟨(some 26), none, (.mm false (.t 21) (.t 25))⟩, ⟨(some 8), none, (.mov (.t 26))⟩]) (.seq (.seq (.reg [⟨(some 9), none, (.mov (.c (.int .i64 0)))⟩]) (.block 0 (.loop sc_i_divisorsMod_L0))) (.seq (.reg [⟨(some 49), none, (.mov (.t 8))⟩, ⟨(some 50), none, (.mk 1 8 [(.int .i64 0)] (.t 49) (.t 49))⟩, ⟨(some 12), none, (.mov (.t 50))⟩]) (.seq (.seq (.reg [⟨(some 51), none, (.mov (.t 12))⟩, ⟨(some 52), none, (.len (.t 51))⟩, ⟨(some 53), none, (.mov (.c (.int .i64 0)))⟩]) (.block 4 (.loop sc_i_divisorsMod_L4))) (.seq (.seq (.reg [⟨(some 69), none, (.mov (.t 12))⟩, ⟨(some 70), none, (.len (.t 69))⟩, ⟨(some 71), none, (.mov (.c (.int .i64 0)))⟩]) (.block 6 (.loop sc_i_divisorsMod_L6))) (.seq (.reg [⟨(some 109), none, (.mov (.t 12))⟩, ⟨(some 110), none, (.mov (.t 1))⟩, ⟨(some 111), none, (.mov (.t 1))⟩, ⟨(some 112), none, (.sli 1 (.t 109) none (some (.t 110)) (some (.t 111)))⟩, ⟨(some 6), none, (.mov (.t 112))⟩]) .ret))))))))
theorem code_i_divisorsMod : fnCode Tryd.prog [] 52 = some (113, sc_i_divisorsMod, [(6, none)]) := by kernel_rfl
noncomputable def F_i_divisorsMod : List V → Option V := F3 dLL dI dI fun M r t => @ite _ (dimM M ∧ 0 < M.length ∧ bdE 1073741824 M.length (wdM M) (ent M) ∧ 1 ≤ t ∧ t ≤ 1073741824 ∧ 0 ≤ r ∧ r ≤ (min M.length (wdM M) : Nat)) (Classical.propDecidable _)
  ((dmV t M.length (wdM M) fun a b => ent M a b % t).map fun F => .own 1 (ints ((bub (dg0 t (min M.length (wdM M)) F)).take r.toNat))) none
theorem fn_i_divisorsMod : FnOk Tryd.prog 52 F_i_divisorsMod := by
  have env := (((((envNil_ok (P := Tryd.prog)).add fn_i_modMatrixT).add fn_i_findLeast).add fn_i_divisorOf).addl ln_i_swapTo).addl ln_i_clearCross
  refine fn_ok code_i_divisorsMod mixed env ?_
  intro args r0 h hb
  obtain ⟨_, _, _, M, r, t, rfl, h1, h2, h3, h4⟩ := F3_inv h
  cases dLL_inv h1
  cases dI_inv h2
  cases dI_inv h3
  simp only [Option.ite_none_right_eq_some, Option.map_eq_some_iff] at h4
  obtain ⟨⟨hdim, hpos, hbd, ht1, ht2, hr0, hrm⟩, F, hF, rfl⟩ := h4
  obtain ⟨q0, hF⟩ := dmV_iff.1 hF
  clear h h1 h2 h3 hb
  have hMM : F_i_modMatrixT [.list 1 (rowsL M), .int .i64 t] = some (.own 1 (rowsV (matF M.length (wdM M) fun a b => ent M a b % t))) := by
    simp only [F_i_modMatrixT, F2_mk, dLL_list, dI_int, Option.bind_some]
    rw [if_pos ⟨ht1, ht2, hdim, hbd⟩, modM_matF hdim.1]
  have hm0 : modE t M.length (wdM M) fun a b => ent M a b % t := fun i j _ _ => ⟨Int.emod_nonneg _ (by omega), Int.emod_lt_of_pos _ (by omega)⟩
  obtain ⟨hr, hn, hw⟩ := hdim
  generalize (fun a b => ent M a b % t) = f0 at *
  have hw0 : M.length = 0 → wdM M = 0 := fun h => by omega
  clear hr hbd
  generalize wdM M = w at *
  generalize hnn : M.length = n at *
  obtain ⟨r, rfl⟩ : ∃ q : Nat, r = q := ⟨r.toNat, by omega⟩
  rw [Int.toNat_natCast]
  generalize hm : min n w = m at *
  refine ⟨by simp, fun w0 U0 L0 N0 => ?_⟩
  -- the elimination
  have elim : ∀ (Q : Post) (T0 : Tm) (H0 : Hp), SubI 0 T0 H0 [(1, .int .i64 (r : Int)), (2, .int .i64 t), (7, .sl 0 1 0 n), (8, .int .i64 (m : Int)), (9, .int .i64 0)] ([(0, rowsV (matF n w f0))], 1) →
      (modE t n w F → Q (.exit 0) [(1, .int .i64 (r : Int)), (2, .int .i64 t), (7, .sl 0 1 0 n), (8, .int .i64 (m : Int))] ([(0, rowsV (matF n w F))], 1)) →
      LoopI ⟨Tryd.prog, w0, U0, L0, N0, 0, 113⟩ [] sc_i_divisorsMod_L0 Q T0 H0 := by
    intro Q T0 H0 hsub q1
    refine loopQ env mixed (fun x : Nat × (Nat → Nat → Int) × Nat => [(1, .int .i64 (r : Int)), (2, .int .i64 t), (7, .sl 0 1 0 n), (8, .int .i64 (m : Int)), (9, .int .i64 (x.1 : Int))]) (fun x => ([(0, rowsV (matF n w x.2.1))], 1)) (fun x => x.1 ≤ m ∧ modE t n w x.2.1 ∧ dmR t n w x.2.2 x.2.1 x.1 = some F) (fun x => m - x.1) (0, f0, q0) ⟨by simp only; omega, hm0, hF⟩ (by simpa using hsub) ?_
    rintro ⟨k, f, q⟩ ⟨hkm, hmf, hI⟩
    simp only at hkm hmf hI ⊢
    by_cases hlt : k < m
    rotate_left
    · obtain ⟨q, rfl⟩ : ∃ p, q = p + 1 := ⟨q - 1, by
        cases q with
        | zero => simp [dmR] at hI
        | succ q => rfl⟩
      rw [dmR_end (by omega)] at hI
      simp only [Option.some.injEq] at hI
      subst hI
      have q2 := q1 hmf
      simp -implicitDefEqProofs [sc_i_divisorsMod_L0, hlt]
      refine SubQ.of ?_ q2
      exact SubI.slots rfl (by simp)
    have hkn : k < n := by omega
    have hkw : k < w := by omega
    simp -implicitDefEqProofs [sc_i_divisorsMod_L0, hlt]
    refine loopQ env mixed (fun x : (Nat → Nat → Int) × Nat => [(1, .int .i64 (r : Int)), (2, .int .i64 t), (7, .sl 0 1 0 n), (8, .int .i64 (m : Int)), (9, .int .i64 (k : Int))]) (fun x => ([(0, rowsV (matF n w x.1))], 1)) (fun x => modE t n w x.1 ∧ dmR t n w x.2 x.1 k = some F) (fun x => x.2) (f, q) ⟨hmf, hI⟩ (SubI.slots rfl (by simp)) ?_
    clear hI hmf
    rintro ⟨f, q⟩ ⟨hmf, hI⟩
    simp only at hmf hI ⊢
    obtain ⟨q, rfl⟩ : ∃ p, q = p + 1 := ⟨q - 1, by
      cases q with
      | zero => simp [dmR] at hI
      | succ q => rfl⟩
    have hml := matF_len n w f
    have he : ∀ (g : Nat → Nat → Int) a b, a < n → b < w → ent (matF n w g) a b = g a b := fun g a b ha hb => matF_ent ha hb
    have hlow := lowB_matF (f := f) hw0 hn hw (modE_bd hmf ht2)
    have hnon : nonN (matF n w f) := fun i j hi hj => by
      rw [matF_len] at hi
      rw [wdM_matF hw0] at hj
      rw [he f i j hi hj]
      exact (hmf i j hi hj).1
    have hLS : F_i_findLeast [.list 1 (rowsL (matF n w f)), .int .i64 (k : Int)] = some (.tup [.int .i64 (flZ f n w k).1, .int .i64 (flZ f n w k).2]) := by
      simp only [F_i_findLeast, F2_mk, dLL_list, dI_int, Option.bind_some]
      rw [if_pos ⟨hlow, hnon, by omega, by omega⟩, Int.toNat_natCast, wdM_matF hw0, matF_len, flZ_congr (he f)]
    have htk : (matF n w f).take n = matF n w f := List.take_of_length_le (by rw [hml]; omega)
    rcases flZ_spec f n w k with ⟨e, _⟩ | ⟨i, j, e, hin, hjw, hnz0, _, _⟩
    · rw [dmR_zero ⟨hkn, hkw⟩ e] at hI
      rw [e] at hLS
      simp only at hLS
      generalize hMf : matF n w f = Mf at *
      simp -implicitDefEqProofs [sc_i_divisorsMod_L2, hml, htk, hLS]
      refine SubQ.of (l1 := [(1, .int .i64 (r : Int)), (2, .int .i64 t), (7, .sl 0 1 0 n), (8, .int .i64 (m : Int)), (9, .int .i64 (k : Int))]) (s1 := ([(0, rowsV Mf)], 1)) (SubI.slots rfl (by simp)) ?_
      simp -implicitDefEqProofs
      exact Again.of (k + 1, f, q) ⟨by simp only; omega, hmf, hI⟩ (by simp only; omega) (SubI.slots (by simp [hMf]) (by simp (disch := omega) [wrapI]))
    rw [e] at hLS
    simp only at hLS
    have hni : ¬ ((i : Int) < 0) := by omega
    have hmg : modE t n w (swF k i j f) := fun a b ha hb => hmf _ _ (swI_lt hkn hin ha) (swI_lt hkw hjw hb)
    have hnz : swF k i j f k k ≠ 0 := by
      unfold swF
      rw [swI_l, swI_l]
      exact hnz0
    have hG1 : G_i_swapTo [.sl 0 1 0 n, .int .i64 (k : Int), .int .i64 (i : Int), .int .i64 (j : Int)] (rowsV (matF n w f)) = some (.tup [], rowsV (matF n w (swF k i j f))) := by
      simp only [G_i_swapTo, dRowsV_rowsV, Option.bind_some]
      have hwd := wdM_matF (f := f) hw0
      rw [if_pos ⟨by rw [hml], dimM_matF hw0 hn hw, by omega, by rw [hml]; omega, by rw [hwd]; omega, by omega, by rw [hml]; omega, by omega, by rw [hwd]; omega⟩]
      simp only [Int.toNat_natCast]
      rw [swpR_matF hkn hkw hin hjw]
    have hml1 := matF_len n w (swF k i j f)
    have hrm' : ∀ a b, a < n → b < w → rmF t k (ent (matF n w (swF k i j f))) a b = rmF t k (swF k i j f) a b := fun a b ha hb => by
      unfold rmF rgF rmV rwV
      rw [he _ a b ha hb, he _ a k ha hkw, he _ k k hkn hkw, he _ k b hkn hb]
    have hcr' : ∀ a b, a < n → b < w → crF t k (ent (matF n w (swF k i j f))) a b = crF t k (swF k i j f) a b := fun a b ha hb => by
      unfold crF cgF cmV clV
      rw [hrm' a b ha hb, hrm' a k ha hkw, hrm' k k hkn hkw, hrm' k b hkn hb]
    have hcp : ccP t n w k (ent (matF n w (swF k i j f))) ↔ ccP t n w k (swF k i j f) := by
      constructor
      · rintro ⟨g1, g2⟩
        exact ⟨fun a ha hb => by rw [← hrm' a k hb hkw]; exact g1 a ha hb, fun b hb hc => by rw [← hcr' k b hkn hc]; exact g2 b hb hc⟩
      · rintro ⟨g1, g2⟩
        exact ⟨fun a ha hb => by rw [hrm' a k hb hkw]; exact g1 a ha hb, fun b hb hc => by rw [hcr' k b hkn hc]; exact g2 b hb hc⟩
    have hG2 : G_i_clearCross [.sl 0 1 0 n, .int .i64 (k : Int), .int .i64 t] (rowsV (matF n w (swF k i j f))) = some (.bool (dec (ccP t n w k (swF k i j f))), rowsV (matF n w (crF t k (swF k i j f)))) := by
      simp only [G_i_clearCross, dRowsV_rowsV, Option.bind_some]
      have hwd := wdM_matF (f := swF k i j f) hw0
      rw [if_pos ⟨by rw [hml1], by omega, ⟨dimM_matF hw0 hn hw, by rw [hml1, Int.toNat_natCast]; exact hkn, by rw [hwd, Int.toNat_natCast]; exact hkw, by rw [Int.toNat_natCast, he _ k k hkn hkw]; exact hnz, ht1, ht2, by
        rw [hwd, hml1]
        intro a b ha hb
        rw [he _ a b ha hb]
        exact hmg a b ha hb⟩⟩]
      simp only [Int.toNat_natCast]
      rw [hwd, hml1, decC hcp, matF_congr hcr']
    have hmh : modE t n w (crF t k (swF k i j f)) := modE_cr hmg ht1
    have hml2 := matF_len n w (crF t k (swF k i j f))
    by_cases hc : ccP t n w k (swF k i j f)
    · rw [dmR_done ⟨hkn, hkw⟩ e hc] at hI
      rw [dec_true hc] at hG2
      generalize hh : crF t k (swF k i j f) = h at *
      generalize hM2 : matF n w h = M2 at *
      generalize matF n w (swF k i j f) = M1 at *
      generalize matF n w f = Mf at *
      simp -implicitDefEqProofs [sc_i_divisorsMod_L2, ren0, hml, htk, hLS, hni, hG1, hG2]
      refine SubQ.of (l1 := [(1, .int .i64 (r : Int)), (2, .int .i64 t), (7, .sl 0 1 0 n), (8, .int .i64 (m : Int)), (9, .int .i64 (k : Int))]) (s1 := ([(0, rowsV M2)], 1)) (SubI.slots rfl (by simp)) ?_
      simp -implicitDefEqProofs
      exact Again.of (k + 1, h, q) ⟨by simp only; omega, hmh, hI⟩ (by simp only; omega) (SubI.slots (by simp [hM2]) (by simp (disch := omega) [wrapI]))
    · rw [dmR_dirty ⟨hkn, hkw⟩ e hc] at hI
      rw [dec_false hc] at hG2
      generalize hh : crF t k (swF k i j f) = h at *
      generalize hM2 : matF n w h = M2 at *
      generalize matF n w (swF k i j f) = M1 at *
      generalize matF n w f = Mf at *
      simp -implicitDefEqProofs [sc_i_divisorsMod_L2, ren0, hml, htk, hLS, hni, hG1, hG2]
      exact Again.of (h, q) ⟨hmh, hI⟩ (by simp only; omega) (SubI.slots (by simp [hM2]) (by simp))
  -- the divisors
  have divs : ∀ (Q : Post) (T0 : Tm) (H0 : Hp), modE t n w F → SubI 0 T0 H0 [(1, .int .i64 (r : Int)), (2, .int .i64 t), (7, .sl 0 1 0 n), (8, .int .i64 (m : Int)), (12, .sl 1 1 0 m), (52, .int .i64 (m : Int)), (53, .int .i64 0)] ([(1, List.replicate m (.int .i64 0)), (0, rowsV (matF n w F))], 2) →
      Q (.exit 4) [(1, .int .i64 (r : Int)), (8, .int .i64 (m : Int)), (12, .sl 1 1 0 m)] ([(1, ints (dg0 t m F)), (0, rowsV (matF n w F))], 2) →
      LoopI ⟨Tryd.prog, w0, U0, L0, N0, 0, 113⟩ [] sc_i_divisorsMod_L4 Q T0 H0 := by
    intro Q T0 H0 hmF hsub q1
    have hml := matF_len n w F
    have hz : List.replicate m (V.int .i64 0) = ints (zK m (fun k => ((Int.gcd t (F k k) : Nat) : Int)) 0) := by
      rw [zK_zero]; simp
    rw [hz] at hsub
    have hfull : zK m (fun k => ((Int.gcd t (F k k) : Nat) : Int)) m = dg0 t m F := zK_full m _
    rw [← hfull] at q1
    refine loopQ env mixed (fun k : Nat => [(1, .int .i64 (r : Int)), (2, .int .i64 t), (7, .sl 0 1 0 n), (8, .int .i64 (m : Int)), (12, .sl 1 1 0 m), (52, .int .i64 (m : Int)), (53, .int .i64 (k : Int))]) (fun k => ([(1, ints (zK m (fun k => ((Int.gcd t (F k k) : Nat) : Int)) k)), (0, rowsV (matF n w F))], 2)) (fun k => k ≤ m) (fun k => m - k) 0 (by simp) (by simpa using hsub) ?_
    intro k hk
    have hgl := zK_len m (fun k => ((Int.gcd t (F k k) : Nat) : Int)) k
    by_cases hlt : k < m
    · have hkn : k < n := by omega
      have hkw : k < w := by omega
      have hset : (zK m (fun k => ((Int.gcd t (F k k) : Nat) : Int)) k).set k ((Int.gcd t (F k k) : Nat) : Int) = zK m (fun k => ((Int.gcd t (F k k) : Nat) : Int)) (k + 1) := zK_set (g := fun k => ((Int.gcd t (F k k) : Nat) : Int)) hlt
      have hak := matF_at (w := w) (f := F) hkn
      have hlk : (rowF w (F k)).length = w := rowF_len _ _
      have hek := rowF_at (g := F k) hkw
      have hself := rowsV_self (M := matF n w F) (i := k) (by omega)
      rw [hak] at hself
      have hb := hmF k k hkn hkw
      have hD : F_i_divisorOf [.int .i64 t, .int .i64 (F k k)] = some (.int .i64 ((Int.gcd t (F k k) : Nat) : Int)) := by
        simp only [F_i_divisorOf, F2_mk, dI_int, Option.bind_some]
        rw [if_pos ⟨by omega, by omega, by omega, by omega⟩]
      generalize hg1 : zK m (fun k => ((Int.gcd t (F k k) : Nat) : Int)) (k + 1) = d1 at *
      generalize zK m (fun k => ((Int.gcd t (F k k) : Nat) : Int)) k = d at *
      generalize ((Int.gcd t (F k k) : Nat) : Int) = v at *
      generalize rowF w (F k) = rk at *
      generalize matF n w F = MF at *
      simp -implicitDefEqProofs [sc_i_divisorsMod_L4, hlt, hkn, hkw, hml, hak, hlk, hek, hD, hgl, hset]
      repeat' (first | omega | apply And.intro)
      refine Again.of (k + 1) (by omega) (by omega) ?_
      refine SubI.fold 0 2 k 1 w (cn := ints rk) (co := (rowsV MF).set k (.sl 2 1 0 w)) (by simp) (by simp) (by simp [hml, hkn]) (by simp [hlk]) ?_
      rw [List.set_set, hself]
      refine SubI.ren (fun m => if m = 0 then some 0 else if m = 1 then some 1 else none) ?_ ?_ ?_ (by simp) (by simp)
      · simp (disch := omega) [subT, renV, ren1, wrapI]
      · simp [subH, renL, ren1, hg1]
      · intro m hm
        simp only at hm
        rw [if_neg (by omega), if_neg (by omega)]
    · have : k = m := by omega
      subst this
      simp -implicitDefEqProofs [sc_i_divisorsMod_L4]
      refine SubQ.of ?_ q1
      exact SubI.slots rfl (by simp)
  -- the order
  have ordr : ∀ (d0 : List Int) (H1 : List V) (Q : Post) (T0 : Tm) (H0 : Hp), d0.length = m → dvL t d0 → SubI 0 T0 H0 [(1, .int .i64 (r : Int)), (8, .int .i64 (m : Int)), (12, .sl 1 1 0 m), (70, .int .i64 (m : Int)), (71, .int .i64 0)] ([(1, ints d0), (0, H1)], 2) →
      Q (.exit 6) [(1, .int .i64 (r : Int)), (12, .sl 1 1 0 m)] ([(1, ints (bub d0)), (0, H1)], 2) →
      LoopI ⟨Tryd.prog, w0, U0, L0, N0, 0, 113⟩ [] sc_i_divisorsMod_L6 Q T0 H0 := by
    intro d0 H1 Q T0 H0 hdl hdv hsub q1
    unfold bub at q1
    rw [hdl] at q1
    refine loopQ env mixed (fun i : Nat => [(1, .int .i64 (r : Int)), (8, .int .i64 (m : Int)), (12, .sl 1 1 0 m), (70, .int .i64 (m : Int)), (71, .int .i64 (i : Int))]) (fun i => ([(1, ints (bbI d0 i)), (0, H1)], 2)) (fun i => i ≤ m) (fun i => m - i) 0 (by simp) (by simpa [bbI] using hsub) ?_
    intro i hi
    by_cases hlt : i < m
    · have hdi := dvL_I hdv i (by omega)
      have hli : (bbI d0 i).length = m := by rw [bbI_len, hdl]
      have hnext : bbI d0 (i + 1) = bbJ (bbI d0 i) i (m - (i + 1)) := by rw [bbI, hdl]
      generalize bbI d0 i = di at *
      have hw1 : IntKind.i64.wrap ((i : Int) + 1) = ((i + 1 : Nat) : Int) := by rw [wrapI _ (by omega) (by omega)]; rfl
      simp -implicitDefEqProofs [sc_i_divisorsMod_L6, hlt, hw1]
      refine loopQ env mixed (fun j : Nat => [(1, .int .i64 (r : Int)), (8, .int .i64 (m : Int)), (12, .sl 1 1 0 m), (14, .int .i64 (i : Int)), (15, .int .i64 (j : Int)), (70, .int .i64 (m : Int)), (71, .int .i64 (i : Int))]) (fun j => ([(1, ints (bbJ di i (j - (i + 1)))), (0, H1)], 2)) (fun j => i + 1 ≤ j ∧ j ≤ m) (fun j => m - j) (i + 1) ⟨Nat.le_refl _, by omega⟩ (SubI.slots (by simp [bbJ]) (by simp)) ?_
      rintro j ⟨hij, hjm⟩
      have hlj : (bbJ di i (j - (i + 1))).length = m := by rw [bbJ_len, hli]
      by_cases hlt2 : j < m
      · have hdj := dvL_J (i := i) hdi (j - (i + 1)) (by omega)
        have hstep : bbJ di i (j + 1 - (i + 1)) = bbS (bbJ di i (j - (i + 1))) i j := by
          rw [show j + 1 - (i + 1) = (j - (i + 1)) + 1 by omega, bbJ, show i + 1 + (j - (i + 1)) = j by omega]
        generalize hd2 : bbJ di i (j + 1 - (i + 1)) = d2 at *
        generalize bbJ di i (j - (i + 1)) = d at *
        obtain ⟨a1, a2⟩ := hdj i (by omega)
        obtain ⟨b1, b2⟩ := hdj j (by omega)
        have a3 := Int.le_of_dvd (by omega) a2
        have b3 := Int.le_of_dvd (by omega) b2
        obtain ⟨g0, g1, g2, g3, g4, _⟩ := gcd_facts a1 b1 a2 b2
        have g5 := Int.le_of_dvd (by omega) g4
        have g6 := Int.le_of_dvd (by omega) g1
        have hD : F_i_divisorOf [.int .i64 (at0 d i), .int .i64 (at0 d j)] = some (.int .i64 ((Int.gcd (at0 d i) (at0 d j) : Nat) : Int)) := by
          simp only [F_i_divisorOf, F2_mk, dI_int, Option.bind_some]
          rw [if_pos ⟨by omega, by omega, by omega, by omega⟩]
        unfold bbS at hstep
        have hij2 : ¬ i = j := by omega
        have hji2 : ¬ j = i := by omega
        generalize hgg : ((Int.gcd (at0 d i) (at0 d j) : Nat) : Int) = g at *
        have hgz : ¬ g = 0 := by omega
        have hq1 := tdivB (a := at0 d i) (b := g) (B := 1073741824) ⟨by omega, by omega⟩
        have hw2 : IntKind.i64.wrap ((at0 d i).tdiv g) = (at0 d i).tdiv g := wrapI _ (by omega) (by omega)
        have hw3 : IntKind.i64.wrap ((at0 d i).tdiv g * at0 d j) = (at0 d i).tdiv g * at0 d j := wrapI _ (by omega) (by omega)
        simp -implicitDefEqProofs [sc_i_divisorsMod_L8, freeOk, hlt, hlt2, hlj, hD, hgz, hw2, hw3]
        repeat' (first | omega | apply And.intro)
        exact Again.of (j + 1) (by omega) (by omega) (SubI.slots (by simp only [hd2]; simp [hstep]) (by simp (disch := omega) [wrapI]))
      · have : j = m := by omega
        subst this
        simp -implicitDefEqProofs [sc_i_divisorsMod_L8]
        refine SubQ.of (l1 := [(1, .int .i64 (r : Int)), (8, .int .i64 (j : Int)), (12, .sl 1 1 0 j), (70, .int .i64 (j : Int)), (71, .int .i64 (i : Int))]) (SubI.slots rfl (by simp)) ?_
        simp -implicitDefEqProofs
        exact Again.of (i + 1) (by omega) (by omega) (SubI.slots (by simp [hnext]) (by simp (disch := omega) [wrapI]))
    · have : i = m := by omega
      subst this
      simp -implicitDefEqProofs [sc_i_divisorsMod_L6]
      refine SubQ.of ?_ q1
      exact SubI.slots rfl (by simp)
  have hml := matF_len n w f0
  have ha0 := matF_at (w := w) (f := f0) hpos
  have hl0 : (rowF w (f0 0)).length = w := rowF_len _ _
  have hself0 := rowsV_self (M := matF n w f0) (i := 0) (by omega)
  rw [ha0] at hself0
  have hmin : min (n : Int) (w : Int) = (m : Int) := by omega
  have hdv : dvL t (dg0 t m F) := fun q hq => by
    unfold dg0 at *
    rw [rowF_len] at hq
    rw [rowF_at hq]
    have g1 : ((Int.gcd t (F q q) : Nat) : Int) ∣ t := Int.gcd_dvd_left ..
    refine ⟨?_, g1⟩
    have : Int.gcd t (F q q) ≠ 0 := fun h => by
      rw [h] at g1
      have := Int.zero_dvd.1 (by simpa using g1)
      omega
    omega
  have hdl : (dg0 t m F).length = m := rowF_len _ _
  have hbl : (bub (dg0 t m F)).length = m := by unfold bub; rw [bbI_len, hdl]
  have hor := ordr (dg0 t m F) (rowsV (matF n w F))
  generalize bub (dg0 t m F) = B at *
  generalize dg0 t m F = D at *
  generalize rowF w (f0 0) = r0 at *
  generalize matF n w F = MF at *
  generalize matF n w f0 = M0 at *
  simp -implicitDefEqProofs [sc_i_divisorsMod, hMM, hml, hpos, ha0, hl0, hmin]
  refine elim _ _ _ ?_ ?_
  · refine SubI.fold 0 1 0 1 w (cn := ints r0) (co := (rowsV M0).set 0 (.sl 1 1 0 w)) (by simp) (by simp) (by simp [hml, hpos]) (by simp [hl0]) ?_
    rw [List.set_set, hself0]
    refine SubI.ren (fun m => if m = 0 then some 0 else none) ?_ ?_ ?_ (by simp) (by simp)
    · simp [subT, renV, ren1]
    · simp [subH, renL, ren1]
    · intro m hm
      simp only at hm
      rw [if_neg (by omega)]
  intro hmF
  simp -implicitDefEqProofs
  refine ⟨by omega, ?_⟩
  refine divs _ _ _ hmF (SubI.slots (by simp) (by simp)) ?_
  simp -implicitDefEqProofs
  refine hor _ _ _ hdl hdv (SubI.slots (by simp) (by simp)) ?_
  simp -implicitDefEqProofs [hbl]
  omega
end Go.Proofs.YtkoljbncokmeaaaDoor
namespace Go.Proofs.YtkoljbncokmeaaaDoor
open Go Go.RowKit
set_option maxRecDepth 1000000
set_option linter.unusedSimpArgs false
set_option linter.unusedVariables false
set_option maxHeartbeats 1000000
def sc_i_sameLengths_L0 : SC := (.seq (.reg [⟨(some 8), none, (.bin false .lss (.t 7) (.t 6))⟩]) (.seq (.cond (.t 8) .skip (.exit 0)) (.seq (.block 1 (.seq (.reg [⟨(some 9), none, (.idx 1 (.t 5) (.t 7))⟩, ⟨(some 10), none, (.ld none .nil (.t 9))⟩, ⟨(some 4), none, (.mov (.t 10))⟩]) (.seq (.reg [⟨(some 11), none, (.mov (.t 4))⟩, ⟨(some 12), none, (.len (.t 11))⟩, ⟨(some 13), none, (.mov (.t 0))⟩, ⟨(some 14), none, (.idx 1 (.t 13) (.c (.int .i64 0)))⟩, ⟨(some 15), none, (.ld none .nil (.t 14))⟩, ⟨(some 16), none, (.len (.t 15))⟩, ⟨(some 17), none, (.bin false .neq (.t 12) (.t 16))⟩]) (.cond (.t 17) (.seq (.reg [⟨(some 2), none, (.mov (.c (.bool false)))⟩]) .ret) .skip)))) (.reg [⟨(some 18), none, (.bin false .add (.t 7) (.c (.int .i64 1)))⟩, ⟨(some 7), none, (.mov (.t 18))⟩]))))
def sc_i_sameLengths : SC := (.seq (.reg [⟨(some 2), none, (.mov (.c (.bool false)))⟩]) (.seq (.seq (.reg [⟨(some 5), none, (.mov (.t 0))⟩, ⟨(some 6), none, (.len (.t 5))⟩, ⟨(some 7), none, (.mov (.c (.int .i64 0)))⟩]) (.block 0 (.loop sc_i_sameLengths_L0))) (.seq (.reg [⟨(some 2), none, (.mov (.c (.bool true)))⟩]) .ret)))
theorem code_i_sameLengths : fnCode Tryd.prog [] 79 = some (19, sc_i_sameLengths, [(2, none)]) := by kernel_rfl
noncomputable def F_i_sameLengths : List V → Option V := F1 dLL fun M => some (.bool (dec (rect (wdM M) M)))
theorem fn_i_sameLengths : FnOk Tryd.prog 79 F_i_sameLengths := by
  refine fn_ok code_i_sameLengths mixed envNil_ok ?_
  intro args r h hb
  obtain ⟨_, M, rfl, h1, h4⟩ := F1_inv h
  cases dLL_inv h1
  cases h4
  clear h h1
  have hla : M.length ≤ 9223372036854775807 := by simpa using (hb (.list 1 (rowsL M)) (by simp)).1
  refine ⟨by simp, fun w0 U0 L0 N0 => ?_⟩
  clear hb
  generalize hv : dec (rect (wdM M) M) = v
  simp -implicitDefEqProofs [sc_i_sameLengths]
  refine loopI envNil_ok mixed (fun k : Nat => [(0, .list 1 (rowsL M)), (5, .list 1 (rowsL M)), (6, .int .i64 (M.length : Int)), (7, .int .i64 (k : Int))]) (fun _ => ([], 0)) (fun k => k ≤ M.length ∧ ∀ j, j < k → (atR M j).length = wdM M) (fun k => M.length - k) 0 (by simp) (SubI.slots rfl (by simp)) ?_
  rintro k ⟨hk, hI⟩
  by_cases hlt : k < M.length
  · have h0 : 0 < M.length := by omega
    have hd0 : (rowsL M)[0]?.getD .nil = .list 1 (ints (atR M 0)) := by
      have := rowsL_drop0 h0 .nil
      rwa [List.drop_zero] at this
    by_cases he : (atR M k).length = wdM M
    · unfold wdM at he
      simp -implicitDefEqProofs [sc_i_sameLengths_L0, hlt, h0, hd0, rowsL_dR hlt, he]
      repeat' (first | omega | apply And.intro)
      refine Again.of (k + 1) ⟨by omega, fun j hj => ?_⟩ (by omega) (SubI.slots rfl (by simp (disch := omega) [wrapI]))
      rcases Nat.lt_succ_iff_lt_or_eq.1 hj with h1 | rfl
      · exact hI j h1
      · exact he
    · have hv1 : v = false := hv ▸ dec_false fun h => he (h k hlt)
      unfold wdM at he
      have he' : ¬ (((atR M k).length : Int) = ((atR M 0).length : Int)) := by omega
      simp -implicitDefEqProofs [sc_i_sameLengths_L0, hlt, h0, hd0, rowsL_dR hlt, he, he', hv1]
      repeat' (first | omega | apply And.intro)
  · have hv1 : v = true := hv ▸ dec_true fun j hj => hI j (by omega)
    simp -implicitDefEqProofs [sc_i_sameLengths_L0, hlt, hv1]
def sc_i_isSmallMatrix_L2 : SC := (.seq (.reg [⟨(some 40), none, (.bin false .lss (.t 39) (.t 38))⟩]) (.seq (.cond (.t 40) .skip (.exit 2)) (.seq (.block 3 (.seq (.reg [⟨(some 41), none, (.idx 1 (.t 37) (.t 39))⟩, ⟨(some 42), none, (.ld none (.int .i64 0) (.t 41))⟩, ⟨(some 10), none, (.mov (.t 42))⟩]) (.seq (.reg [⟨(some 43), none, (.mov (.t 10))⟩, ⟨(some 44), none, (.mov (.t 2))⟩, ⟨(some 45), none, (.un .neg (.t 44))⟩, ⟨(some 46), none, (.bin false .lss (.t 43) (.t 45))⟩, ⟨(some 47), none, (.mov (.t 46))⟩, ⟨(some 48), (some (47, false)), (.mov (.t 10))⟩, ⟨(some 49), (some (47, false)), (.mov (.t 2))⟩, ⟨(some 50), (some (47, false)), (.bin false .gtr (.t 48) (.t 49))⟩, ⟨(some 51), none, (.pick (.t 47) (.c (.bool true)) (.t 50))⟩]) (.cond (.t 51) (.seq (.reg [⟨(some 6), none, (.mov (.c (.bool false)))⟩]) .ret) .skip)))) (.reg [⟨(some 52), none, (.bin false .add (.t 39) (.c (.int .i64 1)))⟩, ⟨(some 39), none, (.mov (.t 52))⟩]))))
def sc_i_isSmallMatrix_L0 : SC := (.seq (.reg [⟨(some 34), none, (.bin false .lss (.t 33) (.t 32))⟩]) (.seq (.cond (.t 34) .skip (.exit 0)) (.seq (.block 1 (.seq (.reg [⟨(some 35), none, (.idx 1 (.t 31) (.t 33))⟩, ⟨(some 36), none, (.ld none .nil (.t 35))⟩, ⟨(some 8), none, (.mov (.t 36))⟩]) (.seq (.reg [⟨(some 37), none, (.mov (.t 8))⟩, ⟨(some 38), none, (.len (.t 37))⟩, ⟨(some 39), none, (.mov (.c (.int .i64 0)))⟩]) (.block 2 (.loop sc_i_isSmallMatrix_L2))))) (.reg [⟨(some 53), none, (.bin false .add (.t 33) (.c (.int .i64 1)))⟩, ⟨(some 33), none, (.mov (.t 53))⟩]))))
def sc_i_isSmallMatrix : SC := (.seq (.reg [⟨(some 6), none, (.mov (.c (.bool false)))⟩]) (.seq (.seq (.reg [⟨(some 11), none, (.mov (.t 0))⟩, ⟨(some 12), none, (.len (.t 11))⟩, ⟨(some 13), none, (.mov (.t 1))⟩, ⟨(some 14), none, (.bin false .gtr (.t 12) (.t 13))⟩, ⟨(some 15), none, (.mov (.t 14))⟩, ⟨(some 16), (some (15, false)), (.mov (.t 0))⟩, ⟨(some 17), (some (15, false)), (.call 79 [(.t 16)])⟩, ⟨(some 18), (some (15, false)), (.un .not (.t 17))⟩, ⟨(some 19), none, (.pick (.t 15) (.c (.bool true)) (.t 18))⟩]) (.cond (.t 19) (.seq (.reg [⟨(some 6), none, (.mov (.c (.bool false)))⟩]) .ret) .skip)) (.seq (.seq (.reg [⟨(some 20), none, (.mov (.t 0))⟩, ⟨(some 21), none, (.len (.t 20))⟩, ⟨(some 22), none, (.bin false .gtr (.t 21) (.c (.int .i64 0)))⟩, ⟨(some 23), none, (.mov (.t 22))⟩, ⟨(some 24), (some (23, true)), (.mov (.t 0))⟩, ⟨(some 25), (some (23, true)), (.idx 1 (.t 24) (.c (.int .i64 0)))⟩, ⟨(some 26), (some (23, true)), (.ld none .nil (.t 25))⟩, ⟨(some 27), (some (23, true)), (.len (.t 26))⟩, ⟨(some 28), (some (23, true)), (.mov (.t 1))⟩, ⟨(some 29), (some (23, true)), (.bin false .gtr (.t 27) (.t 28))⟩, ⟨(some 30), none, (.pick (.t 23) (.t 29) (.c (.bool false)))⟩]) (.cond (.t 30) (.seq (.reg [⟨(some 6), none, (.mov (.c (.bool false)))⟩]) .ret) .skip)) (.seq (.seq (.reg [⟨(some 31), none, (.mov (.t 0))⟩, ⟨(some 32), none, (.len (.t 31))⟩, ⟨(some 33), none, (.mov (.c (.int .i64 0)))⟩]) (.block 0 (.loop sc_i_isSmallMatrix_L0))) (.seq (.reg [⟨(some 6), none, (.mov (.c (.bool true)))⟩]) .ret)))))
theorem code_i_isSmallMatrix : fnCode Tryd.prog [] 66 = some (54, sc_i_isSmallMatrix, [(6, none)]) := by kernel_rfl
def smlM (m l : Int) (M : List (List Int)) : Prop := (M.length : Int) ≤ m ∧ rect (wdM M) M ∧ (0 < M.length → (wdM M : Int) ≤ m) ∧ ∀ i j, i < M.length → j < wdM M → -l ≤ ent M i j ∧ ent M i j ≤ l
noncomputable def F_i_isSmallMatrix : List V → Option V := F3 dLL dI dI fun M m l => @ite _ (0 ≤ l ∧ l ≤ 1000 ∧ m ≤ 1000) (Classical.propDecidable _) (some (.bool (dec (smlM m l M)))) none
theorem fn_i_isSmallMatrix : FnOk Tryd.prog 66 F_i_isSmallMatrix := by
  have env := (envNil_ok (P := Tryd.prog)).add fn_i_sameLengths
  refine fn_ok code_i_isSmallMatrix mixed env ?_
  intro args r h hb
  obtain ⟨_, _, _, M, m, l, rfl, h1, h2, h3, h4⟩ := F3_inv h
  cases dLL_inv h1
  cases dI_inv h2
  cases dI_inv h3
  simp only [Option.ite_none_right_eq_some, Option.some.injEq] at h4
  obtain ⟨⟨hl0, hl1, hm1⟩, rfl⟩ := h4
  clear h h1 h2 h3
  refine ⟨by simp, fun w0 U0 L0 N0 => ?_⟩
  clear hb
  generalize hv : dec (smlM m l M) = v
  by_cases hml : m < (M.length : Int)
  · have hv1 : v = false := hv ▸ dec_false fun h => by have := h.1; omega
    simp -implicitDefEqProofs [sc_i_isSmallMatrix, hml, hv1]
  have hS : F_i_sameLengths [.list 1 (rowsL M)] = some (.bool (dec (rect (wdM M) M))) := by simp only [F_i_sameLengths, F1_mk, dLL_list, Option.bind_some]
  by_cases hr : rect (wdM M) M
  rotate_left
  · rw [dec_false hr] at hS
    have hv1 : v = false := hv ▸ dec_false fun h => hr h.2.1
    simp -implicitDefEqProofs [sc_i_isSmallMatrix, hml, hS, hv1]
  rw [dec_true hr] at hS
  by_cases h0 : M.length = 0
  · have : M = [] := List.length_eq_zero_iff.1 h0
    subst this
    have hm0 : 0 ≤ m := by simpa using hml
    have hml' : ¬ (m < 0) := by omega
    have hS' : F_i_sameLengths [.list 1 []] = some (.bool true) := hS
    have hv1 : v = true := hv ▸ dec_true ⟨by simpa using hm0, hr, fun h => absurd h (by simp), fun i j hi => absurd hi (by simp)⟩
    simp -implicitDefEqProofs [sc_i_isSmallMatrix, hm0, hml', hS', hv1]
    refine loopI env mixed (fun _ : Unit => [(2, .int .i64 l), (31, .list 1 (rowsL [])), (32, .int .i64 0), (33, .int .i64 0)]) (fun _ => ([], 0)) (fun _ => True) (fun _ => 0) () trivial (SubI.slots rfl (by simp)) ?_
    intro _ _
    simp -implicitDefEqProofs [sc_i_isSmallMatrix_L0]
  have hpos : 0 < M.length := by omega
  have hd0 : (rowsL M)[0]?.getD .nil = .list 1 (ints (atR M 0)) := by
    have := rowsL_drop0 hpos .nil
    rwa [List.drop_zero] at this
  have hw0 : (atR M 0).length = wdM M := rfl
  by_cases hwm : m < (wdM M : Int)
  · have hv1 : v = false := hv ▸ dec_false fun h => by have := h.2.2.1 hpos; omega
    simp -implicitDefEqProofs [sc_i_isSmallMatrix, hml, hS, hv1, hpos, hd0, hw0, hwm]
    try omega
  have hneg : IntKind.i64.wrap (-l) = -l := wrapI _ (by omega) (by omega)
  simp -implicitDefEqProofs [sc_i_isSmallMatrix, hml, hS, hpos, hd0, hw0, hwm]
  refine loopI env mixed (fun i : Nat => [(2, .int .i64 l), (31, .list 1 (rowsL M)), (32, .int .i64 (M.length : Int)), (33, .int .i64 (i : Int))]) (fun _ => ([], 0)) (fun i => i ≤ M.length ∧ ∀ a, a < i → ∀ j, j < wdM M → -l ≤ ent M a j ∧ ent M a j ≤ l) (fun i => M.length - i) 0 (by simp) (SubI.slots rfl (by simp)) ?_
  rintro i ⟨hi, hI⟩
  by_cases hlt : i < M.length
  · have hri := hr i hlt
    simp -implicitDefEqProofs [sc_i_isSmallMatrix_L0, hlt, rowsL_dR hlt, hri]
    repeat' (first | omega | apply And.intro)
    refine loopQ env mixed (fun j : Nat => [(2, .int .i64 l), (31, .list 1 (rowsL M)), (32, .int .i64 (M.length : Int)), (33, .int .i64 (i : Int)), (37, .list 1 (ints (atR M i))), (38, .int .i64 (wdM M : Nat)), (39, .int .i64 (j : Int))]) (fun _ => ([], 0)) (fun j => j ≤ wdM M ∧ ∀ b, b < j → -l ≤ ent M i b ∧ ent M i b ≤ l) (fun j => wdM M - j) 0 (by simp) (SubI.slots rfl (by simp [hri])) ?_
    rintro j ⟨hj, hJ⟩
    by_cases hlt2 : j < wdM M
    · have he : at0 (atR M i) j = ent M i j := rfl
      by_cases c1 : ent M i j < -l
      · have hv1 : v = false := hv ▸ dec_false fun h => by have := (h.2.2.2 i j hlt hlt2).1; omega
        simp -implicitDefEqProofs [sc_i_isSmallMatrix_L2, hlt2, hri, he, hneg, c1, hv1]
        refine ⟨by omega, ?_⟩
        refine SubQ.of (l1 := [(6, .bool false)]) (SubI.slots rfl (by simp)) ?_
        simp -implicitDefEqProofs
      by_cases c2 : l < ent M i j
      · have hv1 : v = false := hv ▸ dec_false fun h => by have := (h.2.2.2 i j hlt hlt2).2; omega
        simp -implicitDefEqProofs [sc_i_isSmallMatrix_L2, hlt2, hri, he, hneg, c1, c2, hv1]
        refine ⟨by omega, ?_⟩
        refine SubQ.of (l1 := [(6, .bool false)]) (SubI.slots rfl (by simp)) ?_
        simp -implicitDefEqProofs
      simp -implicitDefEqProofs [sc_i_isSmallMatrix_L2, hlt2, hri, he, hneg, c1, c2]
      repeat' (first | omega | apply And.intro)
      refine Again.of (j + 1) ⟨by omega, fun b hb => ?_⟩ (by omega) (SubI.slots rfl (by simp (disch := omega) [wrapI]))
      rcases Nat.lt_succ_iff_lt_or_eq.1 hb with h1 | rfl
      · exact hJ b h1
      · exact ⟨by omega, by omega⟩
    · simp -implicitDefEqProofs [sc_i_isSmallMatrix_L2, hlt2]
      refine SubQ.of (l1 := [(2, .int .i64 l), (31, .list 1 (rowsL M)), (32, .int .i64 (M.length : Int)), (33, .int .i64 (i : Int))]) (SubI.slots rfl (by simp)) ?_
      simp -implicitDefEqProofs
      refine Again.of (i + 1) ⟨by omega, fun a ha j hj => ?_⟩ (by omega) (SubI.slots rfl (by simp (disch := omega) [wrapI]))
      rcases Nat.lt_succ_iff_lt_or_eq.1 ha with h1 | rfl
      · exact hI a h1 j hj
      · exact hJ j (by omega)
  · have hv1 : v = true := hv ▸ dec_true ⟨by omega, hr, fun _ => by omega, fun a j ha hj => hI a (by omega) j hj⟩
    simp -implicitDefEqProofs [sc_i_isSmallMatrix_L0, hlt, hv1]
def sc_i_fitsSmith_L2 : SC := (.seq (.reg [⟨(some 22), none, (.bin false .lss (.t 21) (.t 20))⟩]) (.seq (.cond (.t 22) .skip (.exit 2)) (.seq (.block 3 (.seq (.reg [⟨(some 23), none, (.mov (.t 21))⟩, ⟨(some 5), none, (.mov (.t 23))⟩]) (.seq (.reg [⟨(some 24), none, (.mov (.t 0))⟩, ⟨(some 25), none, (.mov (.t 5))⟩, ⟨(some 26), none, (.idx 1 (.t 24) (.t 25))⟩, ⟨(some 27), none, (.ld none .nil (.t 26))⟩, ⟨(some 28), none, (.mov (.t 3))⟩, ⟨(some 29), none, (.idx 1 (.t 27) (.t 28))⟩, ⟨(some 30), none, (.ld none (.int .i64 0) (.t 29))⟩, ⟨(some 31), none, (.bin false .neq (.t 30) (.c (.int .i64 0)))⟩]) (.cond (.t 31) (.reg [⟨(some 32), none, (.mov (.t 4))⟩, ⟨(some 33), none, (.bin false .add (.t 32) (.c (.int .i64 1)))⟩, ⟨(some 4), none, (.mov (.t 33))⟩]) .skip)))) (.reg [⟨(some 34), none, (.bin false .add (.t 21) (.c (.int .i64 1)))⟩, ⟨(some 21), none, (.mov (.t 34))⟩]))))
def sc_i_fitsSmith_L0 : SC := (.seq (.reg [⟨(some 17), none, (.bin false .lss (.t 16) (.t 15))⟩]) (.seq (.cond (.t 17) .skip (.exit 0)) (.seq (.block 1 (.seq (.reg [⟨(some 18), none, (.mov (.t 16))⟩, ⟨(some 3), none, (.mov (.t 18))⟩]) (.seq (.reg [⟨(some 4), none, (.mov (.c (.int .i64 0)))⟩]) (.seq (.seq (.reg [⟨(some 19), none, (.mov (.t 0))⟩, ⟨(some 20), none, (.len (.t 19))⟩, ⟨(some 21), none, (.mov (.c (.int .i64 0)))⟩]) (.block 2 (.loop sc_i_fitsSmith_L2))) (.seq (.reg [⟨(some 35), none, (.mov (.t 4))⟩, ⟨(some 36), none, (.bin false .gtr (.t 35) (.c (.int .i64 6)))⟩]) (.cond (.t 36) (.seq (.reg [⟨(some 2), none, (.mov (.c (.bool false)))⟩]) .ret) .skip)))))) (.reg [⟨(some 37), none, (.bin false .add (.t 16) (.c (.int .i64 1)))⟩, ⟨(some 16), none, (.mov (.t 37))⟩]))))
def sc_i_fitsSmith : SC := (.seq (.reg [⟨(some 2), none, (.mov (.c (.bool false)))⟩]) (.seq (.seq (.reg [⟨(some 6), none, (.mov (.t 0))⟩, ⟨(some 7), none, (.call 66 [(.t 6), (.c (.int .i64 20)), (.c (.int .i64 1))])⟩, ⟨(some 8), none, (.un .not (.t 7))⟩]) (.cond (.t 8) (.seq (.reg [⟨(some 2), none, (.mov (.c (.bool false)))⟩]) .ret) .skip)) (.seq (.seq (.reg [⟨(some 9), none, (.mov (.t 0))⟩, ⟨(some 10), none, (.len (.t 9))⟩, ⟨(some 11), none, (.bin false .eql (.t 10) (.c (.int .i64 0)))⟩]) (.cond (.t 11) (.seq (.reg [⟨(some 2), none, (.mov (.c (.bool true)))⟩]) .ret) .skip)) (.seq (.seq (.reg [⟨(some 12), none, (.mov (.t 0))⟩, ⟨(some 13), none, (.idx 1 (.t 12) (.c (.int .i64 0)))⟩, ⟨(some 14), none, (.ld none .nil (.t 13))⟩, ⟨(some 15), none, (.len (.t 14))⟩, ⟨(some 16), none, (.mov (.c (.int .i64 0)))⟩]) (.block 0 (.loop sc_i_fitsSmith_L0))) (.seq (.reg [⟨(some 2), none, (.mov (.c (.bool true)))⟩]) .ret)))))
theorem code_i_fitsSmith : fnCode Tryd.prog [] 50 = some (38, sc_i_fitsSmith, [(2, none)]) := by kernel_rfl
/-- How many numbers of a column are not 0. -/
noncomputable def colN (f : Nat → Nat → Int) (j : Nat) : Nat → Nat
  | 0 => 0
  | n + 1 => colN f j n + @ite _ (f n j = 0) (Classical.propDecidable _) 0 1
theorem colN_le (f : Nat → Nat → Int) (j : Nat) : ∀ n, colN f j n ≤ n
  | 0 => Nat.le_refl _
  | n + 1 => by have := colN_le f j n; unfold colN; split <;> omega
def smiM (M : List (List Int)) : Prop := smlM 20 1 M ∧ ∀ j, j < wdM M → colN (ent M) j M.length ≤ 6
noncomputable def F_i_fitsSmith : List V → Option V := F1 dLL fun M => some (.bool (dec (M = [] ∨ smiM M)))
theorem fn_i_fitsSmith : FnOk Tryd.prog 50 F_i_fitsSmith := by
  have env := (envNil_ok (P := Tryd.prog)).add fn_i_isSmallMatrix
  refine fn_ok code_i_fitsSmith mixed env ?_
  intro args r h hb
  obtain ⟨_, M, rfl, h1, h4⟩ := F1_inv h
  cases dLL_inv h1
  cases h4
  clear h h1
  refine ⟨by simp, fun w0 U0 L0 N0 => ?_⟩
  clear hb
  generalize hv : dec (M = [] ∨ smiM M) = v
  have hS : F_i_isSmallMatrix [.list 1 (rowsL M), .int .i64 20, .int .i64 1] = some (.bool (dec (smlM 20 1 M))) := by
    simp only [F_i_isSmallMatrix, F3_mk, dLL_list, dI_int, Option.bind_some]
    rw [if_pos ⟨by omega, by omega, by omega⟩]
  by_cases h0 : M = []
  · have hs : smlM 20 1 [] := ⟨by simp, fun i hi => by simp at hi, fun h => by simp at h, fun i j hi => by simp at hi⟩
    rw [h0, dec_true hs] at hS
    subst h0
    have hS' : F_i_isSmallMatrix [.list 1 [], .int .i64 20, .int .i64 1] = some (.bool true) := hS
    have hv1 : v = true := hv ▸ dec_true (.inl rfl)
    simp -implicitDefEqProofs [sc_i_fitsSmith, hS', hv1]
  have hpos := List.length_pos_iff.2 h0
  by_cases hr : smlM 20 1 M
  rotate_left
  · rw [dec_false hr] at hS
    have hv1 : v = false := hv ▸ dec_false fun h => h.elim h0 fun h => hr h.1
    simp -implicitDefEqProofs [sc_i_fitsSmith, hS, hv1]
  rw [dec_true hr] at hS
  have hd0 : (rowsL M)[0]?.getD .nil = .list 1 (ints (atR M 0)) := by
    have := rowsL_drop0 hpos .nil
    rwa [List.drop_zero] at this
  have hw0 : (atR M 0).length = wdM M := rfl
  have hne : ¬ ((M.length : Int) = 0) := by omega
  have hn20 := hr.1
  have hw20 := hr.2.2.1 hpos
  simp -implicitDefEqProofs [sc_i_fitsSmith, hS, hne, h0, hpos, hd0, hw0]
  refine loopI env mixed (fun j : Nat => [(0, .list 1 (rowsL M)), (15, .int .i64 (wdM M : Nat)), (16, .int .i64 (j : Int))]) (fun _ => ([], 0)) (fun j => j ≤ wdM M ∧ ∀ b, b < j → colN (ent M) b M.length ≤ 6) (fun j => wdM M - j) 0 (by simp) (SubI.slots rfl (by simp)) ?_
  rintro j ⟨hj, hJ⟩
  by_cases hlt : j < wdM M
  · simp -implicitDefEqProofs [sc_i_fitsSmith_L0, hlt]
    refine loopQ env mixed (fun i : Nat => [(0, .list 1 (rowsL M)), (3, .int .i64 (j : Int)), (4, .int .i64 (colN (ent M) j i : Nat)), (15, .int .i64 (wdM M : Nat)), (16, .int .i64 (j : Int)), (20, .int .i64 (M.length : Int)), (21, .int .i64 (i : Int))]) (fun _ => ([], 0)) (fun i => i ≤ M.length) (fun i => M.length - i) 0 (by simp) (SubI.slots rfl (by simp [colN])) ?_
    intro i hi
    have hcb := colN_le (ent M) j i
    by_cases hlt2 : i < M.length
    · have hri := hr.2.1 i hlt2
      by_cases hz : at0 (atR M i) j = 0
      · have hc : colN (ent M) j (i + 1) = colN (ent M) j i := by
          rw [colN, if_pos (show ent M i j = 0 from hz)]; omega
        simp -implicitDefEqProofs [sc_i_fitsSmith_L2, hlt2, hlt, hri, rowsL_dR hlt2, hz]
        repeat' (first | omega | apply And.intro)
        exact Again.of (i + 1) (by omega) (by omega) (SubI.slots rfl (by simp (disch := omega) [wrapI, hc]))
      · have hc : colN (ent M) j (i + 1) = colN (ent M) j i + 1 := by
          rw [colN, if_neg (show ¬ ent M i j = 0 from hz)]
        simp -implicitDefEqProofs [sc_i_fitsSmith_L2, hlt2, hlt, hri, rowsL_dR hlt2, hz]
        repeat' (first | omega | apply And.intro)
        exact Again.of (i + 1) (by omega) (by omega) (SubI.slots rfl (by simp (disch := omega) [wrapI, hc]))
    · have : i = M.length := by omega
      subst this
      by_cases hc6 : colN (ent M) j M.length ≤ 6
      · have hc' : ¬ (6 < ((colN (ent M) j M.length : Nat) : Int)) := by omega
        simp -implicitDefEqProofs [sc_i_fitsSmith_L2, hlt2]
        refine SubQ.of (l1 := [(0, .list 1 (rowsL M)), (3, .int .i64 (j : Int)), (4, .int .i64 (colN (ent M) j M.length : Nat)), (15, .int .i64 (wdM M : Nat)), (16, .int .i64 (j : Int))]) (SubI.slots rfl (by simp)) ?_
        simp -implicitDefEqProofs [hc']
        refine Again.of (j + 1) ⟨by omega, fun b hb => ?_⟩ (by omega) (SubI.slots rfl (by simp (disch := omega) [wrapI]))
        rcases Nat.lt_succ_iff_lt_or_eq.1 hb with h1 | rfl
        · exact hJ b h1
        · exact hc6
      · have hc' : 6 < ((colN (ent M) j M.length : Nat) : Int) := by omega
        have hv1 : v = false := hv ▸ dec_false fun h => h.elim h0 fun h => hc6 (h.2 j hlt)
        simp -implicitDefEqProofs [sc_i_fitsSmith_L2, hlt2]
        refine SubQ.of (l1 := [(0, .list 1 (rowsL M)), (3, .int .i64 (j : Int)), (4, .int .i64 (colN (ent M) j M.length : Nat)), (15, .int .i64 (wdM M : Nat)), (16, .int .i64 (j : Int))]) (SubI.slots rfl (by simp)) ?_
        simp -implicitDefEqProofs [hc', hv1]
  · have hv1 : v = true := hv ▸ dec_true (.inr ⟨hr, fun b hb => hJ b (by omega)⟩)
    simp -implicitDefEqProofs [sc_i_fitsSmith_L0, hlt, hv1]
def sc_s_l15Thin_L2 : SC := (.seq (.seq (.reg [⟨(some 14), none, (.mov (.t 5))⟩, ⟨(some 15), none, (.mov (.t 0))⟩, ⟨(some 16), none, (.len (.t 15))⟩, ⟨(some 17), none, (.bin false .lss (.t 14) (.t 16))⟩]) (.cond (.t 17) .skip (.exit 2))) (.seq (.block 3 (.reg [⟨(some 20), none, (.mov (.t 4))⟩, ⟨(some 21), none, (.mov (.t 0))⟩, ⟨(some 22), none, (.mov (.t 5))⟩, ⟨(some 23), none, (.idx 1 (.t 21) (.t 22))⟩, ⟨(some 24), none, (.ld none .nil (.t 23))⟩, ⟨(some 25), none, (.mov (.t 3))⟩, ⟨(some 26), none, (.idx 1 (.t 24) (.t 25))⟩, ⟨(some 27), none, (.ld none (.int .i64 0) (.t 26))⟩, ⟨(some 28), none, (.call 60 [(.t 27)])⟩, ⟨(some 29), none, (.bin false .add (.t 20) (.t 28))⟩, ⟨(some 4), none, (.mov (.t 29))⟩])) (.reg [⟨(some 18), none, (.mov (.t 5))⟩, ⟨(some 19), none, (.bin false .add (.t 18) (.c (.int .i64 1)))⟩, ⟨(some 5), none, (.mov (.t 19))⟩])))
def sc_s_l15Thin_L0 : SC := (.seq (.seq (.reg [⟨(some 6), none, (.mov (.t 3))⟩, ⟨(some 7), none, (.mov (.t 0))⟩, ⟨(some 8), none, (.idx 1 (.t 7) (.c (.int .i64 0)))⟩, ⟨(some 9), none, (.ld none .nil (.t 8))⟩, ⟨(some 10), none, (.len (.t 9))⟩, ⟨(some 11), none, (.bin false .lss (.t 6) (.t 10))⟩]) (.cond (.t 11) .skip (.exit 0))) (.seq (.block 1 (.seq (.reg [⟨(some 4), none, (.mov (.c (.int .i64 0)))⟩]) (.seq (.seq (.reg [⟨(some 5), none, (.mov (.c (.int .i64 0)))⟩]) (.block 2 (.loop sc_s_l15Thin_L2))) (.seq (.reg [⟨(some 30), none, (.mov (.t 4))⟩, ⟨(some 31), none, (.bin false .gtr (.t 30) (.c (.int .i64 6)))⟩]) (.cond (.t 31) (.seq (.reg [⟨(some 2), none, (.mov (.c (.bool false)))⟩]) .ret) .skip))))) (.reg [⟨(some 12), none, (.mov (.t 3))⟩, ⟨(some 13), none, (.bin false .add (.t 12) (.c (.int .i64 1)))⟩, ⟨(some 3), none, (.mov (.t 13))⟩])))
def sc_s_l15Thin : SC := (.seq (.reg [⟨(some 2), none, (.mov (.c (.bool false)))⟩]) (.seq (.seq (.reg [⟨(some 3), none, (.mov (.c (.int .i64 0)))⟩]) (.block 0 (.loop sc_s_l15Thin_L0))) (.seq (.reg [⟨(some 2), none, (.mov (.c (.bool true)))⟩]) .ret)))
theorem code_s_l15Thin : fnCode Tryd.prog [] 40 = some (32, sc_s_l15Thin, [(2, none)]) := by kernel_rfl
noncomputable def F_s_l15Thin : List V → Option V := F1 dLL fun M => @ite _ (0 < M.length ∧ smlM 20 1 M) (Classical.propDecidable _) (some (.bool (dec (smiM M)))) none
theorem fn_s_l15Thin : FnOk Tryd.prog 40 F_s_l15Thin := by
  have env := (envNil_ok (P := Tryd.prog)).add fn_s_l15Abs
  refine fn_ok code_s_l15Thin mixed env ?_
  intro args r h hb
  obtain ⟨_, M, rfl, h1, h4⟩ := F1_inv h
  cases dLL_inv h1
  simp only [Option.ite_none_right_eq_some, Option.some.injEq] at h4
  obtain ⟨⟨hpos, hr⟩, rfl⟩ := h4
  clear h h1
  refine ⟨by simp, fun w0 U0 L0 N0 => ?_⟩
  clear hb
  generalize hv : dec (smiM M) = v
  have hd0 : (rowsL M)[0]?.getD .nil = .list 1 (ints (atR M 0)) := by
    have := rowsL_drop0 hpos .nil
    rwa [List.drop_zero] at this
  have hw0 : (atR M 0).length = wdM M := rfl
  have hn20 := hr.1
  have hw20 := hr.2.2.1 hpos
  simp -implicitDefEqProofs [sc_s_l15Thin]
  refine loopI env mixed (fun j : Nat => [(0, .list 1 (rowsL M)), (3, .int .i64 (j : Int))]) (fun _ => ([], 0)) (fun j => j ≤ wdM M ∧ ∀ b, b < j → colN (ent M) b M.length ≤ 6) (fun j => wdM M - j) 0 (by simp) (SubI.slots rfl (by simp)) ?_
  rintro j ⟨hj, hJ⟩
  by_cases hlt : j < wdM M
  · simp -implicitDefEqProofs [sc_s_l15Thin_L0, hlt, hpos, hd0, hw0]
    refine loopQ env mixed (fun i : Nat => [(0, .list 1 (rowsL M)), (3, .int .i64 (j : Int)), (4, .int .i64 (colN (ent M) j i : Nat)), (5, .int .i64 (i : Int))]) (fun _ => ([], 0)) (fun i => i ≤ M.length) (fun i => M.length - i) 0 (by simp) (SubI.slots rfl (by simp [colN])) ?_
    intro i hi
    have hcb := colN_le (ent M) j i
    by_cases hlt2 : i < M.length
    · have hri := hr.2.1 i hlt2
      obtain ⟨b1, b2⟩ := hr.2.2.2 i j hlt2 hlt
      have hc : ((colN (ent M) j (i + 1) : Nat) : Int) = (colN (ent M) j i : Nat) + ((at0 (atR M i) j).natAbs : Nat) := by
        unfold ent at b1 b2
        rw [colN]
        by_cases hz : at0 (atR M i) j = 0
        · rw [if_pos (show ent M i j = 0 from hz)]; omega
        · rw [if_neg (show ¬ ent M i j = 0 from hz)]; omega
      have hA : F_s_l15Abs [.int .i64 (at0 (atR M i) j)] = some (.int .i64 (((at0 (atR M i) j).natAbs : Nat) : Int)) := by
        unfold ent at b1 b2
        simp only [F_s_l15Abs, F1_mk, dI_int, Option.bind_some]
        rw [if_pos ⟨by omega, by omega⟩]
      have hab : (((at0 (atR M i) j).natAbs : Nat) : Int) ≤ 1 := by unfold ent at b1 b2; omega
      have hab0 : 0 ≤ (((at0 (atR M i) j).natAbs : Nat) : Int) := by omega
      generalize (((at0 (atR M i) j).natAbs : Nat) : Int) = z at *
      simp -implicitDefEqProofs [sc_s_l15Thin_L2, hlt2, hlt, hri, rowsL_dR hlt2, hA]
      repeat' (first | omega | apply And.intro)
      exact Again.of (i + 1) (by omega) (by omega) (SubI.slots rfl (by simp (disch := omega) [wrapI, hc]))
    · have : i = M.length := by omega
      subst this
      by_cases hc6 : colN (ent M) j M.length ≤ 6
      · have hc' : ¬ (6 < ((colN (ent M) j M.length : Nat) : Int)) := by omega
        simp -implicitDefEqProofs [sc_s_l15Thin_L2, hlt2]
        refine SubQ.of (l1 := [(0, .list 1 (rowsL M)), (3, .int .i64 (j : Int)), (4, .int .i64 (colN (ent M) j M.length : Nat))]) (SubI.slots rfl (by simp)) ?_
        simp -implicitDefEqProofs [hc']
        refine Again.of (j + 1) ⟨by omega, fun b hb => ?_⟩ (by omega) (SubI.slots rfl (by simp (disch := omega) [wrapI]))
        rcases Nat.lt_succ_iff_lt_or_eq.1 hb with h1 | rfl
        · exact hJ b h1
        · exact hc6
      · have hc' : 6 < ((colN (ent M) j M.length : Nat) : Int) := by omega
        have hv1 : v = false := hv ▸ dec_false fun h => hc6 (h.2 j hlt)
        simp -implicitDefEqProofs [sc_s_l15Thin_L2, hlt2]
        refine SubQ.of (l1 := [(0, .list 1 (rowsL M)), (3, .int .i64 (j : Int)), (4, .int .i64 (colN (ent M) j M.length : Nat))]) (SubI.slots rfl (by simp)) ?_
        simp -implicitDefEqProofs [hc', hv1]
  · have hv1 : v = true := hv ▸ dec_true ⟨hr, fun b hb => hJ b (by omega)⟩
    simp -implicitDefEqProofs [sc_s_l15Thin_L0, hlt, hv1, hpos, hd0, hw0]
end Go.Proofs.YtkoljbncokmeaaaDoor
namespace Go.Proofs.YtkoljbncokmeaaaDoor
open Go Go.RowKit
set_option maxRecDepth 1000000
set_option linter.unusedSimpArgs false
set_option linter.unusedVariables false
set_option maxHeartbeats 1000000
def sc_i_SmithOf : SC := (.seq (.reg [⟨(some 2), none, (.mov (.c .nil))⟩]) (.seq (.seq (.reg [⟨(some 5), none, (.mov (.t 0))⟩, ⟨(some 6), none, (.call 50 [(.t 5)])⟩, ⟨(some 7), none, (.un .not (.t 6))⟩]) (.cond (.t 7) (.seq (.reg [⟨(some 2), none, (.mov (.c .nil))⟩]) .ret) .skip)) (.seq (.reg [⟨(some 9), none, (.mov (.t 0))⟩, ⟨(some 10), none, (.call 51 [(.t 9)])⟩, ⟨(some 8), none, (.mov (.t 10))⟩, ⟨(some 11), none, (.ext 0 (.t 8))⟩, ⟨(some 12), none, (.ext 1 (.t 8))⟩, ⟨(some 3), none, (.mov (.t 11))⟩, ⟨(some 4), none, (.mov (.t 12))⟩]) (.seq (.seq (.reg [⟨(some 13), none, (.mov (.t 3))⟩, ⟨(some 14), none, (.bin false .eql (.t 13) (.c (.int .i64 0)))⟩]) (.cond (.t 14) (.seq (.reg [⟨(some 2), none, (.mov (.c .nil))⟩]) .ret) .skip)) (.seq (.reg [⟨(some 15), none, (.mov (.t 0))⟩, ⟨(some 16), none, (.mov (.t 3))⟩, ⟨(some 17), none, (.mov (.t 4))⟩, ⟨(some 18), none, (.call 52 [(.t 15), (.t 16), (.t 17)])⟩, ⟨(some 2), none, (.mov (.t 18))⟩]) .ret)))))
theorem code_i_SmithOf : fnCode Tryd.prog [] 31 = some (19, sc_i_SmithOf, [(2, none)]) := by kernel_rfl
open Classical in
noncomputable def smiW (M : List (List Int)) (x : Int × Int) : Option (List Int) :=
  if x.1 = 0 then some [] else if 1 ≤ x.1 ∧ x.1 ≤ (min M.length (wdM M) : Nat) ∧ x.2 ≠ 0 ∧ x.2.natAbs ≤ 1073741824 then (dmV (x.2.natAbs : Nat) M.length (wdM M) fun a b => ent M a b % (x.2.natAbs : Nat)).map fun F => (bub (dg0 (x.2.natAbs : Nat) (min M.length (wdM M)) F)).take x.1.toNat else none
open Classical in
noncomputable def smiV (M : List (List Int)) : Option (List Int) := if M = [] ∨ smiM M then (bareR M.length (wdM M) (M.length + 1) (ent M) 0 1).bind (smiW M) else some []
theorem smiM_dim {M : List (List Int)} (h : smiM M) : dimM M ∧ bdE 1073741824 M.length (wdM M) (ent M) := by
  obtain ⟨⟨h1, h2, h3, h4⟩, _⟩ := h
  refine ⟨⟨h2, by omega, ?_⟩, fun i j hi hj => by have := h4 i j hi hj; omega⟩
  by_cases h0 : 0 < M.length
  · have := h3 h0; omega
  · have : M = [] := List.length_eq_zero_iff.1 (by omega)
    rw [this]
    show ([] : List Int).length ≤ 64
    simp
theorem nil_dim : dimM ([] : List (List Int)) ∧ bdE 1073741824 ([] : List (List Int)).length (wdM []) (ent []) := ⟨⟨fun i hi => by simp at hi, by simp, by show ([] : List Int).length ≤ 64; simp⟩, fun i j hi => by simp at hi⟩
noncomputable def F_i_SmithOf : List V → Option V := F1 dLL fun M => (smiV M).map fun R => .own 1 (ints R)
theorem fn_i_SmithOf : FnOk Tryd.prog 31 F_i_SmithOf := by
  have env := (((envNil_ok (P := Tryd.prog)).add fn_i_fitsSmith).add fn_i_rankAndMinor).add fn_i_divisorsMod
  refine fn_ok code_i_SmithOf mixed env ?_
  intro args r0 h hb
  obtain ⟨_, M, rfl, h1, h4⟩ := F1_inv h
  cases dLL_inv h1
  simp only [Option.map_eq_some_iff] at h4
  obtain ⟨R, hR, rfl⟩ := h4
  clear h h1 hb
  refine ⟨by simp, fun w0 U0 L0 N0 => ?_⟩
  have hF1 : F_i_fitsSmith [.list 1 (rowsL M)] = some (.bool (dec (M = [] ∨ smiM M))) := by simp only [F_i_fitsSmith, F1_mk, dLL_list, Option.bind_some]
  unfold smiV at hR
  by_cases hc : M = [] ∨ smiM M
  rotate_left
  · rw [if_neg hc] at hR
    simp only [Option.some.injEq] at hR
    subst hR
    rw [dec_false hc] at hF1
    simp -implicitDefEqProofs [sc_i_SmithOf, hF1]
  rw [if_pos hc] at hR
  rw [dec_true hc] at hF1
  have hd : dimM M ∧ bdE 1073741824 M.length (wdM M) (ent M) := by
    rcases hc with h | h
    · rw [h]; exact nil_dim
    · exact smiM_dim h
  obtain ⟨⟨rk, l⟩, hB, hW⟩ := Option.bind_eq_some_iff.1 hR
  have hF2 : F_i_rankAndMinor [.list 1 (rowsL M)] = some (.tup [.int .i64 rk, .int .i64 (l.natAbs : Nat)]) := by
    simp only [F_i_rankAndMinor, F1_mk, dLL_list, Option.bind_some]
    rw [if_pos hd, hB]
    rfl
  unfold smiW at hW
  simp only at hW
  by_cases h0 : rk = 0
  · rw [if_pos h0] at hW
    simp only [Option.some.injEq] at hW
    subst hW
    subst h0
    generalize ((l.natAbs : Nat) : Int) = t at *
    simp -implicitDefEqProofs [sc_i_SmithOf, hF1, hF2]
  rw [if_neg h0] at hW
  split at hW
  rotate_left
  · cases hW
  rename_i hcc
  obtain ⟨c1, c2, c3, c4⟩ := hcc
  obtain ⟨F, hF, hFR⟩ := Option.map_eq_some_iff.1 hW
  have hpos : 0 < M.length := by
    refine Nat.pos_of_ne_zero fun h => ?_
    rw [h] at c2
    omega
  have hF3 : F_i_divisorsMod [.list 1 (rowsL M), .int .i64 rk, .int .i64 (l.natAbs : Nat)] = some (.own 1 (ints R)) := by
    simp only [F_i_divisorsMod, F3_mk, dLL_list, dI_int, Option.bind_some]
    rw [if_pos ⟨hd.1, hpos, hd.2, by omega, by omega, by omega, c2⟩, hF]
    show some (V.own 1 (ints _)) = _
    rw [hFR]
  generalize ((l.natAbs : Nat) : Int) = t at *
  simp -implicitDefEqProofs [sc_i_SmithOf, hF1, hF2, h0, hF3]
def sc_s_SmithOf_L2 : SC := (.seq (.seq (.reg [⟨(some 30), none, (.mov (.t 4))⟩, ⟨(some 31), none, (.mov (.t 0))⟩, ⟨(some 32), none, (.mov (.t 3))⟩, ⟨(some 33), none, (.idx 1 (.t 31) (.t 32))⟩, ⟨(some 34), none, (.ld none .nil (.t 33))⟩, ⟨(some 35), none, (.len (.t 34))⟩, ⟨(some 36), none, (.bin false .lss (.t 30) (.t 35))⟩]) (.cond (.t 36) .skip (.exit 2))) (.seq (.block 3 (.seq (.reg [⟨(some 39), none, (.mov (.t 0))⟩, ⟨(some 40), none, (.mov (.t 3))⟩, ⟨(some 41), none, (.idx 1 (.t 39) (.t 40))⟩, ⟨(some 42), none, (.ld none .nil (.t 41))⟩, ⟨(some 43), none, (.mov (.t 4))⟩, ⟨(some 44), none, (.idx 1 (.t 42) (.t 43))⟩, ⟨(some 45), none, (.ld none (.int .i64 0) (.t 44))⟩, ⟨(some 46), none, (.call 24 [(.t 45), (.c (.int .i64 (-1))), (.c (.int .i64 1))])⟩, ⟨(some 47), none, (.un .not (.t 46))⟩]) (.cond (.t 47) (.seq (.reg [⟨(some 48), none, (.mks 0 1 [] [])⟩, ⟨(some 2), none, (.mov (.t 48))⟩]) .ret) .skip))) (.reg [⟨(some 37), none, (.mov (.t 4))⟩, ⟨(some 38), none, (.bin false .add (.t 37) (.c (.int .i64 1)))⟩, ⟨(some 4), none, (.mov (.t 38))⟩])))
def sc_s_SmithOf_L0 : SC := (.seq (.seq (.reg [⟨(some 5), none, (.mov (.t 3))⟩, ⟨(some 6), none, (.mov (.t 0))⟩, ⟨(some 7), none, (.len (.t 6))⟩, ⟨(some 8), none, (.bin false .lss (.t 5) (.t 7))⟩]) (.cond (.t 8) .skip (.exit 0))) (.seq (.block 1 (.seq (.seq (.dreg [⟨⟨(some 11), none, (.mov (.t 0))⟩, false, false⟩, ⟨⟨(some 12), none, (.mov (.t 3))⟩, false, false⟩, ⟨⟨(some 13), none, (.idx 1 (.t 11) (.t 12))⟩, false, false⟩, ⟨⟨(some 14), none, (.ld none .nil (.t 13))⟩, false, false⟩, ⟨⟨(some 15), none, (.len (.t 14))⟩, false, false⟩, ⟨⟨(some 16), none, (.mov (.t 0))⟩, false, false⟩, ⟨⟨(some 17), none, (.idx 1 (.t 16) (.c (.int .i64 0)))⟩, false, false⟩, ⟨⟨(some 18), none, (.ld none .nil (.t 17))⟩, false, false⟩, ⟨⟨(some 19), none, (.len (.t 18))⟩, false, false⟩, ⟨⟨(some 20), none, (.bin false .neq (.t 15) (.t 19))⟩, false, false⟩, ⟨⟨(some 21), none, (.mov (.t 20))⟩, false, false⟩, ⟨⟨(some 22), (some (21, false)), (.mov (.t 0))⟩, false, false⟩, ⟨⟨(some 23), (some (21, false)), (.mov (.t 3))⟩, false, false⟩, ⟨⟨(some 24), (some (21, false)), (.idx 1 (.t 22) (.t 23))⟩, false, false⟩, ⟨⟨(some 25), (some (21, false)), (.ld none .nil (.t 24))⟩, false, false⟩, ⟨⟨(some 26), (some (21, false)), (.len (.t 25))⟩, false, false⟩, ⟨⟨(some 27), (some (21, false)), (.bin false .gtr (.t 26) (.c (.int .i64 20)))⟩, false, false⟩, ⟨⟨(some 28), none, (.pick (.t 21) (.c (.bool true)) (.t 27))⟩, false, false⟩]) (.cond (.t 28) (.seq (.reg [⟨(some 29), none, (.mks 0 1 [] [])⟩, ⟨(some 2), none, (.mov (.t 29))⟩]) .ret) .skip)) (.seq (.reg [⟨(some 4), none, (.mov (.c (.int .i64 0)))⟩]) (.block 2 (.loop sc_s_SmithOf_L2))))) (.reg [⟨(some 9), none, (.mov (.t 3))⟩, ⟨(some 10), none, (.bin false .add (.t 9) (.c (.int .i64 1)))⟩, ⟨(some 3), none, (.mov (.t 10))⟩])))
def sc_s_SmithOf : SC := (.seq (.reg [⟨(some 2), none, (.mov (.c .nil))⟩]) (.seq (.seq (.reg [⟨(some 3), none, (.mov (.c (.int .i64 0)))⟩]) (.block 0 (.loop sc_s_SmithOf_L0))) (.seq (.seq (.reg [⟨(some 49), none, (.mov (.t 0))⟩, ⟨(some 50), none, (.len (.t 49))⟩, ⟨(some 51), none, (.bin false .gtr (.t 50) (.c (.int .i64 20)))⟩, ⟨(some 52), none, (.mov (.t 51))⟩, ⟨(some 53), (some (52, false)), (.mov (.t 0))⟩, ⟨(some 54), (some (52, false)), (.len (.t 53))⟩, ⟨(some 55), (some (52, false)), (.bin false .eql (.t 54) (.c (.int .i64 0)))⟩, ⟨(some 56), none, (.pick (.t 52) (.c (.bool true)) (.t 55))⟩, ⟨(some 57), none, (.mov (.t 56))⟩, ⟨(some 58), (some (57, false)), (.mov (.t 0))⟩, ⟨(some 59), (some (57, false)), (.call 40 [(.t 58)])⟩, ⟨(some 60), (some (57, false)), (.un .not (.t 59))⟩, ⟨(some 61), none, (.pick (.t 57) (.c (.bool true)) (.t 60))⟩]) (.cond (.t 61) (.seq (.reg [⟨(some 62), none, (.mks 0 1 [] [])⟩, ⟨(some 2), none, (.mov (.t 62))⟩]) .ret) .skip)) (.seq (.reg [⟨(some 63), none, (.mov (.t 0))⟩, ⟨(some 64), none, (.call 41 [(.t 63)])⟩, ⟨(some 2), none, (.mov (.t 64))⟩]) .ret))))
theorem code_s_SmithOf : fnCode Tryd.prog [] 26 = some (65, sc_s_SmithOf, [(2, none)]) := by kernel_rfl
open Classical in
noncomputable def smsV (M : List (List Int)) : Option (List Int) := if M ≠ [] ∧ smiM M then smV M.length (wdM M) (ent M) else some []
noncomputable def F_s_SmithOf : List V → Option V := F1 dLL fun M => (smsV M).map fun R => .own 1 (ints R)
theorem fn_s_SmithOf : FnOk Tryd.prog 26 F_s_SmithOf := by
  have env := (((envNil_ok (P := Tryd.prog)).add fn_s_l1In).add fn_s_l15Thin).add fn_s_l15Smith
  refine fn_ok code_s_SmithOf mixed env ?_
  intro args r0 h hb
  obtain ⟨_, M, rfl, h1, h4⟩ := F1_inv h
  cases dLL_inv h1
  simp only [Option.map_eq_some_iff] at h4
  obtain ⟨R, hR, rfl⟩ := h4
  clear h h1
  have hla : M.length ≤ 9223372036854775807 := by simpa using (hb (.list 1 (rowsL M)) (by simp)).1
  clear hb
  refine ⟨by simp, fun w0 U0 L0 N0 => ?_⟩
  have hno : ¬ smlM 20 1 M → R = [] := fun h => by
    unfold smsV at hR
    rw [if_neg fun hh => h hh.2.1] at hR
    simpa using hR.symm
  simp -implicitDefEqProofs [sc_s_SmithOf]
  refine loopI env mixed (fun i : Nat => [(0, .list 1 (rowsL M)), (3, .int .i64 (i : Int))]) (fun _ => ([], 0)) (fun i => i ≤ M.length ∧ ∀ a, a < i → (atR M a).length = wdM M ∧ wdM M ≤ 20 ∧ ∀ j, j < wdM M → -1 ≤ ent M a j ∧ ent M a j ≤ 1) (fun i => M.length - i) 0 (by simp) (SubI.slots rfl (by simp)) ?_
  rintro i ⟨hi, hI⟩
  by_cases hlt : i < M.length
  · have hpos : 0 < M.length := by omega
    have hd0 : (rowsL M)[0]?.getD .nil = .list 1 (ints (atR M 0)) := by
      have := rowsL_drop0 hpos .nil
      rwa [List.drop_zero] at this
    by_cases hri : (atR M i).length = wdM M
    rotate_left
    · have hv := hno fun h => hri (h.2.1 i hlt)
      subst hv
      have hri' : ¬ (((atR M i).length : Int) = ((atR M 0).length : Int)) := by
        unfold wdM at hri
        omega
      have hri2 : ¬ ((atR M i).length = (atR M 0).length) := hri
      simp -implicitDefEqProofs [sc_s_SmithOf_L0, freeOk, hlt, hpos, hd0, rowsL_dR hlt, hri', hri2, fz, noname, dr, nolist]
      try omega
    by_cases hw20 : wdM M ≤ 20
    rotate_left
    · have hv := hno fun h => by have := h.2.2.1 hpos; omega
      subst hv
      have hw' : 20 < ((atR M 0).length : Int) := by unfold wdM at hw20; omega
      unfold wdM at hri
      simp -implicitDefEqProofs [sc_s_SmithOf_L0, freeOk, hlt, hpos, hd0, rowsL_dR hlt, hri, hw', fz, noname, dr, nolist]
      try omega
    have hw' : ¬ (20 < ((atR M 0).length : Int)) := by unfold wdM at hw20; omega
    have hri0 : (atR M i).length = (atR M 0).length := hri
    simp -implicitDefEqProofs [sc_s_SmithOf_L0, freeOk, hlt, hpos, hd0, rowsL_dR hlt, hri0, hw', fz, noname, dr, nolist]
    repeat' (first | omega | apply And.intro)
    refine loopQ env mixed (fun j : Nat => [(0, .list 1 (rowsL M)), (3, .int .i64 (i : Int)), (4, .int .i64 (j : Int))]) (fun _ => ([], 0)) (fun j => j ≤ wdM M ∧ ∀ b, b < j → -1 ≤ ent M i b ∧ ent M i b ≤ 1) (fun j => wdM M - j) 0 (by simp) (SubI.slots rfl (by simp)) ?_
    rintro j ⟨hj, hJ⟩
    by_cases hlt2 : j < wdM M
    · have hIn : F_s_l1In [.int .i64 (at0 (atR M i) j), .int .i64 (-1), .int .i64 1] = some (.bool (decide (-1 ≤ ent M i j ∧ ent M i j ≤ 1))) := by
        unfold ent
        by_cases ha : -1 ≤ at0 (atR M i) j <;> by_cases hb : at0 (atR M i) j ≤ 1 <;> simp [F_s_l1In, ha, hb]
      by_cases hc : -1 ≤ ent M i j ∧ ent M i j ≤ 1
      · rw [decide_eq_true hc] at hIn
        simp -implicitDefEqProofs [sc_s_SmithOf_L2, hlt, hri, hlt2, rowsL_dR hlt, hIn]
        repeat' (first | omega | apply And.intro)
        refine Again.of (j + 1) ⟨by omega, fun b hb => ?_⟩ (by omega) (SubI.slots rfl (by simp (disch := omega) [wrapI]))
        rcases Nat.lt_succ_iff_lt_or_eq.1 hb with h1 | rfl
        · exact hJ b h1
        · exact hc
      · rw [decide_eq_false hc] at hIn
        have hv := hno fun h => hc (h.2.2.2 i j hlt hlt2)
        subst hv
        simp -implicitDefEqProofs [sc_s_SmithOf_L2, hlt, hri, hlt2, rowsL_dR hlt, hIn]
        repeat' (first | omega | apply And.intro)
        refine SubQ.of (l1 := [(2, .sl 0 1 0 0)]) (s1 := ([(0, [])], 1)) (SubI.slots rfl (by simp)) ?_
        simp -implicitDefEqProofs
    · simp -implicitDefEqProofs [sc_s_SmithOf_L2, hlt, hri, hlt2, rowsL_dR hlt]
      repeat' (first | omega | apply And.intro)
      refine SubQ.of (l1 := [(0, .list 1 (rowsL M)), (3, .int .i64 (i : Int))]) (SubI.slots rfl (by simp)) ?_
      simp -implicitDefEqProofs
      refine Again.of (i + 1) ⟨by omega, fun a ha => ?_⟩ (by omega) (SubI.slots rfl (by simp (disch := omega) [wrapI]))
      rcases Nat.lt_succ_iff_lt_or_eq.1 ha with h1 | rfl
      · exact hI a h1
      · exact ⟨hri, hw20, fun j hj => hJ j (by omega)⟩
  · have : i = M.length := by omega
    subst this
    by_cases h20 : M.length ≤ 20
    rotate_left
    · have hv := hno fun h => by have := h.1; omega
      subst hv
      have h20' : 20 < (M.length : Int) := by omega
      simp -implicitDefEqProofs [sc_s_SmithOf_L0, h20']
    have h20' : ¬ (20 < (M.length : Int)) := by omega
    by_cases h0 : M = []
    · subst h0
      have hv : R = [] := by
        unfold smsV at hR
        rw [if_neg fun hh => hh.1 rfl] at hR
        simpa using hR.symm
      subst hv
      simp -implicitDefEqProofs [sc_s_SmithOf_L0]
    have hpos := List.length_pos_iff.2 h0
    have hne : ¬ ((M.length : Int) = 0) := by omega
    have hsm : smlM 20 1 M := ⟨by omega, fun a ha => (hI a ha).1, fun _ => by have := (hI 0 hpos).2.1; omega, fun a j ha hj => (hI a ha).2.2 j hj⟩
    have hT : F_s_l15Thin [.list 1 (rowsL M)] = some (.bool (dec (smiM M))) := by
      simp only [F_s_l15Thin, F1_mk, dLL_list, Option.bind_some]
      rw [if_pos ⟨hpos, hsm⟩]
    unfold smsV at hR
    by_cases hc : smiM M
    · rw [if_pos ⟨h0, hc⟩] at hR
      rw [dec_true hc] at hT
      have hS : F_s_l15Smith [.list 1 (rowsL M)] = some (.own 1 (ints R)) := by
        simp only [F_s_l15Smith, F1_mk, dLL_list, Option.bind_some]
        rw [if_pos (smiM_dim hc), hR]
        rfl
      simp -implicitDefEqProofs [sc_s_SmithOf_L0, h20', hne, h0, hT, hS]
    · rw [if_neg fun hh => hc hh.2] at hR
      simp only [Option.some.injEq] at hR
      subst hR
      rw [dec_false hc] at hT
      simp -implicitDefEqProofs [sc_s_SmithOf_L0, h20', hne, h0, hT]
end Go.Proofs.YtkoljbncokmeaaaDoor
namespace Go.Proofs.YtkoljbncokmeaaaDoor
open Go Go.RowKit
set_option maxRecDepth 1000000
set_option linter.unusedSimpArgs false
set_option linter.unusedVariables false
set_option maxHeartbeats 1000000
theorem dv0_iff {n w K : Nat} {t : Int} {f : Nat → Nat → Int} : dv 0 n w K t f ↔ mD t n w K f :=
  ⟨dv_mD, fun h Z => mD_congr (fun a b _ _ => by simp) h⟩
theorem prS_dvd {e : Nat → Int} : ∀ {r i : Nat}, i < r → e i ∣ prS e r
  | 0, _, h => by omega
  | r + 1, i, h => by
    by_cases hi : i = r
    · rw [hi]; exact Int.dvd_mul_left _ _
    · exact Int.dvd_trans (prS_dvd (by omega)) (Int.dvd_mul_right _ _)
theorem prS_ne {e : Nat → Int} : ∀ {r : Nat}, (∀ i, i < r → e i ≠ 0) → prS e r ≠ 0
  | 0, _ => by simp [prS]
  | r + 1, h => by
    show prS e r * e r ≠ 0
    exact Int.mul_ne_zero (prS_ne fun i hi => h i (by omega)) (h r (by omega))
/-- Both eliminations give the same divisors. -/
theorem smith_eq {T n w : Nat} {f : Nat → Nat → Int} {R : List Int} (hT : mB T n w f) (hT1 : 1 ≤ T) (hT2 : T ≤ 1073741824) (hb : bdE (T : Int) n w f) (h : smV n w f = some R) :
    ∃ l : Int, bareR n w (n + 1) f 0 1 = some ((R.length : Int), l) ∧ l ≠ 0 ∧ l.natAbs ≤ 1073741824 ∧ R.length ≤ min n w ∧ ∃ F, dmV (l.natAbs : Nat) n w (fun a b => f a b % (l.natAbs : Nat)) = some F ∧ (bub (dg0 (l.natAbs : Nat) (min n w) F)).take R.length = R := by
  obtain ⟨q, hq⟩ := smV_iff.1 h
  obtain ⟨Fs, hF, hE⟩ := smR_spec q f 0 [] R (Nat.zero_le _) (Nat.zero_le _) ⟨fun a b _ _ h => by omega, rfl, fun i hi => by omega, fun i j _ hj => by omega, fun i hi => by omega⟩ hq
  obtain ⟨r, l, hB, hrn, hrw, hl0, hlT, hvan, Rm, Cm, hRl, hCl, hRb, hCb, hmin⟩ := bare_spec hT hT2 (n + 1) 0 f 1 (Nat.zero_le _) (Nat.zero_le _) (by omega) (brI_start hb) hT1
  have E0d : ∀ a b, a < n → b < w → (fun a => if a < R.length then Fs a a else 0) a ∣ Fs a b ∧ (fun a => if a < R.length then Fs a a else 0) a ∣ 0 := fun a b ha hb2 => by
    refine ⟨?_, Int.dvd_zero _⟩
    rw [hF.d a b ha hb2]
    by_cases h1 : a = b ∧ a < R.length
    · rw [if_pos h1]; simp only [if_pos h1.2]; exact Int.dvd_refl _
    · rw [if_neg h1]; exact Int.dvd_zero _
  have hr : r = R.length := by
    rcases Nat.lt_trichotomy r R.length with h1 | h1 | h1
    · exfalso
      have h2 := (hE 0 (r + 1) 0).1 (dv0_iff.2 hvan)
      have h3 := dv_mD h2 (List.range (r + 1)) (List.range (r + 1)) List.length_range List.length_range (fun a ha => by have := List.mem_range.1 ha; have := hF.l1; omega) (fun a ha => by have := List.mem_range.1 ha; have := hF.l2; omega)
      rw [dtL_diag (d := fun a => Fs a a) List.nodup_range (fun a ha b hb2 => by
        have h4 := List.mem_range.1 ha
        have h5 := List.mem_range.1 hb2
        have h6 := hF.l1
        have h7 := hF.l2
        rw [hF.d a b (by omega) (by omega)]
        by_cases e : a = b
        · rw [if_pos ⟨e, by omega⟩, if_pos e]
        · rw [if_neg fun h => e h.1, if_neg e]), prL_range] at h3
      exact prS_ne (fun i hi => (hF.v i (by omega)).2) (Int.zero_dvd.1 h3)
    · exact h1
    · exfalso
      have h2 : pD 0 r fun a => if a < R.length then Fs a a else 0 := fun S hS hSl => by
        obtain ⟨m, hm, hkm⟩ := nodup_big hS (K := R.length) (by omega)
        rw [prL_perm (List.perm_cons_erase hm)]
        simp only [prL]
        rw [if_neg (by omega), Int.zero_mul]
        exact Int.dvd_refl _
      have h3 := dv0_iff.1 ((hE 0 r 0).2 (dv_of_pD E0d h2)) Rm Cm hRl hCl hRb hCb
      rw [Int.zero_dvd.1 h3] at hmin
      simp at hmin
      omega
  subst hr
  have ht1 : (1 : Int) ≤ (l.natAbs : Nat) := by omega
  generalize htt : ((l.natAbs : Nat) : Int) = t at *
  have hdt : ∀ i, i < R.length → Fs i i ∣ t := by
    have hch : ∀ i j, i ≤ j → (fun a => if a < R.length then Fs a a else 0) i ∣ (fun a => if a < R.length then Fs a a else 0) j := fun i j hij => by
      by_cases hj : j < R.length
      · simp only [if_pos hj, if_pos (show i < R.length by omega)]
        by_cases e : i = j
        · rw [e]; exact Int.dvd_refl _
        · exact hF.c i j (by omega) hj
      · simp only [if_neg hj]; exact Int.dvd_zero _
    have h1 := dv0_iff.1 ((hE 0 R.length _).2 (dv_of_pD E0d (chain_prod hch R.length))) Rm Cm hRl hCl hRb hCb
    have h2 : prS (fun a => if a < R.length then Fs a a else 0) R.length ∣ t := by
      rw [← htt, ← hmin]
      exact Int.dvd_natAbs.2 h1
    intro i hi
    have h3 := Int.dvd_trans (prS_dvd hi) h2
    simpa only [if_pos hi] using h3
  refine ⟨l, hB, hl0, by omega, by omega, ?_⟩
  simp only [htt]
  have hmf : modE t n w fun a b => f a b % t := fun i j _ _ => ⟨Int.emod_nonneg _ (by omega), Int.emod_lt_of_pos _ (by omega)⟩
  obtain ⟨qd, F, hdm⟩ := dm_ex ht1 _ 0 rfl _ hmf
  refine ⟨F, dmV_iff.2 ⟨qd, hdm⟩, ?_⟩
  obtain ⟨hzF, hmF, hEF⟩ := dmR_spec ht1 qd _ 0 (Nat.zero_le _) (Nat.zero_le _) (fun a b _ _ h => by omega) hmf hdm
  have hEq : ∀ (K : Nat) (s : Int), dv t n w K s Fs ↔ dv t n w K s F := fun K s => (hE t K s).symm.trans ((dv_shift_iff (fun a b => -(f a b / t)) fun a b _ _ => mod_eq _ _).trans (hEF K s))
  have hdv : dvL t (dg0 t (min n w) F) := fun q hq => by
    unfold dg0 at *
    rw [rowF_len] at hq
    rw [rowF_at hq]
    have g1 : ((Int.gcd t (F q q) : Nat) : Int) ∣ t := Int.gcd_dvd_left ..
    refine ⟨?_, g1⟩
    have : Int.gcd t (F q q) ≠ 0 := fun h => by
      rw [h] at g1
      have := Int.zero_dvd.1 (by simpa using g1)
      omega
    omega
  have hdl : (dg0 t (min n w) F).length = min n w := rowF_len _ _
  have hbl : (bub (dg0 t (min n w) F)).length = min n w := by unfold bub; rw [bbI_len, hdl]
  have hEv : ∀ q, q < min n w → eS' t (dg0 t (min n w) F) q = ((Int.gcd t (F q q) : Nat) : Int) := fun q hq => by
    unfold eS'
    rw [hdl, if_pos hq]
    unfold dg0
    rw [rowF_at hq]
  have hEt : ∀ q, min n w ≤ q → eS' t (dg0 t (min n w) F) q = t := fun q hq => by
    unfold eS'
    rw [hdl, if_neg (by omega)]
  have hEd : ∀ q, eS' t (dg0 t (min n w) F) q ∣ t := fun q => by
    by_cases hq : q < min n w
    · rw [hEv q hq]; exact Int.gcd_dvd_left ..
    · rw [hEt q (by omega)]; exact Int.dvd_refl _
  have hFd : ∀ a b, a < n → b < w → F a b = if a = b then (fun a => F a a) a else 0 := fun a b ha hb2 => by
    by_cases e : a = b
    · rw [if_pos e, e]
    · rw [if_neg e]; exact hzF a b ha hb2 (by omega) e
  have hEF2 : ∀ a b, a < n → b < w → eS' t (dg0 t (min n w) F) a ∣ F a b ∧ eS' t (dg0 t (min n w) F) a ∣ t := fun a b ha hb2 => by
    refine ⟨?_, hEd a⟩
    by_cases e : a = b
    · subst e
      rw [hEv a (by omega)]
      exact Int.gcd_dvd_right ..
    · rw [hFd a b ha hb2, if_neg e]; exact Int.dvd_zero _
  have hD : ∀ a b, a < n → b < w → (fun q => if q < R.length then Fs q q else t) a ∣ Fs a b ∧ (fun q => if q < R.length then Fs q q else t) a ∣ t := fun a b ha hb2 => by
    by_cases h1 : a < R.length
    · simp only [if_pos h1]
      refine ⟨?_, hdt a h1⟩
      rw [hF.d a b ha hb2]
      split
      · exact Int.dvd_refl _
      · exact Int.dvd_zero _
    · simp only [if_neg h1]
      refine ⟨?_, Int.dvd_refl _⟩
      rw [hF.d a b ha hb2, if_neg fun h => h1 h.2]
      exact Int.dvd_zero _
  have hDc : ∀ i j, i ≤ j → (fun q => if q < R.length then Fs q q else t) i ∣ (fun q => if q < R.length then Fs q q else t) j := fun i j hij => by
    by_cases hj : j < R.length
    · simp only [if_pos hj, if_pos (show i < R.length by omega)]
      by_cases e : i = j
      · rw [e]; exact Int.dvd_refl _
      · exact hF.c i j (by omega) hj
    · simp only [if_neg hj]
      split
      · rename_i hi; exact hdt i hi
      · exact Int.dvd_refl _
  have hpd : ∀ (K : Nat) (s : Int), pD s K (eS' t (dg0 t (min n w) F)) ↔ pD s K (eS' t (bub (dg0 t (min n w) F))) := fun K s => pD_bbI hdv _ (Nat.le_refl _)
  have hUc := chain_bub hdv
  have hU1 : ∀ q, 1 ≤ eS' t (bub (dg0 t (min n w) F)) q := fun q => by
    unfold eS'
    split
    · rename_i hq
      exact ((dvL_I hdv _ (Nat.le_refl _)) q hq).1
    · exact ht1
  generalize hU : eS' t (bub (dg0 t (min n w) F)) = U at *
  have key : ∀ K, K ≤ R.length → (prS (fun q => if q < R.length then Fs q q else t) K).natAbs = (prS U K).natAbs := fun K hK => by
    refine Nat.dvd_antisymm (Int.natAbs_dvd_natAbs.2 ?_) (Int.natAbs_dvd_natAbs.2 ?_)
    · have h1 := (hEq K _).1 (dv_of_pD hD (chain_prod hDc K))
      have h2 := dv_diag hFd h1
      refine pD_range ((hpd K _).1 (pD_ext (t := t) (m := min n w) (by omega) hEt hEd fun S hS hSl hSb => ?_))
      rw [prL_congr fun a ha => hEv a (hSb a ha)]
      exact h2 S hS hSl fun a ha => by have := hSb a ha; omega
    · have h1 := (hEq K _).2 (dv_of_pD hEF2 ((hpd K _).2 (chain_prod hUc K)))
      have h2 := dv_mD h1 (List.range K) (List.range K) List.length_range List.length_range (fun a ha => by have := List.mem_range.1 ha; omega) (fun a ha => by have := List.mem_range.1 ha; omega)
      rwa [dtL_diag (d := fun q => if q < R.length then Fs q q else t) List.nodup_range (fun a ha b hb2 => by
        have h4 := List.mem_range.1 ha
        have h5 := List.mem_range.1 hb2
        rw [hF.d a b (by omega) (by omega)]
        by_cases e : a = b
        · rw [if_pos ⟨e, by omega⟩, if_pos e, if_pos (by omega)]
        · rw [if_neg fun h => e h.1, if_neg e]), prL_range] at h2
  have hval : ∀ i, i < R.length → at0 R i = U i := fun i hi => by
    have k1 := key i (by omega)
    have k2 := key (i + 1) hi
    unfold prS at k2
    rw [Int.natAbs_mul, Int.natAbs_mul, k1] at k2
    have hne : prS U i ≠ 0 := prS_ne fun j _ => by have := hU1 j; omega
    have k3 := Nat.eq_of_mul_eq_mul_left (by omega) k2
    rw [if_pos hi] at k3
    rw [(hF.v i hi).1, k3]
    have := hU1 i
    omega
  refine at0_ext (by rw [List.length_take, hbl]; omega) fun i hi => ?_
  rw [List.length_take, hbl] at hi
  have hi2 : i < R.length := by omega
  rw [hval i hi2, ← hU]
  unfold eS'
  rw [hbl, if_pos (by omega)]
  simp [at0, List.getElem?_take, hi2]
/-- The program's divisors are the reference's, where the reference's elimination keeps to small numbers. -/
theorem smi_sms {T : Nat} {M : List (List Int)} {R : List Int} (hT : mB T M.length (wdM M) (ent M)) (hT1 : 1 ≤ T) (hT2 : T ≤ 1073741824) (h : smsV M = some R) : smiV M = some R := by
  unfold smsV at h
  unfold smiV
  by_cases h0 : M = []
  · subst h0
    rw [if_neg fun hh => hh.1 rfl] at h
    simp only [Option.some.injEq] at h
    subst h
    rw [if_pos (.inl rfl)]
    have hz : nzZ (ent []) ([] : List (List Int)).length (wdM []) 0 = (-1, -1) := rfl
    rw [show ([] : List (List Int)).length + 1 = 0 + 1 from rfl, bareR_stop hz, Option.bind_some]
    unfold smiW
    dsimp only
    rw [if_pos (by rfl)]
  by_cases hc : smiM M
  rotate_left
  · rw [if_neg fun hh => hc hh.2] at h
    rw [if_neg fun hh => hh.elim h0 hc]
    exact h
  rw [if_pos ⟨h0, hc⟩] at h
  rw [if_pos (.inr hc)]
  have hb : bdE (T : Int) M.length (wdM M) (ent M) := fun i j hi hj => by
    have := hc.1.2.2.2 i j hi hj
    omega
  obtain ⟨l, hB, hl0, hl1, hRl, F, hF, hR⟩ := smith_eq hT hT1 hT2 hb h
  rw [hB, Option.bind_some]
  unfold smiW
  dsimp only
  by_cases hz : (R.length : Int) = 0
  · rw [if_pos hz]
    have : R = [] := List.length_eq_zero_iff.1 (by omega)
    rw [this]
  · rw [if_neg hz, if_pos ⟨by omega, by omega, hl0, hl1⟩, hF]
    rw [Int.toNat_natCast]
    exact congrArg some hR
end Go.Proofs.YtkoljbncokmeaaaDoor
