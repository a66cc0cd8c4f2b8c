import Derived.Test.YtkbgmkkboiihnaaIcG
namespace Go.Proofs.Ytkbgmkkboiihnaa
open Go Go.RowKit
set_option maxRecDepth 1000000
set_option linter.unusedSimpArgs false
set_option linter.unusedVariables false
set_option maxHeartbeats 1000000
def sc_i_DecomposeBy_L2 : SC := (.seq (.seq (.reg [⟨(some 18), none, (.mov (.t 7))⟩, ⟨(some 19), none, (.bin false .lss (.t 18) (.c (.int .i64 6)))⟩, ⟨(some 20), none, (.mov (.t 19))⟩, ⟨(some 21), (some (20, true)), (.ld (some 1) .undef (.t 4))⟩, ⟨(some 22), (some (20, true)), (.mov (.t 5))⟩, ⟨(some 23), (some (20, true)), (.mov (.t 7))⟩, ⟨(some 24), (some (20, true)), (.call 41 [(.t 21), (.t 22), (.t 23)])⟩, ⟨(some 25), (some (20, true)), (.un .not (.t 24))⟩, ⟨(some 26), none, (.pick (.t 20) (.t 25) (.c (.bool false)))⟩]) (.cond (.t 26) .skip (.exit 2))) (.block 3 (.reg [⟨(some 27), none, (.mov (.t 7))⟩, ⟨(some 28), none, (.bin false .add (.t 27) (.c (.int .i64 1)))⟩, ⟨(some 7), none, (.mov (.t 28))⟩])))
def sc_i_DecomposeBy_L0 : SC := (.seq (.seq (.reg [⟨(some 14), none, (.mov (.t 5))⟩, ⟨(some 15), none, (.call 40 [(.t 14)])⟩, ⟨(some 16), none, (.len (.t 15))⟩, ⟨(some 17), none, (.bin false .gtr (.t 16) (.c (.int .i64 1)))⟩]) (.cond (.t 17) .skip (.exit 0))) (.block 1 (.seq (.reg [⟨(some 7), none, (.mov (.c (.int .i64 0)))⟩]) (.seq (.block 2 (.loop sc_i_DecomposeBy_L2)) (.seq (.seq (.reg [⟨(some 29), none, (.mov (.t 7))⟩, ⟨(some 30), none, (.bin false .eql (.t 29) (.c (.int .i64 6)))⟩]) (.cond (.t 30) (.seq (.reg [⟨(some 2), none, (.mov (.c .nil))⟩, ⟨(some 3), none, (.mov (.c (.bool false)))⟩]) .ret) .skip)) (.seq (.reg [⟨(some 31), none, (.mov (.t 6))⟩, ⟨(some 32), none, (.mov (.t 7))⟩, ⟨(some 33), none, (.mks 1 1 [(.int .i64 0)] [(0, (1, (.t 32)))])⟩, ⟨(some 34), none, (.app 1 8 (.t 31) (.t 33))⟩, ⟨(some 6), none, (.mov (.t 34))⟩]) (.reg [⟨(some 35), none, (.mov (.t 5))⟩, ⟨(some 36), none, (.mov (.t 7))⟩, ⟨(some 37), none, (.conv .u64 (.t 36))⟩, ⟨(some 38), none, (.bin false .shl (.c (.int .i64 1)) (.t 37))⟩, ⟨(some 39), none, (.call 42 [(.t 35), (.t 38)])⟩, ⟨(some 5), none, (.mov (.t 39))⟩])))))))
def sc_i_DecomposeBy : SC := (.seq (.reg [⟨(some 1), none, (.box (.t 0))⟩, ⟨(some 2), none, (.mov (.c .nil))⟩, ⟨(some 3), none, (.mov (.c (.bool false)))⟩]) (.seq (.seq (.reg [⟨(some 8), none, (.ld (some 2) .undef (.t 1))⟩, ⟨(some 9), none, (.call 18 [(.t 8)])⟩, ⟨(some 10), none, (.un .not (.t 9))⟩]) (.cond (.t 10) (.seq (.reg [⟨(some 2), none, (.mov (.c .nil))⟩, ⟨(some 3), none, (.mov (.c (.bool false)))⟩]) .ret) .skip)) (.seq (.reg [⟨(some 11), none, (.call 34 [])⟩, ⟨(some 4), none, (.new [.nmap])⟩, ⟨none, none, (.st 1 (.t 4) (.t 11))⟩]) (.seq (.reg [⟨(some 12), none, (.ld (some 2) .undef (.t 1))⟩, ⟨(some 13), none, (.call 36 [(.t 12)])⟩, ⟨(some 5), none, (.mov (.t 13))⟩]) (.seq (.reg [⟨(some 6), none, (.mov (.c .nil))⟩]) (.seq (.block 0 (.loop sc_i_DecomposeBy_L0)) (.seq (.reg [⟨(some 40), none, (.mov (.t 6))⟩, ⟨(some 2), none, (.mov (.t 40))⟩, ⟨(some 3), none, (.mov (.c (.bool true)))⟩]) .ret)))))))
theorem code_i_DecomposeBy : fnCode Try.prog [35, 41, 34] 20 = some (41, sc_i_DecomposeBy, [(2, none), (3, none)]) := by kernel_rfl
theorem fn_i_DecomposeBy : FnOk Try.prog 20 F_s_DecomposeBy := by
  have env := ((((((envNil_ok (P := Try.prog)).add fn_i_IsDecomposable).add fn_i_newDecomposer).add fn_i_facesIn).add fn_i_maximalIn).add fn_i_deletionIn).addl (ln_i_splits (ln_i_works 7))
  refine fn_ok code_i_DecomposeBy mixed env ?_
  intro args r h hb
  obtain ⟨_, ⟨n, l⟩, rfl, h1, h4⟩ := F1_inv h
  cases dC_inv h1
  cases h4
  refine ⟨by simp, fun w0 U0 L0 N0 => ?_⟩
  clear h hb
  have hID : F_s_IsDecomposable [.agg [.int .i64 n, .list 1 (ints l)]] = some (.bool (dec (decP n l))) := by simp [F_s_IsDecomposable]
  by_cases hP : decP n l
  rotate_left
  · rw [dec_false hP] at hID
    simp only
    rw [dcbL_no hP, dec_false hP]
    simp -implicitDefEqProofs [sc_i_DecomposeBy, hID]
  rw [dec_true hP] at hID
  simp only
  rw [dcbL_yes hP, dec_true hP]
  obtain ⟨hc, hf⟩ := hP
  have hS := cplx_isS hc
  have hst := dI'_start hf
  have hd0 := dcl_face hS
  generalize dcb 7 (faceS l) = R at *
  have hFI : F_i_facesIn [.agg [.int .i64 n, .list 1 (ints l)]] = some (.int .u64 (fam (faceS l))) := by
    simp [F_i_facesIn, hS]
  have inner : ∀ (p : Int → Prop) (D : MM) (A o : List Int) (m : Nat) (Q : Post) (T0 : Tm), dcl p → mInv 7 D → m < 6 → splQ p m → (∀ i : Nat, i < m → ¬ splQ p i) →
      subE T0 [(4, .pt 2 0), (5, .int .u64 (fam p)), (6, .sl 3 1 0 o.length), (7, .int .i64 0)] →
      (∀ D', mInv 7 D' → Q (.exit 2) [(4, .pt 2 0), (5, .int .u64 (fam p)), (6, .sl 3 1 0 o.length), (7, .int .i64 (m : Int))] ([(4, ints A), (3, ints o), (2, [.mp 1]), (1, [.mpe D']), (0, [.int .i64 n, .list 1 (ints l)])], 5)) →
      LoopI ⟨Try.prog, w0, U0, L0, N0, 0, 41⟩ [35, 41, 34] sc_i_DecomposeBy_L2 Q T0 ([(4, ints A), (3, ints o), (2, [.mp 1]), (1, [.mpe D]), (0, [.int .i64 n, .list 1 (ints l)])], 5) := by
    intro p D A o m Q T0 hd hD hm hs hmin hT hQ
    refine loopQ env mixed (fun x : Nat × MM => [(4, .pt 2 0), (5, .int .u64 (fam p)), (6, .sl 3 1 0 o.length), (7, .int .i64 (x.1 : Int))]) (fun x => ([(4, ints A), (3, ints o), (2, [.mp 1]), (1, [.mpe x.2]), (0, [.int .i64 n, .list 1 (ints l)])], 5)) (fun x => x.1 ≤ m ∧ mInv 7 x.2) (fun x => m - x.1) (0, D) ⟨by simp, hD⟩ (SubI.slots rfl (by simpa using hT)) ?_
    rintro ⟨j, E⟩ ⟨hj, hE⟩
    simp only at hj hE
    have hj6 : (j : Int) < 6 := by omega
    have hg := G_splits_fam (k := 7) (p := p) (D := E) (m := j) hd (by have := pts_six p; omega) (by omega)
    obtain ⟨a1, a2, _⟩ := spW_ok (wk_ok 7) (m := 7) (p := p) (D := E) (i := j) (by omega) hd (by have := pts_six p; omega) (Nat.le_refl _) hE
    generalize spW (wk 7) (fam p) j E = x1 at *
    obtain ⟨b1, E1⟩ := x1
    simp only at hg a1 a2
    subst a1
    by_cases e : j = m
    · subst e
      rw [dec_true hs] at hg
      simp -implicitDefEqProofs [sc_i_DecomposeBy_L2, ren0, hj6, hg]
      exact SubQ.of (SubI.slots rfl (by simp)) (hQ E1 a2)
    · rw [dec_false (hmin j (by omega))] at hg
      simp -implicitDefEqProofs [sc_i_DecomposeBy_L2, ren0, hj6, hg]
      refine Again.of (j + 1, E1) ?_ ?_ ?_
      · exact ⟨by simp only; omega, a2⟩
      · simp only; omega
      · exact SubI.slots rfl (by simp (disch := omega) [wrapI])
  simp -implicitDefEqProofs [sc_i_DecomposeBy, F_i_newDecomposer, hID, hFI]
  refine loopI env mixed (fun x : Nat × (Int → Prop) × MM × List Int => [(4, .pt 2 0), (5, .int .u64 (fam x.2.1)), (6, .sl 3 1 0 x.2.2.2.length)]) (fun x => ([(3, ints x.2.2.2), (2, [.mp 1]), (1, [.mpe x.2.2.1]), (0, [.int .i64 n, .list 1 (ints l)])], 4)) (fun x => dcl x.2.1 ∧ mInv 7 x.2.2.1 ∧ dI' R x.1 x.2.1 x.2.2.2) (fun x => x.1) (7, faceS l, [], []) ⟨hd0, mInv_nil 7, hst⟩ (SubI.nilN 6 1 (by simp) (SubI.slots (by simp) (by simp))) ?_
  rintro ⟨k, p, D, o⟩ ⟨hd, hD, hI⟩
  simp only at hd hD hI
  have hol := hI.hl
  have g1 := maxG_fam p
  have hml := setsOf_len (maxP p)
  by_cases hl : (setsOf (maxP p)).length ≤ 1
  · have e := hI.done hl
    subst e
    clear hI hst
    generalize setsOf (maxP p) = A at *
    have hl' : ¬ (1 < (A.length : Int)) := by omega
    simp -implicitDefEqProofs [sc_i_DecomposeBy_L0, F_i_maximalIn, g1, hl']
    try omega
  · obtain ⟨j, m, rfl, hm, hs, hmin, hnx⟩ := hI.step hl
    have hpS := isS_pow hm
    have hI2 := hnx (wtoP p (2 ^ m)) (fun _ _ => Iff.rfl)
    have hd2 := dcl_wto hd hpS
    have hu : IntKind.u64.wrap (m : Int) = m := wrapU _ (by omega) (by omega)
    have hsh := shl6 hm
    have g2 := wtoG_fam p hpS
    have hm6 : ¬ ((m : Int) = 6) := by omega
    clear hnx hI hst
    generalize setsOf (maxP p) = A at *
    have hl' : (1 < (A.length : Int)) := by omega
    simp -implicitDefEqProofs [sc_i_DecomposeBy_L0, F_i_maximalIn, g1, hl']
    refine inner p D A o m _ _ hd hD hm hs hmin (by simp) ?_
    intro D' hD'
    generalize wtoP p (2 ^ m) = q at *
    generalize (2 : Int) ^ m = z at *
    simp -implicitDefEqProofs [F_i_deletionIn, hu, hsh, g2, hm6]
    repeat' (first | omega | apply And.intro)
    refine Again.of (j, q, D', o ++ [(m : Int)]) ⟨hd2, hD', hI2⟩ (by simp only; omega) (SubI.ren (fun m => if m = 0 then some 0 else if m = 1 then some 1 else if m = 2 then some 2 else if m = 3 then some 6 else none) ?_ ?_ ?_ (by simp) (by simp))
    · simp (disch := omega) [subT, renV, ren1, wrapI]
    · simp [subH, renL, ren1]
      rw [← ints_app]
      rfl
    · intro m hm
      simp only at hm
      rw [if_neg (by omega), if_neg (by omega), if_neg (by omega), if_neg (by omega)]
end Go.Proofs.Ytkbgmkkboiihnaa
