import Derived.Test.YtkbgmkkboiihnaaGaE
import Derived.Test.YtkbgmkkboiihnaaIcC
import Derived.Test.YtkbgmkkboiihnaaIaA
namespace Go.Proofs.Ytkbgmkkboiihnaa
open Go Go.RowKit
set_option maxRecDepth 1000000
set_option linter.unusedSimpArgs false
set_option linter.unusedVariables false
set_option maxHeartbeats 1000000
def sc_i_newDecomposer : SC := (.seq (.reg [⟨(some 0), none, (.new [.nmap])⟩]) (.seq (.reg [⟨(some 1), none, .mkm⟩, ⟨(some 2), none, (.agg [.nmap] [(0, (1, (.t 1)))])⟩, ⟨none, none, (.st 1 (.t 0) (.t 2))⟩]) .ret))
theorem code_i_newDecomposer : fnCode Try.prog [35, 41, 34] 34 = some (3, sc_i_newDecomposer, [(0, (some 1))]) := by kernel_rfl
def sc_i_splits : SC := (.seq (.reg [⟨(some 3), none, (.box (.t 0))⟩, ⟨(some 6), none, (.mov (.c (.bool false)))⟩]) (.seq (.reg [⟨(some 8), none, (.mov (.t 2))⟩, ⟨(some 9), none, (.conv .u64 (.t 8))⟩, ⟨(some 10), none, (.bin false .shl (.c (.int .i64 1)) (.t 9))⟩, ⟨(some 7), none, (.mov (.t 10))⟩]) (.seq (.dreg [⟨⟨(some 11), none, (.mov (.t 1))⟩, false, false⟩, ⟨⟨(some 12), none, (.mov (.t 2))⟩, false, false⟩, ⟨⟨(some 13), none, (.call 59 [(.t 11), (.t 12)])⟩, false, false⟩, ⟨⟨(some 14), none, (.mov (.t 13))⟩, false, false⟩, ⟨⟨(some 15), (some (14, true)), (.ld (some 1) .undef (.t 3))⟩, false, false⟩, ⟨⟨(some 16), (some (14, true)), (.mov (.t 1))⟩, false, false⟩, ⟨⟨(some 17), (some (14, true)), (.mov (.t 7))⟩, false, false⟩, ⟨⟨(some 18), (some (14, true)), (.call 60 [(.t 16), (.t 17)])⟩, false, false⟩, ⟨⟨(some 19), (some (14, true)), (.call 35 [(.t 15), (.t 18)])⟩, true, false⟩, ⟨⟨(some 20), none, (.pick (.t 14) (.t 19) (.c (.bool false)))⟩, false, false⟩, ⟨⟨(some 21), none, (.mov (.t 20))⟩, false, false⟩, ⟨⟨(some 22), (some (21, true)), (.ld (some 1) .undef (.t 3))⟩, false, false⟩, ⟨⟨(some 23), (some (21, true)), (.mov (.t 1))⟩, false, false⟩, ⟨⟨(some 24), (some (21, true)), (.mov (.t 7))⟩, false, false⟩, ⟨⟨(some 25), (some (21, true)), (.call 42 [(.t 23), (.t 24)])⟩, false, false⟩, ⟨⟨(some 26), (some (21, true)), (.call 35 [(.t 22), (.t 25)])⟩, true, false⟩, ⟨⟨(some 27), none, (.pick (.t 21) (.t 26) (.c (.bool false)))⟩, false, false⟩, ⟨⟨(some 6), none, (.mov (.t 27))⟩, false, false⟩]) .ret)))
theorem code_i_splits : fnCode Try.prog [35, 41, 34] 41 = some (28, sc_i_splits, [(6, none)]) := by kernel_rfl
def sc_i_works_L0 : SC := (.seq (.seq (.reg [⟨(some 23), none, (.mov (.t 5))⟩, ⟨(some 24), none, (.bin false .lss (.t 23) (.c (.int .i64 6)))⟩]) (.cond (.t 24) .skip (.exit 0))) (.seq (.block 1 (.seq (.reg [⟨(some 27), none, (.ld (some 1) .undef (.t 2))⟩, ⟨(some 28), none, (.mov (.t 1))⟩, ⟨(some 29), none, (.mov (.t 5))⟩, ⟨(some 30), none, (.call 41 [(.t 27), (.t 28), (.t 29)])⟩]) (.cond (.t 30) (.seq (.reg [⟨(some 31), none, (.fad 0 (.t 2))⟩, ⟨(some 32), none, (.ld none .nmap (.t 31))⟩, ⟨(some 33), none, (.mov (.t 1))⟩, ⟨none, none, (.mpu (.t 32) (.t 33) (.c (.int .i64 1)))⟩]) (.seq (.reg [⟨(some 4), none, (.mov (.c (.bool true)))⟩]) .ret)) .skip))) (.reg [⟨(some 25), none, (.mov (.t 5))⟩, ⟨(some 26), none, (.bin false .add (.t 25) (.c (.int .i64 1)))⟩, ⟨(some 5), none, (.mov (.t 26))⟩])))
def sc_i_works : SC := (.seq (.reg [⟨(some 2), none, (.box (.t 0))⟩, ⟨(some 4), none, (.mov (.c (.bool false)))⟩]) (.seq (.seq (.reg [⟨(some 6), none, (.mov (.t 1))⟩, ⟨(some 7), none, (.call 40 [(.t 6)])⟩, ⟨(some 8), none, (.len (.t 7))⟩, ⟨(some 9), none, (.bin false .leq (.t 8) (.c (.int .i64 1)))⟩]) (.cond (.t 9) (.seq (.reg [⟨(some 4), none, (.mov (.c (.bool true)))⟩]) .ret) .skip)) (.seq (.seq (.reg [⟨(some 10), none, (.fad 0 (.t 2))⟩, ⟨(some 11), none, (.ld none .nmap (.t 10))⟩, ⟨(some 12), none, (.mov (.t 1))⟩, ⟨(some 13), none, (.mpl (.t 11) (.t 12))⟩, ⟨(some 14), none, (.bin false .neq (.t 13) (.c (.int .i64 0)))⟩]) (.cond (.t 14) (.seq (.reg [⟨(some 15), none, (.fad 0 (.t 2))⟩, ⟨(some 16), none, (.ld none .nmap (.t 15))⟩, ⟨(some 17), none, (.mov (.t 1))⟩, ⟨(some 18), none, (.mpl (.t 16) (.t 17))⟩, ⟨(some 19), none, (.bin false .eql (.t 18) (.c (.int .i64 1)))⟩, ⟨(some 4), none, (.mov (.t 19))⟩]) .ret) .skip)) (.seq (.reg [⟨(some 20), none, (.fad 0 (.t 2))⟩, ⟨(some 21), none, (.ld none .nmap (.t 20))⟩, ⟨(some 22), none, (.mov (.t 1))⟩, ⟨none, none, (.mpu (.t 21) (.t 22) (.c (.int .i64 2)))⟩]) (.seq (.seq (.reg [⟨(some 5), none, (.mov (.c (.int .i64 0)))⟩]) (.block 0 (.loop sc_i_works_L0))) (.seq (.reg [⟨(some 4), none, (.mov (.c (.bool false)))⟩]) .ret))))))
theorem code_i_works : fnCode Try.prog [35, 41, 34] 35 = some (34, sc_i_works, [(4, none)]) := by kernel_rfl
@[simp] theorem ldU_mp {s : Hp} {n off : Nat} {cells : List V} (m : Nat) : ldU s n off cells (.mp m) = some (decide (off < cells.length), .mp m, s) := by simp [ldU, V.cell, opn]
noncomputable def G_works (k : Nat) : List V → List V → Option (V × List V)
  | [.agg [.mp 0], .int .u64 f], [.mpe D] => @ite _ (0 ≤ f ∧ f < 18446744073709551616 ∧ dcl (bitP f) ∧ pts (bitP f) < k) (Classical.propDecidable _) (some (.bool (wk k f D).1, [.mpe (wk k f D).2])) none
  | _, _ => none
noncomputable def G_splits (k : Nat) : List V → List V → Option (V × List V)
  | [.agg [.mp 0], .int .u64 f, .int .i64 x], [.mpe D] => @ite _ (0 ≤ f ∧ f < 18446744073709551616 ∧ dcl (bitP f) ∧ pts (bitP f) < k + 1 ∧ 0 ≤ x ∧ x < 6) (Classical.propDecidable _) (some (.bool (spW (wk k) f x.toNat D).1, [.mpe (spW (wk k) f x.toNat D).2])) none
  | _, _ => none
theorem dcl_congr {p q : Int → Prop} (h : ∀ s, isS s → (p s ↔ q s)) (hd : dcl p) : dcl q := fun s t hs ht hst hq => (h s hs).1 (hd s t hs ht hst ((h t ht).2 hq))
theorem G_works_fam {k : Nat} {p : Int → Prop} {D : MM} (hd : dcl p) (hk : pts p < k) : G_works k [.agg [.mp 0], .int .u64 (fam p)] [.mpe D] = some (.bool (wk k (fam p) D).1, [.mpe (wk k (fam p) D).2]) := by
  have e : ∀ s, isS s → (p s ↔ bitP (fam p) s) := fun s hs => (bitP_fam hs).symm
  simp only [G_works]
  rw [if_pos ⟨fam_nn p, fam_lt p, dcl_congr e hd, by rw [← pts_congr e]; exact hk⟩]
theorem G_splits_fam {k : Nat} {p : Int → Prop} {D : MM} {m : Nat} (hd : dcl p) (hk : pts p < k + 1) (hm : m < 6) : G_splits k [.agg [.mp 0], .int .u64 (fam p), .int .i64 m] [.mpe D] = some (.bool (spW (wk k) (fam p) m D).1, [.mpe (spW (wk k) (fam p) m D).2]) := by
  have e : ∀ s, isS s → (p s ↔ bitP (fam p) s) := fun s hs => (bitP_fam hs).symm
  simp only [G_splits]
  rw [if_pos ⟨fam_nn p, fam_lt p, dcl_congr e hd, by rw [← pts_congr e]; exact hk, by omega, by omega⟩, Int.toNat_natCast]
theorem ln_i_splits {k : Nat} (ih : LendOk Try.prog 35 0 (G_works k)) : LendOk Try.prog 41 0 (G_splits k) := by
  have env := ((((envNil_ok (P := Try.prog)).add fn_i_sheds).add fn_i_linkIn).add fn_i_deletionIn).addl ih
  refine fn_lend code_i_splits mixed env ?_
  intro args cells r cells' hG hb
  unfold G_splits at hG
  split at hG
  case h_2 => simp at hG
  rename_i f x D
  simp only [Option.ite_none_right_eq_some, Option.some.injEq, Prod.mk.injEq] at hG
  obtain ⟨⟨hf1, hf2, hd, hk, hx0, hx6⟩, rfl, rfl⟩ := hG
  clear hb
  have hf := fam_bitP hf1 hf2
  generalize bitP f = p at *
  subst hf
  obtain ⟨m, rfl⟩ : ∃ m : Nat, x = m := ⟨x.toNat, by omega⟩
  have hm : m < 6 := by omega
  rw [Int.toNat_natCast]
  refine ⟨by simp, fun w0 U0 L0 N0 => ?_⟩
  have hu : IntKind.u64.wrap (m : Int) = m := wrapU _ (by omega) (by omega)
  have hsh := shl6 hm
  have hpS := isS_pow hm
  have g0 := shedG_fam p hm
  have g1 := lnkG_fam p hpS
  have g2 := wtoG_fam p hpS
  have e0 : dec (shedQ (bitP (fam p)) m) = dec (shedQ p m) := by
    rw [Bool.eq_iff_iff, dec_iff, dec_iff]
    exact shedQ_congr (fun s hs => bitP_fam hs) hm
  unfold spW
  rw [e0, lnI_fam hm, wtI_fam hm]
  by_cases hs : shedQ p m
  rotate_left
  · rw [dec_false hs] at g0 ⊢
    simp -implicitDefEqProofs [sc_i_splits, F_i_sheds, ren0, hu, hsh, g0]
  rw [dec_true hs] at g0 ⊢
  have w1 := fun D => G_works_fam (k := k) (D := D) (dcl_lnk hd hpS) (Nat.lt_of_lt_of_le (pts_lnk hd hm hs.1) (by omega))
  have w2 := fun D => G_works_fam (k := k) (D := D) (dcl_wto hd hpS) (Nat.lt_of_lt_of_le (pts_wto hm hs.1) (by omega))
  clear hs e0
  generalize (2 : Int) ^ m = s at *
  generalize fam (lnkP p s) = A at *
  generalize fam (wtoP p s) = B at *
  generalize fam p = f at *
  have w1' := w1 D
  have w2' := w2 (wk k A D).2
  generalize wk k A D = x1 at *
  obtain ⟨b1, D1⟩ := x1
  generalize wk k B D1 = x2 at *
  obtain ⟨b2, D2⟩ := x2
  simp only at w1' w2'
  cases b1 with
  | false => simp -implicitDefEqProofs [sc_i_splits, F_i_sheds, F_i_linkIn, F_i_deletionIn, ren0, hu, hsh, g0, g1, g2, w1', w2']
  | true => simp -implicitDefEqProofs [sc_i_splits, F_i_sheds, F_i_linkIn, F_i_deletionIn, ren0, hu, hsh, g0, g1, g2, w1', w2']
theorem ln_i_works_step {k : Nat} (ih : LendOk Try.prog 41 0 (G_splits k)) : LendOk Try.prog 35 0 (G_works (k + 1)) := by
  have env := ((envNil_ok (P := Try.prog)).add fn_i_maximalIn).addl ih
  refine fn_lend code_i_works mixed env ?_
  intro args cells r cells' hG hb
  unfold G_works at hG
  split at hG
  case h_2 => simp at hG
  rename_i f D
  simp only [Option.ite_none_right_eq_some, Option.some.injEq, Prod.mk.injEq] at hG
  obtain ⟨⟨hf1, hf2, hd, hk⟩, rfl, rfl⟩ := hG
  clear hb
  have hf := fam_bitP hf1 hf2
  generalize bitP f = p at *
  subst hf
  refine ⟨by simp, fun w0 U0 L0 N0 => ?_⟩
  have g1 := maxG_fam p
  have e0 : setsOf (maxP (bitP (fam p))) = setsOf (maxP p) := setsOf_congr fun s hs => maxP_congr (fun s hs => bitP_fam hs) hs
  have w1 := fun D m (hm : m < 6) => G_splits_fam (k := k) (p := p) (D := D) (m := m) hd hk hm
  unfold wk
  rw [e0]
  have hl64 := setsOf_len (maxP p)
  generalize setsOf (maxP p) = L at *
  generalize fam p = f at *
  by_cases hl : L.length ≤ 1
  · rw [dec_true hl]
    have hl' : ((L.length : Int) ≤ 1) := by omega
    simp -implicitDefEqProofs [sc_i_works, F_i_maximalIn, g1, hl']
    try omega
  rw [dec_false hl]
  have hl' : ¬ ((L.length : Int) ≤ 1) := by omega
  by_cases h0 : mget D f = 0
  rotate_left
  · rw [dec_true h0]
    have e1 : (mget D f == 1) = dec (mget D f = 1) := by
      rw [Bool.eq_iff_iff, dec_iff, beq_iff_eq]
    simp -implicitDefEqProofs [sc_i_works, F_i_maximalIn, g1, hl', h0, e1]
  rw [dec_false fun h => h h0]
  simp only [Bool.false_eq_true, if_false]
  generalize hR : goW (spW (wk k) f) f 6 0 (mset D f 2) = R
  simp -implicitDefEqProofs [sc_i_works, F_i_maximalIn, g1, hl', h0]
  refine loopI env mixed (fun x : Nat × MM => [(1, .int .u64 f), (2, .pt 1 0), (5, .int .i64 (x.1 : Int))]) (fun x => ([(2, ints L), (1, [.mp 0]), (0, [.mpe x.2])], 3)) (fun x => x.1 ≤ 6 ∧ goW (spW (wk k) f) f (6 - x.1) x.1 x.2 = R) (fun x => 6 - x.1) (0, mset D f 2) ⟨by omega, hR⟩ (SubI.slots rfl (by simp)) ?_
  rintro ⟨i, E⟩ ⟨hi, hgo⟩
  simp only at hi hgo
  by_cases hlt : i < 6
  · have hlt' : (i : Int) < 6 := by omega
    have e6 : 6 - i = (6 - (i + 1)) + 1 := by omega
    rw [e6] at hgo
    unfold goW at hgo
    have w1' := w1 E i hlt
    generalize spW (wk k) f i E = x1 at *
    obtain ⟨b1, E1⟩ := x1
    simp only at w1' hgo
    cases b1 with
    | true =>
      simp only [if_true] at hgo
      subst hgo
      simp -implicitDefEqProofs [sc_i_works_L0, ren0, hlt', w1']
      try omega
    | false =>
      simp only [Bool.false_eq_true, if_false] at hgo
      simp -implicitDefEqProofs [sc_i_works_L0, ren0, hlt', w1']
      repeat' (first | omega | apply And.intro)
      refine Again.of (i + 1, E1) ?_ ?_ ?_
      · exact ⟨by simp only; omega, hgo⟩
      · simp only; omega
      · exact SubI.slots rfl (by simp (disch := omega) [wrapI])
  · have hi6 : i = 6 := by omega
    subst hi6
    rw [Nat.sub_self] at hgo
    unfold goW at hgo
    subst hgo
    simp -implicitDefEqProofs [sc_i_works_L0]
theorem ln_i_works : ∀ k, LendOk Try.prog 35 0 (G_works k) := by
  intro k
  induction k with
  | zero =>
    refine ⟨callable_of code_i_works, fun args cells r cells' hG => ?_⟩
    unfold G_works at hG
    split at hG
    · simp only [Option.ite_none_right_eq_some] at hG
      omega
    · simp at hG
  | succ k ih => exact ln_i_works_step (ln_i_splits ih)
noncomputable def F_i_newDecomposer : List V → Option V
  | [] => some (.agg [.omp []])
  | _ => none
theorem fn_i_newDecomposer : FnOk Try.prog 34 F_i_newDecomposer := by
  have env := envNil_ok (P := Try.prog)
  refine fn_ok code_i_newDecomposer mixed env ?_
  intro args r h hb
  unfold F_i_newDecomposer at h
  split at h
  case h_2 => simp at h
  simp only [Option.some.injEq] at h
  subst h
  refine ⟨by simp, fun w0 U0 L0 N0 => ?_⟩
  simp -implicitDefEqProofs [sc_i_newDecomposer]
end Go.Proofs.Ytkbgmkkboiihnaa
