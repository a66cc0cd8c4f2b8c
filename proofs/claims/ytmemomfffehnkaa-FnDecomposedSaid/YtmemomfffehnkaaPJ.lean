import Derived.Test.YtmemomfffehnkaaPI
import Derived.Test.YtmemomfffehnkaaPE
import Derived.Test.YtmemomfffehnkaaPF
import Derived.Test.YtmemomfffehnkaaPG
namespace Go.Proofs.Ytmemomfffehnkaa
open Go Go.RowKit
set_option maxRecDepth 1000000
set_option linter.unusedSimpArgs false
set_option linter.unusedVariables false
set_option maxHeartbeats 1000000
def sc_i_newDecomposer : SC := (.seq (.reg [⟨(some 0), none, (.new [.nmap])⟩]) (.seq (.reg [⟨(some 1), none, .mkm⟩, ⟨(some 2), none, (.agg [.nmap] [(0, (1, (.t 1)))])⟩, ⟨none, none, (.st 1 (.t 0) (.t 2))⟩]) .ret))
theorem code_i_newDecomposer : fnCode Try.prog [196, 193, 191] 191 = some (3, sc_i_newDecomposer, [(0, (some 1))]) := by kernel_rfl
def sc_i_splits : SC := (.seq (.reg [⟨(some 3), none, (.box (.t 0))⟩, ⟨(some 6), none, (.mov (.c (.bool false)))⟩]) (.seq (.reg [⟨(some 8), none, (.mov (.t 2))⟩, ⟨(some 9), none, (.conv .u64 (.t 8))⟩, ⟨(some 10), none, (.bin false .shl (.c (.int .i64 1)) (.t 9))⟩, ⟨(some 7), none, (.mov (.t 10))⟩]) (.seq (.dreg [⟨⟨(some 11), none, (.mov (.t 1))⟩, false, false⟩, ⟨⟨(some 12), none, (.mov (.t 2))⟩, false, false⟩, ⟨⟨(some 13), none, (.call 198 [(.t 11), (.t 12)])⟩, false, false⟩, ⟨⟨(some 14), none, (.mov (.t 13))⟩, false, false⟩, ⟨⟨(some 15), (some (14, true)), (.ld (some 1) .undef (.t 3))⟩, false, false⟩, ⟨⟨(some 16), (some (14, true)), (.mov (.t 1))⟩, false, false⟩, ⟨⟨(some 17), (some (14, true)), (.mov (.t 7))⟩, false, false⟩, ⟨⟨(some 18), (some (14, true)), (.call 226 [(.t 16), (.t 17)])⟩, false, false⟩, ⟨⟨(some 19), (some (14, true)), (.call 196 [(.t 15), (.t 18)])⟩, true, false⟩, ⟨⟨(some 20), none, (.pick (.t 14) (.t 19) (.c (.bool false)))⟩, false, false⟩, ⟨⟨(some 21), none, (.mov (.t 20))⟩, false, false⟩, ⟨⟨(some 22), (some (21, true)), (.ld (some 1) .undef (.t 3))⟩, false, false⟩, ⟨⟨(some 23), (some (21, true)), (.mov (.t 1))⟩, false, false⟩, ⟨⟨(some 24), (some (21, true)), (.mov (.t 7))⟩, false, false⟩, ⟨⟨(some 25), (some (21, true)), (.call 194 [(.t 23), (.t 24)])⟩, false, false⟩, ⟨⟨(some 26), (some (21, true)), (.call 196 [(.t 22), (.t 25)])⟩, true, false⟩, ⟨⟨(some 27), none, (.pick (.t 21) (.t 26) (.c (.bool false)))⟩, false, false⟩, ⟨⟨(some 6), none, (.mov (.t 27))⟩, false, false⟩]) .ret)))
theorem code_i_splits : fnCode Try.prog [196, 193, 191] 193 = some (28, sc_i_splits, [(6, none)]) := by kernel_rfl
def sc_i_works_L0 : SC := (.seq (.seq (.reg [⟨(some 23), none, (.mov (.t 5))⟩, ⟨(some 24), none, (.bin false .lss (.t 23) (.c (.int .i64 6)))⟩]) (.cond (.t 24) .skip (.exit 0))) (.seq (.block 1 (.seq (.reg [⟨(some 27), none, (.ld (some 1) .undef (.t 2))⟩, ⟨(some 28), none, (.mov (.t 1))⟩, ⟨(some 29), none, (.mov (.t 5))⟩, ⟨(some 30), none, (.call 193 [(.t 27), (.t 28), (.t 29)])⟩]) (.cond (.t 30) (.seq (.reg [⟨(some 31), none, (.fad 0 (.t 2))⟩, ⟨(some 32), none, (.ld none .nmap (.t 31))⟩, ⟨(some 33), none, (.mov (.t 1))⟩, ⟨none, none, (.mpu (.t 32) (.t 33) (.c (.int .i64 1)))⟩]) (.seq (.reg [⟨(some 4), none, (.mov (.c (.bool true)))⟩]) .ret)) .skip))) (.reg [⟨(some 25), none, (.mov (.t 5))⟩, ⟨(some 26), none, (.bin false .add (.t 25) (.c (.int .i64 1)))⟩, ⟨(some 5), none, (.mov (.t 26))⟩])))
def sc_i_works : SC := (.seq (.reg [⟨(some 2), none, (.box (.t 0))⟩, ⟨(some 4), none, (.mov (.c (.bool false)))⟩]) (.seq (.seq (.reg [⟨(some 6), none, (.mov (.t 1))⟩, ⟨(some 7), none, (.call 192 [(.t 6)])⟩, ⟨(some 8), none, (.len (.t 7))⟩, ⟨(some 9), none, (.bin false .leq (.t 8) (.c (.int .i64 1)))⟩]) (.cond (.t 9) (.seq (.reg [⟨(some 4), none, (.mov (.c (.bool true)))⟩]) .ret) .skip)) (.seq (.seq (.reg [⟨(some 10), none, (.fad 0 (.t 2))⟩, ⟨(some 11), none, (.ld none .nmap (.t 10))⟩, ⟨(some 12), none, (.mov (.t 1))⟩, ⟨(some 13), none, (.mpl (.t 11) (.t 12))⟩, ⟨(some 14), none, (.bin false .neq (.t 13) (.c (.int .i64 0)))⟩]) (.cond (.t 14) (.seq (.reg [⟨(some 15), none, (.fad 0 (.t 2))⟩, ⟨(some 16), none, (.ld none .nmap (.t 15))⟩, ⟨(some 17), none, (.mov (.t 1))⟩, ⟨(some 18), none, (.mpl (.t 16) (.t 17))⟩, ⟨(some 19), none, (.bin false .eql (.t 18) (.c (.int .i64 1)))⟩, ⟨(some 4), none, (.mov (.t 19))⟩]) .ret) .skip)) (.seq (.reg [⟨(some 20), none, (.fad 0 (.t 2))⟩, ⟨(some 21), none, (.ld none .nmap (.t 20))⟩, ⟨(some 22), none, (.mov (.t 1))⟩, ⟨none, none, (.mpu (.t 21) (.t 22) (.c (.int .i64 2)))⟩]) (.seq (.seq (.reg [⟨(some 5), none, (.mov (.c (.int .i64 0)))⟩]) (.block 0 (.loop sc_i_works_L0))) (.seq (.reg [⟨(some 4), none, (.mov (.c (.bool false)))⟩]) .ret))))))
theorem code_i_works : fnCode Try.prog [196, 193, 191] 196 = some (34, sc_i_works, [(4, none)]) := by kernel_rfl
@[simp] theorem ldU_mp {s : Hp} {n off : Nat} {cells : List V} (m : Nat) : ldU s n off cells (.mp m) = some (decide (off < cells.length), .mp m, s) := by simp [ldU, V.cell, opn]
noncomputable def G_works (k : Nat) : List V → List V → Option (V × List V)
  | [.agg [.mp 0], .int .u64 f], [.mpe D] => @ite _ (0 ≤ f ∧ f < 18446744073709551616 ∧ dcl (bitP f) ∧ pts (bitP f) < k) (Classical.propDecidable _) (some (.bool (wk k f D).1, [.mpe (wk k f D).2])) none
  | _, _ => none
noncomputable def G_splits (k : Nat) : List V → List V → Option (V × List V)
  | [.agg [.mp 0], .int .u64 f, .int .i64 x], [.mpe D] => @ite _ (0 ≤ f ∧ f < 18446744073709551616 ∧ dcl (bitP f) ∧ pts (bitP f) < k + 1 ∧ 0 ≤ x ∧ x < 6) (Classical.propDecidable _) (some (.bool (spW (wk k) f x.toNat D).1, [.mpe (spW (wk k) f x.toNat D).2])) none
  | _, _ => none
theorem dcl_congr {p q : Int → Prop} (h : ∀ s, isS s → (p s ↔ q s)) (hd : dcl p) : dcl q := fun s t hs ht hst hq => (h s hs).1 (hd s t hs ht hst ((h t ht).2 hq))
theorem G_works_fam {k : Nat} {p : Int → Prop} {D : MM} (hd : dcl p) (hk : pts p < k) : G_works k [.agg [.mp 0], .int .u64 (fam p)] [.mpe D] = some (.bool (wk k (fam p) D).1, [.mpe (wk k (fam p) D).2]) := by
  have e : ∀ s, isS s → (p s ↔ bitP (fam p) s) := fun s hs => (bitP_fam hs).symm
  simp only [G_works]
  rw [if_pos ⟨fam_nn p, fam_lt p, dcl_congr e hd, by rw [← pts_congr e]; exact hk⟩]
theorem G_splits_fam {k : Nat} {p : Int → Prop} {D : MM} {m : Nat} (hd : dcl p) (hk : pts p < k + 1) (hm : m < 6) : G_splits k [.agg [.mp 0], .int .u64 (fam p), .int .i64 m] [.mpe D] = some (.bool (spW (wk k) (fam p) m D).1, [.mpe (spW (wk k) (fam p) m D).2]) := by
  have e : ∀ s, isS s → (p s ↔ bitP (fam p) s) := fun s hs => (bitP_fam hs).symm
  simp only [G_splits]
  rw [if_pos ⟨fam_nn p, fam_lt p, dcl_congr e hd, by rw [← pts_congr e]; exact hk, by omega, by omega⟩, Int.toNat_natCast]
theorem ln_i_splits {k : Nat} (ih : LendOk Try.prog 196 0 (G_works k)) : LendOk Try.prog 193 0 (G_splits k) := by
  have env := ((((envNil_ok (P := Try.prog)).add fn_i_sheds).add fn_i_linkIn).add fn_i_deletionIn).addl ih
  refine fn_lend code_i_splits mixed env ?_
  intro args cells r cells' hG hb
  unfold G_splits at hG
  split at hG
  case h_2 => simp at hG
  rename_i f x D
  simp only [Option.ite_none_right_eq_some, Option.some.injEq, Prod.mk.injEq] at hG
  obtain ⟨⟨hf1, hf2, hd, hk, hx0, hx6⟩, rfl, rfl⟩ := hG
  clear hb
  have hf := fam_bitP hf1 hf2
  generalize bitP f = p at *
  subst hf
  obtain ⟨m, rfl⟩ : ∃ m : Nat, x = m := ⟨x.toNat, by omega⟩
  have hm : m < 6 := by omega
  rw [Int.toNat_natCast]
  refine ⟨by simp, fun w0 U0 L0 N0 => ?_⟩
  have hu : IntKind.u64.wrap (m : Int) = m := wrapU _ (by omega) (by omega)
  have hsh := shl6 hm
  have hpS := isS_pow hm
  have g0 := shedG_fam p hm
  have g1 := lnkG_fam p hpS
  have g2 := wtoG_fam p hpS
  have e0 : dec (shedQ (bitP (fam p)) m) = dec (shedQ p m) := by
    rw [Bool.eq_iff_iff, dec_iff, dec_iff]
    exact shedQ_congr (fun s hs => bitP_fam hs) hm
  unfold spW
  rw [e0, lnI_fam hm, wtI_fam hm]
  by_cases hs : shedQ p m
  rotate_left
  · rw [dec_false hs] at g0 ⊢
    simp -implicitDefEqProofs [sc_i_splits, F_i_sheds, ren0, hu, hsh, g0]
  rw [dec_true hs] at g0 ⊢
  have w1 := fun D => G_works_fam (k := k) (D := D) (dcl_lnk hd hpS) (Nat.lt_of_lt_of_le (pts_lnk hd hm hs.1) (by omega))
  have w2 := fun D => G_works_fam (k := k) (D := D) (dcl_wto hd hpS) (Nat.lt_of_lt_of_le (pts_wto hm hs.1) (by omega))
  clear hs e0
  generalize (2 : Int) ^ m = s at *
  generalize fam (lnkP p s) = A at *
  generalize fam (wtoP p s) = B at *
  generalize fam p = f at *
  have w1' := w1 D
  have w2' := w2 (wk k A D).2
  generalize wk k A D = x1 at *
  obtain ⟨b1, D1⟩ := x1
  generalize wk k B D1 = x2 at *
  obtain ⟨b2, D2⟩ := x2
  simp only at w1' w2'
  cases b1 with
  | false => simp -implicitDefEqProofs [sc_i_splits, F_i_sheds, F_i_linkIn, F_i_deletionIn, ren0, hu, hsh, g0, g1, g2, w1', w2']
  | true => simp -implicitDefEqProofs [sc_i_splits, F_i_sheds, F_i_linkIn, F_i_deletionIn, ren0, hu, hsh, g0, g1, g2, w1', w2']
theorem ln_i_works_step {k : Nat} (ih : LendOk Try.prog 193 0 (G_splits k)) : LendOk Try.prog 196 0 (G_works (k + 1)) := by
  have env := ((envNil_ok (P := Try.prog)).add fn_i_maximalIn).addl ih
  refine fn_lend code_i_works mixed env ?_
  intro args cells r cells' hG hb
  unfold G_works at hG
  split at hG
  case h_2 => simp at hG
  rename_i f D
  simp only [Option.ite_none_right_eq_some, Option.some.injEq, Prod.mk.injEq] at hG
  obtain ⟨⟨hf1, hf2, hd, hk⟩, rfl, rfl⟩ := hG
  clear hb
  have hf := fam_bitP hf1 hf2
  generalize bitP f = p at *
  subst hf
  refine ⟨by simp, fun w0 U0 L0 N0 => ?_⟩
  have g1 := maxG_fam p
  have e0 : setsOf (maxP (bitP (fam p))) = setsOf (maxP p) := setsOf_congr fun s hs => maxP_congr (fun s hs => bitP_fam hs) hs
  have w1 := fun D m (hm : m < 6) => G_splits_fam (k := k) (p := p) (D := D) (m := m) hd hk hm
  unfold wk
  rw [e0]
  have hl64 := setsOf_len (maxP p)
  generalize setsOf (maxP p) = L at *
  generalize fam p = f at *
  by_cases hl : L.length ≤ 1
  · rw [dec_true hl]
    have hl' : ((L.length : Int) ≤ 1) := by omega
    simp -implicitDefEqProofs [sc_i_works, F_i_maximalIn, g1, hl']
    try omega
  rw [dec_false hl]
  have hl' : ¬ ((L.length : Int) ≤ 1) := by omega
  by_cases h0 : mget D f = 0
  rotate_left
  · rw [dec_true h0]
    have e1 : (mget D f == 1) = dec (mget D f = 1) := by
      rw [Bool.eq_iff_iff, dec_iff, beq_iff_eq]
    simp -implicitDefEqProofs [sc_i_works, F_i_maximalIn, g1, hl', h0, e1]
  rw [dec_false fun h => h h0]
  simp only [Bool.false_eq_true, if_false]
  generalize hR : goW (spW (wk k) f) f 6 0 (mset D f 2) = R
  simp -implicitDefEqProofs [sc_i_works, F_i_maximalIn, g1, hl', h0]
  refine loopI env mixed (fun x : Nat × MM => [(1, .int .u64 f), (2, .pt 1 0), (5, .int .i64 (x.1 : Int))]) (fun x => ([(2, ints L), (1, [.mp 0]), (0, [.mpe x.2])], 3)) (fun x => x.1 ≤ 6 ∧ goW (spW (wk k) f) f (6 - x.1) x.1 x.2 = R) (fun x => 6 - x.1) (0, mset D f 2) ⟨by omega, hR⟩ (SubI.slots rfl (by simp)) ?_
  rintro ⟨i, E⟩ ⟨hi, hgo⟩
  simp only at hi hgo
  by_cases hlt : i < 6
  · have hlt' : (i : Int) < 6 := by omega
    have e6 : 6 - i = (6 - (i + 1)) + 1 := by omega
    rw [e6] at hgo
    unfold goW at hgo
    have w1' := w1 E i hlt
    generalize spW (wk k) f i E = x1 at *
    obtain ⟨b1, E1⟩ := x1
    simp only at w1' hgo
    cases b1 with
    | true =>
      simp only [if_true] at hgo
      subst hgo
      simp -implicitDefEqProofs [sc_i_works_L0, ren0, hlt', w1']
      try omega
    | false =>
      simp only [Bool.false_eq_true, if_false] at hgo
      simp -implicitDefEqProofs [sc_i_works_L0, ren0, hlt', w1']
      repeat' (first | omega | apply And.intro)
      refine Again.of (i + 1, E1) ?_ ?_ ?_
      · exact ⟨by simp only; omega, hgo⟩
      · simp only; omega
      · exact SubI.slots rfl (by simp (disch := omega) [wrapI])
  · have hi6 : i = 6 := by omega
    subst hi6
    rw [Nat.sub_self] at hgo
    unfold goW at hgo
    subst hgo
    simp -implicitDefEqProofs [sc_i_works_L0]
theorem ln_i_works : ∀ k, LendOk Try.prog 196 0 (G_works k) := by
  intro k
  induction k with
  | zero =>
    refine ⟨callable_of code_i_works, fun args cells r cells' hG => ?_⟩
    unfold G_works at hG
    split at hG
    · simp only [Option.ite_none_right_eq_some] at hG
      omega
    · simp at hG
  | succ k ih => exact ln_i_works_step (ln_i_splits ih)
noncomputable def F_i_newDecomposer : List V → Option V
  | [] => some (.agg [.omp []])
  | _ => none
theorem fn_i_newDecomposer : FnOk Try.prog 191 F_i_newDecomposer := by
  have env := envNil_ok (P := Try.prog)
  refine fn_ok code_i_newDecomposer mixed env ?_
  intro args r h hb
  unfold F_i_newDecomposer at h
  split at h
  case h_2 => simp at h
  simp only [Option.some.injEq] at h
  subst h
  refine ⟨by simp, fun w0 U0 L0 N0 => ?_⟩
  simp -implicitDefEqProofs [sc_i_newDecomposer]
end Go.Proofs.Ytmemomfffehnkaa
namespace Go.Proofs.Ytmemomfffehnkaa
open Go Go.RowKit
set_option maxRecDepth 1000000
set_option linter.unusedSimpArgs false
set_option linter.unusedVariables false
set_option maxHeartbeats 1000000
def sc_s_l20Point : SC := (.seq (.reg [⟨(some 2), none, (.box (.t 0))⟩, ⟨(some 4), none, (.mov (.c (.bool false)))⟩]) (.seq (.reg [⟨(some 5), none, (.ld (some 2) .undef (.t 2))⟩, ⟨(some 6), none, (.mov (.t 1))⟩, ⟨(some 7), none, (.call 101 [(.t 5), (.t 6)])⟩, ⟨(some 8), none, (.mov (.t 7))⟩, ⟨(some 9), (some (8, true)), (.ld (some 2) .undef (.t 2))⟩, ⟨(some 10), (some (8, true)), (.mov (.t 1))⟩, ⟨(some 11), (some (8, true)), (.conv .u64 (.t 10))⟩, ⟨(some 12), (some (8, true)), (.bin false .shl (.c (.int .i64 1)) (.t 11))⟩, ⟨(some 13), (some (8, true)), (.call 199 [(.t 9), (.t 12)])⟩, ⟨(some 14), (some (8, true)), (.call 197 [(.t 13)])⟩, ⟨(some 15), none, (.pick (.t 8) (.t 14) (.c (.bool false)))⟩, ⟨(some 16), none, (.mov (.t 15))⟩, ⟨(some 17), (some (16, true)), (.ld (some 2) .undef (.t 2))⟩, ⟨(some 18), (some (16, true)), (.mov (.t 1))⟩, ⟨(some 19), (some (16, true)), (.conv .u64 (.t 18))⟩, ⟨(some 20), (some (16, true)), (.bin false .shl (.c (.int .i64 1)) (.t 19))⟩, ⟨(some 21), (some (16, true)), (.call 176 [(.t 17), (.t 20)])⟩, ⟨(some 22), (some (16, true)), (.call 197 [(.t 21)])⟩, ⟨(some 23), none, (.pick (.t 16) (.t 22) (.c (.bool false)))⟩, ⟨(some 4), none, (.mov (.t 23))⟩]) .ret))
theorem code_s_l20Point : fnCode Try.prog [] 195 = some (24, sc_s_l20Point, [(4, none)]) := by kernel_rfl
def sc_s_l20Fine_L0 : SC := (.seq (.seq (.reg [⟨(some 8), none, (.mov (.t 3))⟩, ⟨(some 9), none, (.fad 0 (.t 1))⟩, ⟨(some 10), none, (.ld none (.int .i64 0) (.t 9))⟩, ⟨(some 11), none, (.bin false .lss (.t 8) (.t 10))⟩]) (.cond (.t 11) .skip (.exit 0))) (.seq (.block 1 (.seq (.reg [⟨(some 14), none, (.ld (some 2) .undef (.t 1))⟩, ⟨(some 15), none, (.mov (.t 3))⟩, ⟨(some 16), none, (.call 195 [(.t 14), (.t 15)])⟩]) (.cond (.t 16) (.seq (.reg [⟨(some 2), none, (.mov (.c (.bool true)))⟩]) .ret) .skip))) (.reg [⟨(some 12), none, (.mov (.t 3))⟩, ⟨(some 13), none, (.bin false .add (.t 12) (.c (.int .i64 1)))⟩, ⟨(some 3), none, (.mov (.t 13))⟩])))
def sc_s_l20Fine : SC := (.seq (.reg [⟨(some 1), none, (.box (.t 0))⟩, ⟨(some 2), none, (.mov (.c (.bool false)))⟩]) (.seq (.seq (.reg [⟨(some 4), none, (.fad 1 (.t 1))⟩, ⟨(some 5), none, (.ld none .nil (.t 4))⟩, ⟨(some 6), none, (.len (.t 5))⟩, ⟨(some 7), none, (.bin false .leq (.t 6) (.c (.int .i64 1)))⟩]) (.cond (.t 7) (.seq (.reg [⟨(some 2), none, (.mov (.c (.bool true)))⟩]) .ret) .skip)) (.seq (.seq (.reg [⟨(some 3), none, (.mov (.c (.int .i64 0)))⟩]) (.block 0 (.loop sc_s_l20Fine_L0))) (.seq (.reg [⟨(some 2), none, (.mov (.c (.bool false)))⟩]) .ret))))
theorem code_s_l20Fine : fnCode Try.prog [] 197 = some (17, sc_s_l20Fine, [(2, none)]) := by kernel_rfl
noncomputable def F_fine (k : Nat) : List V → Option V := F1 dC fun c => @ite _ (cplx c.1 c.2 ∧ pts (faceS c.2) < k) (Classical.propDecidable _) (some (.bool (dec (finI (faceS c.2))))) none
def pntQ (n : Int) (l : List Int) (x : Int) : Prop := shdP n l x ∧ splQ (faceS l) x.toNat
noncomputable def F_pnt (k : Nat) : List V → Option V := F2 dC dI fun c x => @ite _ (cplx c.1 c.2 ∧ pts (faceS c.2) < k + 1 ∧ inR x) (Classical.propDecidable _) (some (.bool (dec (pntQ c.1 c.2 x)))) none
theorem fn_s_l20Point {k : Nat} (hF : FnOk Try.prog 197 (F_fine k)) : FnOk Try.prog 195 (F_pnt k) := by
  have env := ((((envNil_ok (P := Try.prog)).add fn_s_IsShedding).add fn_s_l5Link).add fn_s_l5Without).add hF
  refine fn_ok code_s_l20Point mixed env ?_
  intro args r h hb
  obtain ⟨_, _, ⟨n, l⟩, x, rfl, h1, h2, h4⟩ := F2_inv h
  cases dC_inv h1
  cases dI_inv h2
  clear h
  simp only [Option.ite_none_right_eq_some, Option.some.injEq] at h4
  obtain ⟨⟨hc, hk, hx⟩, rfl⟩ := h4
  refine ⟨by simp, fun w0 U0 L0 N0 => ?_⟩
  clear hb
  by_cases hs : shdP n l x
  rotate_left
  · have hd := dec_false hs
    have hv : dec (pntQ n l x) = false := dec_false fun h => hs h.1
    simp -implicitDefEqProofs [sc_s_l20Point, F_s_IsShedding, hx, hd, hv]
  have hd := dec_true hs
  obtain ⟨_, x0, x1, hq⟩ := id hs
  have hn6 := hc.2.1
  obtain ⟨m, rfl⟩ : ∃ m : Nat, x = m := ⟨x.toNat, by omega⟩
  have hm : m < 6 := by omega
  rw [Int.toNat_natCast] at hq
  have hu : IntKind.u64.wrap (m : Int) = m := wrapU _ (by omega) (by omega)
  have hsh := shl6 hm
  have hpS := isS_pow hm
  have hS := cplx_isS hc
  have hl64 := cplx_len hc
  have c1 := cplx_lnF hc hpS
  have c2 := cplx_wtF hc hpS
  have p1 : pts (faceS (lnF l (2 ^ m))) < k := by
    rw [pts_congr (lnF_face hc hpS)]
    have := pts_lnk (dcl_face hS) hm hq.1
    omega
  have p2 : pts (faceS (wtF l (2 ^ m))) < k := by
    rw [pts_congr (wtF_face hc hpS)]
    have := pts_wto (p := faceS l) hm hq.1
    omega
  have v1 : dec (pntQ n l m) = (dec (finI (faceS (lnF l (2 ^ m)))) && dec (finI (faceS (wtF l (2 ^ m))))) := by
    rw [Bool.eq_iff_iff, dec_iff, Bool.and_eq_true, dec_iff, dec_iff, finI_congr (lnF_face hc hpS), finI_congr (wtF_face hc hpS)]
    unfold pntQ splQ
    rw [Int.toNat_natCast]
    exact ⟨fun h => h.2.2, fun h => ⟨hs, hq, h⟩⟩
  rw [v1]
  have e1 : setsOf (maxP (lnkP (faceS l) (2 ^ m))) = lnF l (2 ^ m) := rfl
  have e2 : setsOf (maxP (wtoP (faceS l) (2 ^ m))) = wtF l (2 ^ m) := rfl
  clear v1 hq
  generalize lnF l (2 ^ m) = A at *
  generalize wtF l (2 ^ m) = B at *
  generalize (2 : Int) ^ m = s at *
  cases hA : dec (finI (faceS A)) with
  | false => simp -implicitDefEqProofs [sc_s_l20Point, F_s_IsShedding, F_s_l5Link, F_s_l5Without, F_fine, hx, hd, hu, hsh, hS, hl64, hpS, hc, e1, e2, c1, c2, p1, p2, hA]
  | true => simp -implicitDefEqProofs [sc_s_l20Point, F_s_IsShedding, F_s_l5Link, F_s_l5Without, F_fine, hx, hd, hu, hsh, hS, hl64, hpS, hc, e1, e2, c1, c2, p1, p2, hA]
theorem fn_s_l20Fine_step {k : Nat} (hF : FnOk Try.prog 195 (F_pnt k)) : FnOk Try.prog 197 (F_fine (k + 1)) := by
  have env := (envNil_ok (P := Try.prog)).add hF
  refine fn_ok code_s_l20Fine mixed env ?_
  intro args r h hb
  obtain ⟨_, ⟨n, l⟩, rfl, h1, h4⟩ := F1_inv h
  cases dC_inv h1
  clear h
  simp only [Option.ite_none_right_eq_some, Option.some.injEq] at h4
  obtain ⟨⟨hc, hk⟩, rfl⟩ := h4
  refine ⟨by simp, fun w0 U0 L0 N0 => ?_⟩
  clear hb
  generalize hv : dec (finI (faceS l)) = v
  obtain ⟨hn1, hn6, _⟩ := id hc
  by_cases hl : l.length ≤ 1
  · have hv1 : v = true := hv ▸ dec_true (finI_iff.2 (.inl (by rw [fin_len hc]; exact hl)))
    have hl' : ((l.length : Int) ≤ 1) := by omega
    simp -implicitDefEqProofs [sc_s_l20Fine, hl', hv1]
    try omega
  have hl' : ¬ ((l.length : Int) ≤ 1) := by omega
  simp -implicitDefEqProofs [sc_s_l20Fine, hl']
  refine loopI env mixed (fun k : Nat => [(1, .pt 0 0), (3, .int .i64 (k : Int))]) (fun _ => ([(0, [.int .i64 n, .list 1 (ints l)])], 1)) (fun j => j ≤ 6 ∧ ∀ i : Nat, i < j → ¬ pntQ n l i) (fun j => 6 - j) 0 (by simp) (SubI.slots rfl (by simp)) ?_
  rintro j ⟨hj, hno⟩
  by_cases hlt : (j : Int) < n
  · have hj6 : j < 6 := by omega
    have hr : inR (j : Int) := ⟨by omega, by omega⟩
    by_cases hs : pntQ n l j
    · have hd := dec_true hs
      have hv1 : v = true := hv ▸ dec_true (finI_iff.2 (.inr ⟨j, hj6, by have := hs.2; rwa [Int.toNat_natCast] at this⟩))
      simp -implicitDefEqProofs [sc_s_l20Fine_L0, F_pnt, hlt, hr, hd, hc, hk, hv1]
    · have hd := dec_false hs
      simp -implicitDefEqProofs [sc_s_l20Fine_L0, F_pnt, hlt, hr, hd, hc, hk]
      repeat' (first | omega | apply And.intro)
      refine Again.of (j + 1) ⟨by omega, fun i hi => ?_⟩ (by omega) (SubI.slots rfl (by simp (disch := omega) [wrapI]))
      rcases Nat.lt_succ_iff_lt_or_eq.1 hi with h1 | rfl
      · exact hno i h1
      · exact hs
  · have hv1 : v = false := hv ▸ dec_false fun h => by
      rcases finI_iff.1 h with h | ⟨i, hi, h⟩
      · rw [fin_len hc] at h; omega
      · have hin : (i : Int) < n := face_pow hc hi h.1.1
        refine hno i (by omega) ⟨⟨hc, by omega, hin, ?_⟩, ?_⟩
        · rw [Int.toNat_natCast]; exact h.1
        · rw [Int.toNat_natCast]; exact h
    simp -implicitDefEqProofs [sc_s_l20Fine_L0, hlt, hv1]
theorem fn_s_l20Fine : ∀ k, FnOk Try.prog 197 (F_fine k) := by
  intro k
  induction k with
  | zero =>
    refine ⟨callable_of code_s_l20Fine, fun args r h => ?_⟩
    obtain ⟨_, ⟨n, l⟩, rfl, h1, h4⟩ := F1_inv h
    simp only [Option.ite_none_right_eq_some] at h4
    omega
  | succ k ih => exact fn_s_l20Fine_step (fn_s_l20Point ih)
end Go.Proofs.Ytmemomfffehnkaa
namespace Go.Proofs.Ytmemomfffehnkaa
open Go Go.RowKit
set_option maxRecDepth 1000000
set_option linter.unusedSimpArgs false
set_option linter.unusedVariables false
set_option maxHeartbeats 1000000
section tg
variable {Γ : Env} {s : Hp}
@[simp] theorem t_fstg (d : Option Nat) (g : Nat) (want : Bool) (o : SO) (fr : Bool) (r : DT) (l : Tm) (K : Tm → Hp → Prop) : vcT Γ (.fst ⟨d, some (g, want), o⟩ fr r) l s K = match tget l g with
    | .bool b => if b = want then vcT Γ (.fst ⟨d, none, o⟩ fr r) ((g, .bool want) :: l) s K else vcT Γ r (put ((g, .bool (!want)) :: l) d (.tup [])) s K
    | .tup _ => vcT Γ r (put l d (.tup [])) s K
    | _ => False := by
  simp only [← guard_eq]
  rfl
@[simp] theorem t_altg (d : Option Nat) (g : Nat) (want : Bool) (o : SO) (ld : Bool) (r q : DT) (l : Tm) (K : Tm → Hp → Prop) : vcT Γ (.alt ⟨d, some (g, want), o⟩ ld r q) l s K = ((match tget l g with
    | .bool b => if b = want then stepT Γ ⟨d, none, o⟩ ld ((g, .bool want) :: l) s (fun l s => vcT Γ r l s K) else vcT Γ r (put ((g, .bool (!want)) :: l) d (.tup [])) s K
    | .tup _ => vcT Γ r (put l d (.tup [])) s K
    | _ => False) ∧ vcT Γ q l s K) := by
  simp only [← guard_eq]
  rfl
@[simp] theorem step_quiet (d : Option Nat) (o : SO) (l : Tm) (N : Tm → Hp → Prop) : stepT Γ ⟨d, none, o⟩ false l s N = match evQ Γ s.1 (Opd.ev (tget l)) o with
    | some (b, v) => b = true ∧ N (put l d (fz 6 v)) s
    | none => False := by
  simp only [stepT]
  cases h : evQ Γ s.1 (Opd.ev (tget l)) o <;> simp
@[simp] theorem step_loud (d : Option Nat) (o : SO) (l : Tm) (N : Tm → Hp → Prop) : stepT Γ ⟨d, none, o⟩ true l s N = match evH Γ (Opd.ev (tget l)) s o with
    | some (b, v, s') => b = true ∧ N (put l d v) s'
    | none => False := by
  simp only [stepT]
  cases h : evH Γ (Opd.ev (tget l)) s o <;> simp
end tg
def sc_s_IsDecomposable : SC := (.seq (.reg [⟨(some 1), none, (.box (.t 0))⟩, ⟨(some 2), none, (.mov (.c (.bool false)))⟩]) (.seq (.reg [⟨(some 3), none, (.ld (some 2) .undef (.t 1))⟩, ⟨(some 4), none, (.call 24 [(.t 3)])⟩, ⟨(some 5), none, (.mov (.t 4))⟩, ⟨(some 6), (some (5, true)), (.ld (some 2) .undef (.t 1))⟩, ⟨(some 7), (some (5, true)), (.call 197 [(.t 6)])⟩, ⟨(some 8), none, (.pick (.t 5) (.t 7) (.c (.bool false)))⟩, ⟨(some 2), none, (.mov (.t 8))⟩]) .ret))
theorem code_s_IsDecomposable : fnCode Try.prog [] 99 = some (9, sc_s_IsDecomposable, [(2, none)]) := by kernel_rfl
def decP (n : Int) (l : List Int) : Prop := cplx n l ∧ finI (faceS l)
noncomputable def F_s_IsDecomposable : List V → Option V := F1 dC fun c => some (.bool (dec (decP c.1 c.2)))
theorem fn_s_IsDecomposable : FnOk Try.prog 99 F_s_IsDecomposable := by
  have env := ((envNil_ok (P := Try.prog)).add fn_s_IsComplex).add (fn_s_l20Fine 7)
  refine fn_ok code_s_IsDecomposable mixed env ?_
  intro args r h hb
  obtain ⟨_, ⟨n, l⟩, rfl, h1, h4⟩ := F1_inv h
  cases dC_inv h1
  cases h4
  clear h
  refine ⟨by simp, fun w0 U0 L0 N0 => ?_⟩
  clear hb
  cases e0 : cplxB n l with
  | false =>
    have hv1 : dec (decP n l) = false := dec_false fun h => by simp [cplxB_iff.2 h.1] at e0
    simp -implicitDefEqProofs [sc_s_IsDecomposable, F_s_IsComplex, e0, hv1]
  | true =>
  have hc := cplxB_iff.1 e0
  have hv : dec (finI (faceS l)) = dec (decP n l) := by
    rw [Bool.eq_iff_iff, dec_iff, dec_iff]
    exact ⟨fun h => ⟨hc, h⟩, fun h => h.2⟩
  have hk := pts_six (faceS l)
  simp -implicitDefEqProofs [sc_s_IsDecomposable, F_s_IsComplex, F_fine, e0, hc, hk, hv]
def sc_i_IsDecomposable : SC := (.seq (.reg [⟨(some 1), none, (.box (.t 0))⟩, ⟨(some 2), none, (.mov (.c (.bool false)))⟩]) (.seq (.treg (.fst ⟨(some 3), none, (.ld (some 2) .undef (.t 1))⟩ false (.fst ⟨(some 4), none, (.call 130 [(.t 3)])⟩ false (.fst ⟨(some 5), none, (.mov (.t 4))⟩ false (.alt ⟨(some 6), (some (5, true)), (.call 191 [])⟩ true (.fst ⟨(some 7), (some (5, true)), (.ld (some 2) .undef (.t 1))⟩ false (.fst ⟨(some 8), (some (5, true)), (.call 151 [(.t 7)])⟩ false (.alt ⟨(some 9), (some (5, true)), (.call 196 [(.t 6), (.t 8)])⟩ true (.fst ⟨(some 10), none, (.pick (.t 5) (.t 9) (.c (.bool false)))⟩ false (.fst ⟨(some 2), none, (.mov (.t 10))⟩ false .done)) .stop))) (.alt ⟨(some 7), (some (5, true)), (.ld (some 2) .undef (.t 1))⟩ false (.alt ⟨(some 6), (some (5, true)), (.call 191 [])⟩ true (.fst ⟨(some 8), (some (5, true)), (.call 151 [(.t 7)])⟩ false (.alt ⟨(some 9), (some (5, true)), (.call 196 [(.t 6), (.t 8)])⟩ true (.fst ⟨(some 10), none, (.pick (.t 5) (.t 9) (.c (.bool false)))⟩ false (.fst ⟨(some 2), none, (.mov (.t 10))⟩ false .done)) .stop)) .stop) .stop)))))) .ret))
theorem code_i_IsDecomposable : fnCode Try.prog [196, 193, 191] 98 = some (11, sc_i_IsDecomposable, [(2, none)]) := by kernel_rfl
theorem fn_i_IsDecomposable : FnOk Try.prog 98 F_s_IsDecomposable := by
  have env := ((((envNil_ok (P := Try.prog)).add fn_i_IsComplex).add fn_i_newDecomposer).add fn_i_facesIn).addl (ln_i_works 7)
  refine fn_ok code_i_IsDecomposable mixed env ?_
  intro args r h hb
  obtain ⟨_, ⟨n, l⟩, rfl, h1, h4⟩ := F1_inv h
  cases dC_inv h1
  cases h4
  clear h
  refine ⟨by simp, fun w0 U0 L0 N0 => ?_⟩
  clear hb
  cases e0 : cplxB n l with
  | false =>
    have hv1 : dec (decP n l) = false := dec_false fun h => by simp [cplxB_iff.2 h.1] at e0
    simp -implicitDefEqProofs [sc_i_IsDecomposable, F_s_IsComplex, e0, hv1]
  | true =>
  have hc := cplxB_iff.1 e0
  have hS := cplx_isS hc
  have hv : dec (finI (faceS l)) = dec (decP n l) := by
    rw [Bool.eq_iff_iff, dec_iff, dec_iff]
    exact ⟨fun h => ⟨hc, h⟩, fun h => h.2⟩
  have hd := dcl_face hS
  have hk := pts_six (faceS l)
  have hg := G_works_fam (k := 7) (D := []) hd hk
  obtain ⟨hw, _, _⟩ := wk_ok 7 7 (faceS l) [] hd hk (Nat.le_refl _) (mInv_nil 7)
  rw [hv] at hw
  rw [hw] at hg
  clear hw hv
  simp -implicitDefEqProofs [sc_i_IsDecomposable, F_s_IsComplex, F_i_facesIn, F_i_newDecomposer, ren0, e0, hS, hg]
end Go.Proofs.Ytmemomfffehnkaa
namespace Go.Proofs.Ytmemomfffehnkaa
open Go Go.RowKit
set_option maxRecDepth 1000000
set_option linter.unusedSimpArgs false
set_option linter.unusedVariables false
set_option maxHeartbeats 1000000
def sc_s_l3Copy : SC := (.seq (.reg [⟨(some 1), none, (.box (.t 0))⟩, ⟨(some 2), none, (.new [(.int .i64 0), .nil])⟩]) (.seq (.treg (.fst ⟨(some 3), none, (.fad 0 (.t 1))⟩ true (.fst ⟨(some 6), none, (.fad 1 (.t 1))⟩ true (.alt ⟨(some 4), none, (.ld none (.int .i64 0) (.t 3))⟩ false (.alt ⟨(some 5), none, (.mks 0 1 [] [])⟩ true (.fst ⟨(some 7), none, (.ld none .nil (.t 6))⟩ false (.alt ⟨(some 8), none, (.app 1 8 (.t 5) (.t 7))⟩ true (.fst ⟨(some 9), none, (.agg [(.int .i64 0), .nil] [(0, (1, (.t 4))), (1, (1, (.t 8)))])⟩ false (.alt ⟨none, none, (.st 2 (.t 2) (.t 9))⟩ true .done .stop)) .stop)) (.alt ⟨(some 7), none, (.ld none .nil (.t 6))⟩ false (.alt ⟨(some 5), none, (.mks 0 1 [] [])⟩ true (.alt ⟨(some 8), none, (.app 1 8 (.t 5) (.t 7))⟩ true (.fst ⟨(some 9), none, (.agg [(.int .i64 0), .nil] [(0, (1, (.t 4))), (1, (1, (.t 8)))])⟩ false (.alt ⟨none, none, (.st 2 (.t 2) (.t 9))⟩ true .done .stop)) .stop) .stop) .stop)) (.alt ⟨(some 5), none, (.mks 0 1 [] [])⟩ true (.fst ⟨(some 7), none, (.ld none .nil (.t 6))⟩ false (.alt ⟨(some 4), none, (.ld none (.int .i64 0) (.t 3))⟩ false (.alt ⟨(some 8), none, (.app 1 8 (.t 5) (.t 7))⟩ true (.fst ⟨(some 9), none, (.agg [(.int .i64 0), .nil] [(0, (1, (.t 4))), (1, (1, (.t 8)))])⟩ false (.alt ⟨none, none, (.st 2 (.t 2) (.t 9))⟩ true .done .stop)) .stop) (.alt ⟨(some 8), none, (.app 1 8 (.t 5) (.t 7))⟩ true (.fst ⟨(some 4), none, (.ld none (.int .i64 0) (.t 3))⟩ false (.fst ⟨(some 9), none, (.agg [(.int .i64 0), .nil] [(0, (1, (.t 4))), (1, (1, (.t 8)))])⟩ false (.alt ⟨none, none, (.st 2 (.t 2) (.t 9))⟩ true .done .stop))) .stop))) (.alt ⟨(some 7), none, (.ld none .nil (.t 6))⟩ false (.alt ⟨(some 4), none, (.ld none (.int .i64 0) (.t 3))⟩ false (.alt ⟨(some 5), none, (.mks 0 1 [] [])⟩ true (.alt ⟨(some 8), none, (.app 1 8 (.t 5) (.t 7))⟩ true (.fst ⟨(some 9), none, (.agg [(.int .i64 0), .nil] [(0, (1, (.t 4))), (1, (1, (.t 8)))])⟩ false (.alt ⟨none, none, (.st 2 (.t 2) (.t 9))⟩ true .done .stop)) .stop) .stop) (.alt ⟨(some 5), none, (.mks 0 1 [] [])⟩ true (.alt ⟨(some 4), none, (.ld none (.int .i64 0) (.t 3))⟩ false (.alt ⟨(some 8), none, (.app 1 8 (.t 5) (.t 7))⟩ true (.fst ⟨(some 9), none, (.agg [(.int .i64 0), .nil] [(0, (1, (.t 4))), (1, (1, (.t 8)))])⟩ false (.alt ⟨none, none, (.st 2 (.t 2) (.t 9))⟩ true .done .stop)) .stop) (.alt ⟨(some 8), none, (.app 1 8 (.t 5) (.t 7))⟩ true (.fst ⟨(some 4), none, (.ld none (.int .i64 0) (.t 3))⟩ false (.fst ⟨(some 9), none, (.agg [(.int .i64 0), .nil] [(0, (1, (.t 4))), (1, (1, (.t 8)))])⟩ false (.alt ⟨none, none, (.st 2 (.t 2) (.t 9))⟩ true .done .stop))) .stop)) .stop)) .stop)))))) .ret))
theorem code_s_l3Copy : fnCode Try.prog [] 178 = some (10, sc_s_l3Copy, [(2, (some 2))]) := by kernel_rfl
noncomputable def F_s_l3Copy : List V → Option V := F1 dC fun c => @ite _ (c.2.length ≤ 1048576) (Classical.propDecidable _) (some (.agg [.int .i64 c.1, .own 1 (ints c.2)])) none
theorem fn_s_l3Copy : FnOk Try.prog 178 F_s_l3Copy := by
  refine fn_ok code_s_l3Copy mixed envNil_ok ?_
  intro args r h hb
  obtain ⟨_, ⟨n, l⟩, rfl, h1, h4⟩ := F1_inv h
  cases dC_inv h1
  simp only [Option.ite_none_right_eq_some, Option.some.injEq] at h4
  obtain ⟨hlen, rfl⟩ := h4
  refine ⟨by simp, fun w0 U0 L0 N0 => ?_⟩
  clear h hb
  have hl2 : l.length * 8 ≤ 140737488355328 := by omega
  simp -implicitDefEqProofs [sc_s_l3Copy, freeOk, hlen, hl2]
end Go.Proofs.Ytmemomfffehnkaa
namespace Go.Proofs.Ytmemomfffehnkaa
open Go Go.RowKit
set_option maxRecDepth 1000000
set_option linter.unusedSimpArgs false
set_option linter.unusedVariables false
set_option maxHeartbeats 1000000
theorem least_lt6 (q : Nat → Prop) : ∀ k, (∀ i, i < k → ¬ q i) ∨ ∃ m, m < k ∧ q m ∧ ∀ i, i < m → ¬ q i
  | 0 => .inl fun i hi => by omega
  | k + 1 => by
    rcases least_lt6 q k with h | ⟨m, a, b, c⟩
    · by_cases hq : q k
      · exact .inr ⟨k, by omega, hq, h⟩
      · refine .inl fun i hi => ?_
        rcases Nat.lt_succ_iff_lt_or_eq.1 hi with h1 | rfl
        · exact h i h1
        · exact hq
    · exact .inr ⟨m, by omega, b, c⟩
/-- The least point with which a family splits. -/
def lsPt (p : Int → Prop) (v : Int) : Prop := (v = -1 ∧ ∀ i : Nat, i < 6 → ¬ splQ p i) ∨ ∃ m : Nat, m < 6 ∧ v = m ∧ splQ p m ∧ ∀ i : Nat, i < m → ¬ splQ p i
theorem ls_ex (p : Int → Prop) : ∃ v, lsPt p v := by
  rcases least_lt6 (fun i => splQ p i) 6 with h | ⟨m, a, b, c⟩
  · exact ⟨-1, .inl ⟨rfl, h⟩⟩
  · exact ⟨m, .inr ⟨m, a, rfl, b, c⟩⟩
noncomputable def lsZ (p : Int → Prop) : Int := Classical.choose (ls_ex p)
theorem lsZ_spec (p : Int → Prop) : lsPt p (lsZ p) := Classical.choose_spec (ls_ex p)
theorem lsPt_one {p : Int → Prop} {v w : Int} (h : lsPt p v) (k : lsPt p w) : v = w := by
  rcases h with ⟨a, b⟩ | ⟨m, a, b, c, d⟩
  · rcases k with ⟨a2, b2⟩ | ⟨m2, a2, b2, c2, d2⟩
    · rw [a, a2]
    · exact absurd c2 (b m2 a2)
  · rcases k with ⟨a2, b2⟩ | ⟨m2, a2, b2, c2, d2⟩
    · exact absurd c (b2 m a)
    · rcases Nat.lt_trichotomy m m2 with h1 | h1 | h1
      · exact absurd c (d2 m h1)
      · rw [b, b2, h1]
      · exact absurd c2 (d m2 h1)
theorem lsZ_congr {p q : Int → Prop} (e : ∀ s, isS s → (p s ↔ q s)) : lsZ p = lsZ q := by
  refine lsPt_one (p := q) ?_ (lsZ_spec q)
  rcases lsZ_spec p with ⟨a, b⟩ | ⟨m, a, b, c, d⟩
  · exact .inl ⟨a, fun i hi h => b i hi ((splQ_congr e hi).2 h)⟩
  · exact .inr ⟨m, a, b, (splQ_congr e a).1 c, fun i hi h => d i hi ((splQ_congr e (by omega)).2 h)⟩
/-- The points that are taken away, one behind another. -/
noncomputable def dcb : Nat → (Int → Prop) → List Int
  | 0, _ => []
  | k + 1, p => if dec ((setsOf (maxP p)).length ≤ 1) = true then [] else lsZ p :: dcb k (wtoP p (2 ^ (lsZ p).toNat))
theorem dcb_congr : ∀ (k : Nat) {p q : Int → Prop}, (∀ s, isS s → (p s ↔ q s)) → (∃ i : Nat, i < 6 ∧ splQ p i) ∨ True → dcb k p = dcb k q
  | 0, _, _, _, _ => rfl
  | k + 1, p, q, e, _ => by
    unfold dcb
    rw [setsOf_congr fun s hs => maxP_congr e hs, lsZ_congr e]
    by_cases h : (setsOf (maxP q)).length ≤ 1
    · rw [dec_true h]; rfl
    · rw [dec_false h]
      simp only [Bool.false_eq_true, if_false, List.cons.injEq, true_and]
      refine dcb_congr k (fun t ht => ?_) (.inr trivial)
      exact wtoP_congr e ht
structure dI' (R : List Int) (k : Nat) (p : Int → Prop) (o : List Int) : Prop where
  hf : finI p
  hp : pts p < k
  hl : o.length + k ≤ 7
  hr : o ++ dcb k p = R
theorem dI'.done {R : List Int} {k : Nat} {p : Int → Prop} {o : List Int} (h : dI' R k p o) (hl : (setsOf (maxP p)).length ≤ 1) : o = R := by
  obtain ⟨j, rfl⟩ : ∃ j, k = j + 1 := ⟨k - 1, by have := h.hp; omega⟩
  have := h.hr
  unfold dcb at this
  rw [dec_true hl] at this
  simpa using this
theorem dI'.step {R : List Int} {k : Nat} {p : Int → Prop} {o : List Int} (h : dI' R k p o) (hl : ¬ (setsOf (maxP p)).length ≤ 1) :
    ∃ j m : Nat, k = j + 1 ∧ m < 6 ∧ splQ p m ∧ (∀ i : Nat, i < m → ¬ splQ p i) ∧ ∀ q : Int → Prop, (∀ s, isS s → (q s ↔ wtoP p (2 ^ m) s)) → dI' R j q (o ++ [(m : Int)]) := by
  obtain ⟨j, rfl⟩ : ∃ j, k = j + 1 := ⟨k - 1, by have := h.hp; omega⟩
  have hr := h.hr
  unfold dcb at hr
  rw [dec_false hl] at hr
  simp only [Bool.false_eq_true, if_false] at hr
  rcases lsZ_spec p with ⟨a, b⟩ | ⟨m, a, b, c, d⟩
  · rcases finI_iff.1 h.hf with h1 | ⟨i, hi, hs⟩
    · exact absurd h1 hl
    · exact absurd hs (b i hi)
  · refine ⟨j, m, rfl, a, c, d, fun q hq => ⟨(finI_congr hq).2 c.2.2, ?_, ?_, ?_⟩⟩
    · rw [pts_congr hq]
      have := pts_wto a c.1.1
      have := h.hp
      omega
    · have := h.hl
      simp only [List.length_append, List.length_singleton]
      omega
    · rw [dcb_congr j hq (.inr trivial), ← hr, b, Int.toNat_natCast]
      simp
open Classical in
noncomputable def dcbL (n : Int) (l : List Int) : List Int := if decP n l then dcb 7 (faceS l) else []
theorem dcbL_yes {n : Int} {l : List Int} (h : decP n l) : dcbL n l = dcb 7 (faceS l) := if_pos h
theorem dcbL_no {n : Int} {l : List Int} (h : ¬ decP n l) : dcbL n l = [] := if_neg h
theorem dcb_len : ∀ (k : Nat) (p : Int → Prop), (dcb k p).length ≤ k
  | 0, _ => Nat.le_refl _
  | k + 1, p => by
    unfold dcb
    split
    · simp
    · simpa using dcb_len k _
theorem dcbL_len (n : Int) (l : List Int) : (dcbL n l).length ≤ 64 := by
  unfold dcbL
  split
  · have := dcb_len 7 (faceS l); omega
  · simp
theorem dI'_start {l : List Int} (h : finI (faceS l)) : dI' (dcb 7 (faceS l)) 7 (faceS l) [] := ⟨h, pts_six _, by simp, rfl⟩
noncomputable def F_s_DecomposeBy : List V → Option V := F1 dC fun c => some (.tup [.own 1 (ints (dcbL c.1 c.2)), .bool (dec (decP c.1 c.2))])
def sc_s_DecomposeBy_L2 : SC := (.seq (.seq (.reg [⟨(some 18), none, (.ld (some 2) .undef (.t 5))⟩, ⟨(some 19), none, (.mov (.t 6))⟩, ⟨(some 20), none, (.call 195 [(.t 18), (.t 19)])⟩, ⟨(some 21), none, (.un .not (.t 20))⟩]) (.cond (.t 21) .skip (.exit 2))) (.block 3 (.reg [⟨(some 22), none, (.mov (.t 6))⟩, ⟨(some 23), none, (.bin false .add (.t 22) (.c (.int .i64 1)))⟩, ⟨(some 6), none, (.mov (.t 23))⟩])))
def sc_s_DecomposeBy_L0 : SC := (.seq (.seq (.reg [⟨(some 14), none, (.fad 1 (.t 5))⟩, ⟨(some 15), none, (.ld none .nil (.t 14))⟩, ⟨(some 16), none, (.len (.t 15))⟩, ⟨(some 17), none, (.bin false .gtr (.t 16) (.c (.int .i64 1)))⟩]) (.cond (.t 17) .skip (.exit 0))) (.block 1 (.seq (.reg [⟨(some 6), none, (.mov (.c (.int .i64 0)))⟩]) (.seq (.block 2 (.loop sc_s_DecomposeBy_L2)) (.seq (.reg [⟨(some 24), none, (.mov (.t 4))⟩, ⟨(some 25), none, (.mov (.t 6))⟩, ⟨(some 26), none, (.mks 1 1 [(.int .i64 0)] [(0, (1, (.t 25)))])⟩, ⟨(some 27), none, (.app 1 8 (.t 24) (.t 26))⟩, ⟨(some 4), none, (.mov (.t 27))⟩]) (.reg [⟨(some 28), none, (.ld (some 2) .undef (.t 5))⟩, ⟨(some 29), none, (.mov (.t 6))⟩, ⟨(some 30), none, (.conv .u64 (.t 29))⟩, ⟨(some 31), none, (.bin false .shl (.c (.int .i64 1)) (.t 30))⟩, ⟨(some 32), none, (.call 176 [(.t 28), (.t 31)])⟩, ⟨none, none, (.st 2 (.t 5) (.t 32))⟩]))))))
def sc_s_DecomposeBy : SC := (.seq (.reg [⟨(some 1), none, (.box (.t 0))⟩, ⟨(some 2), none, (.mov (.c .nil))⟩, ⟨(some 3), none, (.mov (.c (.bool false)))⟩]) (.seq (.seq (.reg [⟨(some 7), none, (.ld (some 2) .undef (.t 1))⟩, ⟨(some 8), none, (.call 99 [(.t 7)])⟩, ⟨(some 9), none, (.un .not (.t 8))⟩]) (.cond (.t 9) (.seq (.reg [⟨(some 10), none, (.mks 0 1 [] [])⟩, ⟨(some 2), none, (.mov (.t 10))⟩, ⟨(some 3), none, (.mov (.c (.bool false)))⟩]) .ret) .skip)) (.seq (.reg [⟨(some 11), none, (.mks 0 1 [] [])⟩, ⟨(some 4), none, (.mov (.t 11))⟩]) (.seq (.reg [⟨(some 12), none, (.ld (some 2) .undef (.t 1))⟩, ⟨(some 13), none, (.call 178 [(.t 12)])⟩, ⟨(some 5), none, (.new [(.int .i64 0), .nil])⟩, ⟨none, none, (.st 2 (.t 5) (.t 13))⟩]) (.seq (.block 0 (.loop sc_s_DecomposeBy_L0)) (.seq (.reg [⟨(some 33), none, (.mov (.t 4))⟩, ⟨(some 2), none, (.mov (.t 33))⟩, ⟨(some 3), none, (.mov (.c (.bool true)))⟩]) .ret))))))
theorem code_s_DecomposeBy : fnCode Try.prog [] 97 = some (34, sc_s_DecomposeBy, [(2, none), (3, none)]) := by kernel_rfl
theorem fn_s_DecomposeBy : FnOk Try.prog 97 F_s_DecomposeBy := by
  have env := ((((envNil_ok (P := Try.prog)).add fn_s_IsDecomposable).add fn_s_l3Copy).add (fn_s_l20Point (fn_s_l20Fine 7))).add fn_s_l5Without
  refine fn_ok code_s_DecomposeBy mixed env ?_
  intro args r h hb
  obtain ⟨_, ⟨n, l⟩, rfl, h1, h4⟩ := F1_inv h
  cases dC_inv h1
  cases h4
  refine ⟨by simp, fun w0 U0 L0 N0 => ?_⟩
  clear h hb
  have hID : F_s_IsDecomposable [.agg [.int .i64 n, .list 1 (ints l)]] = some (.bool (dec (decP n l))) := by simp [F_s_IsDecomposable]
  by_cases hP : decP n l
  rotate_left
  · rw [dec_false hP] at hID
    simp only
    rw [dcbL_no hP, dec_false hP]
    simp -implicitDefEqProofs [sc_s_DecomposeBy, hID]
  rw [dec_true hP] at hID
  simp only
  rw [dcbL_yes hP, dec_true hP]
  obtain ⟨hc, hf⟩ := hP
  have hl64 := cplx_len hc
  have hl20 : l.length ≤ 1048576 := by omega
  have hst := dI'_start hf
  generalize dcb 7 (faceS l) = R at *
  have inner : ∀ (L o : List Int) (m : Nat) (Q : Post) (T0 : Tm), cplx n L → m < 6 → splQ (faceS L) m → (∀ i : Nat, i < m → ¬ splQ (faceS L) i) → subE T0 [(4, .sl 1 1 0 o.length), (5, .pt 3 0), (6, .int .i64 0)] →
      Q (.exit 2) [(4, .sl 1 1 0 o.length), (5, .pt 3 0), (6, .int .i64 (m : Int))] ([(3, [.int .i64 n, .sl 2 1 0 L.length]), (2, ints L), (1, ints o), (0, [.int .i64 n, .list 1 (ints l)])], 4) →
      LoopI ⟨Try.prog, w0, U0, L0, N0, 0, 34⟩ [] sc_s_DecomposeBy_L2 Q T0 ([(3, [.int .i64 n, .sl 2 1 0 L.length]), (2, ints L), (1, ints o), (0, [.int .i64 n, .list 1 (ints l)])], 4) := by
    intro L o m Q T0 hcL hm hs hmin hT hQ
    refine loopQ env mixed (fun j : Nat => [(4, .sl 1 1 0 o.length), (5, .pt 3 0), (6, .int .i64 (j : Int))]) (fun _ => ([(3, [.int .i64 n, .sl 2 1 0 L.length]), (2, ints L), (1, ints o), (0, [.int .i64 n, .list 1 (ints l)])], 4)) (fun j => j ≤ m) (fun j => m - j) 0 (by simp) (SubI.slots rfl (by simpa using hT)) ?_
    intro j hj
    have hp8 : pts (faceS L) < 8 := by have := pts_six (faceS L); omega
    have hr : inR (j : Int) := ⟨by omega, by omega⟩
    have hv : dec (pntQ n L j) = dec (splQ (faceS L) j) := by
      rw [Bool.eq_iff_iff, dec_iff, dec_iff]
      unfold pntQ
      rw [Int.toNat_natCast]
      exact ⟨fun h => h.2, fun h => ⟨⟨hcL, by omega, face_pow hcL (by omega) h.1.1, by rw [Int.toNat_natCast]; exact h.1⟩, h⟩⟩
    by_cases e : j = m
    · subst e
      rw [dec_true hs] at hv
      simp -implicitDefEqProofs [sc_s_DecomposeBy_L2, F_pnt, hcL, hp8, hr, hv]
      exact SubQ.of (SubI.slots rfl (by simp)) hQ
    · rw [dec_false (hmin j (by omega))] at hv
      simp -implicitDefEqProofs [sc_s_DecomposeBy_L2, F_pnt, hcL, hp8, hr, hv]
      exact Again.of (j + 1) (by omega) (by omega) (SubI.slots rfl (by simp (disch := omega) [wrapI]))
  simp -implicitDefEqProofs [sc_s_DecomposeBy, F_s_l3Copy, hID, hl20]
  refine loopI env mixed (fun x : Nat × List Int × List Int => [(4, .sl 1 1 0 x.2.2.length), (5, .pt 3 0)]) (fun x => ([(3, [.int .i64 n, .sl 2 1 0 x.2.1.length]), (2, ints x.2.1), (1, ints x.2.2), (0, [.int .i64 n, .list 1 (ints l)])], 4)) (fun x => cplx n x.2.1 ∧ dI' R x.1 (faceS x.2.1) x.2.2) (fun x => x.1) (7, l, []) ⟨hc, hst⟩ (SubI.slots (by simp) (by simp)) ?_
  rintro ⟨k, L, o⟩ ⟨hcL, hI⟩
  simp only at hcL hI
  have hol := hI.hl
  by_cases hl : L.length ≤ 1
  · have e := hI.done (by rw [fin_len hcL]; exact hl)
    subst e
    have hl' : ¬ (1 < (L.length : Int)) := by omega
    simp -implicitDefEqProofs [sc_s_DecomposeBy_L0, hl']
    try omega
  · have hl' : (1 < (L.length : Int)) := by omega
    obtain ⟨j, m, rfl, hm, hs, hmin, hnx⟩ := hI.step (by rw [fin_len hcL]; exact hl)
    have hpS := isS_pow hm
    have hI2 := hnx (faceS (wtF L (2 ^ m))) (wtF_face hcL hpS)
    have hcW := cplx_wtF hcL hpS
    have hu : IntKind.u64.wrap (m : Int) = m := wrapU _ (by omega) (by omega)
    have hsh := shl6 hm
    have hFW : F_s_l5Without [.agg [.int .i64 n, .list 1 (ints L)], .int .i64 (2 ^ m)] = some (.agg [.int .i64 n, .own 1 (ints (wtF L (2 ^ m)))]) := by
      simp only [F_s_l5Without, F2_mk, dC_agg, dI_int, Option.bind_some]
      rw [if_pos ⟨hcL, hpS⟩]
      rfl
    clear hnx hI hst
    simp -implicitDefEqProofs [sc_s_DecomposeBy_L0, hl']
    refine inner L o m _ _ hcL hm hs hmin (by simp) ?_
    generalize wtF L (2 ^ m) = L2 at *
    generalize (2 : Int) ^ m = z at *
    simp -implicitDefEqProofs [hu, hsh, hFW]
    repeat' (first | omega | apply And.intro)
    refine Again.of (j, L2, o ++ [(m : Int)]) ⟨hcW, hI2⟩ (by simp only; omega) (SubI.ren (fun m => if m = 0 then some 0 else if m = 1 then some 5 else if m = 2 then some 6 else if m = 3 then some 3 else none) ?_ ?_ ?_ (by simp) (by simp))
    · simp (disch := omega) [subT, renV, ren1, wrapI]
    · simp [subH, renL, ren1]
      rw [← ints_app]
      rfl
    · intro m hm
      simp only at hm
      rw [if_neg (by omega), if_neg (by omega), if_neg (by omega), if_neg (by omega)]
end Go.Proofs.Ytmemomfffehnkaa
namespace Go.Proofs.Ytmemomfffehnkaa
open Go Go.RowKit
set_option maxRecDepth 1000000
set_option linter.unusedSimpArgs false
set_option linter.unusedVariables false
set_option maxHeartbeats 1000000
/-- What is left when points are taken away. -/
noncomputable def nwL (l : List Int) (L : List Int) (k : Nat) : List Int := (L.take k).foldl (fun l x => delL l (2 ^ x.toNat)) l
theorem nwL_zero (l L : List Int) : nwL l L 0 = l := by simp [nwL]
theorem nwL_step {l L : List Int} {k : Nat} (h : k < L.length) : nwL l L (k + 1) = delL (nwL l L k) (2 ^ (at0 L k).toNat) := by
  unfold nwL
  rw [List.take_succ_eq_append_getElem h, List.foldl_append, at0_eq h]
  rfl
theorem nwL_cons (l : List Int) (x : Int) (L : List Int) (k : Nat) : nwL l (x :: L) (k + 1) = nwL (delL l (2 ^ x.toNat)) L k := rfl
structure nwI (n : Int) (l : List Int) (x : Int) : Prop where
  hc : cplx n l
  h0 : 0 ≤ x
  h5 : x ≤ 5
  hs : shdP n l x
  hd : dloP n l (2 ^ x.toNat)
theorem dcb_law {n : Int} : ∀ (k : Nat) (l : List Int), cplx n l → finI (faceS l) → pts (faceS l) < k → (∀ j, j < (dcb k (faceS l)).length → nwI n (nwL l (dcb k (faceS l)) j) (at0 (dcb k (faceS l)) j)) ∧ (nwL l (dcb k (faceS l)) (dcb k (faceS l)).length).length ≤ 1
  | 0, l, _, _, h => by omega
  | k + 1, l, hc, hf, hp => by
    unfold dcb
    by_cases h1 : (setsOf (maxP (faceS l))).length ≤ 1
    · rw [dec_true h1, if_pos rfl]
      refine ⟨fun j hj => by simp at hj, ?_⟩
      rw [fin_len hc] at h1
      simpa [nwL] using h1
    · rw [dec_false h1, if_neg (by simp)]
      have hex := (finI_iff.1 hf).resolve_left h1
      rcases lsZ_spec (faceS l) with ⟨_, h2⟩ | ⟨m, hm, e, hsp, _⟩
      · obtain ⟨i, hi, hs⟩ := hex
        exact absurd hs (h2 i hi)
      rw [e, Int.toNat_natCast]
      have hpS := isS_pow hm
      have hq : faceS l (2 ^ m) := hsp.1.1
      have hcong : ∀ s, isS s → (wtoP (faceS l) (2 ^ m) s ↔ faceS (delL l (2 ^ m)) s) := fun s hs => (delL_face hc hpS hs).symm
      rw [dcb_congr k hcong (.inr trivial)]
      have hc2 : cplx n (delL l (2 ^ m)) := cplx_wto hc hpS
      have hp2 := pts_wto hm hq
      rw [pts_congr hcong] at hp2
      obtain ⟨i1, i2⟩ := dcb_law k (delL l (2 ^ m)) hc2 ((finI_congr hcong).1 hsp.2.2) (by omega)
      refine ⟨fun j hj => ?_, ?_⟩
      · cases j with
        | zero =>
          rw [nwL_zero]
          show nwI n l (m : Int)
          exact ⟨hc, by omega, by omega, ⟨hc, by omega, face_pow hc hm hq, by rw [Int.toNat_natCast]; exact hsp.1⟩, ⟨hc, by rw [Int.toNat_natCast]; exact isSet_face' hc hpS hq⟩⟩
        | succ j =>
          rw [nwL_cons, Int.toNat_natCast]
          rw [List.length_cons] at hj
          exact i1 j (by omega)
      · rw [List.length_cons, nwL_cons, Int.toNat_natCast]
        exact i2
theorem dcbL_law {n : Int} {l : List Int} (h : decP n l) : (∀ j, j < (dcbL n l).length → nwI n (nwL l (dcbL n l) j) (at0 (dcbL n l) j)) ∧ (nwL l (dcbL n l) (dcbL n l).length).length ≤ 1 := by
  rw [dcbL_yes h]
  exact dcb_law 7 l h.1 h.2 (pts_six _)
end Go.Proofs.Ytmemomfffehnkaa
namespace Go.Proofs.Ytmemomfffehnkaa
open Go Go.RowKit
set_option maxRecDepth 1000000
set_option linter.unusedSimpArgs false
set_option linter.unusedVariables false
set_option maxHeartbeats 1000000
def sc_s_FacesOfSize_L0 : SC := (.seq (.seq (.reg [⟨(some 11), none, (.mov (.t 7))⟩, ⟨(some 12), none, (.mov (.t 6))⟩, ⟨(some 13), none, (.len (.t 12))⟩, ⟨(some 14), none, (.bin false .lss (.t 11) (.t 13))⟩]) (.cond (.t 14) .skip (.exit 0))) (.seq (.block 1 (.seq (.reg [⟨(some 17), none, (.mov (.t 6))⟩, ⟨(some 18), none, (.mov (.t 7))⟩, ⟨(some 19), none, (.idx 1 (.t 17) (.t 18))⟩, ⟨(some 20), none, (.ld none (.int .i64 0) (.t 19))⟩, ⟨(some 21), none, (.call 156 [(.t 20)])⟩, ⟨(some 22), none, (.mov (.t 1))⟩, ⟨(some 23), none, (.bin false .eql (.t 21) (.t 22))⟩]) (.cond (.t 23) (.reg [⟨(some 24), none, (.mov (.t 5))⟩, ⟨(some 25), none, (.mov (.t 6))⟩, ⟨(some 26), none, (.mov (.t 7))⟩, ⟨(some 27), none, (.idx 1 (.t 25) (.t 26))⟩, ⟨(some 28), none, (.ld none (.int .i64 0) (.t 27))⟩, ⟨(some 29), none, (.mks 1 1 [(.int .i64 0)] [(0, (1, (.t 28)))])⟩, ⟨(some 30), none, (.app 1 8 (.t 24) (.t 29))⟩, ⟨(some 5), none, (.mov (.t 30))⟩]) .skip))) (.reg [⟨(some 15), none, (.mov (.t 7))⟩, ⟨(some 16), none, (.bin false .add (.t 15) (.c (.int .i64 1)))⟩, ⟨(some 7), none, (.mov (.t 16))⟩])))
def sc_s_FacesOfSize : SC := (.seq (.reg [⟨(some 2), none, (.box (.t 0))⟩, ⟨(some 4), none, (.mov (.c .nil))⟩]) (.seq (.reg [⟨(some 8), none, (.mks 0 1 [] [])⟩, ⟨(some 5), none, (.mov (.t 8))⟩]) (.seq (.reg [⟨(some 9), none, (.ld (some 2) .undef (.t 2))⟩, ⟨(some 10), none, (.call 43 [(.t 9)])⟩, ⟨(some 6), none, (.mov (.t 10))⟩]) (.seq (.seq (.reg [⟨(some 7), none, (.mov (.c (.int .i64 0)))⟩]) (.block 0 (.loop sc_s_FacesOfSize_L0))) (.seq (.reg [⟨(some 31), none, (.mov (.t 5))⟩, ⟨(some 4), none, (.mov (.t 31))⟩]) .ret)))))
theorem code_s_FacesOfSize : fnCode Try.prog [] 124 = some (32, sc_s_FacesOfSize, [(4, none)]) := by kernel_rfl
theorem cplx_len64 {n : Int} {l : List Int} (h : cplx n l) : l.length ≤ 64 := nodup_len (cplx_nodup h) (cplx_isS h)
/-- The faces of one size, in order. -/
noncomputable def fosL (n : Int) (l : List Int) (k : Int) : List Int := setsOf fun s => cplx n l ∧ faceS l s ∧ sz s = k
theorem fosL_not {n : Int} {l : List Int} {k : Int} (h : ¬ cplx n l) : fosL n l k = [] := setsOf_nil.2 fun _ _ a => h a.1
theorem fosL_of {n : Int} {l : List Int} {k : Int} (h : cplx n l) : fosL n l k = setsOf fun s => faceS l s ∧ sz s = k := setsOf_congr fun s _ => ⟨fun a => a.2, fun a => ⟨h, a⟩⟩
theorem fosL_filt (n : Int) (l : List Int) (k : Int) : fosL n l k = (facesL n l).filter fun s => dec (sz s = k) := by
  by_cases hc : cplx n l
  · rw [facesL_of hc, fosL_of hc, filt_setsOf]
  · rw [facesL_not hc, fosL_not hc]
    rfl
noncomputable def F_s_FacesOfSize : List V → Option V := F2 dC dI fun c k => some (.own 1 (ints (fosL c.1 c.2 k)))
theorem fn_s_FacesOfSize : FnOk Try.prog 124 F_s_FacesOfSize := by
  have env := ((envNil_ok (P := Try.prog)).add fn_s_l2Size).add fn_s_FacesOf
  refine fn_ok code_s_FacesOfSize mixed env ?_
  intro args r h hb
  obtain ⟨_, _, ⟨n, l⟩, z, rfl, h1, h2, h4⟩ := F2_inv h
  cases dC_inv h1
  cases dI_inv h2
  cases h4
  clear h
  refine ⟨by simp, fun w0 U0 L0 N0 => ?_⟩
  clear hb
  simp -implicitDefEqProofs [sc_s_FacesOfSize, F_s_FacesOf]
  have hL : allS (facesL n l) := allS_setsOf _
  have hLl : (facesL n l).length ≤ 64 := setsOf_len _
  rw [fosL_filt]
  generalize facesL n l = L at *
  generalize hq : (fun s => dec (sz s = z)) = q
  refine loopI env mixed (fun k : Nat => [(1, .int .i64 z), (5, .sl 1 1 0 ((L.take k).filter q).length), (6, .sl 2 1 0 L.length), (7, .int .i64 (k : Int))]) (fun k => ([(2, ints L), (1, ints ((L.take k).filter q)), (0, [.int .i64 n, .list 1 (ints l)])], 3)) (fun k => k ≤ L.length) (fun k => L.length - k) 0 (by simp) (SubI.slots (by simp) (by simp)) ?_
  intro k hk
  have gl := filt_len L k q
  by_cases hlt : k < L.length
  · have hf := allS_at hL hlt
    have r1 : at0 L k < 9223372036854775808 := by have := hf.2; omega
    by_cases h1 : sz (at0 L k) = z
    · have e := filt_pos hlt (q := q) (by rw [← hq]; exact dec_true h1)
      generalize (L.take k).filter q = g at *
      simp -implicitDefEqProofs [sc_s_FacesOfSize_L0, F_s_l2Size, hlt, r1, h1]
      repeat' (first | omega | apply And.intro)
      refine Again.of (k + 1) (by omega) (by omega) (SubI.ren (fun m => if m = 0 then some 0 else if m = 1 then some 4 else if m = 2 then some 2 else none) ?_ ?_ ?_ (by simp) (by simp))
      · simp only [e]
        simp (disch := omega) [subT, renV, ren1, wrapI]
      · simp only [e]
        simp [subH, renL, ren1]
        rw [← ints_app]
        rfl
      · intro m hm
        simp only at hm
        rw [if_neg (by omega), if_neg (by omega), if_neg (by omega)]
    · have e := filt_neg hlt (q := q) (by rw [← hq]; exact dec_false h1)
      generalize (L.take k).filter q = g at *
      simp -implicitDefEqProofs [sc_s_FacesOfSize_L0, F_s_l2Size, hlt, r1, h1]
      repeat' (first | omega | apply And.intro)
      exact Again.of (k + 1) (by omega) (by omega) (SubI.slots (by simp only [e]) (by simp only [e]; simp (disch := omega) [wrapI]))
  · have : k = L.length := by omega
    subst this
    simp -implicitDefEqProofs [sc_s_FacesOfSize_L0]
end Go.Proofs.Ytmemomfffehnkaa
namespace Go.Proofs.Ytmemomfffehnkaa
open Go Go.RowKit
set_option maxRecDepth 1000000
set_option linter.unusedSimpArgs false
set_option linter.unusedVariables false
set_option maxHeartbeats 1000000
end Go.Proofs.Ytmemomfffehnkaa
namespace Go.Proofs.Ytmemomfffehnkaa
open Go Go.RowKit
set_option maxRecDepth 1000000
set_option linter.unusedSimpArgs false
set_option linter.unusedVariables false
set_option maxHeartbeats 1000000
/-- How many of the sets have z points. -/
noncomputable def cntZ (l : List Int) (z : Nat) : Int := ((l.filter fun s => dec (sz s = (z : Int))).length : Nat)
/-- For each number below m how many sets have so many points. -/
noncomputable def szRow (m : Nat) (l : List Int) : List Int := (List.range m).map fun z => cntZ l z
@[simp] theorem szRow_take (m : Nat) (l : List Int) : (szRow m l).take m = szRow m l := List.take_of_length_le (by simp [szRow])
@[simp] theorem szRow_len (m : Nat) (l : List Int) : (szRow m l).length = m := by simp [szRow]
theorem at0_szRow {m z : Nat} (l : List Int) (h : z < m) : at0 (szRow m l) z = cntZ l z := by simp [szRow, at0, h]
theorem cntZ_bnd (l : List Int) (k z : Nat) : 0 ≤ cntZ (l.take k) z ∧ cntZ (l.take k) z ≤ k := by
  unfold cntZ
  have h2 : (l.take k).length ≤ k := by simp; omega
  have h3 := List.length_filter_le (fun s => dec (sz s = (z : Int))) (l.take k)
  omega
theorem szRow_step {m : Nat} {l : List Int} {k z : Nat} (h : k < l.length) (hz : sz (at0 l k) = (z : Int)) (hm : z < m) : (szRow m (l.take k)).set z (cntZ (l.take k) z + 1) = szRow m (l.take (k + 1)) := by
  apply at0_ext (by simp)
  intro j hj
  simp only [List.length_set, szRow_len] at hj
  rw [at0_set, at0_szRow _ hj, at0_szRow _ hj]
  by_cases e : z = j
  · subst e
    rw [if_pos ⟨rfl, by simpa using hj⟩]
    unfold cntZ
    rw [filt_pos h (dec_true hz), List.length_append]
    simp
  · rw [if_neg fun h => e h.1]
    unfold cntZ
    rw [filt_neg h (dec_false fun h2 => e (by omega))]
end Go.Proofs.Ytmemomfffehnkaa
namespace Go.Proofs.Ytmemomfffehnkaa
open Go Go.RowKit
set_option maxRecDepth 1000000
set_option linter.unusedSimpArgs false
set_option linter.unusedVariables false
set_option maxHeartbeats 1000000
/-- The sets of a family of one size. -/
noncomputable def szS (q : Int → Prop) (z : Int) : List Int := setsOf fun s => q s ∧ sz s = z
theorem szS_congr {p q : Int → Prop} (h : ∀ s, isS s → (p s ↔ q s)) (z : Int) : szS p z = szS q z := setsOf_congr fun s hs => by rw [h s hs]
theorem mem_szS {q : Int → Prop} {z s : Int} : s ∈ szS q z ↔ isS s ∧ q s ∧ sz s = z := mem_setsOf
theorem szS_len (q : Int → Prop) (z : Int) : (szS q z).length ≤ 64 := setsOf_len _
theorem szS_fos {n : Int} {l : List Int} (hc : cplx n l) (z : Int) : fosL n l z = szS (faceS l) z := fosL_of hc
theorem szS_none {q : Int → Prop} {z : Int} (h : ¬ (0 ≤ z ∧ z ≤ topZ q)) : szS q z = [] := setsOf_nil.2 fun s hs hp => h (by
  have h1 := topZ_ge hs hp.1
  have h2 := sz_nn s
  have h3 := hp.2
  omega)
end Go.Proofs.Ytmemomfffehnkaa
namespace Go.Proofs.Ytmemomfffehnkaa
open Go Go.RowKit
set_option maxRecDepth 1000000
set_option linter.unusedSimpArgs false
set_option linter.unusedVariables false
set_option maxHeartbeats 1000000
end Go.Proofs.Ytmemomfffehnkaa
namespace Go.Proofs.Ytmemomfffehnkaa
open Go Go.RowKit
set_option maxRecDepth 1000000
set_option linter.unusedSimpArgs false
set_option linter.unusedVariables false
set_option maxHeartbeats 1000000
end Go.Proofs.Ytmemomfffehnkaa
namespace Go.Proofs.Ytmemomfffehnkaa
open Go Go.RowKit
set_option maxRecDepth 1000000
set_option linter.unusedSimpArgs false
set_option linter.unusedVariables false
set_option maxHeartbeats 1000000
def sc_s_IsFieldPrime : SC := (.seq (.reg [⟨(some 2), none, (.mov (.c (.bool false)))⟩]) (.seq (.reg [⟨(some 3), none, (.mov (.t 0))⟩, ⟨(some 4), none, (.bin false .eql (.t 3) (.c (.int .i64 2)))⟩, ⟨(some 5), none, (.mov (.t 4))⟩, ⟨(some 6), (some (5, false)), (.mov (.t 0))⟩, ⟨(some 7), (some (5, false)), (.bin false .eql (.t 6) (.c (.int .i64 3)))⟩, ⟨(some 8), none, (.pick (.t 5) (.c (.bool true)) (.t 7))⟩, ⟨(some 9), none, (.mov (.t 8))⟩, ⟨(some 10), (some (9, false)), (.mov (.t 0))⟩, ⟨(some 11), (some (9, false)), (.bin false .eql (.t 10) (.c (.int .i64 5)))⟩, ⟨(some 12), none, (.pick (.t 9) (.c (.bool true)) (.t 11))⟩, ⟨(some 2), none, (.mov (.t 12))⟩]) .ret))
theorem code_s_IsFieldPrime : fnCode Try.prog [] 25 = some (13, sc_s_IsFieldPrime, [(2, none)]) := by kernel_rfl
def fpP (p : Int) : Prop := p = 2 ∨ p = 3 ∨ p = 5
noncomputable def F_s_IsFieldPrime : List V → Option V := F1 dI fun p => some (.bool (dec (fpP p)))
theorem fn_s_IsFieldPrime : FnOk Try.prog 25 F_s_IsFieldPrime := by
  refine fn_ok code_s_IsFieldPrime mixed envNil_ok ?_
  intro args r h hb
  obtain ⟨_, p, rfl, h1, h4⟩ := F1_inv h
  cases dI_inv h1
  cases h4
  refine ⟨by simp, fun w0 U0 L0 N0 => ?_⟩
  by_cases h2 : p = 2
  · subst h2
    have hd := dec_true (show fpP 2 from .inl rfl)
    simp -implicitDefEqProofs [sc_s_IsFieldPrime, hd]
  by_cases h3 : p = 3
  · subst h3
    have hd := dec_true (show fpP 3 from .inr (.inl rfl))
    simp -implicitDefEqProofs [sc_s_IsFieldPrime, hd]
  by_cases h5 : p = 5
  · subst h5
    have hd := dec_true (show fpP 5 from .inr (.inr rfl))
    simp -implicitDefEqProofs [sc_s_IsFieldPrime, hd]
  have hd : dec (fpP p) = false := dec_false fun h => h.elim h2 fun h => h.elim h3 h5
  simp -implicitDefEqProofs [sc_s_IsFieldPrime, h2, h3, h5, hd]
end Go.Proofs.Ytmemomfffehnkaa
namespace Go.Proofs.Ytmemomfffehnkaa
open Go Go.RowKit
set_option maxRecDepth 1000000
set_option linter.unusedSimpArgs false
set_option linter.unusedVariables false
set_option maxHeartbeats 1000000
end Go.Proofs.Ytmemomfffehnkaa
namespace Go.Proofs.Ytmemomfffehnkaa
open Go Go.RowKit
set_option maxRecDepth 1000000
set_option linter.unusedSimpArgs false
set_option linter.unusedVariables false
set_option maxHeartbeats 1000000
end Go.Proofs.Ytmemomfffehnkaa
namespace Go.Proofs.Ytmemomfffehnkaa
open Go Go.RowKit
set_option maxRecDepth 1000000
set_option linter.unusedSimpArgs false
set_option linter.unusedVariables false
set_option maxHeartbeats 1000000
/-- A row by its places. -/
def rowF (m : Nat) (g : Nat → Int) : List Int := (List.range m).map g
@[simp] theorem rowF_len (m : Nat) (g : Nat → Int) : (rowF m g).length = m := by simp [rowF]
theorem rowF_at {m j : Nat} {g : Nat → Int} (h : j < m) : at0 (rowF m g) j = g j := by simp [rowF, at0, h]
theorem rowF_congr {m : Nat} {g h : Nat → Int} (e : ∀ j, j < m → g j = h j) : rowF m g = rowF m h := List.map_congr_left fun j hj => e j (List.mem_range.1 hj)
theorem rowF_set {m j : Nat} {g : Nat → Int} (h : j < m) (v : Int) : (rowF m g).set j v = rowF m fun i => if i = j then v else g i := by
  apply at0_ext (by simp)
  intro i hi
  simp only [List.length_set, rowF_len] at hi
  rw [at0_set, rowF_at hi, rowF_at hi]
  by_cases e : j = i
  · subst e
    rw [if_pos ⟨rfl, by simpa using hi⟩, if_pos rfl]
  · rw [if_neg fun h => e h.1, if_neg fun h => e h.symm]
theorem rowF_map (L : List Int) (f : Int → Int) : rowF L.length (fun j => f (at0 L j)) = L.map f := by
  apply List.ext_getElem (by simp)
  intro j h1 h2
  simp only [rowF_len] at h1
  simp [rowF, at0_eq h1]
theorem dimZ_bnd (n : Int) (l : List Int) : -2 ≤ dimZ n l ∧ dimZ n l ≤ 5 := by
  unfold dimZ
  have := topZ_bnd (faceS l)
  split <;> omega
end Go.Proofs.Ytmemomfffehnkaa
