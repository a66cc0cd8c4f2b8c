import Derived.Test.YtncnohompmcddaaGdM
namespace Go.Proofs.Ytncnohompmcddaa
open Go Go.RowKit
set_option maxRecDepth 1000000
set_option linter.unusedSimpArgs false
set_option linter.unusedVariables false
set_option maxHeartbeats 1000000
def sc_i_reduceMod_L8 : SC := (.seq (.reg [⟨(some 133), none, (.bin false .lss (.t 132) (.t 131))⟩]) (.seq (.cond (.t 133) .skip (.exit 8)) (.seq (.block 9 (.seq (.reg [⟨(some 134), none, (.mov (.t 132))⟩, ⟨(some 15), none, (.mov (.t 134))⟩]) (.dreg [⟨⟨(some 135), none, (.mov (.t 0))⟩, false, false⟩, ⟨⟨(some 136), none, (.mov (.t 13))⟩, false, false⟩, ⟨⟨(some 137), none, (.idx 1 (.t 135) (.t 136))⟩, false, false⟩, ⟨⟨(some 138), none, (.ld none .nil (.t 137))⟩, false, false⟩, ⟨⟨(some 139), none, (.mov (.t 15))⟩, false, false⟩, ⟨⟨(some 140), none, (.mov (.t 0))⟩, false, false⟩, ⟨⟨(some 141), none, (.mov (.t 13))⟩, false, false⟩, ⟨⟨(some 142), none, (.idx 1 (.t 140) (.t 141))⟩, false, false⟩, ⟨⟨(some 143), none, (.ld none .nil (.t 142))⟩, false, false⟩, ⟨⟨(some 144), none, (.mov (.t 15))⟩, false, false⟩, ⟨⟨(some 145), none, (.idx 1 (.t 143) (.t 144))⟩, false, false⟩, ⟨⟨(some 146), none, (.ld none (.int .i64 0) (.t 145))⟩, false, false⟩, ⟨⟨(some 147), none, (.mov (.t 14))⟩, false, false⟩, ⟨⟨(some 148), none, (.mov (.t 0))⟩, false, false⟩, ⟨⟨(some 149), none, (.mov (.t 9))⟩, false, false⟩, ⟨⟨(some 150), none, (.idx 1 (.t 148) (.t 149))⟩, false, false⟩, ⟨⟨(some 151), none, (.ld none .nil (.t 150))⟩, false, false⟩, ⟨⟨(some 152), none, (.mov (.t 15))⟩, false, false⟩, ⟨⟨(some 153), none, (.idx 1 (.t 151) (.t 152))⟩, false, false⟩, ⟨⟨(some 154), none, (.ld none (.int .i64 0) (.t 153))⟩, false, false⟩, ⟨⟨(some 155), none, (.bin false .mul (.t 147) (.t 154))⟩, false, false⟩, ⟨⟨(some 156), none, (.bin false .add (.t 146) (.t 155))⟩, false, false⟩, ⟨⟨(some 157), none, (.mov (.t 2))⟩, false, false⟩, ⟨⟨(some 158), none, (.bin false .rem (.t 156) (.t 157))⟩, false, false⟩, ⟨⟨(some 159), none, (.idx 1 (.t 138) (.t 139))⟩, false, false⟩, ⟨⟨none, none, (.st 1 (.t 159) (.t 158))⟩, true, false⟩]))) (.reg [⟨(some 160), none, (.bin false .add (.t 132) (.c (.int .i64 1)))⟩, ⟨(some 132), none, (.mov (.t 160))⟩]))))
def sc_i_reduceMod_L6 : SC := (.seq (.reg [⟨(some 103), none, (.bin false .lss (.t 102) (.t 101))⟩]) (.seq (.cond (.t 103) .skip (.exit 6)) (.seq (.block 7 (.seq (.reg [⟨(some 104), none, (.mov (.t 102))⟩, ⟨(some 13), none, (.mov (.t 104))⟩]) (.seq (.seq (.reg [⟨(some 105), none, (.mov (.t 13))⟩, ⟨(some 106), none, (.mov (.t 9))⟩, ⟨(some 107), none, (.bin false .eql (.t 105) (.t 106))⟩, ⟨(some 108), none, (.mov (.t 107))⟩, ⟨(some 109), (some (108, false)), (.mov (.t 0))⟩, ⟨(some 110), (some (108, false)), (.mov (.t 13))⟩, ⟨(some 111), (some (108, false)), (.idx 1 (.t 109) (.t 110))⟩, ⟨(some 112), (some (108, false)), (.ld none .nil (.t 111))⟩, ⟨(some 113), (some (108, false)), (.mov (.t 8))⟩, ⟨(some 114), (some (108, false)), (.idx 1 (.t 112) (.t 113))⟩, ⟨(some 115), (some (108, false)), (.ld none (.int .i64 0) (.t 114))⟩, ⟨(some 116), (some (108, false)), (.bin false .eql (.t 115) (.c (.int .i64 0)))⟩, ⟨(some 117), none, (.pick (.t 108) (.c (.bool true)) (.t 116))⟩]) (.cond (.t 117) (.exit 7) .skip)) (.seq (.reg [⟨(some 118), none, (.mov (.t 2))⟩, ⟨(some 119), none, (.mov (.t 0))⟩, ⟨(some 120), none, (.mov (.t 13))⟩, ⟨(some 121), none, (.idx 1 (.t 119) (.t 120))⟩, ⟨(some 122), none, (.ld none .nil (.t 121))⟩, ⟨(some 123), none, (.mov (.t 8))⟩, ⟨(some 124), none, (.idx 1 (.t 122) (.t 123))⟩, ⟨(some 125), none, (.ld none (.int .i64 0) (.t 124))⟩, ⟨(some 126), none, (.bin false .sub (.t 118) (.t 125))⟩, ⟨(some 14), none, (.mov (.t 126))⟩]) (.seq (.reg [⟨(some 127), none, (.mov (.t 0))⟩, ⟨(some 128), none, (.mov (.t 13))⟩, ⟨(some 129), none, (.idx 1 (.t 127) (.t 128))⟩, ⟨(some 130), none, (.ld none .nil (.t 129))⟩, ⟨(some 131), none, (.len (.t 130))⟩, ⟨(some 132), none, (.mov (.c (.int .i64 0)))⟩]) (.block 8 (.loop sc_i_reduceMod_L8))))))) (.reg [⟨(some 161), none, (.bin false .add (.t 102) (.c (.int .i64 1)))⟩, ⟨(some 102), none, (.mov (.t 161))⟩]))))
def sc_i_reduceMod_L4 : SC := (.seq (.reg [⟨(some 80), none, (.bin false .lss (.t 79) (.t 78))⟩]) (.seq (.cond (.t 80) .skip (.exit 4)) (.seq (.block 5 (.seq (.reg [⟨(some 81), none, (.mov (.t 79))⟩, ⟨(some 12), none, (.mov (.t 81))⟩]) (.dreg [⟨⟨(some 82), none, (.mov (.t 0))⟩, false, false⟩, ⟨⟨(some 83), none, (.mov (.t 9))⟩, false, false⟩, ⟨⟨(some 84), none, (.idx 1 (.t 82) (.t 83))⟩, false, false⟩, ⟨⟨(some 85), none, (.ld none .nil (.t 84))⟩, false, false⟩, ⟨⟨(some 86), none, (.mov (.t 12))⟩, false, false⟩, ⟨⟨(some 87), none, (.mov (.t 0))⟩, false, false⟩, ⟨⟨(some 88), none, (.mov (.t 9))⟩, false, false⟩, ⟨⟨(some 89), none, (.idx 1 (.t 87) (.t 88))⟩, false, false⟩, ⟨⟨(some 90), none, (.ld none .nil (.t 89))⟩, false, false⟩, ⟨⟨(some 91), none, (.mov (.t 12))⟩, false, false⟩, ⟨⟨(some 92), none, (.idx 1 (.t 90) (.t 91))⟩, false, false⟩, ⟨⟨(some 93), none, (.ld none (.int .i64 0) (.t 92))⟩, false, false⟩, ⟨⟨(some 94), none, (.mov (.t 11))⟩, false, false⟩, ⟨⟨(some 95), none, (.bin false .mul (.t 93) (.t 94))⟩, false, false⟩, ⟨⟨(some 96), none, (.mov (.t 2))⟩, false, false⟩, ⟨⟨(some 97), none, (.bin false .rem (.t 95) (.t 96))⟩, false, false⟩, ⟨⟨(some 98), none, (.idx 1 (.t 85) (.t 86))⟩, false, false⟩, ⟨⟨none, none, (.st 1 (.t 98) (.t 97))⟩, true, false⟩]))) (.reg [⟨(some 99), none, (.bin false .add (.t 79) (.c (.int .i64 1)))⟩, ⟨(some 79), none, (.mov (.t 99))⟩]))))
def sc_i_reduceMod_L2 : SC := (.seq (.seq (.reg [⟨(some 31), none, (.mov (.t 10))⟩, ⟨(some 32), none, (.mov (.t 0))⟩, ⟨(some 33), none, (.len (.t 32))⟩, ⟨(some 34), none, (.bin false .lss (.t 31) (.t 33))⟩, ⟨(some 35), none, (.mov (.t 34))⟩, ⟨(some 36), (some (35, true)), (.mov (.t 0))⟩, ⟨(some 37), (some (35, true)), (.mov (.t 10))⟩, ⟨(some 38), (some (35, true)), (.idx 1 (.t 36) (.t 37))⟩, ⟨(some 39), (some (35, true)), (.ld none .nil (.t 38))⟩, ⟨(some 40), (some (35, true)), (.mov (.t 8))⟩, ⟨(some 41), (some (35, true)), (.idx 1 (.t 39) (.t 40))⟩, ⟨(some 42), (some (35, true)), (.ld none (.int .i64 0) (.t 41))⟩, ⟨(some 43), (some (35, true)), (.bin false .eql (.t 42) (.c (.int .i64 0)))⟩, ⟨(some 44), none, (.pick (.t 35) (.t 43) (.c (.bool false)))⟩]) (.cond (.t 44) .skip (.exit 2))) (.block 3 (.reg [⟨(some 45), none, (.mov (.t 10))⟩, ⟨(some 46), none, (.bin false .add (.t 45) (.c (.int .i64 1)))⟩, ⟨(some 10), none, (.mov (.t 46))⟩])))
def sc_i_reduceMod_L0 : SC := (.seq (.seq (.reg [⟨(some 16), none, (.mov (.t 8))⟩, ⟨(some 17), none, (.mov (.t 1))⟩, ⟨(some 18), none, (.bin false .lss (.t 16) (.t 17))⟩, ⟨(some 19), none, (.mov (.t 18))⟩, ⟨(some 20), (some (19, true)), (.mov (.t 7))⟩, ⟨(some 21), (some (19, true)), (.len (.t 20))⟩, ⟨(some 22), (some (19, true)), (.mov (.t 0))⟩, ⟨(some 23), (some (19, true)), (.len (.t 22))⟩, ⟨(some 24), (some (19, true)), (.bin false .lss (.t 21) (.t 23))⟩, ⟨(some 25), none, (.pick (.t 19) (.t 24) (.c (.bool false)))⟩]) (.cond (.t 25) .skip (.exit 0))) (.seq (.block 1 (.seq (.reg [⟨(some 28), none, (.mov (.t 7))⟩, ⟨(some 29), none, (.len (.t 28))⟩, ⟨(some 9), none, (.mov (.t 29))⟩]) (.seq (.reg [⟨(some 30), none, (.mov (.t 9))⟩, ⟨(some 10), none, (.mov (.t 30))⟩]) (.seq (.block 2 (.loop sc_i_reduceMod_L2)) (.seq (.seq (.reg [⟨(some 47), none, (.mov (.t 10))⟩, ⟨(some 48), none, (.mov (.t 0))⟩, ⟨(some 49), none, (.len (.t 48))⟩, ⟨(some 50), none, (.bin false .eql (.t 47) (.t 49))⟩]) (.cond (.t 50) (.exit 1) .skip)) (.seq (.dreg [⟨⟨(some 51), none, (.mov (.t 0))⟩, false, false⟩, ⟨⟨(some 52), none, (.mov (.t 9))⟩, false, false⟩, ⟨⟨(some 53), none, (.mov (.t 0))⟩, false, true⟩, ⟨⟨(some 54), none, (.mov (.t 10))⟩, false, true⟩, ⟨⟨(some 55), none, (.mov (.t 0))⟩, false, false⟩, ⟨⟨(some 56), none, (.mov (.t 10))⟩, false, false⟩, ⟨⟨(some 57), none, (.idx 1 (.t 55) (.t 56))⟩, false, false⟩, ⟨⟨(some 58), none, (.ld none .nil (.t 57))⟩, false, false⟩, ⟨⟨(some 59), none, (.mov (.t 0))⟩, false, false⟩, ⟨⟨(some 60), none, (.mov (.t 9))⟩, false, false⟩, ⟨⟨(some 61), none, (.idx 1 (.t 59) (.t 60))⟩, false, false⟩, ⟨⟨(some 62), none, (.ld none .nil (.t 61))⟩, false, false⟩, ⟨⟨(some 63), none, (.idx 1 (.t 51) (.t 52))⟩, false, false⟩, ⟨⟨none, none, (.st 1 (.t 63) (.t 58))⟩, true, false⟩, ⟨⟨(some 64), none, (.idx 1 (.t 53) (.t 54))⟩, false, false⟩, ⟨⟨none, none, (.st 1 (.t 64) (.t 62))⟩, true, false⟩]) (.seq (.reg [⟨(some 65), none, (.mov (.t 0))⟩, ⟨(some 66), none, (.mov (.t 9))⟩, ⟨(some 67), none, (.idx 1 (.t 65) (.t 66))⟩, ⟨(some 68), none, (.ld none .nil (.t 67))⟩, ⟨(some 69), none, (.mov (.t 8))⟩, ⟨(some 70), none, (.idx 1 (.t 68) (.t 69))⟩, ⟨(some 71), none, (.ld none (.int .i64 0) (.t 70))⟩, ⟨(some 72), none, (.mov (.t 2))⟩, ⟨(some 73), none, (.call 91 [(.t 71), (.t 72)])⟩, ⟨(some 11), none, (.mov (.t 73))⟩]) (.seq (.seq (.reg [⟨(some 74), none, (.mov (.t 0))⟩, ⟨(some 75), none, (.mov (.t 9))⟩, ⟨(some 76), none, (.idx 1 (.t 74) (.t 75))⟩, ⟨(some 77), none, (.ld none .nil (.t 76))⟩, ⟨(some 78), none, (.len (.t 77))⟩, ⟨(some 79), none, (.mov (.c (.int .i64 0)))⟩]) (.block 4 (.loop sc_i_reduceMod_L4))) (.seq (.seq (.reg [⟨(some 100), none, (.mov (.t 0))⟩, ⟨(some 101), none, (.len (.t 100))⟩, ⟨(some 102), none, (.mov (.c (.int .i64 0)))⟩]) (.block 6 (.loop sc_i_reduceMod_L6))) (.reg [⟨(some 162), none, (.mov (.t 7))⟩, ⟨(some 163), none, (.mov (.t 8))⟩, ⟨(some 164), none, (.mks 1 1 [(.int .i64 0)] [(0, (1, (.t 163)))])⟩, ⟨(some 165), none, (.app 1 8 (.t 162) (.t 164))⟩, ⟨(some 7), none, (.mov (.t 165))⟩])))))))))) (.reg [⟨(some 26), none, (.mov (.t 8))⟩, ⟨(some 27), none, (.bin false .add (.t 26) (.c (.int .i64 1)))⟩, ⟨(some 8), none, (.mov (.t 27))⟩])))
def sc_i_reduceMod : SC := (.seq (.reg [⟨(some 6), none, (.mov (.c .nil))⟩]) (.seq (.reg [⟨(some 7), none, (.mov (.c .nil))⟩]) (.seq (.seq (.reg [⟨(some 8), none, (.mov (.c (.int .i64 0)))⟩]) (.block 0 (.loop sc_i_reduceMod_L0))) (.seq (.reg [⟨(some 166), none, (.mov (.t 7))⟩, ⟨(some 6), none, (.mov (.t 166))⟩]) .ret))))
theorem code_i_reduceMod : fnCode Try.prog [] 60 = some (167, sc_i_reduceMod, [(6, none)]) := by kernel_rfl
noncomputable def G_i_reduceMod : List V → List V → Option (V × List V)
  | [.sl 0 1 0 m, .int .i64 w, .int .i64 p], cells => (dRowsV cells).bind fun M => @ite _ (∃ W, matI p W m M ∧ 0 ≤ w ∧ w ≤ W) (Classical.propDecidable _) (some (.own 1 (ints (redS p M w.toNat).2), rowsV (redS p M w.toNat).1)) none
  | _, _ => none
theorem swp_self {M : List (List Int)} {d : Nat} (h : d < M.length) : swp M d d = M := atR_ext (by simp) fun k hk => by
  rw [swp_len] at hk
  rw [swp_at h h hk]
  split
  · rename_i e; rw [e]
  · rfl
theorem swp_cells {M : List (List Int)} {d a : Nat} (hda : d ≠ a) (x z : V) : ((((rowsV M).set a x).set d x).set a z).set a (.own 1 (ints (atR M d))) = (rowsV (swp M d a)).set d x := by
  unfold swp
  rw [← rowsV_set, ← rowsV_set]
  apply List.ext_getElem (by simp)
  intro k h1 h2
  simp only [List.getElem_set]
  by_cases e1 : a = k
  · have e2 : ¬ d = k := fun e => hda (e.trans e1.symm)
    simp [e1, e2]
  · by_cases e2 : d = k
    · simp [e1, e2]
    · simp [e1, e2]
theorem elG_impl (x c y p : Int) : (x + (p - c) * y) % p = (x - c * y) % p := by
  rw [Int.sub_mul, show x + (p * y - c * y) = (x - c * y) + p * y by omega, Int.add_mul_emod_self_left]
theorem ln_i_reduceMod : LendOk Try.prog 60 0 G_i_reduceMod := by
  have env := (envNil_ok (P := Try.prog)).add fn_i_InverseMod
  refine fn_lend code_i_reduceMod mixed env ?_
  intro args cells r cells' hG hb
  unfold G_i_reduceMod at hG
  split at hG
  case h_2 => simp at hG
  rename_i m w p
  obtain ⟨M, h1, h2⟩ := Option.bind_eq_some_iff.1 hG
  have hc := dRowsV_inv h1
  subst hc
  simp only [Option.ite_none_right_eq_some, Option.some.injEq, Prod.mk.injEq] at h2
  obtain ⟨⟨W, ⟨hp, hm, hok, hW, hml⟩, hw0, hwW⟩, rfl, rfl⟩ := h2
  obtain ⟨w, rfl⟩ : ∃ n : Nat, w = n := ⟨w.toNat, by omega⟩
  clear hG h1 hb
  rw [Int.toNat_natCast]
  refine ⟨by simp, fun w0 U0 L0 N0 => ?_⟩
  have hFI := fn_inv_at hp
  obtain ⟨p1, p2, p3⟩ := fpP_bnd hp
  -- a row is scaled
  have scale : ∀ (M1 : List (List Int)) (P : List Int) (d j : Nat) (Q : Post) (T0 : Tm) (H0 : Hp), M1.length = m → okM p W M1 → d < m → j < W →
      SubI 1 T0 H0 [(0, .sl 0 1 0 m), (1, .int .i64 (w : Int)), (2, .int .i64 p), (7, .sl 1 1 0 P.length), (8, .int .i64 (j : Int)), (9, .int .i64 (d : Int)), (11, .int .i64 (invZ (at0 (atR M1 d) j) p)), (78, .int .i64 (W : Int)), (79, .int .i64 0)] ([(2, ints (atR M1 d)), (1, ints P), (0, (rowsV M1).set d (.sl 2 1 0 W))], 3) →
      Q (.exit 4) [(0, .sl 0 1 0 m), (1, .int .i64 (w : Int)), (2, .int .i64 p), (7, .sl 1 1 0 P.length), (8, .int .i64 (j : Int)), (9, .int .i64 (d : Int))] ([(2, ints (atR (sclM p M1 d j) d)), (1, ints P), (0, (rowsV (sclM p M1 d j)).set d (.sl 2 1 0 W))], 3) →
      LoopI ⟨Try.prog, w0, U0, L0, N0, 1, 167⟩ [] sc_i_reduceMod_L4 Q T0 H0 := by
    intro M1 P d j Q T0 H0 hM1 hok1 hd hj hsub q1
    obtain ⟨hrl, hre⟩ := hok1 d (by omega)
    have hdm : d < M1.length := by omega
    have hrs : atR (sclM p M1 d j) d = sclR p (invZ (at0 (atR M1 d) j) p) (atR M1 d) := by unfold sclM; rw [atR_set, if_pos ⟨rfl, hdm⟩]
    have hcell : (rowsV (sclM p M1 d j)).set d (.sl 2 1 0 W) = (rowsV M1).set d (.sl 2 1 0 W) := rowsV_set2 M1 d _ _
    rw [hrs, hcell] at q1
    obtain ⟨f1, f2⟩ := invZ_bnd (a := at0 (atR M1 d) j) hp
    generalize invZ (at0 (atR M1 d) j) p = f at *
    generalize atR M1 d = rd at *
    refine loopQ env mixed (fun t : Nat => [(0, .sl 0 1 0 m), (1, .int .i64 (w : Int)), (2, .int .i64 p), (7, .sl 1 1 0 P.length), (8, .int .i64 (j : Int)), (9, .int .i64 (d : Int)), (11, .int .i64 f), (78, .int .i64 (W : Int)), (79, .int .i64 (t : Int))]) (fun t => ([(2, ints (pK rd (sclG p f rd) t)), (1, ints P), (0, (rowsV M1).set d (.sl 2 1 0 W))], 3)) (fun t => t ≤ W) (fun t => W - t) 0 (by simp) (by simpa [pK_zero] using hsub) ?_
    intro t ht
    by_cases hlt : t < W
    · have hat := pK_at (r := rd) (g := sclG p f rd) (t := t) (by omega) (Nat.le_refl t)
      have hset : (pK rd (sclG p f rd) t).set t (at0 rd t * f % p) = pK rd (sclG p f rd) (t + 1) := pK_set (r := rd) (g := sclG p f rd) (t := t) (by omega)
      have hgl := pK_len rd (sclG p f rd) t
      obtain ⟨e1, e2⟩ := hre t hlt
      obtain ⟨m1, m2⟩ := mulB p2 e1 e2 f1 f2
      have hwr : IntKind.i64.wrap (at0 rd t * f) = at0 rd t * f := wrapI _ (by omega) (by omega)
      have htm := tmod_nn p m1
      generalize pK rd (sclG p f rd) t = g at *
      simp -implicitDefEqProofs [sc_i_reduceMod_L4, hd, hdm, hM1, hlt, hgl, hrl, hat, hwr, htm, p3, hset]
      repeat' (first | omega | apply And.intro)
      exact Again.of (t + 1) (by omega) (by omega) (SubI.slots (by simp) (by simp (disch := omega) [wrapI]))
    · have : t = W := by omega
      subst this
      have hfull : pK rd (sclG p f rd) rd.length = sclR p f rd := pK_full rd (sclG p f rd)
      rw [hrl] at hfull
      rw [hfull]
      simp -implicitDefEqProofs [sc_i_reduceMod_L4]
      exact SubQ.of (SubI.slots rfl (by simp)) q1
  -- the other rows are cleared
  have clear : ∀ (M1 : List (List Int)) (P : List Int) (d j : Nat) (Q : Post) (T0 : Tm), M1.length = m → okM p W M1 → d < m → j < W →
      subE T0 [(0, .sl 0 1 0 m), (1, .int .i64 (w : Int)), (2, .int .i64 p), (7, .sl 1 1 0 P.length), (8, .int .i64 (j : Int)), (9, .int .i64 (d : Int)), (101, .int .i64 (m : Int)), (102, .int .i64 0)] →
      Q (.exit 6) [(0, .sl 0 1 0 m), (1, .int .i64 (w : Int)), (2, .int .i64 p), (7, .sl 1 1 0 P.length), (8, .int .i64 (j : Int)), (9, .int .i64 (d : Int))] ([(1, ints P), (0, rowsV (clrM p M1 d j))], 3) →
      LoopI ⟨Try.prog, w0, U0, L0, N0, 1, 167⟩ [] sc_i_reduceMod_L6 Q T0 ([(2, ints (atR M1 d)), (1, ints P), (0, (rowsV M1).set d (.sl 2 1 0 W))], 3) := by
    intro M1 P d j Q T0 hM1 hok1 hd hj hsub q1
    have hGd := clrG_d p M1 d j
    have hGn := fun (i : Nat) (h : i ≠ d) => clrG_ne (p := p) (M := M1) (d := d) (j := j) h
    have hfin : pM M1 (clrG p M1 d j) m = clrM p M1 d j := by rw [← hM1]; rfl
    rw [← hfin] at q1
    obtain ⟨hr1, hr2⟩ := hok1 d (by omega)
    generalize clrG p M1 d j = G at *
    generalize hrr : atR M1 d = rs at *
    have hdm1 : d < M1.length := by omega
    refine loopQ env mixed (fun i : Nat => [(0, .sl 0 1 0 m), (1, .int .i64 (w : Int)), (2, .int .i64 p), (7, .sl 1 1 0 P.length), (8, .int .i64 (j : Int)), (9, .int .i64 (d : Int)), (101, .int .i64 (m : Int)), (102, .int .i64 (i : Int))]) (fun i => ([(2, ints rs), (1, ints P), (0, (rowsV (pM M1 G i)).set d (.sl 2 1 0 W))], 3)) (fun i => i ≤ m) (fun i => m - i) 0 (by simp) (SubI.slots (by simp [pM_zero]) (by simpa using hsub)) ?_
    intro i hi
    have hml2 := pM_len M1 G i
    by_cases hlt2 : i < m
    · have him : i < M1.length := by omega
      by_cases hid : i = d
      · subst hid
        have hk : pM M1 G (i + 1) = pM M1 G i := pM_keep him (by rw [hGd, hrr])
        simp -implicitDefEqProofs [sc_i_reduceMod_L6, hd]
        repeat' (first | omega | apply And.intro)
        exact Again.of (i + 1) (by omega) (by omega) (SubI.slots (by simp [hk]) (by simp (disch := omega) [wrapI]))
      have hid' : d ≠ i := fun e => hid e.symm
      have hidI : ¬ ((i : Int) = (d : Int)) := by omega
      obtain ⟨hs1, hs2⟩ := hok1 i him
      have hge := pM_ge (M := M1) (G := G) him (Nat.le_refl i)
      have hset := pM_set (M := M1) (G := G) him
      have hGi := hGn i hid
      generalize pM M1 G i = Mi at *
      generalize atR M1 i = ri at *
      obtain ⟨c1, c2⟩ := hs2 j hj
      have fold : ∀ (T : Tm) (k : Nat), subE T [(0, .sl 0 1 0 m), (1, .int .i64 (w : Int)), (2, .int .i64 p), (7, .sl 1 1 0 P.length), (8, .int .i64 (j : Int)), (9, .int .i64 (d : Int)), (101, .int .i64 (m : Int)), (102, .int .i64 (k : Int))] →
          SubI 1 T ([(3, ints (G i)), (2, ints rs), (1, ints P), (0, ((rowsV Mi).set d (.sl 2 1 0 W)).set i (.sl 3 1 0 W))], 4) [(0, .sl 0 1 0 m), (1, .int .i64 (w : Int)), (2, .int .i64 p), (7, .sl 1 1 0 P.length), (8, .int .i64 (j : Int)), (9, .int .i64 (d : Int)), (101, .int .i64 (m : Int)), (102, .int .i64 (k : Int))] ([(2, ints rs), (1, ints P), (0, (rowsV (pM M1 G (i + 1))).set d (.sl 2 1 0 W))], 3) := fun T k hTT => by
        have hgil : (G i).length = W := by rw [hGi, elimR_len, hs1]
        refine SubI.fold 0 3 i 1 W (cn := ints (G i)) (co := ((rowsV Mi).set d (.sl 2 1 0 W)).set i (.sl 3 1 0 W)) rfl rfl (by simp [hml2, him]) (by simp [hgil]) ?_
        have hstep := rowsV_step (M := Mi) hid (G i) (.sl 2 1 0 W) (.sl 3 1 0 W)
        rw [hset] at hstep
        rw [hstep]
        simp only [subE_cons, subE_nil, and_true] at hTT
        obtain ⟨e1, e2, e3, e4, e5, e6, e7, e8⟩ := hTT
        refine SubI.ren (fun m => if m = 0 then some 0 else if m = 1 then some 1 else if m = 2 then some 2 else none) ?_ ?_ ?_ (by simp) (by simp)
        · simp [subT, renV, ren1, ← e1, ← e2, ← e3, ← e4, ← e5, ← e6, ← e7, ← e8]
        · simp only [subH, renL_set (renL_rowsV _ _) (show ren1 (fun m => if m = 0 then some 0 else if m = 1 then some 1 else if m = 2 then some 2 else none) (.sl 2 1 0 W) = some (.sl 2 1 0 W) from rfl)]
          simp [subH, renL, ren1]
        · intro m hm
          simp only at hm
          rw [if_neg (by omega), if_neg (by omega), if_neg (by omega)]
      generalize hcc : at0 ri j = c at *
      by_cases hc0 : c = 0
      · subst hc0
        have hG0 : G i = ri := by rw [hGi]; exact elimR_zero (fun q hq => hs2 q (by omega)) rs
        rw [hG0] at fold
        simp -implicitDefEqProofs [sc_i_reduceMod_L6, hlt2, him, hml2, hM1, hj, hid, hid', hidI, hge, hs1, hcc]
        repeat' (first | omega | apply And.intro)
        exact Again.of (i + 1) (by omega) (by omega) (fold _ _ (by simp (disch := omega) [wrapI]))
      simp -implicitDefEqProofs [sc_i_reduceMod_L6, hlt2, him, hml2, hM1, hj, hid, hid', hidI, hge, hs1, hcc, hc0]
      repeat' (first | omega | apply And.intro)
      have hwg : IntKind.i64.wrap (p - c) = p - c := wrapI _ (by omega) (by omega)
      refine loopQ env mixed (fun q : Nat => [(0, .sl 0 1 0 m), (1, .int .i64 (w : Int)), (2, .int .i64 p), (7, .sl 1 1 0 P.length), (8, .int .i64 (j : Int)), (9, .int .i64 (d : Int)), (13, .int .i64 (i : Int)), (14, .int .i64 (p - c)), (101, .int .i64 (m : Int)), (102, .int .i64 (i : Int)), (131, .int .i64 (W : Int)), (132, .int .i64 (q : Int))]) (fun q => ([(3, ints (pK ri (elG p c ri rs) q)), (2, ints rs), (1, ints P), (0, ((rowsV Mi).set d (.sl 2 1 0 W)).set i (.sl 3 1 0 W))], 4)) (fun q => q ≤ W) (fun q => W - q) 0 (by simp) (SubI.slots (by simp [pK_zero]) (by simp [hwg])) ?_
      intro q hq
      by_cases hlt3 : q < W
      · have hat := pK_at (r := ri) (g := elG p c ri rs) (t := q) (by omega) (Nat.le_refl q)
        have hst : (pK ri (elG p c ri rs) q).set q ((at0 ri q - c * at0 rs q) % p) = pK ri (elG p c ri rs) (q + 1) := pK_set (r := ri) (g := elG p c ri rs) (t := q) (by omega)
        have hgl := pK_len ri (elG p c ri rs) q
        obtain ⟨e1, e2⟩ := hs2 q hlt3
        obtain ⟨e3, e4⟩ := hr2 q hlt3
        obtain ⟨m1, m2⟩ := mulB p2 (show 0 ≤ p - c by omega) (by omega) e3 e4
        have hw1 : IntKind.i64.wrap ((p - c) * at0 rs q) = (p - c) * at0 rs q := wrapI _ (by omega) (by omega)
        have hw2 : IntKind.i64.wrap (at0 ri q + (p - c) * at0 rs q) = at0 ri q + (p - c) * at0 rs q := wrapI _ (by omega) (by omega)
        have htm : (at0 ri q + (p - c) * at0 rs q).tmod p = (at0 ri q - c * at0 rs q) % p := by rw [tmod_nn p (by omega), elG_impl]
        generalize pK ri (elG p c ri rs) q = g at *
        simp -implicitDefEqProofs [sc_i_reduceMod_L8, hd, hdm1, hlt2, him, hml2, hM1, hid, hid', hidI, hlt3, hgl, hs1, hr1, hat, hw1, hw2, htm, p3, hst]
        repeat' (first | omega | apply And.intro)
        exact Again.of (q + 1) (by omega) (by omega) (SubI.slots (by simp) (by simp (disch := omega) [wrapI]))
      · have : q = W := by omega
        subst this
        have hfu : pK ri (elG p c ri rs) ri.length = G i := by rw [hGi]; exact pK_full ri (elG p c ri rs)
        rw [hs1] at hfu
        rw [hfu]
        simp -implicitDefEqProofs [sc_i_reduceMod_L8]
        refine SubQ.of (l1 := [(0, .sl 0 1 0 m), (1, .int .i64 (w : Int)), (2, .int .i64 p), (7, .sl 1 1 0 P.length), (8, .int .i64 (j : Int)), (9, .int .i64 (d : Int)), (101, .int .i64 (m : Int)), (102, .int .i64 (i : Int))]) (fold _ _ (by simp)) ?_
        simp -implicitDefEqProofs
        exact Again.of (i + 1) (by omega) (by omega) (SubI.slots (by simp) (by simp (disch := omega) [wrapI]))
    · have : i = m := by omega
      subst this
      have hself := rowsV_self (M := pM M1 G i) (i := d) (by omega)
      rw [pM_lt hdm1 (by omega), hGd] at hself
      simp -implicitDefEqProofs [sc_i_reduceMod_L6]
      refine SubQ.of ?_ q1
      refine SubI.fold 0 2 d 1 W (cn := ints rs) (co := (rowsV (pM M1 G i)).set d (.sl 2 1 0 W)) rfl rfl (by simp [hml2, hdm1]) (by simp [hr1]) ?_
      exact SubI.slots (by simp [hself]) (by simp)
  simp -implicitDefEqProofs [sc_i_reduceMod]
  have inv := fun (j : Nat) => redI_all hp hok j
  refine loopI env mixed (fun j : Nat => [(0, .sl 0 1 0 m), (1, .int .i64 (w : Int)), (2, .int .i64 p), (7, .sl 1 1 0 (redS p M j).2.length), (8, .int .i64 (j : Int))]) (fun j => ([(1, ints (redS p M j).2), (0, rowsV (redS p M j).1)], 2)) (fun j => j ≤ w) (fun j => w - j) 0 (by simp) (SubI.nilN 7 1 (by simp) (SubI.slots (by simp [redS]) (by simp [redS]))) ?_
  intro j hj
  obtain ⟨hokj, hlj, hpj, _, hsj⟩ := inv j
  have hlm : (redS p M j).1.length = m := by rw [hlj, hm]
  have hstep : redS p M (j + 1) = redC p j (redS p M j) := rfl
  have hstop := fun h => redS_stop (p := p) (M := M) (j := j) h (w - j)
  rw [show j + (w - j) = w by omega] at hstop
  by_cases hjw : j < w
  rotate_left
  · have : j = w := by omega
    subst this
    generalize redS p M j = x at *
    obtain ⟨Mj, P⟩ := x
    simp only at hokj hlj hpj hsj hlm
    simp -implicitDefEqProofs [sc_i_reduceMod_L0]
  by_cases hfull : (redS p M j).2.length = m
  · have e := hstop (by rw [hfull, hlm])
    rw [e]
    generalize redS p M j = x at *
    obtain ⟨Mj, P⟩ := x
    simp only at hokj hlj hpj hsj hlm hfull
    have htk : P.take m = P := List.take_of_length_le (by omega)
    simp -implicitDefEqProofs [sc_i_reduceMod_L0, hjw, hfull, htk]
  generalize redS p M j = x at *
  obtain ⟨Mj, P⟩ := x
  simp only at hokj hlj hpj hsj hlm hfull
  have hPm : P.length < m := by omega
  have hjW : j < W := by omega
  have hfb := fndZ_bnd Mj j (m - P.length) P.length
  have hyes := fun (a : Nat) h1 h2 h3 => redC_yes (p := p) (j := j) (M := Mj) (P := P) (a := a) h1 h2 h3
  have hno := redC_no (p := p) (j := j) (M := Mj) (P := P)
  rw [hlm] at hno
  simp only [hlm] at hyes
  simp -implicitDefEqProofs [sc_i_reduceMod_L0, hjw, hPm]
  generalize ha : fndZ Mj j (m - P.length) P.length = a at *
  refine loopQ env mixed (fun i : Nat => [(0, .sl 0 1 0 m), (1, .int .i64 (w : Int)), (2, .int .i64 p), (7, .sl 1 1 0 P.length), (8, .int .i64 (j : Int)), (9, .int .i64 (P.length : Int)), (10, .int .i64 (i : Int))]) (fun _ => ([(1, ints P), (0, rowsV Mj)], 2)) (fun i => P.length ≤ i ∧ i ≤ m ∧ fndZ Mj j (m - i) i = a) (fun i => m - i) P.length ⟨by omega, by omega, ha⟩ (SubI.slots (by simp) (by simp)) ?_
  rintro i ⟨i1, i2, i3⟩
  by_cases him : i < m
  · obtain ⟨hil, hie⟩ := hokj i (by omega)
    by_cases hz : at0 (atR Mj i) j = 0
    · simp -implicitDefEqProofs [sc_i_reduceMod_L2, him, hlm, hjW, hil, hz]
      repeat' (first | omega | apply And.intro)
      refine Again.of (i + 1) ⟨by omega, by omega, by rw [← i3, show m - i = (m - (i + 1)) + 1 by omega, fndZ_yes hz]⟩ (by omega) ?_
      refine SubI.fold 0 2 i 1 W (cn := ints (atR Mj i)) (co := (rowsV Mj).set i (.sl 2 1 0 W)) rfl rfl (by simp [hlm, him]) (by simp [hil]) ?_
      have hself := rowsV_self (M := Mj) (i := i) (by omega)
      refine SubI.ren (fun m => if m = 0 then some 0 else if m = 1 then some 1 else none) ?_ ?_ ?_ (by simp) (by simp)
      · simp (disch := omega) [subT, renV, ren1, wrapI]
      · simp [subH, renL, ren1, hself]
      · intro m hm
        simp only at hm
        rw [if_neg (by omega), if_neg (by omega)]
    · have hai : a = i := by rw [← i3, show m - i = (m - (i + 1)) + 1 by omega, fndZ_no hz]
      subst hai
      have hred : redS p M (j + 1) = (pivM p Mj P.length a j, P ++ [(j : Int)]) := by rw [hstep, hyes a rfl hPm him]
      have hne : ¬ ((a : Int) = (m : Int)) := by omega
      simp -implicitDefEqProofs [sc_i_reduceMod_L2, him, hlm, hjW, hil, hz]
      by_cases had : a = P.length
      · refine SubQ.of (l1 := [(0, .sl 0 1 0 m), (1, .int .i64 (w : Int)), (2, .int .i64 p), (7, .sl 1 1 0 P.length), (8, .int .i64 (j : Int)), (9, .int .i64 (P.length : Int)), (10, .int .i64 (a : Int))]) (SubI.slots rfl (by simp)) ?_
        rw [had] at hred hil hie hz hne ⊢
        have hsw : pivM p Mj P.length P.length j = clrM p (sclM p Mj P.length j) P.length j := by unfold pivM; rw [swp_self (by omega)]
        rw [hsw] at hred
        simp -implicitDefEqProofs [freeOk, hPm, hlm, hjW, hil, hne, hFI]
        repeat' (first | omega | apply And.intro)
        refine scale Mj P P.length j _ _ _ hlm hokj hPm hjW (SubI.slots rfl (by simp)) ?_
        have hM2 : (sclM p Mj P.length j).length = m := by simp [hlm]
        have hok2 := okM_scl hp hokj j (show P.length < Mj.length by omega)
        simp -implicitDefEqProofs
        refine clear (sclM p Mj P.length j) P P.length j _ _ hM2 hok2 hPm hjW (by simp [hlm]) ?_
        simp -implicitDefEqProofs
        repeat' (first | omega | apply And.intro)
        refine Again.of (j + 1) (by omega) (by omega) (SubI.ren (fun m => if m = 0 then some 0 else if m = 1 then some 4 else none) ?_ ?_ ?_ (by simp) (by simp))
        · rw [hred]
          simp (disch := omega) [subT, renV, ren1, wrapI]
        · rw [hred]
          simp [subH, renL, ren1]
          rw [← ints_app]
          rfl
        · intro m hm
          simp only at hm
          rw [if_neg (by omega), if_neg (by omega)]

      · have hda : P.length ≠ a := fun e => had e.symm
        obtain ⟨hdl, hde⟩ := hokj P.length (by omega)
        refine SubQ.of (l1 := [(0, .sl 0 1 0 m), (1, .int .i64 (w : Int)), (2, .int .i64 p), (7, .sl 1 1 0 P.length), (8, .int .i64 (j : Int)), (9, .int .i64 (P.length : Int)), (10, .int .i64 (a : Int))]) (s1 := ([(3, ints (atR Mj P.length)), (2, ints (atR Mj a)), (1, ints P), (0, ((rowsV Mj).set a (.sl 2 1 0 W)).set P.length (.sl 3 1 0 W))], 4)) ?_ ?_
        · refine SubI.unfold 0 P.length 1 (co := (rowsV Mj).set a (.sl 2 1 0 W)) (cn := ints (atR Mj P.length)) rfl (by rw [List.getElem?_set_ne had, rowsV_get (by omega)]) (by omega) ?_
          exact SubI.slots (by simp [hdl]) (by simp)
        have hok1 := okM_swp hokj (show P.length < Mj.length by omega) (show a < Mj.length by omega)
        have hs1 : (swp Mj P.length a).length = m := by simp [hlm]
        have hsd : atR (swp Mj P.length a) P.length = atR Mj a := by rw [swp_at (by omega) (by omega) (by omega), if_neg hda, if_pos rfl]
        simp -implicitDefEqProofs [freeOk, hPm, him, hlm, hjW, hil, hdl, hne, hda, had, hFI]
        repeat' (first | omega | apply And.intro)
        refine scale (swp Mj P.length a) P P.length j _ _ _ hs1 hok1 hPm hjW ?_ ?_
        · rw [hsd]
          refine SubI.fold 0 3 a 1 W (cn := ints (atR Mj P.length)) (co := (((rowsV Mj).set a (.sl 2 1 0 W)).set P.length (.sl 2 1 0 W)).set a (.sl 3 1 0 W)) rfl rfl (by simp [hlm, him]) (by simp [hdl]) ?_
          rw [swp_cells hda]
          refine SubI.ren (fun m => if m = 0 then some 0 else if m = 1 then some 1 else if m = 2 then some 2 else none) ?_ ?_ ?_ (by simp) (by simp)
          · simp [subT, renV, ren1]
          · simp only [subH, renL_set (renL_rowsV _ _) (show ren1 (fun m => if m = 0 then some 0 else if m = 1 then some 1 else if m = 2 then some 2 else none) (.sl 2 1 0 W) = some (.sl 2 1 0 W) from rfl)]
            simp [subH, renL, ren1]
          · intro m hm
            simp only at hm
            rw [if_neg (by omega), if_neg (by omega), if_neg (by omega)]
        have hM2 : (sclM p (swp Mj P.length a) P.length j).length = m := by simp [hlm]
        have hok2 := okM_scl hp hok1 j (show P.length < (swp Mj P.length a).length by simp only [swp_len]; omega)
        simp -implicitDefEqProofs
        refine clear (sclM p (swp Mj P.length a) P.length j) P P.length j _ _ hM2 hok2 hPm hjW (by simp [hlm]) ?_
        simp -implicitDefEqProofs
        repeat' (first | omega | apply And.intro)
        refine Again.of (j + 1) (by omega) (by omega) (SubI.ren (fun m => if m = 0 then some 0 else if m = 1 then some 4 else none) ?_ ?_ ?_ (by simp) (by simp))
        · rw [hred]
          simp (disch := omega) [subT, renV, ren1, wrapI]
        · rw [hred]
          simp [subH, renL, ren1]
          rw [← ints_app]
          exact ⟨rfl, rfl⟩
        · intro m hm
          simp only at hm
          rw [if_neg (by omega), if_neg (by omega)]
  · have hai : a = m := by
      have : i = m := by omega
      rw [← i3, this, Nat.sub_self]
      rfl
    have hred : redS p M (j + 1) = (Mj, P) := by rw [hstep, hno fun h => by omega]
    have : i = m := by omega
    subst this
    simp -implicitDefEqProofs [sc_i_reduceMod_L2, hlm]
    refine SubQ.of (l1 := [(0, .sl 0 1 0 i), (1, .int .i64 (w : Int)), (2, .int .i64 p), (7, .sl 1 1 0 P.length), (8, .int .i64 (j : Int)), (10, .int .i64 (i : Int))]) (SubI.slots rfl (by simp)) ?_
    simp -implicitDefEqProofs
    exact Again.of (j + 1) (by omega) (by omega) (SubI.slots (by simp [hred]) (by simp (disch := omega) [wrapI, hred]))
end Go.Proofs.Ytncnohompmcddaa
