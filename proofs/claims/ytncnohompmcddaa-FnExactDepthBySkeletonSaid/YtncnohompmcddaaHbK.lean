import Derived.Test.YtncnohompmcddaaHbJ
import Derived.Test.YtncnohompmcddaaGcJ
namespace Go.Proofs.Ytncnohompmcddaa
open Go Go.RowKit
set_option maxRecDepth 1000000
set_option linter.unusedSimpArgs false
set_option linter.unusedVariables false
set_option maxHeartbeats 1000000
def sc_s_SkeletonOf_L0 : SC := (.seq (.seq (.reg [⟨(some 21), none, (.mov (.t 8))⟩, ⟨(some 22), none, (.mov (.t 7))⟩, ⟨(some 23), none, (.len (.t 22))⟩, ⟨(some 24), none, (.bin false .lss (.t 21) (.t 23))⟩]) (.cond (.t 24) .skip (.exit 0))) (.seq (.block 1 (.seq (.reg [⟨(some 27), none, (.mov (.t 7))⟩, ⟨(some 28), none, (.mov (.t 8))⟩, ⟨(some 29), none, (.idx 1 (.t 27) (.t 28))⟩, ⟨(some 30), none, (.ld none (.int .i64 0) (.t 29))⟩, ⟨(some 31), none, (.call 36 [(.t 30)])⟩, ⟨(some 32), none, (.mov (.t 1))⟩, ⟨(some 33), none, (.bin false .leq (.t 31) (.t 32))⟩]) (.cond (.t 33) (.reg [⟨(some 34), none, (.mov (.t 6))⟩, ⟨(some 35), none, (.mov (.t 7))⟩, ⟨(some 36), none, (.mov (.t 8))⟩, ⟨(some 37), none, (.idx 1 (.t 35) (.t 36))⟩, ⟨(some 38), none, (.ld none (.int .i64 0) (.t 37))⟩, ⟨(some 39), none, (.mks 1 1 [(.int .i64 0)] [(0, (1, (.t 38)))])⟩, ⟨(some 40), none, (.app 1 8 (.t 34) (.t 39))⟩, ⟨(some 6), none, (.mov (.t 40))⟩]) .skip))) (.reg [⟨(some 25), none, (.mov (.t 8))⟩, ⟨(some 26), none, (.bin false .add (.t 25) (.c (.int .i64 1)))⟩, ⟨(some 8), none, (.mov (.t 26))⟩])))
def sc_s_SkeletonOf : SC := (.seq (.reg [⟨(some 2), none, (.box (.t 0))⟩, ⟨(some 4), none, (.new [(.int .i64 0), .nil])⟩, ⟨(some 5), none, (.mov (.c (.bool false)))⟩]) (.seq (.seq (.reg [⟨(some 9), none, (.ld (some 2) .undef (.t 2))⟩, ⟨(some 10), none, (.call 49 [(.t 9)])⟩, ⟨(some 11), none, (.un .not (.t 10))⟩, ⟨(some 12), none, (.mov (.t 11))⟩, ⟨(some 13), (some (12, false)), (.mov (.t 1))⟩, ⟨(some 14), (some (12, false)), (.call 50 [(.t 13), (.c (.int .i64 0)), (.c (.int .i64 6))])⟩, ⟨(some 15), (some (12, false)), (.un .not (.t 14))⟩, ⟨(some 16), none, (.pick (.t 12) (.c (.bool true)) (.t 15))⟩]) (.cond (.t 16) (.seq (.reg [⟨(some 17), none, (.agg [(.int .i64 0), .nil] [])⟩, ⟨none, none, (.st 2 (.t 4) (.t 17))⟩, ⟨(some 5), none, (.mov (.c (.bool false)))⟩]) .ret) .skip)) (.seq (.reg [⟨(some 18), none, (.mks 0 1 [] [])⟩, ⟨(some 6), none, (.mov (.t 18))⟩]) (.seq (.reg [⟨(some 19), none, (.ld (some 2) .undef (.t 2))⟩, ⟨(some 20), none, (.call 32 [(.t 19)])⟩, ⟨(some 7), none, (.mov (.t 20))⟩]) (.seq (.seq (.reg [⟨(some 8), none, (.mov (.c (.int .i64 0)))⟩]) (.block 0 (.loop sc_s_SkeletonOf_L0))) (.seq (.reg [⟨(some 41), none, (.fad 0 (.t 2))⟩, ⟨(some 42), none, (.ld none (.int .i64 0) (.t 41))⟩, ⟨(some 43), none, (.mov (.t 6))⟩, ⟨(some 44), none, (.call 75 [(.t 42), (.t 43)])⟩, ⟨none, none, (.st 2 (.t 4) (.t 44))⟩, ⟨(some 5), none, (.mov (.c (.bool true)))⟩]) .ret))))))
theorem code_s_SkeletonOf : fnCode Try.prog [] 63 = some (45, sc_s_SkeletonOf, [(4, (some 2)), (5, none)]) := by kernel_rfl
theorem cplx_part {n : Int} {l : List Int} (hc : cplx n l) {q : Int → Prop} (h : ∀ s, isS s → q s → faceS l s) : cplx n (setsOf (maxP q)) := by
  obtain ⟨h1, h6, _⟩ := id hc
  have hso := setsOf_sorted (maxP q)
  refine ⟨h1, h6, fun k hk => ?_⟩
  obtain ⟨hks, hkm⟩ := mem_setsOf.1 (getD_mem' hk)
  refine ⟨isSet_face' hc hks (h _ hks hkm.1), fun h0 => before_at hso (by omega) hk, fun i hi hb => ?_⟩
  obtain ⟨his, him⟩ := mem_setsOf.1 (getD_mem' (show i < _ from by omega : i < (setsOf (maxP q)).length))
  have hsub : subS (at0 (setsOf (maxP q)) i) (at0 (setsOf (maxP q)) k) := (bnot_zero2 his hks).2 hb
  have e := him.2 _ hks hkm.1 hsub
  have hbf := before_at hso hi hk
  rw [e] at hbf
  simp only [before, decide_eq_true_eq] at hbf
  omega
noncomputable def skS (l : List Int) (k : Int) : List Int := setsOf (maxP (skP (faceS l) k))
theorem sz_mono {a b : Int} (ha : isS a) (hb : isS b) (h : subS a b) : sz a ≤ sz b := by
  by_cases e : a = b
  · rw [e]; omega
  · have := (sz_sub ha hb h).2 e
    omega
theorem sk_down {l : List Int} (hl : allS l) (k : Int) : ∀ a b, isS a → isS b → subS a b → skP (faceS l) k b → skP (faceS l) k a := by
  intro a b ha hb hab h
  have := sz_mono ha hb hab
  exact ⟨faceS_sub hl ha hb hab h.1, by have := h.2; omega⟩
theorem skS_face {l : List Int} (hl : allS l) {k u : Int} (hu : isS u) : faceS (skS l k) u ↔ skP (faceS l) k u := face_max (sk_down hl k) hu
theorem cplx_sk {n : Int} {l : List Int} (hc : cplx n l) (k : Int) : cplx n (skS l k) := cplx_part hc fun s _ h => h.1
noncomputable def F_s_SkeletonOf : List V → Option V := F2 dC dI fun c k => @ite _ (cplx c.1 c.2 ∧ 0 ≤ k ∧ k ≤ 6) (Classical.propDecidable _) (some (.tup [.agg [.int .i64 c.1, .own 1 (ints (skS c.2 k))], .bool true])) none
theorem fn_s_SkeletonOf : FnOk Try.prog 63 F_s_SkeletonOf := by
  have env := (((((envNil_ok (P := Try.prog)).add fn_s_IsComplex).add fn_s_l1In).add fn_s_FacesOf).add fn_s_l2Size).add fn_s_l3Make
  refine fn_ok code_s_SkeletonOf mixed env ?_
  intro args r h hb
  obtain ⟨_, _, ⟨n, l⟩, z, rfl, h1, h2, h4⟩ := F2_inv h
  cases dC_inv h1
  cases dI_inv h2
  simp only [Option.ite_none_right_eq_some, Option.some.injEq] at h4
  obtain ⟨⟨hc, hz0, hz6⟩, rfl⟩ := h4
  clear h
  refine ⟨by simp, fun w0 U0 L0 N0 => ?_⟩
  clear hb
  have e0 := cplxB_iff.2 hc
  have g1 : decide (0 ≤ z ∧ z ≤ 6) = true := by simp [hz0, hz6]
  have hFF : F_s_FacesOf [.agg [.int .i64 n, .list 1 (ints l)]] = some (.own 1 (ints (facesL n l))) := by simp [F_s_FacesOf]
  have hL : allS (facesL n l) := allS_setsOf _
  have hLl : (facesL n l).length ≤ 64 := setsOf_len _
  have hfl : (facesL n l).filter (fun s => dec (sz s ≤ z)) = setsOf fun s => faceS l s ∧ sz s ≤ z := by rw [facesL_of hc, filt_setsOf]
  have hFM : F_s_l3Make [.int .i64 n, .list 1 (ints ((facesL n l).filter fun s => dec (sz s ≤ z)))] = some (.agg [.int .i64 n, .own 1 (ints (skS l z))]) := by
    rw [hfl]
    simp only [F_s_l3Make, F2_mk, dL_list, dI_int, Option.bind_some]
    have hmx : (setsOf (maxP fun s => s ∈ setsOf fun s => faceS l s ∧ sz s ≤ z)) = skS l z := setsOf_congr fun s hs => maxP_congr (q := skP (faceS l) z) (fun t ht => mem_setsOf.trans ⟨fun h => h.2, fun h => ⟨ht, h⟩⟩) hs
    rw [if_pos (allS_setsOf _), hmx]
  clear hfl
  generalize skS l z = R at *
  generalize facesL n l = L at *
  generalize hq : (fun s => dec (sz s ≤ z)) = q at *
  have hFI : F_s_l1In [.int .i64 z, .int .i64 0, .int .i64 6] = some (.bool true) := by simp [F_s_l1In, hz0, hz6]
  simp -implicitDefEqProofs [sc_s_SkeletonOf, F_s_IsComplex, hFI, hFF, e0]
  refine loopI env mixed (fun k : Nat => [(1, .int .i64 z), (2, .pt 0 0), (4, .pt 1 0), (6, .sl 2 1 0 ((L.take k).filter q).length), (7, .sl 3 1 0 L.length), (8, .int .i64 (k : Int))]) (fun k => ([(3, ints L), (2, ints ((L.take k).filter q)), (1, [.int .i64 0, .nil]), (0, [.int .i64 n, .list 1 (ints l)])], 4)) (fun k => k ≤ L.length) (fun k => L.length - k) 0 (by simp) (SubI.slots (by simp) (by simp)) ?_
  intro k hk
  have gl := filt_len L k q
  by_cases hlt : k < L.length
  · have hf := allS_at hL hlt
    have hF2 : F_s_l2Size [.int .i64 (at0 L k)] = some (.int .i64 (sz (at0 L k))) := by
      simp only [F_s_l2Size, F1_mk, dI_int, Option.bind_some]
      rw [if_pos (by have := hf.2; omega)]
    by_cases h1 : sz (at0 L k) ≤ z
    · have e := filt_pos hlt (q := q) (by rw [← hq]; exact dec_true h1)
      generalize (L.take k).filter q = g at *
      simp -implicitDefEqProofs [sc_s_SkeletonOf_L0, hF2, hlt, h1]
      repeat' (first | omega | apply And.intro)
      refine Again.of (k + 1) (by omega) (by omega) (SubI.ren (fun m => if m = 0 then some 0 else if m = 1 then some 1 else if m = 2 then some 5 else if m = 3 then some 3 else none) ?_ ?_ ?_ (by simp) (by simp))
      · simp only [e]
        simp (disch := omega) [subT, renV, ren1, wrapI]
      · simp only [e]
        simp [subH, renL, ren1]
        rw [← ints_app]
        rfl
      · intro m hm
        simp only at hm
        rw [if_neg (by omega), if_neg (by omega), if_neg (by omega), if_neg (by omega)]
    · have e := filt_neg hlt (q := q) (by rw [← hq]; exact dec_false h1)
      generalize (L.take k).filter q = g at *
      simp -implicitDefEqProofs [sc_s_SkeletonOf_L0, hF2, hlt, h1]
      repeat' (first | omega | apply And.intro)
      exact Again.of (k + 1) (by omega) (by omega) (SubI.slots (by simp only [e]) (by simp only [e]; simp (disch := omega) [wrapI]))
  · have : k = L.length := by omega
    subst this
    rw [List.take_length] at *
    generalize L.filter q = g at *
    simp -implicitDefEqProofs [sc_s_SkeletonOf_L0, hFM]
end Go.Proofs.Ytncnohompmcddaa
