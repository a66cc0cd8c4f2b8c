import Derived.Test.YtmemomfffehnkaaKS2
import Derived.Test.YtmemomfffehnkaaKQ
import Derived.Test.YtmemomfffehnkaaKR
namespace Go.Proofs.Ytmemomfffehnkaa
open Go Go.RowKit
set_option maxRecDepth 1000000
set_option linter.unusedSimpArgs false
set_option linter.unusedVariables false
set_option maxHeartbeats 1000000
/-- The rank of a matrix modulo p. -/
noncomputable def rnk (p : Int) (M : List (List Int)) : Nat := (redS p (modM p M) (atR M 0).length).2.length
theorem rnk_nil (p : Int) : rnk p [] = 0 := by
  have e : modM p [] = [] := List.length_eq_zero_iff.1 (by simp)
  unfold rnk
  rw [e, redS_nil]
  rfl
theorem rnk_le {p : Int} {M : List (List Int)} (hp : fpP p) (h : ∀ i, i < M.length → (atR M i).length = (atR M 0).length) : rnk p M ≤ M.length := by
  have := (redI_all hp (okM_mod (p := p) hp h) (atR M 0).length)
  have h1 := this.hp
  have h2 := this.hl
  rw [modM_len] at h2
  unfold rnk
  omega
theorem rnk_wide {p : Int} {M : List (List Int)} (h : (atR M 0).length = 0) : rnk p M = 0 := by
  unfold rnk
  rw [h]
  rfl
noncomputable def F_i_rankOf : List V → Option V := F2 dLL dI fun M p => @ite _ (fpP p ∧ recM M) (Classical.propDecidable _) (some (.int .i64 (rnk p M : Nat))) none
/-- The rank of the border from size k to size k - 1. -/
noncomputable def rkZ (p : Int) (q : Int → Prop) (k : Int) : Int := (rnk p (sgnM (szS q (k - 1)) (szS q k)) : Nat)
theorem rec_sgn (R C : List Int) (hR : R.length ≤ 64) (hC : C.length ≤ 64) : recM (sgnM R C) := by
  have h : ∀ i, i < (sgnM R C).length → (atR (sgnM R C) i).length = C.length := fun i hi => by
    rw [sgnM_len] at hi
    rw [sgnM_at hi]
    simp
  refine ⟨⟨by rw [sgnM_len]; exact hR, fun i hi => by rw [h i hi]; omega⟩, fun i hi => ?_⟩
  rw [h i hi, h 0 (by omega)]
theorem rkZ_bnd {p : Int} (hp : fpP p) (q : Int → Prop) (k : Int) : 0 ≤ rkZ p q k ∧ rkZ p q k ≤ 64 := by
  have h := (rec_sgn (szS q (k - 1)) (szS q k) (szS_len _ _) (szS_len _ _)).2
  have h1 := rnk_le hp h
  rw [sgnM_len] at h1
  have h2 := szS_len q (k - 1)
  unfold rkZ
  omega
theorem rkZ_low (p : Int) (q : Int → Prop) : rkZ p q 0 = 0 := by
  have e : szS q (0 - 1) = [] := szS_none (by omega)
  unfold rkZ
  rw [e]
  show ((rnk p [] : Nat) : Int) = 0
  rw [rnk_nil]
  rfl
theorem rkZ_high (p : Int) (q : Int → Prop) {k : Int} (h : topZ q < k) : rkZ p q k = 0 := by
  have e : szS q k = [] := szS_none (by omega)
  unfold rkZ
  rw [e]
  rw [rnk_wide]
  · rfl
  · by_cases h0 : 0 < (szS q (k - 1)).length
    · rw [sgnM_at h0]; rfl
    · have : szS q (k - 1) = [] := List.length_eq_zero_iff.1 (by omega)
      rw [this]; rfl
theorem rkZ_congr {p : Int} {q q2 : Int → Prop} (h : ∀ s, isS s → (q s ↔ q2 s)) (k : Int) : rkZ p q k = rkZ p q2 k := by
  unfold rkZ
  rw [szS_congr h, szS_congr h]
noncomputable def holV (p : Int) (q : Int → Prop) (k : Nat) : Int := ((szS q k).length : Nat) - rkZ p q k - rkZ p q (k + 1)
/-- The holes of a family modulo p. -/
noncomputable def holL (p : Int) (q : Int → Prop) : List Int := rowF (topZ q + 1).toNat (holV p q)
theorem holL_congr {p : Int} {q q2 : Int → Prop} (h : ∀ s, isS s → (q s ↔ q2 s)) : holL p q = holL p q2 := by
  unfold holL
  rw [topZ_congr h]
  refine rowF_congr fun k _ => ?_
  unfold holV
  rw [szS_congr h, rkZ_congr h, rkZ_congr h]
theorem holL_len (p : Int) (q : Int → Prop) : (holL p q).length = (topZ q + 1).toNat ∧ (holL p q).length ≤ 7 := by
  have := topZ_bnd q
  unfold holL
  rw [rowF_len]
  omega
theorem holV_bnd {p : Int} (hp : fpP p) (q : Int → Prop) (k : Nat) : -128 ≤ holV p q k ∧ holV p q k ≤ 64 := by
  have h1 := rkZ_bnd hp q k
  have h2 := rkZ_bnd hp q (k + 1)
  have h3 := szS_len q k
  unfold holV
  omega
noncomputable def holG (f p : Int) : Option V := @ite _ (0 ≤ f ∧ f < 18446744073709551616 ∧ fpP p) (Classical.propDecidable _) (some (.own 1 (ints (holL p (bitP f))))) none
theorem holG_fam (q : Int → Prop) {p : Int} (hp : fpP p) : holG (fam q) p = some (.own 1 (ints (holL p q))) := by
  unfold holG
  rw [if_pos ⟨fam_nn q, fam_lt q, hp⟩, holL_congr fun s hs => bitP_fam hs]
noncomputable def F_i_holesIn : List V → Option V := F2 dU dI holG
open Classical in
noncomputable def hmL (n : Int) (l : List Int) (p : Int) : List Int := if cplx n l ∧ fpP p then holL p (faceS l) else []
noncomputable def F_s_HolesMod : List V → Option V := F2 dC dI fun c p => some (.own 1 (ints (hmL c.1 c.2 p)))
end Go.Proofs.Ytmemomfffehnkaa
namespace Go.Proofs.Ytmemomfffehnkaa
open Go Go.RowKit
set_option maxRecDepth 1000000
set_option linter.unusedSimpArgs false
set_option linter.unusedVariables false
set_option maxHeartbeats 1000000
def sc_s_l13Rank : SC := (.seq (.reg [⟨(some 4), none, (.mov (.c (.int .i64 0)))⟩]) (.seq (.reg [⟨(some 8), none, (.mov (.t 0))⟩, ⟨(some 9), none, (.mov (.t 1))⟩, ⟨(some 10), none, (.call 133 [(.t 8), (.t 9)])⟩, ⟨(some 7), none, (.mov (.t 10))⟩, ⟨(some 11), none, (.ext 0 (.t 7))⟩, ⟨(some 12), none, (.ext 1 (.t 7))⟩, ⟨(some 5), none, (.mov (.t 11))⟩, ⟨(some 6), none, (.mov (.t 12))⟩]) (.seq (.reg [⟨(some 13), none, (.mov (.t 6))⟩, ⟨(some 14), none, (.len (.t 13))⟩, ⟨(some 4), none, (.mov (.t 14))⟩]) .ret)))
theorem code_s_l13Rank : fnCode Try.prog [] 142 = some (15, sc_s_l13Rank, [(4, none)]) := by kernel_rfl
theorem fn_s_l13Rank : FnOk Try.prog 142 F_i_rankOf := by
  have env := (envNil_ok (P := Try.prog)).add fn_s_l13Reduce
  refine fn_ok code_s_l13Rank mixed env ?_
  intro args r h hb
  obtain ⟨_, _, M, p, rfl, h1, h2, h4⟩ := F2_inv h
  cases dLL_inv h1
  cases dI_inv h2
  simp only [Option.ite_none_right_eq_some, Option.some.injEq] at h4
  obtain ⟨⟨hp, hrec⟩, rfl⟩ := h4
  clear h
  refine ⟨by simp, fun w0 U0 L0 N0 => ?_⟩
  clear hb
  have hF : F_s_l13Reduce [.list 1 (rowsL M), .int .i64 p] = some (.tup [.own 1 (rowsV (redS p (modM p M) (atR M 0).length).1), .own 1 (ints (redS p (modM p M) (atR M 0).length).2)]) := by
    simp only [F_s_l13Reduce, F2_mk, dLL_list, dI_int, Option.bind_some]
    rw [if_pos ⟨hp, hrec⟩]
  have hr : rnk p M = (redS p (modM p M) (atR M 0).length).2.length := rfl
  rw [hr]
  generalize redS p (modM p M) (atR M 0).length = x at *
  simp -implicitDefEqProofs [sc_s_l13Rank, hF]
end Go.Proofs.Ytmemomfffehnkaa
namespace Go.Proofs.Ytmemomfffehnkaa
open Go Go.RowKit
set_option maxRecDepth 1000000
set_option linter.unusedSimpArgs false
set_option linter.unusedVariables false
set_option maxHeartbeats 1000000
def sc_s_FaceCounts_L2 : SC := (.seq (.seq (.reg [⟨(some 15), none, (.mov (.t 3))⟩, ⟨(some 16), none, (.len (.t 15))⟩, ⟨(some 17), none, (.mov (.t 4))⟩, ⟨(some 18), none, (.mov (.t 5))⟩, ⟨(some 19), none, (.idx 1 (.t 17) (.t 18))⟩, ⟨(some 20), none, (.ld none (.int .i64 0) (.t 19))⟩, ⟨(some 21), none, (.call 156 [(.t 20)])⟩, ⟨(some 22), none, (.bin false .leq (.t 16) (.t 21))⟩]) (.cond (.t 22) .skip (.exit 2))) (.block 3 (.reg [⟨(some 23), none, (.mov (.t 3))⟩, ⟨(some 24), none, (.mks 1 1 [(.int .i64 0)] [(0, (1, (.c (.int .i64 0))))])⟩, ⟨(some 25), none, (.app 1 8 (.t 23) (.t 24))⟩, ⟨(some 3), none, (.mov (.t 25))⟩])))
def sc_s_FaceCounts_L0 : SC := (.seq (.seq (.reg [⟨(some 9), none, (.mov (.t 5))⟩, ⟨(some 10), none, (.mov (.t 4))⟩, ⟨(some 11), none, (.len (.t 10))⟩, ⟨(some 12), none, (.bin false .lss (.t 9) (.t 11))⟩]) (.cond (.t 12) .skip (.exit 0))) (.seq (.block 1 (.seq (.block 2 (.loop sc_s_FaceCounts_L2)) (.dreg [⟨⟨(some 26), none, (.mov (.t 3))⟩, false, false⟩, ⟨⟨(some 27), none, (.mov (.t 4))⟩, false, false⟩, ⟨⟨(some 28), none, (.mov (.t 5))⟩, false, false⟩, ⟨⟨(some 29), none, (.idx 1 (.t 27) (.t 28))⟩, false, false⟩, ⟨⟨(some 30), none, (.ld none (.int .i64 0) (.t 29))⟩, false, false⟩, ⟨⟨(some 31), none, (.call 156 [(.t 30)])⟩, false, false⟩, ⟨⟨(some 32), none, (.mov (.t 3))⟩, false, false⟩, ⟨⟨(some 33), none, (.mov (.t 4))⟩, false, false⟩, ⟨⟨(some 34), none, (.mov (.t 5))⟩, false, false⟩, ⟨⟨(some 35), none, (.idx 1 (.t 33) (.t 34))⟩, false, false⟩, ⟨⟨(some 36), none, (.ld none (.int .i64 0) (.t 35))⟩, false, false⟩, ⟨⟨(some 37), none, (.call 156 [(.t 36)])⟩, false, false⟩, ⟨⟨(some 38), none, (.idx 1 (.t 32) (.t 37))⟩, false, false⟩, ⟨⟨(some 39), none, (.ld none (.int .i64 0) (.t 38))⟩, false, false⟩, ⟨⟨(some 40), none, (.bin false .add (.t 39) (.c (.int .i64 1)))⟩, false, false⟩, ⟨⟨(some 41), none, (.idx 1 (.t 26) (.t 31))⟩, false, false⟩, ⟨⟨none, none, (.st 1 (.t 41) (.t 40))⟩, true, false⟩]))) (.reg [⟨(some 13), none, (.mov (.t 5))⟩, ⟨(some 14), none, (.bin false .add (.t 13) (.c (.int .i64 1)))⟩, ⟨(some 5), none, (.mov (.t 14))⟩])))
def sc_s_FaceCounts : SC := (.seq (.reg [⟨(some 1), none, (.box (.t 0))⟩, ⟨(some 2), none, (.mov (.c .nil))⟩]) (.seq (.reg [⟨(some 6), none, (.mks 0 1 [] [])⟩, ⟨(some 3), none, (.mov (.t 6))⟩]) (.seq (.reg [⟨(some 7), none, (.ld (some 2) .undef (.t 1))⟩, ⟨(some 8), none, (.call 43 [(.t 7)])⟩, ⟨(some 4), none, (.mov (.t 8))⟩]) (.seq (.seq (.reg [⟨(some 5), none, (.mov (.c (.int .i64 0)))⟩]) (.block 0 (.loop sc_s_FaceCounts_L0))) (.seq (.reg [⟨(some 42), none, (.mov (.t 3))⟩, ⟨(some 2), none, (.mov (.t 42))⟩]) .ret)))))
theorem code_s_FaceCounts : fnCode Try.prog [] 141 = some (43, sc_s_FaceCounts, [(2, none)]) := by kernel_rfl
open Classical in
/-- How many faces of each size. -/
noncomputable def fctL (n : Int) (l : List Int) : List Int := if cplx n l then rowF (topZ (faceS l) + 1).toNat (fun z => ((szS (faceS l) z).length : Nat)) else []
noncomputable def F_s_FaceCounts : List V → Option V := F1 dC fun c => some (.own 1 (ints (fctL c.1 c.2)))
theorem at0_takeq {l : List Int} {k q : Nat} (h : q < k) : at0 (l.take k) q = at0 l q := by simp [at0, List.getElem?_take, h]
theorem szRow_grow {m : Nat} {l : List Int} (h : ∀ s ∈ l, sz s < m) : szRow (m + 1) l = szRow m l ++ [0] := by
  unfold szRow
  rw [List.range_succ, List.map_append]
  congr 1
  simp only [List.map_cons, List.map_nil]
  congr 1
  unfold cntZ
  have : l.filter (fun s => dec (sz s = (m : Int))) = [] := List.filter_eq_nil_iff.2 fun s hs => by
    have := h s hs
    rw [dec_false (by omega)]
    simp
  rw [this]
  rfl
theorem fn_s_FaceCounts : FnOk Try.prog 141 F_s_FaceCounts := by
  have env := ((envNil_ok (P := Try.prog)).add fn_s_FacesOf).add fn_s_l2Size
  refine fn_ok code_s_FaceCounts mixed env ?_
  intro args r h hb
  obtain ⟨_, ⟨n, l⟩, rfl, h1, h4⟩ := F1_inv h
  cases dC_inv h1
  cases h4
  clear h
  refine ⟨by simp, fun w0 U0 L0 N0 => ?_⟩
  clear hb
  simp only
  have hL : allS (facesL n l) := allS_setsOf _
  have hLl : (facesL n l).length ≤ 64 := setsOf_len _
  have hso : (facesL n l).Pairwise fun a b => before a b = true := setsOf_sorted _
  have hres : ∀ m : Nat, (facesL n l = [] → m = 0) → (facesL n l ≠ [] → sz (at0 (facesL n l) ((facesL n l).length - 1)) + 1 = m) → (∀ q, q < (facesL n l).length → sz (at0 (facesL n l) q) < m) → fctL n l = szRow m (facesL n l) := by
    intro m h1 h2 h3
    unfold fctL
    by_cases hc : cplx n l
    · rw [if_pos hc]
      have hm : (topZ (faceS l) + 1).toNat = m := by
        have hf := facesL_of hc
        have htb := topZ_bnd (faceS l)
        by_cases he : facesL n l = []
        · rw [h1 he]
          rcases topZ_hit (faceS l) with e | ⟨s, hs, hp, _⟩
          · omega
          · have : s ∈ facesL n l := by rw [hf]; exact mem_setsOf.2 ⟨hs, hp⟩
            rw [he] at this
            simp at this
        · have hpos := List.length_pos_iff.2 he
          have hlast := getD_mem' (l := facesL n l) (j := (facesL n l).length - 1) (by omega)
          have hlast2 := hlast
          rw [hf] at hlast2
          obtain ⟨e1, e2⟩ := mem_setsOf.1 hlast2
          have h4 := topZ_ge e1 e2
          have h5 := h2 he
          rw [← hf] at h4
          rcases topZ_hit (faceS l) with e | ⟨s, hs, hp, e⟩
          · have := sz_nn (at0 (facesL n l) ((facesL n l).length - 1))
            omega
          · have hms : s ∈ facesL n l := by rw [hf]; exact mem_setsOf.2 ⟨hs, hp⟩
            obtain ⟨q, hq, rfl⟩ := getD_mem_iff.1 hms
            have := h3 q hq
            omega
      rw [hm]
      unfold rowF szRow
      refine List.map_congr_left fun z _ => ?_
      unfold cntZ
      rw [facesL_of hc, filt_setsOf]
      rfl
    · rw [if_neg hc]
      have he := facesL_not hc
      rw [h1 he, he]
      rfl
  have hFF : F_s_FacesOf [.agg [.int .i64 n, .list 1 (ints l)]] = some (.own 1 (ints (facesL n l))) := by simp [F_s_FacesOf]
  generalize facesL n l = L at *
  generalize fctL n l = F at *
  simp -implicitDefEqProofs [sc_s_FaceCounts, hFF]
  have inner : ∀ (i m0 z M1 : Nat) (Q : Post) (T0 : Tm), M1 = z + 1 → i < L.length → sz (at0 L i) = z → m0 ≤ z + 1 → (∀ s ∈ L.take i, sz s < m0) → subE T0 [(3, .sl 1 1 0 m0), (4, .sl 2 1 0 L.length), (5, .int .i64 (i : Int))] →
      Q (.exit 2) [(3, .sl 1 1 0 M1), (4, .sl 2 1 0 L.length), (5, .int .i64 (i : Int))] ([(2, ints L), (1, ints (szRow M1 (L.take i))), (0, [.int .i64 n, .list 1 (ints l)])], 3) →
      LoopI ⟨Try.prog, w0, U0, L0, N0, 0, 43⟩ [] sc_s_FaceCounts_L2 Q T0 ([(2, ints L), (1, ints (szRow m0 (L.take i))), (0, [.int .i64 n, .list 1 (ints l)])], 3) := by
    intro i m0 z M1 Q T0 hM1 hi hz hm hlow hsub q1
    subst hM1
    have hf := allS_at hL hi
    have h6 := sz_six hf
    have r1 : at0 L i < 9223372036854775808 := by have := hf.2; omega
    refine loopQ env mixed (fun j : Nat => [(3, .sl 1 1 0 j), (4, .sl 2 1 0 L.length), (5, .int .i64 (i : Int))]) (fun j => ([(2, ints L), (1, ints (szRow j (L.take i))), (0, [.int .i64 n, .list 1 (ints l)])], 3)) (fun j => m0 ≤ j ∧ j ≤ z + 1) (fun j => z + 1 - j) m0 ⟨by omega, hm⟩ (SubI.slots (by simp) (by simpa using hsub)) ?_
    rintro j ⟨hj1, hj2⟩
    by_cases hlt : j ≤ z
    · have hlt' : (j : Int) ≤ (z : Int) := by omega
      have hgr := szRow_grow (m := j) (l := L.take i) fun s hs => by have := hlow s hs; omega
      have hgl := szRow_len j (L.take i)
      generalize szRow j (L.take i) = g at *
      simp -implicitDefEqProofs [sc_s_FaceCounts_L2, F_s_l2Size, hi, r1, hz, hlt, hlt', hgl]
      repeat' (first | omega | apply And.intro)
      refine Again.of (j + 1) ⟨by omega, by omega⟩ (by omega) (SubI.ren (fun m => if m = 0 then some 0 else if m = 1 then some 4 else if m = 2 then some 2 else none) ?_ ?_ ?_ (by simp) (by simp))
      · simp (disch := omega) [subT, renV, ren1, wrapI]
      · have htk : g.take j = g := List.take_of_length_le (by omega)
        simp [subH, hgr, renL, ren1, htk]
        rw [← ints_app]
        rfl
      · intro m hm
        simp only at hm
        rw [if_neg (by omega), if_neg (by omega), if_neg (by omega)]
    · have : j = z + 1 := by omega
      subst this
      have hlt' : ¬ ((z : Int) + 1 ≤ (z : Int)) := by omega
      simp -implicitDefEqProofs [sc_s_FaceCounts_L2, F_s_l2Size, hi, r1, hz, hlt']
      exact SubQ.of (SubI.slots rfl (by simp)) q1
  refine loopI env mixed (fun x : Nat × Nat => [(3, .sl 1 1 0 x.2), (4, .sl 2 1 0 L.length), (5, .int .i64 (x.1 : Int))]) (fun x => ([(2, ints L), (1, ints (szRow x.2 (L.take x.1))), (0, [.int .i64 n, .list 1 (ints l)])], 3))
    (fun x => x.1 ≤ L.length ∧ (x.1 = 0 → x.2 = 0) ∧ (0 < x.1 → sz (at0 L (x.1 - 1)) + 1 = x.2) ∧ ∀ q, q < x.1 → sz (at0 L q) < x.2) (fun x => L.length - x.1) (0, 0) ⟨by simp, by simp, by simp, by simp⟩ (SubI.slots (by simp [szRow]) (by simp)) ?_
  rintro ⟨i, m⟩ ⟨hi, hm0, hm1, hq⟩
  simp only at hi hm0 hm1 hq
  by_cases hlt : i < L.length
  · have hf := allS_at hL hlt
    have h6 := sz_six hf
    have r1 : at0 L i < 9223372036854775808 := by have := hf.2; omega
    obtain ⟨z, hz⟩ : ∃ z : Nat, sz (at0 L i) = z := ⟨(sz (at0 L i)).toNat, by have := sz_nn (at0 L i); omega⟩
    have hmz : m ≤ z + 1 := by
      by_cases h0 : i = 0
      · rw [hm0 h0]; omega
      · have h1 := hm1 (by omega)
        have h2 := before_at hso (show i - 1 < i by omega) hlt
        simp only [before, decide_eq_true_eq] at h2
        omega
    have hlow : ∀ s ∈ L.take i, sz s < m := fun s hs => by
      obtain ⟨q, hq1, rfl⟩ := getD_mem_iff.1 hs
      rw [List.length_take] at hq1
      rw [at0_takeq (by omega)]
      exact hq q (by omega)
    have hcb := cntZ_bnd L i z
    have hw2 : IntKind.i64.wrap (cntZ (L.take i) z + 1) = cntZ (L.take i) z + 1 := wrapI _ (by omega) (by omega)
    have hF2 : F_s_l2Size [.int .i64 (at0 L i)] = some (.int .i64 (z : Int)) := by
      simp only [F_s_l2Size, F1_mk, dI_int, Option.bind_some]
      rw [if_pos r1, hz]
    obtain ⟨M1, hM1⟩ : ∃ M1, M1 = z + 1 := ⟨_, rfl⟩
    have hzM : z < M1 := by omega
    have hst := szRow_step (m := M1) hlt hz hzM
    have ha := at0_szRow (m := M1) (z := z) (L.take i) hzM
    have hgl := szRow_len M1 (L.take i)
    have hin := inner i m z M1
    simp -implicitDefEqProofs [sc_s_FaceCounts_L0, hlt]
    refine hin _ _ hM1 hlt hz hmz hlow (by simp) ?_
    simp -implicitDefEqProofs [hF2, hlt, hzM, ha, hw2, hst]
    repeat' (first | omega | apply And.intro)
    refine Again.of (i + 1, M1) ⟨by simp only; omega, by simp, fun _ => by simp only [Nat.add_sub_cancel]; omega, fun q h => ?_⟩ (by simp only; omega) (SubI.slots (by simp) (by simp (disch := omega) [wrapI]))
    simp only at h ⊢
    rcases Nat.lt_succ_iff_lt_or_eq.1 h with h1 | rfl
    · have := hq q h1; omega
    · omega
  · have : i = L.length := by omega
    subst this
    rw [hres m (fun e => hm0 (by rw [e]; rfl)) (fun e => hm1 (List.length_pos_iff.2 e)) hq]
    have htk : (szRow m L).take m = szRow m L := szRow_take m L
    simp -implicitDefEqProofs [sc_s_FaceCounts_L0]
end Go.Proofs.Ytmemomfffehnkaa
namespace Go.Proofs.Ytmemomfffehnkaa
open Go Go.RowKit
set_option maxRecDepth 1000000
set_option linter.unusedSimpArgs false
set_option linter.unusedVariables false
set_option maxHeartbeats 1000000
def sc_s_HolesMod_L0 : SC := (.seq (.seq (.reg [⟨(some 17), none, (.mov (.t 8))⟩, ⟨(some 18), none, (.mov (.t 6))⟩, ⟨(some 19), none, (.len (.t 18))⟩, ⟨(some 20), none, (.bin false .lss (.t 17) (.t 19))⟩]) (.cond (.t 20) .skip (.exit 0))) (.seq (.block 1 (.seq (.reg [⟨(some 9), none, (.mov (.c (.int .i64 0)))⟩]) (.seq (.seq (.reg [⟨(some 23), none, (.mov (.t 8))⟩, ⟨(some 24), none, (.bin false .add (.t 23) (.c (.int .i64 1)))⟩, ⟨(some 25), none, (.mov (.t 6))⟩, ⟨(some 26), none, (.len (.t 25))⟩, ⟨(some 27), none, (.bin false .lss (.t 24) (.t 26))⟩]) (.cond (.t 27) (.reg [⟨(some 28), none, (.ld (some 2) .undef (.t 2))⟩, ⟨(some 29), none, (.mov (.t 8))⟩, ⟨(some 30), none, (.bin false .add (.t 29) (.c (.int .i64 1)))⟩, ⟨(some 31), none, (.call 123 [(.t 28), (.t 30)])⟩, ⟨(some 32), none, (.mov (.t 1))⟩, ⟨(some 33), none, (.call 142 [(.t 31), (.t 32)])⟩, ⟨(some 9), none, (.mov (.t 33))⟩]) .skip)) (.seq (.reg [⟨(some 34), none, (.mov (.t 5))⟩, ⟨(some 35), none, (.mov (.t 6))⟩, ⟨(some 36), none, (.mov (.t 8))⟩, ⟨(some 37), none, (.idx 1 (.t 35) (.t 36))⟩, ⟨(some 38), none, (.ld none (.int .i64 0) (.t 37))⟩, ⟨(some 39), none, (.mov (.t 7))⟩, ⟨(some 40), none, (.bin false .sub (.t 38) (.t 39))⟩, ⟨(some 41), none, (.mov (.t 9))⟩, ⟨(some 42), none, (.bin false .sub (.t 40) (.t 41))⟩, ⟨(some 43), none, (.mks 1 1 [(.int .i64 0)] [(0, (1, (.t 42)))])⟩, ⟨(some 44), none, (.app 1 8 (.t 34) (.t 43))⟩, ⟨(some 5), none, (.mov (.t 44))⟩]) (.reg [⟨(some 45), none, (.mov (.t 9))⟩, ⟨(some 7), none, (.mov (.t 45))⟩]))))) (.reg [⟨(some 21), none, (.mov (.t 8))⟩, ⟨(some 22), none, (.bin false .add (.t 21) (.c (.int .i64 1)))⟩, ⟨(some 8), none, (.mov (.t 22))⟩])))
def sc_s_HolesMod : SC := (.seq (.reg [⟨(some 2), none, (.box (.t 0))⟩, ⟨(some 4), none, (.mov (.c .nil))⟩]) (.seq (.reg [⟨(some 10), none, (.mks 0 1 [] [])⟩, ⟨(some 5), none, (.mov (.t 10))⟩]) (.seq (.reg [⟨(some 11), none, (.ld (some 2) .undef (.t 2))⟩, ⟨(some 12), none, (.call 141 [(.t 11)])⟩, ⟨(some 6), none, (.mov (.t 12))⟩]) (.seq (.seq (.reg [⟨(some 13), none, (.mov (.t 1))⟩, ⟨(some 14), none, (.call 25 [(.t 13)])⟩, ⟨(some 15), none, (.un .not (.t 14))⟩]) (.cond (.t 15) (.seq (.reg [⟨(some 16), none, (.mov (.t 5))⟩, ⟨(some 4), none, (.mov (.t 16))⟩]) .ret) .skip)) (.seq (.reg [⟨(some 7), none, (.mov (.c (.int .i64 0)))⟩]) (.seq (.seq (.reg [⟨(some 8), none, (.mov (.c (.int .i64 0)))⟩]) (.block 0 (.loop sc_s_HolesMod_L0))) (.seq (.reg [⟨(some 46), none, (.mov (.t 5))⟩, ⟨(some 4), none, (.mov (.t 46))⟩]) .ret)))))))
theorem code_s_HolesMod : fnCode Try.prog [] 27 = some (47, sc_s_HolesMod, [(4, none)]) := by kernel_rfl
theorem fn_s_HolesMod : FnOk Try.prog 27 F_s_HolesMod := by
  have env := ((((envNil_ok (P := Try.prog)).add fn_s_FaceCounts).add fn_s_IsFieldPrime).add fn_s_l13Border).add fn_s_l13Rank
  refine fn_ok code_s_HolesMod mixed env ?_
  intro args r h hb
  obtain ⟨_, _, ⟨n, l⟩, p, rfl, h1, h2, h4⟩ := F2_inv h
  cases dC_inv h1
  cases dI_inv h2
  cases h4
  clear h
  refine ⟨by simp, fun w0 U0 L0 N0 => ?_⟩
  clear hb
  simp only
  have hFF : F_s_FaceCounts [.agg [.int .i64 n, .list 1 (ints l)]] = some (.own 1 (ints (fctL n l))) := by simp [F_s_FaceCounts]
  by_cases hp : fpP p
  rotate_left
  · have e : hmL n l p = [] := if_neg fun h => hp h.2
    have hd := dec_false hp
    rw [e]
    generalize fctL n l = F at *
    simp -implicitDefEqProofs [sc_s_HolesMod, hFF, F_s_IsFieldPrime, hd]
  have hd := dec_true hp
  have hdef : ∃ m : Nat, m ≤ 7 ∧ (fctL n l).length = m ∧ (hmL n l p).length = m ∧ ∀ k, k < m → cplx n l ∧ topZ (faceS l) + 1 = m ∧ at0 (fctL n l) k = ((szS (faceS l) k).length : Nat) ∧ at0 (hmL n l p) k = holV p (faceS l) k := by
    by_cases hc : cplx n l
    · have htb := topZ_bnd (faceS l)
      have e1 : fctL n l = rowF (topZ (faceS l) + 1).toNat (fun z => ((szS (faceS l) z).length : Nat)) := if_pos hc
      have e2 : hmL n l p = holL p (faceS l) := if_pos ⟨hc, hp⟩
      refine ⟨(topZ (faceS l) + 1).toNat, by omega, by rw [e1, rowF_len], by rw [e2]; exact (holL_len p _).1, fun k hk => ⟨hc, by omega, by rw [e1, rowF_at hk], ?_⟩⟩
      rw [e2]
      exact rowF_at hk
    · have e1 : fctL n l = [] := if_neg hc
      have e2 : hmL n l p = [] := if_neg fun h => hc h.1
      exact ⟨0, by omega, by rw [e1]; rfl, by rw [e2]; rfl, fun k hk => by omega⟩
  obtain ⟨m, hm7, hFl, hOl, hk⟩ := hdef
  generalize fctL n l = F at *
  generalize hmL n l p = O at *
  simp -implicitDefEqProofs [sc_s_HolesMod, hFF, F_s_IsFieldPrime, hd]
  refine loopI env mixed (fun k : Nat => [(1, .int .i64 p), (2, .pt 0 0), (5, .sl 1 1 0 k), (6, .sl 2 1 0 F.length), (7, .int .i64 (rkZ p (faceS l) k)), (8, .int .i64 (k : Int))]) (fun k => ([(2, ints F), (1, ints (O.take k)), (0, [.int .i64 n, .list 1 (ints l)])], 3)) (fun k => k ≤ m) (fun k => m - k) 0 (by simp) (SubI.slots (by simp) (by simp [rkZ_low])) ?_
  intro k hkm
  by_cases hlt : k < m
  · obtain ⟨hc, ht, hf, ho⟩ := hk k hlt
    have hltF : k < F.length := by omega
    have b1 := rkZ_bnd hp (faceS l) k
    have b2 := rkZ_bnd hp (faceS l) ((k : Int) + 1)
    have b3 := szS_len (faceS l) k
    have hv : holV p (faceS l) k = ((szS (faceS l) k).length : Nat) - rkZ p (faceS l) k - rkZ p (faceS l) (k + 1) := rfl
    have hw1 : IntKind.i64.wrap ((k : Int) + 1) = (k : Int) + 1 := wrapI _ (by omega) (by omega)
    have e : O.take (k + 1) = O.take k ++ [((szS (faceS l) k).length : Nat) - rkZ p (faceS l) k - rkZ p (faceS l) (k + 1)] := by rw [take_at (by omega), ho, hv]
    have gl : (O.take k).length = k := by simp; omega
    have hkk : ((k + 1 : Nat) : Int) = (k : Int) + 1 := by omega
    have fin : ∀ T : Tm, subE T [(1, .int .i64 p), (2, .pt 0 0), (5, .sl 1 1 0 (k + 1)), (6, .sl 2 1 0 F.length), (7, .int .i64 (rkZ p (faceS l) ((k : Int) + 1))), (8, .int .i64 ((k : Int) + 1))] → True := fun _ _ => trivial
    by_cases hnx : k + 1 < m
    · have hF1 : F_i_BorderMatrix [.agg [.int .i64 n, .list 1 (ints l)], .int .i64 ((k : Int) + 1)] = some (.own 1 (rowsV (borM n l ((k : Int) + 1)))) := by
        simp only [F_i_BorderMatrix, F2_mk, dC_agg, dI_int, Option.bind_some]
        rw [if_pos ⟨hc, by omega, by omega⟩]
      have hbm : borM n l ((k : Int) + 1) = sgnM (szS (faceS l) ((k : Int) + 1 - 1)) (szS (faceS l) ((k : Int) + 1)) := by
        unfold borM
        rw [szS_fos hc, szS_fos hc]
      have hF2 : F_i_rankOf [.list 1 (rowsL (borM n l ((k : Int) + 1))), .int .i64 p] = some (.int .i64 (rkZ p (faceS l) ((k : Int) + 1))) := by
        rw [hbm]
        simp only [F_i_rankOf, F2_mk, dLL_list, dI_int, Option.bind_some]
        rw [if_pos ⟨hp, rec_sgn _ _ (szS_len _ _) (szS_len _ _)⟩]
        rfl
      have hnI : (k : Int) + 1 < (F.length : Int) := by omega
      generalize borM n l ((k : Int) + 1) = B at *
      generalize szS (faceS l) k = s0 at *
      generalize hr2 : rkZ p (faceS l) ((k : Int) + 1) = r2 at *
      generalize hr1 : rkZ p (faceS l) k = r1 at *
      generalize O.take k = g at *
      have hw2 : IntKind.i64.wrap ((s0.length : Int) - r1) = s0.length - r1 := wrapI _ (by omega) (by omega)
      have hw3 : IntKind.i64.wrap ((s0.length : Int) - r1 - r2) = s0.length - r1 - r2 := wrapI _ (by omega) (by omega)
      simp -implicitDefEqProofs [sc_s_HolesMod_L0, hltF, hw1, hnI, hF1, hF2, hf, hw2, hw3, gl]
      refine ⟨by omega, ?_⟩
      refine Again.of (k + 1) (by omega) (by omega) (SubI.ren (fun m => if m = 0 then some 0 else if m = 1 then some 5 else if m = 2 then some 2 else none) ?_ ?_ ?_ (by simp) (by simp))
      · simp [subT, renV, ren1, hr2]
      · have htk : g.take k = g := List.take_of_length_le (by omega)
        simp [subH, e, renL, ren1, htk]
        rw [← ints_app]
        rfl
      · intro m hm
        simp only at hm
        rw [if_neg (by omega), if_neg (by omega), if_neg (by omega)]
    · have hr0 : rkZ p (faceS l) ((k : Int) + 1) = 0 := rkZ_high p _ (by omega)
      have hnI : ¬ ((k : Int) + 1 < (F.length : Int)) := by omega
      rw [hr0, Int.sub_zero] at e
      generalize szS (faceS l) k = s0 at *
      generalize hr1 : rkZ p (faceS l) k = r1 at *
      generalize O.take k = g at *
      have hw2 : IntKind.i64.wrap ((s0.length : Int) - r1) = s0.length - r1 := wrapI _ (by omega) (by omega)
      simp -implicitDefEqProofs [sc_s_HolesMod_L0, hltF, hw1, hnI, hf, hw2, gl]
      refine ⟨by omega, ?_⟩
      refine Again.of (k + 1) (by omega) (by omega) (SubI.ren (fun m => if m = 0 then some 0 else if m = 1 then some 4 else if m = 2 then some 2 else none) ?_ ?_ ?_ (by simp) (by simp))
      · simp [subT, renV, ren1, hr0]
      · have htk : g.take k = g := List.take_of_length_le (by omega)
        simp [subH, e, renL, ren1, htk]
        rw [← ints_app]
        rfl
      · intro m hm
        simp only at hm
        rw [if_neg (by omega), if_neg (by omega), if_neg (by omega)]
  · have : k = m := by omega
    subst this
    have htk : O.take k = O := List.take_of_length_le (by omega)
    have hltF : ¬ k < F.length := by omega
    simp -implicitDefEqProofs [sc_s_HolesMod_L0, hltF, hFl, htk]
    try omega
end Go.Proofs.Ytmemomfffehnkaa
